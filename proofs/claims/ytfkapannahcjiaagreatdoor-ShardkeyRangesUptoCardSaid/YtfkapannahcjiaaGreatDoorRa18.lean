/- Parts of the proof, joined: SortRB, SortMB, SortGB, SortTB, RgSort, RgLaw, ValTexts, BlCmp, RgCmp, RgPair, RgEq, Kit6, ShAfter, IvSpans. -/
import Derived.Test.YtfkapannahcjiaaGreatDoorRa1
import Derived.Test.YtfkapannahcjiaaGreatDoorRa16
import Derived.Test.YtfkapannahcjiaaGreatDoorRa17
import Derived.Test.YtfkapannahcjiaaGreatDoorRa15
import Derived.Test.YtfkapannahcjiaaGreatDoorRa10
import Derived.Test.YtfkapannahcjiaaGreatDoorRa2
import Derived.Test.YtfkapannahcjiaaGreatDoorRa6
import Derived.DeepKeys
import Derived.Laws.StructEq
import Derived.Deep.Quiet
import Derived.Laws.IdiomCopy
import Derived.Lib.SliceRun
set_option maxRecDepth 100000
set_option maxHeartbeats 16000000
set_option linter.unusedSimpArgs false
namespace Go.Proofs.YtfkapannahcjiaaGreatDoor
open Go.RowKit
theorem IsB.swap2{g:Nat}{w w2:World}{L:List (B2×Nat)}(h:IsB g w L w2){p q:Nat}(hp:p<L.length)(hq:q<L.length)(x y:B2×Nat):IsB g w ((L.set p y).set q x) ((((w2.setCell ⟨g,p*2,none⟩ (.string y.1.1)).setCell ⟨g,p*2+1,none⟩ (.string y.1.2)).setCell ⟨g,q*2,none⟩ (.string x.1.1)).setCell ⟨g,q*2+1,none⟩ (.string x.1.2)).drew:=
 ⟨SRowB.drew ((h.row.put hp y).put (j:=q) (by rw[List.length_set];exact hq) x),But.step ((((h.but.set (p:=⟨g,p*2,none⟩) rfl (.string y.1.1)).set (p:=⟨g,p*2+1,none⟩) rfl (.string y.1.2)).set (p:=⟨g,q*2,none⟩) rfl (.string x.1.1)).set (p:=⟨g,q*2+1,none⟩) rfl (.string x.1.2)) ((Below.refl _ _).drew)⟩
def RowDoneB(g:Nat)(w:World)(L:List (B2×Nat))(e:Ending)(w':World):Prop:=e=.returned (.tuple #[])∧IsB g w L w'
theorem swapRangeB_any(A U M V D:List (B2×Nat))(g n c a b k:Nat)(aI bI kI:Int)(fv:Value)(w:World)(hr:SRowB w g (A++U++M++V++D))(hn:n=(A++U++M++V++D).length)(ha:a=A.length)(hb:b=A.length+U.length+M.length)(hk:k=U.length)(hkv:k=V.length)(haI:aI=a)(hbI:bI=b)(hkI:kI=k)(hz:n*32≤reach):
 Calls Tryz.prog 209 #[.slice (some ⟨g,0,none⟩) n c,.int .i64 aI,.int .i64 bI,.int .i64 kI,fv] w (RowDoneB g w (A++V++M++U++D)):=by
 subst haI hbI hkI
 unfold reach at hz
 have hbn:b+k≤n:=by rw[hn];simp;omega
 have hab:a+k≤b:=by omega
 have HA:=qD ha
 have HBq:=qD hb
 have HK:=qD hk
 have HKV:=qD hkv
 have HN:=qD hn
 have I0:Hid (IsB g w (A++U++M++V++D) w):=qD ⟨hr,But.refl⟩
 clear hr hn ha hb hk hkv
 go_enter Tryz.func209,Tryz.ntmps209
 go_wp2_with fail
 go_loopw [10] (fun v10 wr=>∃(i:Nat) (U1 U2 V1 V2:List (B2×Nat)),v10=.int .i64 i∧i≤k∧i=U1.length∧i=V1.length∧U=U1++U2∧V=V1++V2∧IsB g w (A++(V1++U2)++M++(U1++V2)++D) wr) (fun v10 _=>k-(intOf v10).toNat)
 case atStart=>exact⟨0,[],U,[],V,rfl,Nat.zero_le _,rfl,rfl,rfl,rfl,I0.out⟩
 case round=>
  obtain⟨i,U1,U2,V1,V2,rfl,hik,hU1,hV1,hU,hV,I⟩:=hrel
  have HU1:=qD hU1
  have HV1:=qD hV1
  have HU:=qD hU
  have HV:=qD hV
  have J:=qD I
  by_cases hlt:i<k
  ·obtain⟨x,U3,hx⟩:∃x U3,U2=x::U3:=by
    cases U2 with
    | nil=>have h1:=HK.out;rw[hU] at h1;simp at h1;omega
    | cons x U3=>exact⟨x,U3,rfl⟩
   obtain⟨y,V3,hy⟩:∃y V3,V2=y::V3:=by
    cases V2 with
    | nil=>have h1:=HKV.out;rw[hV] at h1;simp at h1;omega
    | cons y V3=>exact⟨y,V3,rfl⟩
   subst hx hy
   have hp:a+i=A.length+V1.length:=by rw[HA.out,←hV1]
   have hq:b+i=A.length+(V1.length+(U3.length+1))+M.length+U1.length:=by
    have h1:=HBq.out
    rw[hU] at h1
    simp at h1
    omega
   have HX:Hid ((A++(V1++x::U3)++M++(U1++y::V3)++D)[a+i]?=some x):=by rw[Hid,hp];exact swap2_x A V1 U3 M U1 V3 D x y
   have HY:Hid ((A++(V1++x::U3)++M++(U1++y::V3)++D)[b+i]?=some y):=by rw[Hid,hq];exact swap2_y A V1 U3 M U1 V3 D x y
   have HSw:Hid (((A++(V1++x::U3)++M++(U1++y::V3)++D).set (a+i) y).set (b+i) x=A++((V1++[y])++U3)++M++((U1++[x])++V3)++D):=by
    rw[Hid,hp,hq]
    exact swap2_list A V1 U3 M U1 V3 D x y
   have p0:wr.cell? ⟨g,(a+i)*2,none⟩=some (.string x.1.1):=J.out.row.cell HX.out 0 _ rfl
   have p1:wr.cell? ⟨g,(a+i)*2+1,none⟩=some (.string x.1.2):=J.out.row.cell HX.out 1 _ rfl
   have r0:wr.cell? ⟨g,(b+i)*2,none⟩=some (.string y.1.1):=J.out.row.cell HY.out 0 _ rfl
   have r1:wr.cell? ⟨g,(b+i)*2+1,none⟩=some (.string y.1.2):=J.out.row.cell HY.out 1 _ rfl
   have z:=SRowB.frozen J.out.row
   clear hU1 hV1 hU hV I hp hq
   go_upto_region 3 with fail
   go_region
   all_goals
    clear p0 r0 p1 r1 z
    go_wp2_with fail
    refine⟨⟨i+1,U1++[x],U3,V1++[y],V3,by go_num,by omega,by rw[HU1.out];simp,by rw[HV1.out];simp,by rw[HU.out];simp,by rw[HV.out];simp,?_⟩,by simp[intOf];omega⟩
    have r1:=J.out.swap2 (List.getElem?_eq_some_iff.1 HX.out).1 (List.getElem?_eq_some_iff.1 HY.out).1 x y
    rw[HSw.out] at r1
    exact r1
  ·have e1:U2=[]:=List.eq_nil_of_length_eq_zero (by have h1:=HK.out;rw[hU] at h1;simp at h1;omega)
   have e2:V2=[]:=List.eq_nil_of_length_eq_zero (by have h1:=HKV.out;rw[hV] at h1;simp at h1;omega)
   have HF:Hid (IsB g w (A++V++M++U++D) wr):=by
    rw[Hid,hU,hV,e1,e2]
    simp only[List.append_nil]
    rw[e1,e2] at I
    simp only[List.append_nil] at I
    exact I
   clear hU1 hV1 hU hV I e1 e2
   go_wp2_with fail
   go_end0
   exact⟨rfl,HF.out⟩
theorem IsB.then{g:Nat}{w w1 w2:World}{L L':List (B2×Nat)}(h:IsB g w L w1)(h':IsB g w1 L' w2):IsB g w L' w2:=⟨h'.row,h.but.trans h'.but⟩
theorem rotateB_any(A P Q D:List (B2×Nat))(g n c a m b:Nat)(aI mI bI:Int)(fv:Value)(w:World)(hr:SRowB w g (A++P++Q++D))(hn:n=(A++P++Q++D).length)(ha:a=A.length)(hm:m=A.length+P.length)(hb:b=A.length+P.length+Q.length)(hP:1≤P.length)(hQ:1≤Q.length)(haI:aI=a)(hmI:mI=m)(hbI:bI=b)(hz:n*32≤reach):
 Calls Tryz.prog 181 #[.slice (some ⟨g,0,none⟩) n c,.int .i64 aI,.int .i64 mI,.int .i64 bI,fv] w (RowDoneB g w (A++Q++P++D)):=by
 subst haI hmI hbI
 have HZ:=qD hz
 unfold reach at hz
 have ham:a≤m:=by omega
 have hmb:m≤b:=by omega
 have hbn:b≤n:=by rw[hn];simp;omega
 have HN:=qD hn
 have I0:Hid (IsB g w (A++P++Q++D) w):=qD ⟨hr,But.refl⟩
 have HP:Hid (m-a=P.length):=by unfold Hid;omega
 have HQ:Hid (b-m=Q.length):=by unfold Hid;omega
 have HM:Hid (A.length+P.length=m):=hm.symm
 have hi1:1≤m-a:=by omega
 have hj1:1≤b-m:=by omega
 clear hr hn ha hm hb hP hQ
 go_enter Tryz.func181,Tryz.ntmps181
 go_wp2_with fail
 go_loopw [10,11] (fun v10 v11 wr=>∃(i j:Nat) (A' U V D':List (B2×Nat)),v10=.int .i64 i∧v11=.int .i64 j∧i=U.length∧j=V.length∧1≤i∧1≤j∧A'.length+i=m∧n=(A'++U++V++D').length∧A'++V++U++D'=A++Q++P++D∧IsB g w (A'++U++V++D') wr) (fun v10 v11 _=>(intOf v10).toNat+(intOf v11).toNat)
 case atStart=>exact⟨m-a,b-m,A,P,Q,D,by go_num,by go_num,HP.out,HQ.out,hi1,hj1,by rw[HP.out];exact HM.out,HN.out,rfl,I0.out⟩
 case round=>
  obtain⟨i,j,A',U,V,D',rfl,rfl,hU,hV,hi,hj,hm',hn',ht,I⟩:=hrel
  have HU:=qD hU
  have HV:=qD hV
  have HM':=qD hm'
  have HN':=qD hn'
  have HTg:=qD ht
  have J:=qD I
  have him:i≤m:=by omega
  have hjn:m+j≤n:=by rw[hn'];simp;omega
  clear hU hV hn' ht I hm'
  cases hne:((i:Int) != (j:Int))
  ·have hij:i=j:=by simp at hne;omega
   have HR:Hid (SRowB wr g (A'++U++[]++V++D')):=by rw[Hid,List.append_nil];exact J.out.row
   have HN2:Hid (n=(A'++U++[]++V++D').length):=by rw[Hid,List.append_nil];exact HN'.out
   have HIJ:=qD hij
   clear hij
   go_wp2_with fail
   refine(swapRangeB_any A' U [] V D' g n c A'.length m i _ _ _ _ _ HR.out HN2.out rfl (by have:=HU.out;have:=HM'.out;simp;omega) HU.out (by rw[HIJ.out];exact HV.out) (by have:=HM'.out;omega) (by omega) rfl HZ.out).mono ?_
   rintro e w1 ⟨rfl,h1⟩
   have H1:=qD (J.out.then h1)
   clear h1
   go_wp2_with fail
   go_end0
   refine⟨rfl,?_⟩
   have:=H1.out
   rw[List.append_nil,HTg.out] at this
   exact this
  ·have hij:i≠j:=by simp at hne;omega
   by_cases hgt:j<i
   ·obtain⟨U1,U2,hUU,hU1⟩:∃U1 U2,U=U1++U2∧U1.length=j:=⟨U.take j,U.drop j,(List.take_append_drop j U).symm,by rw[List.length_take];have:=HU.out;omega⟩
    have hU2:U2.length=i-j:=by have h1:=HU.out;rw[hUU] at h1;simp at h1;omega
    have HR:Hid (SRowB wr g (A'++U1++U2++V++D')):=by have:=J.out.row;rw[hUU] at this;rw[Hid];simpa using this
    have HN2:Hid (n=(A'++U1++U2++V++D').length):=by have:=HN'.out;rw[hUU] at this;rw[Hid,this];simp
    have HUU:=qD hUU
    have HU1:=qD hU1
    have HU2:=qD hU2
    clear hUU hU1 hU2 hij
    go_wp2_with fail
    refine(swapRangeB_any A' U1 U2 V D' g n c A'.length m j _ _ _ _ _ HR.out HN2.out rfl (by have:=HU1.out;have:=HU2.out;have:=HM'.out;omega) HU1.out.symm HV.out (by have:=HM'.out;omega) rfl rfl HZ.out).mono ?_
    rintro e w1 ⟨rfl,h1⟩
    have H1:=qD (J.out.then h1)
    clear h1
    go_wp2_with fail
    go_roundw
    case rel=>
     refine⟨i-j,j,A'++V,U2,U1,D',by go_num,rfl,HU2.out.symm,HU1.out.symm,by omega,hj,by rw[List.length_append,←HV.out];have:=HM'.out;omega,?_,?_,?_⟩
     ·have:=HN2.out;simp at this;simp;omega
     ·rw[←HTg.out,HUU.out];simp
     ·exact H1.out
    case measure=>simp[intOf];omega
   ·obtain⟨V1,V2,hVV,hV1⟩:∃V1 V2,V=V1++V2∧V1.length=j-i:=⟨V.take (j-i),V.drop (j-i),(List.take_append_drop (j-i) V).symm,by rw[List.length_take];have:=HV.out;omega⟩
    have hV2:V2.length=i:=by have h1:=HV.out;rw[hVV] at h1;simp at h1;omega
    have HR:Hid (SRowB wr g (A'++U++V1++V2++D')):=by have:=J.out.row;rw[hVV] at this;rw[Hid];simpa using this
    have HN2:Hid (n=(A'++U++V1++V2++D').length):=by have:=HN'.out;rw[hVV] at this;rw[Hid,this];simp
    have HVV:=qD hVV
    have HV1:=qD hV1
    have HV2:=qD hV2
    have hlt:i<j:=by omega
    clear hVV hV1 hV2 hij
    go_wp2_with fail
    refine(swapRangeB_any A' U V1 V2 D' g n c A'.length (m+j-i) i _ _ _ _ _ HR.out HN2.out rfl (by have:=HU.out;have:=HV1.out;have:=HM'.out;omega) HU.out HV2.out.symm (by have:=HM'.out;omega) (by omega) rfl HZ.out).mono ?_
    rintro e w1 ⟨rfl,h1⟩
    have H1:=qD (J.out.then h1)
    clear h1
    go_wp2_with fail
    go_roundw
    case rel=>
     refine⟨i,j-i,A',V2,V1,U++D',rfl,by go_num,HV2.out.symm,HV1.out.symm,hi,by omega,HM'.out,?_,?_,?_⟩
     ·have:=HN2.out;simp at this;simp;omega
     ·rw[←HTg.out,HVV.out];simp
     ·have:=H1.out;simpa using this
    case measure=>simp[intOf];omega
section
variable {α:Type} {cm:α→α→Int}
end
def MergedB(g:Nat)(w:World)(A X Y D:List (B2×Nat))(e:Ending)(w':World):Prop:=e=.returned (.tuple #[])∧∃S,Sorted cmB2 (X++Y) S∧IsB g w (A++S++D) w'
structure HalvesB(A X Y D:List (B2×Nat))(g n:Nat)(w:World):Prop where
 row:SRowB w g (A++X++Y++D)
 ln:n=(A++X++Y++D).length
 sz:n*32≤reach
 hX:X.Pairwise (RT cmB2)
 hY:Y.Pairwise (RT cmB2)
 hT:∀x∈X,∀y∈Y,x.2<y.2
 cmp:CmpOkB g w (X++Y)
theorem sym1B(H:Ordered cmB2)(A:List (B2×Nat))(x:B2×Nat)(Y D:List (B2×Nat))(g n c a m b:Nat)(aI mI bI:Int)(w:World)(h:HalvesB A [x] Y D g n w)(ha:a=A.length)(hm:m=a+1)(hb:b=m+Y.length)(haI:aI=a)(hmI:mI=m)(hbI:bI=b):
 Calls Tryz.prog 151 #[.slice (some ⟨g,0,none⟩) n c,.int .i64 aI,.int .i64 mI,.int .i64 bI,.func (.func 69) #[] #[]] w (MergedB g w A [x] Y D):=by
 subst haI hmI hbI
 have hz:=h.sz
 unfold reach at hz
 have hbn:b≤n:=by have:=h.ln;simp at this;omega
 have ham:((m:Int)-(a:Int)==1)=true:=by simp;omega
 have HA:=qD ha
 have HM:=qD hm
 have hm1:a<m:=by omega
 have hmb:m≤b:=by omega
 have HBq:=qD hb
 have HH:=qD h
 have HO:=qD H
 have I0:Hid (IsB g w (A++[x]++Y++D) w):=qD ⟨h.row,But.refl⟩
 clear h ha hm hb H
 go_enter Tryz.func151,Tryz.ntmps151
 go_wp2_with fail
 go_loopw [10,11] (fun v10 v11 wr=>∃(i j:Nat),v10=.int .i64 i∧v11=.int .i64 j∧m≤i∧i≤j∧j≤b∧(∀(k:Nat) y,Y[k]?=some y→m+k<i→cmB2 y.1 x.1<0)∧(∀(k:Nat) y,Y[k]?=some y→j≤m+k→¬cmB2 y.1 x.1<0)∧IsB g w (A++[x]++Y++D) wr) (fun v10 v11 _=>(intOf v11).toNat-(intOf v10).toNat)
 case atStart=>exact⟨m,b,rfl,rfl,qL,hmb,qL,fun k y _ hk=>by omega,fun k y hy hk=>by have:=(List.getElem?_eq_some_iff.1 hy).1;have:=HBq.out;omega,I0.out⟩
 case round=>
  obtain⟨i,j,rfl,rfl,hmi,hij,hjb,hlo,hhi,I⟩:=hrel
  have HLo:=qD hlo
  have HHi:=qD hhi
  have J:=qD I
  clear hlo hhi
  by_cases hlt:i<j
  ·go_upto_region 5 with fail
   obtain⟨h,hh⟩:∃h:Nat,((i:Int)+(j:Int))/2=(h:Int):=⟨(i+j)/2,by omega⟩
   rw[hh]
   have h1:i≤h:=by omega
   have h2:h<j:=by omega
   clear hh
   obtain⟨y,hyY⟩:∃y,Y[h-m]?=some y:=⟨_,List.getElem?_eq_getElem (by have:=HBq.out;omega)⟩
   have hy:(A++[x]++Y++D)[h]?=some y:=by
    have hA:=HA.out
    have hM:=HM.out
    rw[List.append_assoc,List.getElem?_append_right (by simp;omega),List.getElem?_append_left (by have:=(List.getElem?_eq_some_iff.1 hyY).1;simp;omega)]
    rw[show h-(A++[x]).length=h-m by simp;omega]
    exact hyY
   have hx:(A++[x]++Y++D)[a]?=some x:=by
    rw[HA.out]
    simp
   have p0:wr.cell? ⟨g,h*2,none⟩=some (.string y.1.1):=I.row.cell hy 0 _ rfl
   have p1:wr.cell? ⟨g,h*2+1,none⟩=some (.string y.1.2):=I.row.cell hy 1 _ rfl
   have r0:wr.cell? ⟨g,a*2,none⟩=some (.string x.1.1):=I.row.cell hx 0 _ rfl
   have r1:wr.cell? ⟨g,a*2+1,none⟩=some (.string x.1.2):=I.row.cell hx 1 _ rfl
   have P0:∀k:BW wr,k.val.cell? ⟨g,h*2,none⟩=some (.string y.1.1):=fun k=>k.cell p0
   have P1:∀k:BW wr,k.val.cell? ⟨g,h*2+1,none⟩=some (.string y.1.2):=fun k=>k.cell p1
   have R0:∀k:BW wr,k.val.cell? ⟨g,a*2,none⟩=some (.string x.1.1):=fun k=>k.cell r0
   have R1:∀k:BW wr,k.val.cell? ⟨g,a*2+1,none⟩=some (.string x.1.2):=fun k=>k.cell r1
   have i0:(0:Int)≤(h:Int):=by omega
   have i1:(h:Int)<(n:Int):=by omega
   have i2:(0:Int)≤(a:Int):=by omega
   have i3:(a:Int)<(n:Int):=by omega
   have K1:Hid (∀k:BW wr,Calls Tryz.prog 69 #[aggB y,aggB x] k.val fun e w''=>e=.returned (.int .i64 (cmB2 y.1 x.1))∧∃k:BW wr,w''=k.val):=fun k=>
    Calls.bw (HH.out.cmp y x (by simp[List.mem_of_getElem? hyY]) (by simp) k.val (I.but.step k.below))
   have HY:=qD hyY
   clear p0 p1 r0 r1 hx hy hyY I
   refine wp_region_bw (by kernel_rfl) (by kernel_rfl) ?_
   repeat(go_big_quiet_step (with_reducible exact K1.out _))
   refine wpQuiet_nil ?_
   rintro _ ⟨kw,rfl⟩
   have J2:=qD (J.out.step kw.below)
   clear P0 P1 R0 R1 K1 i0 i1 i2 i3
   generalize kw.val=w2 at*
   by_cases hc:cmB2 y.1 x.1<0
   ·have HLo2:Hid (∀(k:Nat) z,Y[k]?=some z→m+k<h+1→cmB2 z.1 x.1<0):=fun k z hz hk=>by
     by_cases e:k=h-m
     ·subst e
      rw[HY.out] at hz
      cases hz
      exact hc
     ·exact cm_le_lt HO.out (RT.le (pw_at HH.out.hY (by omega) hz HY.out)) hc
    go_wp2_with fail
    go_roundw
    case rel=>exact⟨h+1,j,by go_num,rfl,by omega,by omega,hjb,HLo2.out,HHi.out,J2.out⟩
    case measure=>simp[intOf];omega
   ·have HHi2:Hid (∀(k:Nat) z,Y[k]?=some z→h≤m+k→¬cmB2 z.1 x.1<0):=fun k z hz hk=>by
     by_cases e:k=h-m
     ·subst e
      rw[HY.out] at hz
      cases hz
      exact hc
     ·have q1:=RT.le (pw_at HH.out.hY (by omega) HY.out hz)
      have q2:cmB2 x.1 y.1=-(cmB2 y.1 x.1):=HO.out.anti y.1 x.1
      have q3:cmB2 x.1 z.1≤0:=cm_le_le HO.out (y:=y.1) (show cmB2 x.1 y.1≤0 by omega) q1
      have q4:cmB2 z.1 x.1=-(cmB2 x.1 z.1):=HO.out.anti x.1 z.1
      omega
    go_wp2_with fail
    go_roundw
    case rel=>exact⟨i,h,rfl,rfl,hmi,h1,by omega,HLo.out,HHi2.out,J2.out⟩
    case measure=>simp[intOf];omega
  ·obtain rfl:i=j:=by omega
   obtain⟨Y1,Y2,hYY,hY1⟩:∃Y1 Y2,Y=Y1++Y2∧Y1.length=i-m:=⟨Y.take (i-m),Y.drop (i-m),(List.take_append_drop _ Y).symm,by rw[List.length_take];have:=HBq.out;omega⟩
   have HS:Hid (Sorted cmB2 ([x]++Y) (Y1++x::Y2)):=by
    have hp:=HH.out.hY
    have ht:=HH.out.hT x (by simp)
    rw[hYY] at hp ht
    rw[Hid,hYY]
    refine merge_one HO.out hp ht (fun y hy=>?_) (fun y hy=>?_)
    ·obtain⟨k,hk⟩:=List.getElem?_of_mem hy
     have hkl:=(List.getElem?_eq_some_iff.1 hk).1
     exact HLo.out k y (by rw[hYY,List.getElem?_append_left hkl];exact hk) (by omega)
    ·obtain⟨k,hk⟩:=List.getElem?_of_mem hy
     exact HHi.out (Y1.length+k) y (by rw[hYY,List.getElem?_append_right (by omega)];simpa using hk) (by omega)
   have HYY:=qD hYY
   have HY1:=qD hY1
   clear hYY hY1 I HLo HHi
   go_wp2_with fail
   go_loopw [13] (fun v13 wr=>∃(k:Nat) (P1 P2:List (B2×Nat)),v13=.int .i64 k∧k=a+P1.length∧Y1=P1++P2∧IsB g w (A++(P1++x::P2)++(Y2++D)) wr) (fun v13 _=>n-(intOf v13).toNat)
   case atStart=>
    refine⟨a,[],Y1,rfl,rfl,rfl,?_⟩
    have:=J.out
    rw[HYY.out] at this
    simpa using this
   case round=>
    obtain⟨k,P1,P2,rfl,hk,hPP,I⟩:=hrel
    have HPP:=qD hPP
    have HK:=qD hk
    have J2:=qD I
    have hkl:P1.length≤i-m:=by rw[←HY1.out,hPP];simp
    by_cases hlt2:k<i-1
    ·obtain⟨y,P3,hP3⟩:∃y P3,P2=y::P3:=by
      cases P2 with
      | nil=>have h1:=HY1.out;rw[hPP] at h1;simp at h1;have:=HM.out;omega
      | cons y P3=>exact⟨y,P3,rfl⟩
     subst hP3
     have hkA:k=A.length+P1.length:=by rw[hk,HA.out]
     have HX:Hid ((A++(P1++x::y::P3)++(Y2++D))[k]?=some x):=by rw[Hid,hkA];simp
     have HYk:Hid ((A++(P1++x::y::P3)++(Y2++D))[k+1]?=some y):=by
      rw[Hid,hkA,show A++(P1++x::y::P3)++(Y2++D)=(A++P1++[x])++y::(P3++(Y2++D)) by simp,List.getElem?_append_right (by simp;omega),show A.length+P1.length+1-(A++P1++[x]).length=0 by simp;omega]
      rfl
     have HSw:Hid (((A++(P1++x::y::P3)++(Y2++D)).set k y).set (k+1) x=A++((P1++[y])++x::P3)++(Y2++D)):=by
      rw[Hid,hkA]
      exact swap3_list A P1 P3 (Y2++D) x y
     have hkn:k+1<n:=by omega
     have p0:wr.cell? ⟨g,k*2,none⟩=some (.string x.1.1):=J2.out.row.cell HX.out 0 _ rfl
     have p1:wr.cell? ⟨g,k*2+1,none⟩=some (.string x.1.2):=J2.out.row.cell HX.out 1 _ rfl
     have r0:wr.cell? ⟨g,(k+1)*2,none⟩=some (.string y.1.1):=J2.out.row.cell HYk.out 0 _ rfl
     have r1:wr.cell? ⟨g,(k+1)*2+1,none⟩=some (.string y.1.2):=J2.out.row.cell HYk.out 1 _ rfl
     have z:=SRowB.frozen J2.out.row
     clear hk hPP I hkA hkl
     go_upto_region 11 with fail
     go_region
     all_goals
      clear p0 p1 r0 r1 z
      go_wp2_with fail
      refine⟨⟨k+1,P1++[y],P3,by go_num,by rw[HK.out];simp;omega,by rw[HPP.out];simp,?_⟩,by simp[intOf];omega⟩
      have r1:=J2.out.swap2 (List.getElem?_eq_some_iff.1 HX.out).1 (List.getElem?_eq_some_iff.1 HYk.out).1 x y
      rw[HSw.out] at r1
      exact r1
    ·have HE:Hid (IsB g w (A++(Y1++x::Y2)++D) wr):=by
      have e:P2=[]:=List.eq_nil_of_length_eq_zero (by have h1:=HY1.out;rw[hPP] at h1;simp at h1;have:=HM.out;omega)
      rw[e,List.append_nil] at hPP
      rw[e] at I
      rw[Hid,hPP]
      simpa using I
     clear hk hPP I hkl
     go_wp2_with fail
     go_end0
     exact⟨rfl,_,HS.out,HE.out⟩
theorem sym2B(H:Ordered cmB2)(A X:List (B2×Nat))(y:B2×Nat)(D:List (B2×Nat))(g n c a m b:Nat)(aI mI bI:Int)(w:World)(h:HalvesB A X [y] D g n w)(ha:a=A.length)(hm:m=a+X.length)(hb:b=m+1)(hX2:2≤X.length)(haI:aI=a)(hmI:mI=m)(hbI:bI=b):
 Calls Tryz.prog 151 #[.slice (some ⟨g,0,none⟩) n c,.int .i64 aI,.int .i64 mI,.int .i64 bI,.func (.func 69) #[] #[]] w (MergedB g w A X [y] D):=by
 subst haI hmI hbI
 have hz:=h.sz
 unfold reach at hz
 have hbn:b≤n:=by have:=h.ln;simp at this;omega
 have ham:((m:Int)-(a:Int)==1)=false:=by simp;omega
 have hbm:((b:Int)-(m:Int)==1)=true:=by simp;omega
 have HA:=qD ha
 have HM:=qD hm
 have hm1:a≤m:=by omega
 have hmb:m<b:=by omega
 have HH:=qD h
 have HO:=qD H
 have I0:Hid (IsB g w (A++X++[y]++D) w):=qD ⟨h.row,But.refl⟩
 clear h ha hm hb H
 go_enter Tryz.func151,Tryz.ntmps151
 go_wp2_with fail
 go_loopw [14,15] (fun v14 v15 wr=>∃(i j:Nat),v14=.int .i64 i∧v15=.int .i64 j∧a≤i∧i≤j∧j≤m∧(∀(k:Nat) x,X[k]?=some x→a+k<i→¬cmB2 y.1 x.1<0)∧(∀(k:Nat) x,X[k]?=some x→j≤a+k→cmB2 y.1 x.1<0)∧IsB g w (A++X++[y]++D) wr) (fun v14 v15 _=>(intOf v15).toNat-(intOf v14).toNat)
 case atStart=>exact⟨a,m,rfl,rfl,qL,hm1,qL,fun k y _ hk=>by omega,fun k y hy hk=>by have:=(List.getElem?_eq_some_iff.1 hy).1;have:=HM.out;omega,I0.out⟩
 case round=>
  obtain⟨i,j,rfl,rfl,hmi,hij,hjb,hlo,hhi,I⟩:=hrel
  have HLo:=qD hlo
  have HHi:=qD hhi
  have J:=qD I
  clear hlo hhi
  by_cases hlt:i<j
  ·go_upto_region 17 with fail
   obtain⟨h,hh⟩:∃h:Nat,((i:Int)+(j:Int))/2=(h:Int):=⟨(i+j)/2,by omega⟩
   rw[hh]
   have h1:i≤h:=by omega
   have h2:h<j:=by omega
   clear hh
   obtain⟨x,hxX⟩:∃x,X[h-a]?=some x:=⟨_,List.getElem?_eq_getElem (by have:=HM.out;omega)⟩
   have hx:(A++X++[y]++D)[h]?=some x:=by
    have hA:=HA.out
    rw[List.append_assoc,List.append_assoc,List.getElem?_append_right (by omega),List.getElem?_append_left (by have:=(List.getElem?_eq_some_iff.1 hxX).1;omega),←hA]
    exact hxX
   have hy:(A++X++[y]++D)[m]?=some y:=by
    have hA:=HA.out
    have hM:=HM.out
    rw[List.append_assoc,List.getElem?_append_right (by simp;omega),show m-(A++X).length=0 by simp;omega]
    rfl
   have p0:wr.cell? ⟨g,h*2,none⟩=some (.string x.1.1):=I.row.cell hx 0 _ rfl
   have p1:wr.cell? ⟨g,h*2+1,none⟩=some (.string x.1.2):=I.row.cell hx 1 _ rfl
   have r0:wr.cell? ⟨g,m*2,none⟩=some (.string y.1.1):=I.row.cell hy 0 _ rfl
   have r1:wr.cell? ⟨g,m*2+1,none⟩=some (.string y.1.2):=I.row.cell hy 1 _ rfl
   have P0:∀k:BW wr,k.val.cell? ⟨g,h*2,none⟩=some (.string x.1.1):=fun k=>k.cell p0
   have P1:∀k:BW wr,k.val.cell? ⟨g,h*2+1,none⟩=some (.string x.1.2):=fun k=>k.cell p1
   have R0:∀k:BW wr,k.val.cell? ⟨g,m*2,none⟩=some (.string y.1.1):=fun k=>k.cell r0
   have R1:∀k:BW wr,k.val.cell? ⟨g,m*2+1,none⟩=some (.string y.1.2):=fun k=>k.cell r1
   have i0:(0:Int)≤(h:Int):=by omega
   have i1:(h:Int)<(n:Int):=by omega
   have i2:(0:Int)≤(m:Int):=by omega
   have i3:(m:Int)<(n:Int):=by omega
   have K1:Hid (∀k:BW wr,Calls Tryz.prog 69 #[aggB y,aggB x] k.val fun e w''=>e=.returned (.int .i64 (cmB2 y.1 x.1))∧∃k:BW wr,w''=k.val):=fun k=>
    Calls.bw (HH.out.cmp y x (by simp) (by simp[List.mem_of_getElem? hxX]) k.val (I.but.step k.below))
   have HY:=qD hxX
   clear p0 p1 r0 r1 hx hy hxX I
   refine wp_region_bw (by kernel_rfl) (by kernel_rfl) ?_
   repeat(go_big_quiet_step (with_reducible exact K1.out _))
   refine wpQuiet_nil ?_
   rintro _ ⟨kw,rfl⟩
   have J2:=qD (J.out.step kw.below)
   clear P0 P1 R0 R1 K1 i0 i1 i2 i3
   generalize kw.val=w2 at*
   by_cases hc:cmB2 y.1 x.1<0
   ·have HHi2:Hid (∀(k:Nat) z,X[k]?=some z→h≤a+k→cmB2 y.1 z.1<0):=fun k z hz hk=>by
     by_cases e:k=h-a
     ·subst e
      rw[HY.out] at hz
      cases hz
      exact hc
     ·exact cm_lt_le HO.out (y:=x.1) hc (RT.le (pw_at HH.out.hX (by omega) HY.out hz))
    have d4:(!decide (cmB2 y.1 x.1<0))=false:=by rw[decide_eq_true hc];rfl
    go_wp2_with fail
    all_goals first|(rename_i e;rw[d4] at e;contradiction)|skip
    go_roundw
    case rel=>exact⟨i,h,rfl,rfl,hmi,h1,by omega,HLo.out,HHi2.out,J2.out⟩
    case measure=>simp[intOf];omega
   ·have HLo2:Hid (∀(k:Nat) z,X[k]?=some z→a+k<h+1→¬cmB2 y.1 z.1<0):=fun k z hz hk=>by
     by_cases e:k=h-a
     ·subst e
      rw[HY.out] at hz
      cases hz
      exact hc
     ·have q1:=RT.le (pw_at HH.out.hX (by omega) hz HY.out)
      have q2:cmB2 x.1 y.1=-(cmB2 y.1 x.1):=HO.out.anti y.1 x.1
      have q3:cmB2 z.1 y.1≤0:=cm_le_le HO.out (y:=x.1) q1 (show cmB2 x.1 y.1≤0 by omega)
      have q4:cmB2 y.1 z.1=-(cmB2 z.1 y.1):=HO.out.anti z.1 y.1
      omega
    have d4:(!decide (cmB2 y.1 x.1<0))=true:=by rw[decide_eq_false hc];rfl
    go_wp2_with fail
    all_goals first|(rename_i e;rw[d4] at e;contradiction)|skip
    go_roundw
    case rel=>exact⟨h+1,j,by go_num,rfl,by omega,by omega,hjb,HLo2.out,HHi.out,J2.out⟩
    case measure=>simp[intOf];omega
  ·obtain rfl:i=j:=by omega
   obtain⟨X1,X2,hXX,hX1⟩:∃X1 X2,X=X1++X2∧X1.length=i-a:=⟨X.take (i-a),X.drop (i-a),(List.take_append_drop _ X).symm,by rw[List.length_take];have:=HM.out;omega⟩
   have HS:Hid (Sorted cmB2 (X++[y]) (X1++y::X2)):=by
    have hp:=HH.out.hX
    have ht:∀x∈X,x.2<y.2:=fun x hx=>HH.out.hT x hx y (by simp)
    rw[hXX] at hp ht
    rw[Hid,hXX]
    refine merge_last HO.out hp ht (fun x hx=>?_) (fun x hx=>?_)
    ·obtain⟨k,hk⟩:=List.getElem?_of_mem hx
     have hkl:=(List.getElem?_eq_some_iff.1 hk).1
     exact HLo.out k x (by rw[hXX,List.getElem?_append_left hkl];exact hk) (by omega)
    ·obtain⟨k,hk⟩:=List.getElem?_of_mem hx
     exact HHi.out (X1.length+k) x (by rw[hXX,List.getElem?_append_right (by omega)];simpa using hk) (by omega)
   have HXX:=qD hXX
   have HX1:=qD hX1
   have hX2l:X2.length=m-i:=by have h1:=HM.out;rw[hXX] at h1;simp at h1;omega
   have HX2:=qD hX2l
   clear hXX hX1 I HLo HHi hX2l
   go_wp2_with fail
   go_loopw [17] (fun v17 wr=>∃(k:Nat) (P1 P2:List (B2×Nat)),v17=.int .i64 k∧k=i+P1.length∧X2=P1++P2∧IsB g w ((A++X1)++(P1++y::P2)++D) wr) (fun v17 _=>(intOf v17).toNat)
   case atStart=>
    refine⟨m,X2,[],rfl,by have:=HX2.out;omega,by simp,?_⟩
    have:=J.out
    rw[HXX.out] at this
    simpa using this
   case round=>
    obtain⟨k,P1,P2,rfl,hk,hPP,I⟩:=hrel
    have HPP:=qD hPP
    have HK:=qD hk
    have J2:=qD I
    have hkm:k≤m:=by have h1:=HX2.out;rw[hPP] at h1;simp at h1;omega
    by_cases hlt2:i<k
    ·obtain⟨P0,z,hP0⟩:∃P0 z,P1=P0++[z]:=by
      rcases List.eq_nil_or_concat P1 with h|⟨P0,z,h⟩
      ·rw[h] at hk;simp at hk;omega
      ·exact⟨P0,z,by rw[h,List.concat_eq_append]⟩
     have hkA:k=(A++X1).length+(P0.length+1):=by rw[hk,hP0];have:=HX1.out;have:=HA.out;simp;omega
     have HYk:Hid (((A++X1)++(P1++y::P2)++D)[k]?=some y):=by
      rw[Hid,hP0,hkA,show(A++X1)++((P0++[z])++y::P2)++D=(A++X1++P0++[z])++y::(P2++D) by simp,List.getElem?_append_right (by simp;omega),show(A++X1).length+(P0.length+1)-(A++X1++P0++[z]).length=0 by simp;omega]
      rfl
     have HZk:Hid (((A++X1)++(P1++y::P2)++D)[k-1]?=some z):=by
      rw[Hid,hP0,hkA,show(A++X1)++((P0++[z])++y::P2)++D=(A++X1++P0)++z::(y::(P2++D)) by simp,List.getElem?_append_right (by simp;omega),show(A++X1).length+(P0.length+1)-1-(A++X1++P0).length=0 by simp;omega]
      rfl
     have HSw:Hid ((((A++X1)++(P1++y::P2)++D).set k z).set (k-1) y=(A++X1)++(P0++y::z::P2)++D):=by
      rw[Hid,hP0,hkA]
      exact swap_list (A++X1) P0 P2 D y z
     have HP0:=qD hP0
     have hk1:1≤k:=by omega
     have p0:wr.cell? ⟨g,k*2,none⟩=some (.string y.1.1):=J2.out.row.cell HYk.out 0 _ rfl
     have p1:wr.cell? ⟨g,k*2+1,none⟩=some (.string y.1.2):=J2.out.row.cell HYk.out 1 _ rfl
     have r0:wr.cell? ⟨g,(k-1)*2,none⟩=some (.string z.1.1):=J2.out.row.cell HZk.out 0 _ rfl
     have r1:wr.cell? ⟨g,(k-1)*2+1,none⟩=some (.string z.1.2):=J2.out.row.cell HZk.out 1 _ rfl
     have zf:=SRowB.frozen J2.out.row
     clear hk hPP I hkA hP0
     go_upto_region 23 with fail
     go_region
     all_goals
      clear p0 p1 r0 r1 zf
      go_wp2_with fail
      refine⟨⟨k-1,P0,z::P2,by rw[show((k-1:Nat):Int)=(k:Int)-1 by omega],by have h1:=HK.out;rw[HP0.out] at h1;simp at h1;omega,by rw[HPP.out,HP0.out];simp,?_⟩,by simp[intOf];omega⟩
      have r1:=J2.out.swap (List.getElem?_eq_some_iff.1 HYk.out).1 y z
      rw[HSw.out] at r1
      exact r1
    ·have HE:Hid (IsB g w (A++(X1++y::X2)++D) wr):=by
      have e:P1=[]:=List.eq_nil_of_length_eq_zero (by omega)
      rw[e,List.nil_append] at hPP
      rw[e] at I
      rw[Hid,hPP]
      simpa using I
     clear hk hPP I
     go_wp2_with fail
     go_end0
     exact⟨rfl,_,HS.out,HE.out⟩
section
variable {α:Type} {cm:α→α→Int}
end
theorem CmpOkB.less{g:Nat}{w w1:World}{U U':List (B2×Nat)}(h:CmpOkB g w U)(hb:But g w w1)(hs:∀x∈U',x∈U):CmpOkB g w1 U':=fun x y hx hy wr hr=>h x y (hs x hx) (hs y hy) wr (hb.trans hr)
theorem halfBL{A X1 X2 Y1 Y2 D:List (B2×Nat)}{g n:Nat}{w w1:World}(h:HalvesB A (X1++X2) (Y1++Y2) D g n w)(I:IsB g w (A++X1++Y1++X2++Y2++D) w1):HalvesB A X1 Y1 (X2++Y2++D) g n w1:=
 ⟨by have:=I.row;simpa using this,by rw[h.ln];simp;omega,h.sz,(List.pairwise_append.1 h.hX).1,(List.pairwise_append.1 h.hY).1,fun x hx y hy=>h.hT x (by simp[hx]) y (by simp[hy]),h.cmp.less I.but (fun x hx=>by rcases List.mem_append.1 hx with hx|hx<;>simp[hx])⟩
theorem halfBR{A X1 X2 Y1 Y2 D S1:List (B2×Nat)}{g n:Nat}{w w1:World}(h:HalvesB A (X1++X2) (Y1++Y2) D g n w)(hl:S1.length=X1.length+Y1.length)(I:IsB g w (A++S1++(X2++Y2++D)) w1):HalvesB (A++S1) X2 Y2 D g n w1:=
 ⟨by have:=I.row;simpa using this,by rw[h.ln];simp;omega,h.sz,(List.pairwise_append.1 h.hX).2.1,(List.pairwise_append.1 h.hY).2.1,fun x hx y hy=>h.hT x (by simp[hx]) y (by simp[hy]),h.cmp.less I.but (fun x hx=>by rcases List.mem_append.1 hx with hx|hx<;>simp[hx])⟩
def SymOkB(N:Nat):Prop:=∀(A X Y D:List (B2×Nat)) (g n c a m b:Nat) (aI mI bI:Int) (w:World),HalvesB A X Y D g n w→a=A.length→m=a+X.length→b=m+Y.length→1≤X.length→1≤Y.length→X.length+Y.length<N→aI=a→mI=m→bI=b→
 Calls Tryz.prog 151 #[.slice (some ⟨g,0,none⟩) n c,.int .i64 aI,.int .i64 mI,.int .i64 bI,.func (.func 69) #[] #[]] w (MergedB g w A X Y D)
def LoB(L:List (B2×Nat))(s0 nn t:Nat):Prop:=t=s0∨∃x y,L[t-1]?=some x∧L[nn-t]?=some y∧¬cmB2 y.1 x.1<0
def HiB(L:List (B2×Nat))(r0 nn t:Nat):Prop:=t=r0∨∃x y,L[t]?=some x∧L[nn-1-t]?=some y∧cmB2 y.1 x.1<0
theorem sym3B(H:Ordered cmB2)(A X Y D:List (B2×Nat))(g n c a m b:Nat)(aI mI bI:Int)(w:World)(h:HalvesB A X Y D g n w)(ha:a=A.length)(hm:m=a+X.length)(hb:b=m+Y.length)(hX2:2≤X.length)(hY2:2≤Y.length)(ih:SymOkB (X.length+Y.length))(haI:aI=a)(hmI:mI=m)(hbI:bI=b):
 Calls Tryz.prog 151 #[.slice (some ⟨g,0,none⟩) n c,.int .i64 aI,.int .i64 mI,.int .i64 bI,.func (.func 69) #[] #[]] w (MergedB g w A X Y D):=by
 subst haI hmI hbI
 have hz:=h.sz
 unfold reach at hz
 have hbn:b≤n:=by have:=h.ln;simp at this;omega
 have ham:((m:Int)-(a:Int)==1)=false:=by simp;omega
 have hbm:((b:Int)-(m:Int)==1)=false:=by simp;omega
 have HA:=qD ha
 have HM:=qD hm
 have HB:=qD hb
 have hm1:a+2≤m:=by omega
 have hmb:m+2≤b:=by omega
 have HH:=qD h
 have HO:=qD H
 have HI:=qD ih
 have I0:Hid (IsB g w (A++X++Y++D) w):=qD ⟨h.row,But.refl⟩
 clear h ha hm hb H ih hX2 hY2
 go_enter Tryz.func151,Tryz.ntmps151
 go_upto_region 25 with fail
 obtain⟨mid,hh⟩:∃mid:Nat,((a:Int)+(b:Int))/2=(mid:Int):=⟨(a+b)/2,by omega⟩
 rw[hh]
 have HMid:Hid (mid=(a+b)/2):=by unfold Hid;omega
 have hmid1:a<mid:=by omega
 have hmid2:mid<b:=by omega
 have hmid3:2*mid≤a+b:=by omega
 have hmid4:a+b≤2*mid+1:=by omega
 clear hh
 obtain⟨s0,r0,hc⟩:∃s0 r0:Nat,(mid<m∧s0=mid+m-b∧r0=mid)∨(m≤mid∧s0=a∧r0=m):=by
  by_cases e:mid<m
  ·exact⟨_,_,.inl ⟨e,rfl,rfl⟩⟩
  ·exact⟨_,_,.inr ⟨by omega,rfl,rfl⟩⟩
 have HC:=qD hc
 have hs1:a≤s0:=by omega
 have hs2:s0≤r0:=by omega
 have hr1:r0≤m:=by omega
 have hr2:r0≤mid:=by omega
 have hs3:mid+m≤b+s0:=by omega
 clear hc
 go_upto_region 26 with fail
 obtain⟨p,hp⟩:∃p:Nat,mid+m=p+1:=⟨mid+m-1,by omega⟩
 have HP:=qD hp
 have hp1:p+1≤b+s0:=by omega
 have hp2:m+r0≤p+1:=by omega
 rw[show(mid:Int)+(m:Int)=(p:Int)+1 by omega]
 clear hp
 go_upto_if 140 with fail
 go_cut [20,21] (fun s20 s21 wx=>s20=.int .i64 s0∧s21=.int .i64 r0∧w=wx)
 case first=>as_aux_lemma=>
  rcases HC.out with⟨q1,q2,q3⟩|⟨q1,q2,q3⟩
  all_goals
   have Q2:=qD q2
   have Q3:=qD q3
   clear q2 q3
   go_wp2_with fail
   go_meet
   exact⟨congrArg (Value.int .i64) (by have:=Q2.out;have:=HP.out;omega),congrArg (Value.int .i64) (by have:=Q3.out;omega),rfl⟩
 case rest=>
  obtain⟨rfl,rfl,rfl⟩:=hcut
  go_wp2_with fail
  go_loopw [20,21] (fun v20 v21 wr=>∃(i j:Nat),v20=.int .i64 i∧v21=.int .i64 j∧s0≤i∧i≤j∧j≤r0∧LoB (A++X++Y++D) s0 (p+1) i∧HiB (A++X++Y++D) r0 (p+1) j∧IsB g w (A++X++Y++D) wr) (fun v20 v21 _=>(intOf v21).toNat-(intOf v20).toNat)
  case atStart=>exact⟨s0,r0,rfl,rfl,qL,hs2,qL,.inl rfl,.inl rfl,I0.out⟩
  case round=>
   obtain⟨i,j,rfl,rfl,hmi,hij,hjb,hlo,hhi,I⟩:=hrel
   have HLo:=qD hlo
   have HHi:=qD hhi
   have J:=qD I
   clear hlo hhi
   by_cases hlt:i<j
   ·as_aux_lemma=>
    go_upto_region 35 with fail
    obtain⟨h,hh⟩:∃h:Nat,((i:Int)+(j:Int))/2=(h:Int):=⟨(i+j)/2,by omega⟩
    rw[hh]
    have h1:i≤h:=by omega
    have h2:h<j:=by omega
    clear hh
    obtain⟨x,hx,hxX⟩:∃x,(A++X++Y++D)[h]?=some x∧x∈X:=by
     have hA:=HA.out
     have hM:=HM.out
     rw[atX (by omega) (by omega)]
     exact⟨_,List.getElem?_eq_getElem (by omega),List.getElem_mem _⟩
    obtain⟨y,hy,hyY⟩:∃y,(A++X++Y++D)[p-h]?=some y∧y∈Y:=by
     have hA:=HA.out
     have hM:=HM.out
     have hB:=HB.out
     rw[atY (by omega) (by omega)]
     exact⟨_,List.getElem?_eq_getElem (by omega),List.getElem_mem _⟩
    have p0:wr.cell? ⟨g,h*2,none⟩=some (.string x.1.1):=I.row.cell hx 0 _ rfl
    have p1:wr.cell? ⟨g,h*2+1,none⟩=some (.string x.1.2):=I.row.cell hx 1 _ rfl
    have r0:wr.cell? ⟨g,(p-h)*2,none⟩=some (.string y.1.1):=I.row.cell hy 0 _ rfl
    have r1:wr.cell? ⟨g,(p-h)*2+1,none⟩=some (.string y.1.2):=I.row.cell hy 1 _ rfl
    have P0:∀k:BW wr,k.val.cell? ⟨g,h*2,none⟩=some (.string x.1.1):=fun k=>k.cell p0
    have P1:∀k:BW wr,k.val.cell? ⟨g,h*2+1,none⟩=some (.string x.1.2):=fun k=>k.cell p1
    have R0:∀k:BW wr,k.val.cell? ⟨g,(p-h)*2,none⟩=some (.string y.1.1):=fun k=>k.cell r0
    have R1:∀k:BW wr,k.val.cell? ⟨g,(p-h)*2+1,none⟩=some (.string y.1.2):=fun k=>k.cell r1
    have i0:(0:Int)≤(h:Int):=by omega
    have i1:(h:Int)<(n:Int):=by omega
    have i2:(0:Int)≤(p:Int)-(h:Int):=by omega
    have i3:(p:Int)-(h:Int)<(n:Int):=by omega
    have K1:Hid (∀k:BW wr,Calls Tryz.prog 69 #[aggB y,aggB x] k.val fun e w''=>e=.returned (.int .i64 (cmB2 y.1 x.1))∧∃k:BW wr,w''=k.val):=fun k=>
     Calls.bw (HH.out.cmp y x (by simp[hyY]) (by simp[hxX]) k.val (I.but.step k.below))
    have HX:=qD hx
    have HY:=qD hy
    clear p0 p1 r0 r1 hx hy hxX hyY I
    refine wp_region_bw (by as_aux_lemma=>kernel_rfl) (by as_aux_lemma=>kernel_rfl) ?_
    repeat(go_big_quiet_step (with_reducible exact K1.out _))
    refine wpQuiet_nil ?_
    rintro _ ⟨kw,rfl⟩
    have J2:=qD (J.out.step kw.below)
    clear P0 P1 R0 R1 K1 i0 i1 i2 i3
    generalize kw.val=w2 at*
    by_cases hc:cmB2 y.1 x.1<0
    ·have HHi2:Hid (HiB (A++X++Y++D) r0 (p+1) h):=.inr ⟨x,y,HX.out,HY.out,hc⟩
     have d4:(!decide (cmB2 y.1 x.1<0))=false:=by rw[decide_eq_true hc];rfl
     go_wp2_with fail
     all_goals first|(rename_i e;rw[d4] at e;contradiction)|skip
     go_roundw
     case rel=>exact⟨i,h,rfl,rfl,hmi,h1,by omega,HLo.out,HHi2.out,J2.out⟩
     case measure=>simp[intOf];omega
    ·have HLo2:Hid (LoB (A++X++Y++D) s0 (p+1) (h+1)):=.inr ⟨x,y,HX.out,by rw[Nat.add_sub_add_right];exact HY.out,hc⟩
     have d4:(!decide (cmB2 y.1 x.1<0))=true:=by rw[decide_eq_false hc];rfl
     go_wp2_with fail
     all_goals first|(rename_i e;rw[d4] at e;contradiction)|skip
     go_roundw
     case rel=>exact⟨h+1,j,by go_num,rfl,by omega,by omega,hjb,HLo2.out,HHi.out,J2.out⟩
     case measure=>simp[intOf];omega
   ·obtain rfl:i=j:=by omega
    obtain⟨X1,X2,Y1,Y2,hXX,hYY,l1,l2,l3,l4,h12,h21⟩:=sym_parts (D:=D) HO.out HA.out HM.out HB.out HH.out.hX HH.out.hY HH.out.hT hmi hjb HMid.out HC.out (by rw[HP.out];exact HLo.out) (by rw[HP.out];exact HHi.out)
    have HS:Hid (∀S1 S2,Sorted cmB2 (X1++Y1) S1→Sorted cmB2 (X2++Y2) S2→Sorted cmB2 (X++Y) (S1++S2)):=fun S1 S2 q1 q2=>by
     have hp:=HH.out.hX
     have hq:=HH.out.hY
     rw[hXX] at hp ⊢
     rw[hYY] at hq ⊢
     exact split_sorted hp hq h12 h21 q1 q2
    have HH2:Hid (HalvesB A (X1++X2) (Y1++Y2) D g n w):=by have:=HH.out;rw[hXX,hYY] at this;exact this
    have HJ:Hid (IsB g w (A++X1++X2++Y1++Y2++D) wr):=by have:=J.out;rw[hXX,hYY] at this;rw[Hid];simpa using this
    have HL1:=qD l1
    have HL2:=qD l2
    have HL3:=qD l3
    have HL4:=qD l4
    have hsum:mid-a<X.length+Y.length:=by have:=HM.out;have:=HB.out;omega
    have hsum2:b-mid<X.length+Y.length:=by have:=HM.out;have:=HB.out;omega
    clear hXX hYY l1 l2 l3 l4 h12 h21 I J HLo HHi
    go_upto_region 39 with fail
    obtain⟨en,hen⟩:∃en:Nat,(p:Int)+1-(i:Int)=(en:Int):=⟨p+1-i,by omega⟩
    have HEn:Hid (en+i=mid+m):=by unfold Hid;have:=HP.out;omega
    have hen1:en≤b:=by omega
    rw[hen]
    clear hen
    go_cut [185] (fun s wx=>s=.bool (decide (i<m∧m<en))∧wr=wx)
    case first=>as_aux_lemma=>
     by_cases e1:i<m<;>by_cases e2:m<en
     all_goals
      go_wp2_with fail
      go_meet
      exact⟨congrArg Value.bool (by simp[e1,e2]),rfl⟩
    case rest=>
     obtain⟨rfl,rfl⟩:=hcut
     go_upto_if 185 with fail
     go_cut [] (fun wx=>IsB g w (A++X1++Y1++X2++Y2++D) wx)
     case first=>as_aux_lemma=>
      by_cases e:i<m∧m<en
      ·have d:decide (i<m∧m<en)=true:=decide_eq_true e
       rw[d]
       clear d
       go_wp2_with fail
       refine(rotateB_any (A++X1) X2 Y1 (Y2++D) g n c i m en _ _ _ _ _ (by have:=HJ.out.row;simpa using this) (by rw[HH2.out.ln];simp) (by have:=HA.out;have:=HL1.out;simp;omega) (by have:=HA.out;have:=HL1.out;have:=HL2.out;simp;omega) (by have:=HA.out;have:=HL1.out;have:=HL2.out;have:=HL3.out;have:=HEn.out;simp;omega) (by have:=HL2.out;omega) (by have:=HL3.out;have:=HEn.out;omega) rfl rfl rfl HH2.out.sz).mono ?_
       rintro e w1 ⟨rfl,h1⟩
       have H1:=qD (HJ.out.then h1)
       clear h1
       go_wp2_with fail
       go_meet
       have:=H1.out
       simpa using this
      ·have d:decide (i<m∧m<en)=false:=decide_eq_false e
       rw[d]
       clear d
       go_wp2_with fail
       go_meet
       have h1:=HJ.out
       have q:X2=[]∨Y1=[]:=by
        by_cases e1:i<m
        ·exact .inr (List.eq_nil_of_length_eq_zero (by have:=HL3.out;have:=HEn.out;omega))
        ·exact .inl (List.eq_nil_of_length_eq_zero (by have:=HL2.out;omega))
       rcases q with q|q
       ·rw[q] at h1 ⊢;simpa using h1
       ·rw[q] at h1 ⊢;simpa using h1
     case rest=>
      have HJ2:=qD hcut
      clear hcut
      go_upto_region 41 with fail
      go_cut [199] (fun s wx=>s=.bool (decide (a<i∧i<mid))∧wc=wx)
      case first=>as_aux_lemma=>
       by_cases e1:a<i<;>by_cases e2:i<mid
       all_goals
        go_wp2_with fail
        go_meet
        exact⟨congrArg Value.bool (by simp[e1,e2]),rfl⟩
      case rest=>
       obtain⟨rfl,rfl⟩:=hcut
       go_upto_if 199 with fail
       go_cut [] (fun wx=>∃S1,Sorted cmB2 (X1++Y1) S1∧IsB g w (A++S1++(X2++Y2++D)) wx)
       case first=>as_aux_lemma=>
        by_cases e:a<i∧i<mid
        ·have d:decide (a<i∧i<mid)=true:=decide_eq_true e
         rw[d]
         clear d
         go_wp2_with fail
         refine(HI.out A X1 Y1 (X2++Y2++D) g n c a i mid _ _ _ _ (halfBL HH2.out HJ2.out) HA.out (by have:=HL1.out;omega) (by have:=HL3.out;omega) (by have:=HL1.out;omega) (by have:=HL3.out;omega) (by have:=HL1.out;have:=HL3.out;omega) rfl rfl rfl).mono ?_
         rintro e w1 ⟨rfl,S1,h1,h2⟩
         have H1:=qD h1
         have H2:=qD (HJ2.out.then h2)
         clear h1 h2
         go_wp2_with fail
         go_meet
         exact⟨S1,H1.out,H2.out⟩
        ·have d:decide (a<i∧i<mid)=false:=decide_eq_false e
         rw[d]
         clear d
         go_wp2_with fail
         go_meet
         have hh:=halfBL HH2.out HJ2.out
         refine⟨X1++Y1,sorted_self ?_,by have:=HJ2.out;simpa using this⟩
         have q:X1=[]∨Y1=[]:=by
          by_cases e1:a<i
          ·exact .inr (List.eq_nil_of_length_eq_zero (by have:=HL3.out;omega))
          ·exact .inl (List.eq_nil_of_length_eq_zero (by have:=HL1.out;omega))
         rcases q with q|q
         ·rw[q];simpa using hh.hY
         ·rw[q];simpa using hh.hX
       case rest=>
        obtain⟨S1,hS1,I⟩:=hcut
        have HS1:=qD hS1
        have HJ3:=qD I
        have HLS:Hid (S1.length=X1.length+Y1.length):=by rw[Hid,hS1.1.length_eq];simp
        clear hS1 I
        go_upto_region 43 with fail
        go_cut [213] (fun s wx=>s=.bool (decide (mid<en∧en<b))∧wc=wx)
        case first=>as_aux_lemma=>
         by_cases e1:mid<en<;>by_cases e2:en<b
         all_goals
          go_wp2_with fail
          go_meet
          exact⟨congrArg Value.bool (by simp[e1,e2]),rfl⟩
        case rest=>
         obtain⟨rfl,rfl⟩:=hcut
         by_cases e:mid<en∧en<b
         ·as_aux_lemma=>
          have d:decide (mid<en∧en<b)=true:=decide_eq_true e
          rw[d]
          clear d
          go_wp2_with fail
          refine(HI.out (A++S1) X2 Y2 D g n c mid en b _ _ _ _ (halfBR HH2.out HLS.out HJ3.out) (by have:=HA.out;have:=HLS.out;have:=HL1.out;have:=HL3.out;simp;omega) (by have:=HL2.out;have:=HEn.out;omega) (by have:=HL4.out;have:=HEn.out;omega) (by have:=HL2.out;have:=HEn.out;omega) (by have:=HL4.out;have:=HEn.out;omega) (by have:=HL2.out;have:=HL4.out;have:=HEn.out;omega) rfl rfl rfl).mono ?_
          rintro e w1 ⟨rfl,S2,h1,h2⟩
          have H1:=qD h1
          have H2:=qD (HJ3.out.then h2)
          clear h1 h2
          go_wp2_with fail
          go_end0
          exact⟨rfl,S1++S2,HS.out S1 S2 HS1.out H1.out,by have:=H2.out;simpa using this⟩
         ·as_aux_lemma=>
          have d:decide (mid<en∧en<b)=false:=decide_eq_false e
          rw[d]
          clear d
          go_wp2_with fail
          go_end0
          have hh:=halfBR HH2.out HLS.out HJ3.out
          refine⟨rfl,S1++(X2++Y2),HS.out S1 _ HS1.out (sorted_self ?_),by have:=HJ3.out;simpa using this⟩
          have q:X2=[]∨Y2=[]:=by
           by_cases e1:mid<en
           ·exact .inr (List.eq_nil_of_length_eq_zero (by have:=HL4.out;have:=HEn.out;omega))
           ·exact .inl (List.eq_nil_of_length_eq_zero (by have:=HL2.out;have:=HEn.out;omega))
          rcases q with q|q
          ·rw[q];simpa using hh.hY
          ·rw[q];simpa using hh.hX
theorem symB_any(H:Ordered cmB2)(N:Nat):SymOkB N:=by
 induction N with
 | zero=>exact fun A X Y D g n c a m b aI mI bI w h ha hm hb h1 h2 h3=>absurd h3 (by omega)
 | succ N ih=>
  intro A X Y D g n c a m b aI mI bI w h ha hm hb h1 h2 h3 haI hmI hbI
  by_cases e1:X.length=1
  ·obtain⟨x,rfl⟩:=List.length_eq_one_iff.1 e1
   exact sym1B H A x Y D g n c a m b aI mI bI w h ha (by simpa using hm) hb haI hmI hbI
  ·by_cases e2:Y.length=1
   ·obtain⟨y,rfl⟩:=List.length_eq_one_iff.1 e2
    exact sym2B H A X y D g n c a m b aI mI bI w h ha hm (by simpa using hb) (by omega) haI hmI hbI
   ·exact sym3B H A X Y D g n c a m b aI mI bI w h ha hm hb (by omega) (by omega) (fun A' X' Y' D' g' n' c' a' m' b' aI' mI' bI' w' q1 q2 q3 q4 q5 q6 q7 q8 q9 q10=>ih A' X' Y' D' g' n' c' a' m' b' aI' mI' bI' w' q1 q2 q3 q4 q5 q6 (by omega) q8 q9 q10) haI hmI hbI
structure DoneB(bs:Nat)(L0:List (B2×Nat))(k:Nat)(A0 A R:List (B2×Nat)):Prop where
 e:L0=A0++R
 l0:A0.length=k*bs
 l:A.length=k*bs
 s:∀q,q<k→Sorted cmB2 (blk bs q A0) (blk bs q A)
structure MidB(bs:Nat)(L0:List (B2×Nat))(k:Nat)(A0 A R0 R:List (B2×Nat)):Prop where
 e:L0=A0++R0
 l0:A0.length=k*(2*bs)
 l:A.length=k*(2*bs)
 rl:R.length=R0.length
 s:∀q,q<k→Sorted cmB2 (blk (2*bs) q A0) (blk (2*bs) q A)
 t:∀q,Sorted cmB2 (blk bs q R0) (blk bs q R)
structure PairB(bs:Nat)(R0 R X0 Y0 D0 X Y D:List (B2×Nat)):Prop where
 e0:R0=X0++(Y0++D0)
 e:R=X++(Y++D)
 x0:X0.length=bs
 x:X.length=bs
 y0:Y0.length=bs∨(Y0.length≤bs∧D0=[])
 y:Y.length=bs∨(Y.length≤bs∧D=[])
theorem pairB_of(bs:Nat)(R0 R:List (B2×Nat))(hl:R.length=R0.length)(hb:bs≤R.length):PairB bs R0 R (R0.take bs) ((R0.drop bs).take bs) ((R0.drop bs).drop bs) (R.take bs) ((R.drop bs).take bs) ((R.drop bs).drop bs):=by
 have aux:∀l:List (B2×Nat),(l.take bs).length=bs∨((l.take bs).length≤bs∧l.drop bs=[]):=fun l=>by
  by_cases e:bs≤l.length
  ·exact .inl (by rw[List.length_take];omega)
  ·exact .inr ⟨by rw[List.length_take];omega,List.drop_eq_nil_of_le (by omega)⟩
 exact⟨by rw[List.take_append_drop,List.take_append_drop],by rw[List.take_append_drop,List.take_append_drop],by rw[List.length_take];omega,by rw[List.length_take];omega,aux _,aux _⟩
theorem MidB.sorted{bs k:Nat}{L0 A0 A R0 R X0 Y0 D0 X Y D:List (B2×Nat)}(h:MidB bs L0 k A0 A R0 R)(hp:PairB bs R0 R X0 Y0 D0 X Y D):Sorted cmB2 X0 X∧Sorted cmB2 Y0 Y:=
 runs_tail hp.x0 hp.y0 hp.x hp.y (by have:=h.t;rw[hp.e0,hp.e] at this;exact this)
theorem MidB.halves{bs k:Nat}{L0 A0 A R0 R X0 Y0 D0 X Y D:List (B2×Nat)}(h:MidB bs L0 k A0 A R0 R)(hp:PairB bs R0 R X0 Y0 D0 X Y D){g n:Nat}{w wr:World}(ht:Tagged L0)(hc:CmpOkB g w L0)(I:IsB g w (A++R) wr)(hn:n=L0.length)(hz:n*32≤reach):HalvesB A X Y D g n wr:=by
 obtain⟨s1,s2⟩:=h.sorted hp
 have ht2:Tagged (A0++(X0++(Y0++D0))):=by rw[←hp.e0,←h.e];exact ht
 refine⟨?_,?_,hz,s1.2,s2.2,fun x hx y hy=>?_,hc.less I.but fun x hx=>?_⟩
 ·have:=I.row
  rw[hp.e] at this
  simpa using this
 ·rw[hn,h.e,List.append_assoc,List.append_assoc,←hp.e,List.length_append,List.length_append,h.l0,h.l,h.rl]
 ·have q:=(List.pairwise_append.1 (List.pairwise_append.1 ht2).2.1).2.2
  exact q x (s1.1.mem_iff.1 hx) y (by simp[s2.1.mem_iff.1 hy])
 ·rw[h.e,hp.e0]
  rcases List.mem_append.1 hx with hx|hx
  ·simp[s1.1.mem_iff.1 hx]
  ·simp[s2.1.mem_iff.1 hx]
theorem MidB.next{bs k:Nat}{L0 A0 A R0 R X0 Y0 D0 X Y D S:List (B2×Nat)}(h:MidB bs L0 k A0 A R0 R)(hp:PairB bs R0 R X0 Y0 D0 X Y D)(hS:Sorted cmB2 (X++Y) S)(hy:Y.length=bs)(hy0:Y0.length=bs):MidB bs L0 (k+1) (A0++(X0++Y0)) (A++S) D0 D:=by
 obtain⟨s1,s2⟩:=h.sorted hp
 have hS2:=Sorted.both s1 s2 hS
 have l1:(X0++Y0).length=2*bs:=by rw[List.length_append,hp.x0,hy0];omega
 have l2:(X++Y).length=2*bs:=by rw[List.length_append,hp.x,hy];omega
 refine⟨?_,?_,?_,?_,runs_step h.l0 h.l h.s l1 hS2,fun q=>runs_rest l1 l2 ?_ q⟩
 ·rw[h.e,hp.e0];simp
 ·rw[List.length_append,h.l0,l1];exact(Nat.succ_mul k (2*bs)).symm
 ·rw[List.length_append,h.l,hS.1.length_eq,l2];exact(Nat.succ_mul k (2*bs)).symm
 ·have:=h.rl
  rw[hp.e,hp.e0] at this
  simp[hp.x,hp.x0,hy,hy0] at this
  exact this
 ·have:=h.t
  rw[hp.e0,hp.e] at this
  simpa using this
theorem MidB.last{bs k:Nat}{L0 A0 A R0 R X0 Y0 X Y S:List (B2×Nat)}(h:MidB bs L0 k A0 A R0 R)(hp:PairB bs R0 R X0 Y0 [] X Y [])(hS:Sorted cmB2 (X++Y) S)(q:Nat):Sorted cmB2 (blk (2*bs) q L0) (blk (2*bs) q (A++S)):=by
 obtain⟨s1,s2⟩:=h.sorted hp
 have e:L0=A0++(X0++Y0):=by rw[h.e,hp.e0,List.append_nil]
 rw[e]
 exact runs_last h.l0 h.l h.s (by rw[List.length_append,hp.x0];rcases hp.y0 with q|⟨q,_⟩<;>omega) (Sorted.both s1 s2 hS) q
theorem MidB.lone{bs k:Nat}{L0 A0 A R0 R:List (B2×Nat)}(h:MidB bs L0 k A0 A R0 R)(hl:R.length≤bs)(q:Nat):Sorted cmB2 (blk (2*bs) q L0) (blk (2*bs) q (A++R)):=by
 rw[h.e]
 exact runs_last h.l0 h.l h.s (by rw[←h.rl];omega) (runs_all (by rw[←h.rl];exact hl) hl h.t) q
theorem stableB_any(H:Ordered cmB2)(L0:List (B2×Nat))(g n c:Nat)(w:World)(hr:SRowB w g L0)(hn:n=L0.length)(hz:n*32≤reach)(ht:Tagged L0)(hc:CmpOkB g w L0):
 Calls Tryz.prog 115 #[.slice (some ⟨g,0,none⟩) n c,.int .i64 n,.func (.func 69) #[] #[]] w (IsDoneB g w [] L0 []):=by
 have HZ:=qD hz
 unfold reach at hz
 have HN:=qD hn
 have HT:=qD ht
 have HC:=qD hc
 have HO:=qD H
 have I0:Hid (IsB g w L0 w):=qD ⟨hr,But.refl⟩
 clear hr hn ht hc H
 go_enter Tryz.func115,Tryz.ntmps115
 go_wp2_with fail
 go_loopw [7,8] (fun v7 v8 wr=>∃(k a b:Nat) (A0 A R:List (B2×Nat)),v7=.int .i64 a∧v8=.int .i64 b∧b=a+20∧a=k*20∧a≤n∧DoneB 20 L0 k A0 A R∧IsB g w (A++R) wr) (fun _ v8 _=>n+40-(intOf v8).toNat)
 case atStart=>exact⟨0,0,20,[],[],L0,rfl,rfl,rfl,rfl,Nat.zero_le _,⟨rfl,rfl,rfl,fun q hq=>absurd hq (by omega)⟩,I0.out⟩
 case round=>
  obtain⟨k,a,b,A0,A,R,rfl,rfl,hb,hk,han,hD,I⟩:=hrel
  have HB:=qD hb
  have HK:=qD hk
  have HD:=qD hD
  have J:=qD I
  have hRl:R.length=n-a:=by have h1:=HN.out;rw[hD.e] at h1;simp[hD.l0] at h1;omega
  have HRl:=qD hRl
  clear hk hD I hRl
  by_cases hlt:b≤n
  ·have hb2:b=a+20:=hb
   have hl1:(R.take 20).length=20:=by rw[List.length_take];have:=HRl.out;omega
   have HL1:=qD hl1
   have HR:Hid (R=R.take 20++R.drop 20):=(List.take_append_drop 20 R).symm
   have HM:∀x∈R,x∈L0:=fun x hx=>by rw[HD.out.e];simp[hx]
   have HM':=qD HM
   clear hb hb2 hl1 HM
   go_wp2_with fail
   refine(isortB_any HO.out A (R.take 20) (R.drop 20) g n c a b _ (by rw[List.append_assoc,←HR.out];exact J.out.row) (by rw[List.append_assoc,←HR.out,List.length_append,HD.out.l,HRl.out,←HK.out];omega) (by rw[HD.out.l];exact HK.out) (by rw[HD.out.l,HL1.out,←HK.out];exact HB.out) HZ.out ?_ ?_).mono ?_
   ·have:=HT.out
    rw[HD.out.e,HR.out] at this
    exact(List.pairwise_append.1 (List.pairwise_append.1 this).2.1).1
   ·exact HC.out.less J.out.but (fun x hx=>HM'.out x (List.mem_of_mem_take hx))
   rintro e w1 ⟨rfl,S,hS,h1⟩
   have HS:=qD hS
   have H1:=qD (J.out.then h1)
   clear hS h1
   go_wp2_with fail
   go_roundw
   case rel=>
    refine⟨k+1,b,b+20,A0++R.take 20,A++S,R.drop 20,rfl,by go_num,rfl,by have:=HB.out;have:=HK.out;omega,hlt,⟨by rw[List.append_assoc,←HR.out];exact HD.out.e,?_,?_,?_⟩,H1.out⟩
    ·rw[List.length_append,HD.out.l0,HL1.out];omega
    ·rw[List.length_append,HD.out.l,HS.out.1.length_eq,HL1.out];omega
    ·exact runs_step HD.out.l0 HD.out.l HD.out.s HL1.out HS.out
   case measure=>simp[intOf];omega
  ·have hRl2:R.length≤20:=by have:=HRl.out;omega
   have HM:∀x∈R,x∈L0:=fun x hx=>by rw[HD.out.e];simp[hx]
   have HM':=qD HM
   clear hb HM
   go_wp2_with fail
   refine(isortB_any HO.out A R [] g n c a n _ (by rw[List.append_nil];exact J.out.row) (by rw[List.append_nil,List.length_append,HD.out.l,HRl.out,←HK.out];omega) (by rw[HD.out.l];exact HK.out) (by rw[HD.out.l,HRl.out,←HK.out];omega) HZ.out ?_ ?_).mono ?_
   ·have:=HT.out
    rw[HD.out.e] at this
    exact(List.pairwise_append.1 this).2.1
   ·exact HC.out.less J.out.but HM'.out
   rintro e w1 ⟨rfl,S,hS,h1⟩
   have J1:Hid (IsB g w (A++S) w1):=by have:=J.out.then h1;rw[List.append_nil] at this;exact this
   have HR1:Hid (∀q,Sorted cmB2 (blk 20 q L0) (blk 20 q (A++S))):=by rw[Hid,HD.out.e];exact runs_last HD.out.l0 HD.out.l HD.out.s hRl2 hS
   have HLl:Hid ((A++S).length=L0.length):=by rw[Hid,HD.out.e,List.length_append,List.length_append,HD.out.l,HD.out.l0,hS.1.length_eq]
   clear hS h1
   go_wp2_with fail
   go_loopw [6] (fun v6 wr=>∃(bs:Nat) (L:List (B2×Nat)),v6=.int .i64 bs∧20≤bs∧bs≤2*n+20∧L.length=L0.length∧(∀q,Sorted cmB2 (blk bs q L0) (blk bs q L))∧IsB g w L wr) (fun v6 _=>n-(intOf v6).toNat)
   case atStart=>exact⟨20,A++S,rfl,qL,by omega,HLl.out,HR1.out,J1.out⟩
   case round=>
    clear HB HK HD J HRl HM' J1 HR1 HLl
    obtain⟨bs,L,rfl,hb1,hb2,hl,hR,I⟩:=hrel
    have HL:=qD hl
    have HRu:=qD hR
    have J:=qD I
    clear hl hR I
    by_cases hlt2:bs<n
    ·go_wp2_with fail
     go_loopw [7,8] (fun v7 v8 wr=>∃(k a b:Nat) (A0 A R0 R:List (B2×Nat)),v7=.int .i64 a∧v8=.int .i64 b∧b=a+2*bs∧a≤n∧A.length=a∧MidB bs L0 k A0 A R0 R∧IsB g w (A++R) wr) (fun _ v8 _=>n+1-(intOf v8).toNat)
     case atStart=>exact⟨0,0,2*bs,[],[],L0,L,rfl,by go_num,by omega,Nat.zero_le _,rfl,⟨rfl,by simp,by simp,HL.out,fun q hq=>absurd hq (by omega),HRu.out⟩,J.out⟩
     case round=>
      clear HL HRu J
      obtain⟨k,a,b,A0,A,R0,R,rfl,rfl,hb,han,hA,hM,I⟩:=hrel
      have HB:=qD hb
      have HA:=qD hA
      have HM:=qD hM
      have J:=qD I
      have hRl:R.length=n-a:=by have h1:=HN.out;rw[hM.e] at h1;have h2:=hM.l0;have h3:=hM.l;simp at h1;rw[hM.rl];omega
      have HRl:=qD hRl
      clear hM I hA
      by_cases hlt3:b≤n
      ·obtain⟨X0,Y0,D0,X,Y,D,hp⟩:∃X0 Y0 D0 X Y D,PairB bs R0 R X0 Y0 D0 X Y D:=⟨_,_,_,_,_,_,pairB_of bs R0 R HM.out.rl (by omega)⟩
       have hy:Y.length=bs:=by
        have h1:=HRl.out
        rw[hp.e,List.length_append,List.length_append,hp.x] at h1
        rcases hp.y with q|⟨q,rfl⟩
        ·exact q
        ·simp at h1;omega
       have hy0:Y0.length=bs:=by
        have h1:=HRl.out
        rw[HM.out.rl,hp.e0,List.length_append,List.length_append,hp.x0] at h1
        rcases hp.y0 with q|⟨q,rfl⟩
        ·exact q
        ·simp at h1;omega
       have HPa:=qD hp
       have HY:=qD hy
       have HY0:=qD hy0
       have hbn:a+2*bs≤n:=by omega
       clear hp hy hy0 hb hRl
       go_wp2_with fail
       refine(symB_any HO.out _ A X Y D g n c a (a+bs) b _ _ _ _ (HM.out.halves HPa.out HT.out HC.out J.out HN.out HZ.out) HA.out.symm (by rw[HPa.out.x]) (by rw[HY.out];have:=HB.out;omega) (by rw[HPa.out.x];omega) (by rw[HY.out];omega) (Nat.lt_succ_self _) rfl (by omega) rfl).mono ?_
       rintro e w2 ⟨rfl,S,hS,h1⟩
       have HS:=qD hS
       have H1:=qD (J.out.then h1)
       clear hS h1
       go_wp2_with fail
       go_roundw
       case rel=>
        exact⟨k+1,b,b+2*bs,_,A++S,_,D,rfl,by go_num,rfl,hlt3,by rw[List.length_append,HS.out.1.length_eq,List.length_append,HA.out,HPa.out.x,HY.out];have:=HB.out;omega,HM.out.next HPa.out HS.out HY.out HY0.out,H1.out⟩
       case measure=>simp[intOf];omega
      ·have hab:n<a+2*bs:=by omega
       clear hb hRl
       by_cases hm:a+bs<n
       ·obtain⟨X0,Y0,X,Y,hp⟩:∃X0 Y0 X Y,PairB bs R0 R X0 Y0 [] X Y []:=by
         have q:=pairB_of bs R0 R HM.out.rl (by have:=HRl.out;omega)
         rw[show(R0.drop bs).drop bs=[] from List.eq_nil_of_length_eq_zero (by have:=HRl.out;have:=HM.out.rl;simp;omega),show(R.drop bs).drop bs=[] from List.eq_nil_of_length_eq_zero (by have:=HRl.out;simp;omega)] at q
         exact⟨_,_,_,_,q⟩
        have hy:Y.length=n-a-bs:=by have h1:=HRl.out;rw[hp.e] at h1;have:=hp.x;simp at h1;omega
        have HPa:=qD hp
        have HY:=qD hy
        clear hp hy
        go_wp2_with fail
        refine(symB_any HO.out _ A X Y [] g n c a (a+bs) n _ _ _ _ (HM.out.halves HPa.out HT.out HC.out J.out HN.out HZ.out) HA.out.symm (by rw[HPa.out.x]) (by rw[HY.out];omega) (by rw[HPa.out.x];omega) (by rw[HY.out];omega) (Nat.lt_succ_self _) rfl (by omega) rfl).mono ?_
        rintro e w2 ⟨rfl,S,hS,h1⟩
        have HS:=qD hS
        have H1:Hid (IsB g w (A++S) w2):=by have:=J.out.then h1;rw[List.append_nil] at this;exact this
        clear hS h1
        go_wp2_with fail
        go_roundw
        case rel=>
         exact⟨2*bs,A++S,by go_num,by omega,by omega,by rw[List.length_append,HS.out.1.length_eq,List.length_append,HA.out,HPa.out.x,HY.out,←HN.out];omega,HM.out.last HPa.out HS.out,H1.out⟩
        case measure=>simp[intOf];omega
       ·go_wp2_with fail
        go_roundw
        case rel=>
         exact⟨2*bs,A++R,by go_num,by omega,by omega,by rw[List.length_append,HA.out,HRl.out,←HN.out];omega,HM.out.lone (by have:=HRl.out;omega),J.out⟩
        case measure=>simp[intOf];omega
    ·have HE:Hid (Sorted cmB2 L0 L):=runs_all (by rw[←HN.out];omega) (by rw[HL.out,←HN.out];omega) HRu.out
     go_wp2_with fail
     go_end0
     exact⟨rfl,L,HE.out,by have:=J.out;simpa using this⟩
theorem ordB:Ordered cmB2:=by
 refine⟨fun x y=>lex_anti (cmpB_anti _ _) (cmpB_anti _ _),fun x y z=>TR.lx (cmpB_tr _ _ _) (cmpB_tr _ _ _)⟩
theorem isortB_nil(w:World):Calls Tryz.prog 150 #[.slice none 0 0,.int .i64 0,.int .i64 0,.func (.func 69) #[] #[]] w fun e w'=>e=.returned (.tuple #[])∧w=w':=by
 go_enter Tryz.func150,Tryz.ntmps150
 go_wp2_with fail
 go_loopw [8] (fun v8 wr=>v8=.int .i64 1∧wr=w) (fun _ _=>0)
 case atStart=>exact⟨rfl,rfl⟩
 case round=>
  obtain⟨rfl,rfl⟩:=hrel
  go_wp2_with fail
  go_end0
  exact⟨rfl,rfl⟩
theorem stableB_nil(w:World):Calls Tryz.prog 115 #[.slice none 0 0,.int .i64 0,.func (.func 69) #[] #[]] w fun e w'=>e=.returned (.tuple #[])∧w=w':=by
 go_enter Tryz.func115,Tryz.ntmps115
 go_wp2_with fail
 go_loop [7,8] (fun v7 v8=>v7=.int .i64 0∧v8=.int .i64 20) (fun _ _=>0)
 case atStart=>exact⟨rfl,rfl⟩
 case round=>
  obtain⟨rfl,rfl⟩:=hrel
  go_wp2_with fail
  refine(isortB_nil _).mono ?_
  rintro e w1 ⟨rfl,rfl⟩
  go_wp2_with fail
  go_loop [6] (fun v6=>v6=.int .i64 20) (fun _=>0)
  case atStart=>rfl
  case round=>
   subst hrel
   go_wp2_with fail
   go_end0
   exact⟨rfl,rfl⟩
theorem sortB_nil(w:World):Calls Tryz.prog 68 #[.slice none 0 0,.func (.func 69) #[] #[]] w fun e w'=>e=.returned (.tuple #[])∧w=w':=by
 go_enter Tryz.func68,Tryz.ntmps68
 go_wp2_with fail
 refine(stableB_nil _).mono ?_
 rintro e w1 ⟨rfl,rfl⟩
 go_wp2_with fail
 go_end0
 exact⟨rfl,rfl⟩
theorem sortB_any(L:List (B2×Nat))(g n c:Nat)(w:World)(hr:SRowB w g L)(hn:n=L.length)(hz:n*32≤reach)(ht:Tagged L)(hc:CmpOkB g w L):
 Calls Tryz.prog 68 #[.slice (some ⟨g,0,none⟩) n c,.func (.func 69) #[] #[]] w (IsDoneB g w [] L []):=by
 have HR:=qD hr
 have HN:=qD hn
 have HT:=qD ht
 have HC:=qD hc
 have HZ:=qD hz
 clear hr hn ht hc hz
 go_enter Tryz.func68,Tryz.ntmps68
 go_wp2_with fail
 refine(stableB_any ordB L g n c _ HR.out HN.out HZ.out HT.out HC.out).mono ?_
 rintro e w1 hd
 have HD:=qD hd
 obtain⟨rfl,_⟩:=hd
 go_wp2_with fail
 go_end0
 exact HD.out
def SortedB(xs ys:List B2):Prop:=ys.Perm xs∧ys.Pairwise fun p q=>cmB2 p q≤0
theorem SortedB.of{xs:List B2}{S:List (B2×Nat)}(h:Sorted cmB2 (tagFrom 0 xs) S):SortedB xs (S.map Prod.fst):=by
 refine⟨?_,?_⟩
 ·have:=h.perm.map Prod.fst
  rwa [tagFrom_map] at this
 ·rw[List.pairwise_map]
  refine h.ord.imp fun {a b} hab=>?_
  have hab':cmB2 a.1 b.1<0∨cmB2 a.1 b.1=0∧a.2<b.2:=hab
  omega
theorem AscR.inj{α:Type}{lt:α→α→Prop}(o:SOrd lt):∀{l:List (α×α)},AscR lt l→∀x∈l,∀y∈l,x.1=y.1→x=y
 | [],_,x,hx,_,_,_=>by simp at hx
 | a::r,h,x,hx,y,hy,e=>by
  obtain⟨h1,h2⟩:=List.pairwise_cons.1 h
  rcases List.mem_cons.1 hx with kx|kx
  ·rcases List.mem_cons.1 hy with ky|ky
   ·rw[kx,ky]
   ·subst kx;have:=h1 y ky;rw[e] at this;exact absurd this (o.irr _)
  ·rcases List.mem_cons.1 hy with ky|ky
   ·subst ky;have:=h1 x kx;rw[e] at this;exact absurd this (o.irr _)
   ·exact AscR.inj o h2 x kx y ky e
theorem sorted_up{xs Z:List B2}(h:SortedB xs Z):Z.Pairwise fun p q=>¬ltB q.1 p.1:=h.2.imp fun k=>cmB2_le k
theorem hash_fix{ns:List Int}(_hn:∀n∈ns,In64 n):∀x∈ns.map keyH,∀y∈ns.map keyH,x.1=y.1→x=y:=by
 intro x hx y hy e
 obtain⟨n,_,rfl⟩:=List.mem_map.1 hx
 obtain⟨k,_,rfl⟩:=List.mem_map.1 hy
 exact hash_same e
def RanOk(ha:Bool)(m:List (Cut×Cut))(L:List B2):Prop:=
 (ha=false∧∃Z,SortedB (m.map keyP) Z∧L=jAll ByteArray.empty (once Z))∨
  (ha=true∧L=[(ByteArray.empty,ByteArray.empty)]∧∃s∈m,cmpV s.1.1 s.2.1≠0)∨
  (ha=true∧(∀s∈m,cmpV s.1.1 s.2.1=0)∧∃Z,SortedB ((m.map fun s=>hashV s.1.1).map keyH) Z∧L=jAll ByteArray.empty (once Z))
theorem hash_in64(x:Val):In64 (hashV x):=by
 have:=hashV_range x
 unfold In64
 omega
theorem rints_any(x y:Int)(w:World):Calls Tryz.prog 122 #[.int .i64 x,.int .i64 y] w fun e w'=>e=.returned (.int .i64 (cmpI x y))∧w'=w:=by
 go_enter Tryz.func122,Tryz.ntmps122
 go_wp2
 all_goals (go_ret;refine⟨?_,rfl⟩;unfold cmpI Lib.compareInt;(repeat' split)<;>first|rfl|(exfalso;omega))
theorem bytes_drop(a:ByteArray)(i:Nat)(h:i<a.size):a.data.toList.drop i=a[i]::a.data.toList.drop (i+1):=by
 rw[List.drop_eq_getElem_cons (by simpa using h)]
 rfl
theorem cmpBy_end{l m:List UInt8}{i:Nat}(h1:i≤l.length)(h2:i≤m.length)(h:l.length≤i∨m.length≤i):Lib.compareBytes (l.drop i) (m.drop i)=cmpI (l.length:Int) (m.length:Int):=by
 rw[cmpI_nat]
 by_cases hl:l.length≤i
 ·rw[List.drop_of_length_le hl]
  by_cases hm:m.length≤i
  ·rw[List.drop_of_length_le hm,if_neg (by omega),if_neg (by omega)];rfl
  ·rw[List.drop_eq_getElem_cons (by omega:i<m.length),if_pos (by omega)];rfl
 ·have hm:m.length≤i:=by omega
  rw[List.drop_of_length_le hm,List.drop_eq_getElem_cons (by omega:i<l.length),if_neg (by omega),if_pos (by omega)];rfl
theorem cmpBy_at(a b:UInt8)(l m:List UInt8):Lib.compareBytes (a::l) (b::m)=if(a.toNat:Int)=(b.toNat:Int) then Lib.compareBytes l m else cmpI (a.toNat:Int) (b.toNat:Int):=by
 rw[Lib.compareBytes]
 unfold cmpI Lib.compareInt
 have e1:a<b↔a.toNat<b.toNat:=UInt8.lt_iff_toNat_lt
 have e2:b<a↔b.toNat<a.toNat:=UInt8.lt_iff_toNat_lt
 rcases Nat.lt_trichotomy a.toNat b.toNat with h|h|h
 ·rw[if_pos (e1.2 h),if_neg (by omega),if_pos (by omega)]
 ·rw[if_neg (by rw[e1];omega),if_neg (by rw[e2];omega),if_pos (by omega)]
 ·rw[if_neg (by rw[e1];omega),if_pos (e2.2 h),if_neg (by omega),if_neg (by omega),if_pos (by omega)]
theorem rtexts_any(a b:ByteArray)(w:World)(h1:a.size≤reach):Calls Tryz.prog 78 #[.string a,.string b] w fun e w'=>e=.returned (.int .i64 (cmpB a b))∧Below w.heap.size w w':=by
 unfold reach at h1
 go_enter Tryz.func78,Tryz.ntmps78
 go_wp2_with fail
 go_loopw [5] (fun v5 wr=>∃i:Nat,i≤a.size∧i≤b.size∧v5=.int .i64 i∧cmpB a b=Lib.compareBytes (a.data.toList.drop i) (b.data.toList.drop i)∧Below w.heap.size w wr) (fun v5 _=>a.size-(intOf v5).toNat)
 case atStart=>exact⟨0,Nat.zero_le _,Nat.zero_le _,rfl,rfl,Below.refl _ _⟩
 case round=>
  obtain⟨i,hi1,hi2,rfl,hq,I⟩:=hrel
  have HQ:=qD hq
  have J:=qD I
  clear hq I
  by_cases hlt:i<a.size∧i<b.size
  ·obtain⟨hl1,hl2⟩:=hlt
   have HA:=qD (HQ.out.trans (by rw[bytes_drop a i hl1,bytes_drop b i hl2,cmpBy_at]))
   cases hc:((a[i].toNat:Int) != (b[i].toNat:Int))
   ·go_upto_region 4 with fail
    go_quiet (fail)
    have HC:Hid (cmpB a b=Lib.compareBytes (a.data.toList.drop (i+1)) (b.data.toList.drop (i+1))):=by
     have:(a[i].toNat:Int)=(b[i].toNat:Int):=by simpa using hc
     rw[Hid,HA.out,if_pos this]
    go_wp2_with fail
    go_roundw
    case rel=>exact⟨i+1,by omega,by omega,by go_num,HC.out,J.out.drewN _⟩
    case measure=>simp[intOf];omega
   ·have HC:Hid (cmpB a b=cmpI (a[i].toNat:Int) (b[i].toNat:Int)):=by
     have:¬(a[i].toNat:Int)=(b[i].toNat:Int):=by simpa using hc
     rw[Hid,HA.out,if_neg this]
    have b1:a[i].toNat<256:=a[i].toNat_lt
    have b2:b[i].toNat<256:=b[i].toNat_lt
    go_upto_region 4 with fail
    go_quiet (fail)
    have J2:=qD (J.out.drewN nq)
    generalize wr.drewN nq=w2 at*
    have W1:IntKind.i64.wrap (a[i].toNat:Int)=(a[i].toNat:Int):=wrap_i64 (by omega) (by omega)
    have W2:IntKind.i64.wrap (b[i].toNat:Int)=(b[i].toNat:Int):=wrap_i64 (by omega) (by omega)
    go_upto_region 5 with fail
    go_quiet ((go_at_call 122;exact Calls.quiet_of_same (rints_any _ _ _)))
    go_wp2_with fail
    go_ret
    exact⟨by rw[HC.out];rfl,J2.out.drewN _⟩
  ·have HE:=qD (HQ.out.trans (cmpBy_end (by simp;omega) (by simp;omega) (by simp;omega)))
   by_cases hl1:i<a.size
   all_goals
    first|have hx9:b.size≤i:=by omega|have hx9:a.size≤i:=by omega
    go_wp2_with fail
    refine(rints_any _ _ _).mono ?_
    rintro e w' ⟨rfl,rfl⟩
    go_wp2_with fail
    go_ret
    exact⟨by rw[HE.out];simp,J.out⟩
theorem bl_cons(a b:UInt8)(x y:List UInt8):Op.bytesLess (a::x) (b::y)=true↔a.toNat<b.toNat∨(a=b∧Op.bytesLess x y=true):=by
 simp[Op.bytesLess,UInt8.lt_iff_toNat_lt]
theorem bl_cmp:∀l m:List UInt8,Op.bytesLess l m=true↔Lib.compareBytes l m<0
 | [],[]=>by decide
 | [],b::m=>by simp[Op.bytesLess,Lib.compareBytes]
 | a::l,[]=>by simp[Op.bytesLess,Lib.compareBytes]
 | a::l,b::m=>by
  have ih:=bl_cmp l m
  rw[bl_cons,cmpBy_at]
  by_cases h:(a.toNat:Int)=(b.toNat:Int)
  ·rw[if_pos h,←ih]
   have h2:a=b:=UInt8.toNat_inj.1 (by omega)
   constructor
   ·rintro(h3|h3)
    ·omega
    ·exact h3.2
   ·intro h3;exact .inr ⟨h2,h3⟩
  ·rw[if_neg h]
   simp only[cmpI,Lib.compareInt]
   constructor
   ·rintro(h3|h3)
    ·rw[if_pos (by omega)];omega
    ·exact absurd (congrArg (fun x:UInt8=>(x.toNat:Int)) h3.1) h
   ·intro h3
    by_cases h4:a.toNat<b.toNat
    ·exact .inl h4
    ·exfalso
     rw[if_neg (by omega)] at h3
     split at h3<;>omega
theorem bl_cmpB(a b:ByteArray):Op.bytesLess a.toList b.toList=decide (cmpB a b<0):=by
 have h:=bl_cmp a.data.toList b.data.toList
 rw[Go.ByteArray.toList_eq,Go.ByteArray.toList_eq]
 show _=decide (Lib.compareBytes a.data.toList b.data.toList<0)
 rw[Bool.eq_iff_iff,h,decide_eq_true_iff]
theorem nanS_any(x:ByteArray)(w:World):Calls Tryz.prog 116 #[.string x] w fun e w'=>e=.returned (.bool false)∧w=w':=by
 go_enter Tryz.func116,Tryz.ntmps116
 go_wp2_with fail
 go_ret
 exact⟨by simp,rfl⟩
theorem cmpS_any(x y:ByteArray)(w:World):Calls Tryz.prog 71 #[.string x,.string y] w fun e w'=>e=.returned (.int .i64 (cmpB x y))∧w=w':=by
 have h1:=bl_cmpB x y
 have an:=cmpB_anti x y
 have rg:=cmpB_rng x y
 have hz:(x.toList==y.toList)=decide (cmpB x y=0):=by
  rw[Bool.eq_iff_iff,beq_iff_eq,decide_eq_true_iff,cmpB_zero,Go.ByteArray.toList_eq,Go.ByteArray.toList_eq]
  constructor
  ·intro h;exact ByteArray.ext (Array.toList_inj.1 h)
  ·intro h;rw[h]
 obtain⟨c,hc⟩:∃c,c=cmpB x y:=⟨_,rfl⟩
 rw[←hc] at h1 hz rg ⊢
 have h3:c=-1∨c=0∨c=1:=by omega
 clear hc rg an
 rcases h3 with rfl|rfl|rfl
 all_goals
  first|replace h1:Op.bytesLess x.toList y.toList=true:=h1|replace h1:Op.bytesLess x.toList y.toList=false:=h1
  first|replace hz:(x.toList==y.toList)=true:=hz|replace hz:(x.toList==y.toList)=false:=hz
  go_enter Tryz.func71,Tryz.ntmps71
  go_wp2_with fail
  refine(nanS_any x _).mono ?_
  rintro e w1 ⟨rfl,rfl⟩
  go_wp2_with fail
  refine(nanS_any y _).mono ?_
  rintro e w1 ⟨rfl,rfl⟩
  go_wp2_with fail
  go_ret
  exact⟨rfl,rfl⟩
theorem or2_any(x y:Int)(g:Nat)(t:TypeId)(w:World)(h:Blk w g t #[.int .i64 x,.int .i64 y]):Calls Tryz.prog 70 #[.slice (some ⟨g,0,none⟩) 2 2] w fun e w'=>e=.returned (.int .i64 (lex x y))∧Below w.heap.size w w':=by
 have H:=qD h
 have q0:=h.cell 0
 have q1:=h.cell 1
 simp at q0 q1
 clear h
 go_enter Tryz.func70,Tryz.ntmps70
 go_wp2_with fail
 go_loopw [8] (fun v wr=>(v=.int .i64 0∨v=.int .i64 1∧x=0∨v=.int .i64 2∧x=0∧y=0)∧wr=w) (fun v _=>match v with | .int _ n=>(5-n).toNat|_=>0)
 case atStart=>exact⟨.inl rfl,rfl⟩
 case round=>
  obtain⟨rfl|⟨rfl,rfl⟩|⟨rfl,rfl,rfl⟩,rfl⟩:=hrel
  ·by_cases h0:x=0
   ·subst h0
    go_wp2_with fail
    refine⟨by simp,by decide⟩
   ·have hx:(x != 0)=true:=by simpa using h0
    have HL:Hid (lex x y=x):=qD (by unfold lex;rw[if_pos h0])
    clear h0
    go_wp2_with fail
    go_ret
    exact⟨by rw[HL.out];rfl,Below.refl _ _⟩
  ·have HL:Hid (lex 0 y=y):=qD rfl
   by_cases h0:y=0
   ·subst h0
    go_wp2_with fail
    refine⟨by simp,by decide⟩
   ·have hx:(y != 0)=true:=by simpa using h0
    clear h0
    go_wp2_with fail
    go_ret
    exact⟨by rw[HL.out];rfl,Below.refl _ _⟩
  ·go_wp2_with fail
   go_ret
   exact⟨rfl,Below.refl _ _⟩
theorem pcmp_any(p q:B2)(w:World):Calls Tryz.prog 69 #[.agg #[.string p.1,.string p.2],.agg #[.string q.1,.string q.2]] w fun e w'=>e=.returned (.int .i64 (cmB2 p q))∧Below w.heap.size w w':=by
 have B0:Hid (Blk ((w.alloc (.cells #[.string p.1,.string p.2] 45)).alloc (.cells #[.string q.1,.string q.2] 45)) w.heap.size 45 #[.string p.1,.string p.2]):=(Blk.new_at rfl).alloc _
 have B1:Hid (Blk ((w.alloc (.cells #[.string p.1,.string p.2] 45)).alloc (.cells #[.string q.1,.string q.2] 45)) (w.heap.size+1) 45 #[.string q.1,.string q.2]):=Blk.new_at (by simp)
 have BE:Hid (Below w.heap.size w ((w.alloc (.cells #[.string p.1,.string p.2] 45)).alloc (.cells #[.string q.1,.string q.2] 45))):=((Below.refl _ _).alloc (qL) _).alloc (by simp) _
 have HL:Hid (cmB2 p q=lex (cmpB p.1 q.1) (cmpB p.2 q.2)):=qD rfl
 go_enter Tryz.func69,Tryz.ntmps69
 go_upto_region 1 with fail
 change Code.wp _ _ _ _ ((w.alloc (.cells #[.string p.1,.string p.2] 45)).alloc (.cells #[.string q.1,.string q.2] 45))
 generalize ((w.alloc (.cells #[.string p.1,.string p.2] 45)).alloc (.cells #[.string q.1,.string q.2] 45))=wa at*
 have KS:Hid (∀w',Below wa.heap.size wa w'→w'.cell? ⟨w.heap.size,0,none⟩=some (.string p.1)∧w'.cell? ⟨w.heap.size,1,none⟩=some (.string p.2)∧w'.cell? ⟨w.heap.size+1,0,none⟩=some (.string q.1)∧w'.cell? ⟨w.heap.size+1,1,none⟩=some (.string q.2)):=qD fun w' hb=>
  ⟨((B0.out.step hb).cell 0).trans rfl,((B0.out.step hb).cell 1).trans rfl,((B1.out.step hb).cell 0).trans rfl,((B1.out.step hb).cell 1).trans rfl⟩
 have B:=qD ((Below.refl wa.heap.size wa).drewN 1)
 obtain⟨k1,hk1⟩:∃k,k=cmpB p.1 q.1:=⟨_,rfl⟩
 obtain⟨k2,hk2⟩:∃k,k=cmpB p.2 q.2:=⟨_,rfl⟩
 have C1:Hid (∀wr,Calls Tryz.prog 71 #[.string p.1,.string q.1] wr fun e w'=>e=.returned (.int .i64 k1)∧wr=w'):=qD fun wr=>by rw[hk1];exact cmpS_any _ _ _
 have C2:Hid (∀wr,Calls Tryz.prog 71 #[.string p.2,.string q.2] wr fun e w'=>e=.returned (.int .i64 k2)∧wr=w'):=qD fun wr=>by rw[hk2];exact cmpS_any _ _ _
 rw[←hk1,←hk2] at HL
 clear hk1 hk2
 go_region_held3 (fun w'=>w'.cell? ⟨w.heap.size,0,none⟩=some (.string p.1)∧w'.cell? ⟨w.heap.size,1,none⟩=some (.string p.2)∧w'.cell? ⟨w.heap.size+1,0,none⟩=some (.string q.1)∧w'.cell? ⟨w.heap.size+1,1,none⟩=some (.string q.2))
  (first|exact KS.out _ B.out|exact KS.out _ (B.out.alloc B.out.size _)|((try dsimp only);assumption)|go_keep)
  (first
   | (go_at_call 71;with_reducible refine(C1.out _).mono ?_;rintro e3 w3 ⟨rfl,rfl⟩)
   | (go_at_call 71;with_reducible refine(C2.out _).mono ?_;rintro e3 w3 ⟨rfl,rfl⟩)
   | (go_at_call 70;refine(or2_any k1 k2 wa.heap.size 3 _ (Blk.drew (Blk.new_at rfl))).mono ?_;rintro e3 w3 ⟨rfl,hb⟩;replace B:=qD (((Below.refl _ _).alloc (qL) _).drew.step' hb);clear hb))
 all_goals
  go_wp2_with fail
  go_ret
  exact⟨by rw[HL.out];rfl,BE.out.step' B.out⟩
open Go
theorem eqB_run(p q:B2)(w:World):(Op.equal 45 (.agg #[.string p.1,.string p.2]) (.agg #[.string q.1,.string q.2])).run Tryz.prog w=.ok (decide (p=q)) w:=by
 obtain⟨i,hi⟩:=info_of_underlying (P:=Tryz.prog) Tryz.underlying9
 have h:=run_equalIn_array (P:=Tryz.prog) w 9999 #[.string p.1,.string p.2] #[.string q.1,.string q.2] (t:=45) (e:=9) (n:=2) Tryz.underlying45 hi
 have e:decide (p=q)=((p.1.toList==q.1.toList)&&(p.2.toList==q.2.toList)):=by
  rw[Bool.eq_iff_iff,decide_eq_true_iff,Bool.and_eq_true,beq_iff_eq,beq_iff_eq]
  constructor
  ·rintro rfl;exact⟨rfl,rfl⟩
  ·rintro⟨h1,h2⟩
   refine Prod.ext ?_ ?_
   ·rw[Go.ByteArray.toList_eq,Go.ByteArray.toList_eq] at h1
    exact ByteArray.ext (Array.toList_inj.1 h1)
   ·rw[Go.ByteArray.toList_eq,Go.ByteArray.toList_eq] at h2
    exact ByteArray.ext (Array.toList_inj.1 h2)
 rw[e]
 show(Op.equalIn (9999+1) 45 _ _).run _ _=_
 rw[h]
 have hs:∀(a b:ByteArray),(Op.equalIn 9999 9 (.string a) (.string b)).run Tryz.prog w=.ok (a.toList==b.toList) w:=fun a b=>run_equalIn_string w 9998 _ a b Tryz.underlying9
 have hc:Tryz.prog.cellsOf 9=1:=by kernel_rfl
 have hp:∀(xs:Array Value) (k:Nat) (a:ByteArray),xs[k]?=some (.string a)→(part 9 xs k).run Tryz.prog w=.ok (.string a) w:=by
  intro xs k a hk
  simp[part,run_underlying Tryz.underlying9,isAgg,hk]
 simp[Op.eqItems,List.range,List.range.loop,hc,hp,hs]
 by_cases h1:p.1.toList=q.1.toList<;>by_cases h2:p.2.toList=q.2.toList<;>simp[h1,h2]
theorem guardB:Tryz.prog.eqGuardType Tryz.prog.depth 45=false:=by kernel_rfl
theorem execB_eql{ev:Operand→Value}{o:Oper}{x y:Operand}{t2:TypeId}(p q:B2)(w:World)(ho:o.op=.binOp .eql 45 x y t2)(hx:ev x=.agg #[.string p.1,.string p.2])(hy:ev y=.agg #[.string q.1,.string q.2]):
 (execOp ev o).run Tryz.prog w=.ok (.value (.bool (decide (p=q)))) w:=by
 unfold execOp
 rw[ho]
 have h1:=eqB_run p q w
 have h2:(binOp .eql 45 (.agg #[.string p.1,.string p.2]) (.agg #[.string q.1,.string q.2])).run Tryz.prog w=.ok (.bool (decide (p=q))) w:=by
  show(do pure (Value.bool (←Op.equal _ _ _))).run _ _=_
  rw[Sem.run_bind,h1];rfl
 simp only[hx,hy,Sem.run_bind,run_eqGuard_agg _ _ _ _ _ _ _ guardB,Result.andThen_ok,h2,Sem.run_pure]
theorem execB_neq{ev:Operand→Value}{o:Oper}{x y:Operand}{t2:TypeId}(p q:B2)(w:World)(ho:o.op=.binOp .neq 45 x y t2)(hx:ev x=.agg #[.string p.1,.string p.2])(hy:ev y=.agg #[.string q.1,.string q.2]):
 (execOp ev o).run Tryz.prog w=.ok (.value (.bool (!decide (p=q)))) w:=by
 unfold execOp
 rw[ho]
 have h1:=eqB_run p q w
 have h2:(binOp .neq 45 (.agg #[.string p.1,.string p.2]) (.agg #[.string q.1,.string q.2])).run Tryz.prog w=.ok (.bool (!decide (p=q))) w:=by
  show(do pure (Value.bool (!(←Op.equal _ _ _)))).run _ _=_
  rw[Sem.run_bind,h1];rfl
 simp only[hx,hy,Sem.run_bind,run_eqGuard_agg _ _ _ _ _ _ _ guardB,Result.andThen_ok,h2,Sem.run_pure]
theorem quietB_eql{C:World→Prop}{K:Act→Prop}{a:Act}{o:Oper}{x y:Operand}{t2:TypeId}(p q:B2){z:Bool}(hz:z=decide (p=q))(ho:o.op=.binOp .eql 45 x y t2)(hx:a.eval x=.agg #[.string p.1,.string p.2])(hy:a.eval y=.agg #[.string q.1,.string q.2])(h:K (a.put o.dst (.bool z))):o.quiet Tryz.prog a C K:=by
 refine⟨.bool z,fun w _=>?_,h⟩
 unfold Oper.quietAt
 rw[execB_eql p q w ho hx hy,hz]
 exact⟨rfl,rfl⟩
theorem quietB_neq{C:World→Prop}{K:Act→Prop}{a:Act}{o:Oper}{x y:Operand}{t2:TypeId}(p q:B2){z:Bool}(hz:z=!decide (p=q))(ho:o.op=.binOp .neq 45 x y t2)(hx:a.eval x=.agg #[.string p.1,.string p.2])(hy:a.eval y=.agg #[.string q.1,.string q.2])(h:K (a.put o.dst (.bool z))):o.quiet Tryz.prog a C K:=by
 refine⟨.bool z,fun w _=>?_,h⟩
 unfold Oper.quietAt
 rw[execB_neq p q w ho hx hy,hz]
 exact⟨rfl,rfl⟩
theorem flat_take{α:Type}{rec:α→List Value}{s:Nat}(hs:∀a,(rec a).length=s):∀(xs:List α) (k:Nat),(flat rec xs).take (k*s)=flat rec (xs.take k):=by
 intro xs
 induction xs with
 | nil=>intro k;simp[flat]
 | cons a l ih=>
  intro k
  cases k with
  | zero=>simp[flat]
  | succ k=>
   have e:∀(y:α) (t:List α),flat rec (y::t)=rec y++flat rec t:=fun _ _=>rfl
   rw[List.take_succ_cons,e,e,←ih k,show(k+1)*s=(rec a).length+k*s by rw[hs,Nat.add_mul];omega,List.take_length_add_append]
theorem flat_drop{α:Type}{rec:α→List Value}{s:Nat}(hs:∀a,(rec a).length=s):∀(xs:List α) (k:Nat),(flat rec xs).drop (k*s)=flat rec (xs.drop k):=by
 intro xs
 induction xs with
 | nil=>intro k;simp[flat]
 | cons a l ih=>
  intro k
  cases k with
  | zero=>simp[flat]
  | succ k=>
   have e:∀(y:α) (t:List α),flat rec (y::t)=rec y++flat rec t:=fun _ _=>rfl
   rw[List.drop_succ_cons,e,←ih k,show(k+1)*s=(rec a).length+k*s by rw[hs,Nat.add_mul];omega,List.drop_length_add_append]
theorem Reads.take{w:World}{B size n:Nat}{A:Option Addr}{xs:List Value}(h:Reads w B size A n xs){k:Nat}(hk:k≤n):Reads w B size A k (xs.take (k*size)):=by
 refine⟨by rw[List.length_take,h.1];exact Nat.min_eq_left (Nat.mul_le_mul_right _ hk),fun hn=>?_⟩
 obtain⟨ad,rfl,hb,hc⟩:=h.2 (by omega)
 refine⟨ad,rfl,hb,fun j u hu=>hc j u ?_⟩
 rw[List.getElem?_take] at hu
 split at hu
 ·exact hu
 ·cases hu
theorem Blk.setCells{g:Nat}{t:TypeId}:∀(vs:List Value) {l:List Value} (o:Nat) {w:World},Blk w g t l.toArray→Blk (w.setCells g o vs) g t (setList l o vs).toArray
 | [],_,_,_,h=>h
 | v::r,l,o,w,h=>by
  have h1:=h.set_ o v
  rw[show l.toArray.setIfInBounds o v=(l.set o v).toArray by simp] at h1
  exact Blk.setCells r (o+1) h1
theorem heap_setCells(g:Nat):∀(vs:List Value) (o:Nat) (w:World) (b:Nat),b≠g→(w.setCells g o vs).heap[b]?=w.heap[b]?
 | [],_,_,_,_=>rfl
 | v::r,o,w,b,h=>by
  rw[World.setCells,heap_setCells g r (o+1) _ b h]
  exact Below.heap_setCell w ⟨g,o,none⟩ v b h
theorem But.setCells{g:Nat}{w:World}:∀(vs:List Value) (o:Nat) {w1:World},But g w w1→But g w (w1.setCells g o vs)
 | [],_,_,h=>h
 | v::r,o,_,h=>But.setCells r (o+1) (h.set (p:=⟨g,o,none⟩) rfl v)
theorem isort1_any(A:Option Addr)(c:Nat)(f:Value)(w:World):
 Calls Tryz.prog 150 #[.slice A 1 c,.int .i64 0,.int .i64 1,f] w fun e w'=>e=.returned (.tuple #[])∧w'=w:=by
 go_enter Tryz.func150,Tryz.ntmps150
 go_wp2_with fail
 go_loopw [8,9] (fun v8 _ wr=>v8=.int .i64 1∧wr=w) (fun _ _ _=>0)
 case atStart=>exact⟨rfl,rfl⟩
 case round=>
  obtain⟨rfl,rfl⟩:=hrel
  go_wp2_with fail
  go_end0
  exact⟨rfl,rfl⟩
theorem stable1_any(A:Option Addr)(c:Nat)(f:Value)(w:World):
 Calls Tryz.prog 115 #[.slice A 1 c,.int .i64 1,f] w fun e w'=>e=.returned (.tuple #[])∧w'=w:=by
 go_enter Tryz.func115,Tryz.ntmps115
 go_wp2_with fail
 go_loop [7,8] (fun v7 v8=>v7=.int .i64 0∧v8=.int .i64 20) (fun _ _=>0)
 case atStart=>exact⟨rfl,rfl⟩
 case round=>
  obtain⟨rfl,rfl⟩:=hrel
  go_wp2_with fail
  refine(isort1_any _ _ _ _).mono ?_
  rintro e w1 ⟨rfl,rfl⟩
  go_wp2_with fail
  go_loop [6,7,8,9] (fun v6 _ _ _=>v6=.int .i64 20) (fun _ _ _ _=>0)
  case atStart=>rfl
  case round=>
   subst hrel
   go_wp2_with fail
   go_end0
   exact⟨rfl,rfl⟩
theorem sstable1_any(A:Option Addr)(c:Nat)(f:Value)(w:World):
 Calls Tryz.prog 68 #[.slice A 1 c,f] w fun e w'=>e=.returned (.tuple #[])∧w'=w:=by
 go_enter Tryz.func68,Tryz.ntmps68
 go_wp2_with fail
 refine(stable1_any _ _ _ _).mono ?_
 rintro e w1 ⟨rfl,rfl⟩
 go_wp2_with fail
 go_end0
 exact⟨rfl,rfl⟩
theorem compact1_any(A:Option Addr)(c:Nat)(w:World):
 Calls Tryz.prog 72 #[.slice A 1 c] w fun e w'=>e=.returned (.slice A 1 c)∧w'=w:=by
 go_enter Tryz.func72,Tryz.ntmps72
 go_wp2_with fail
 go_ret
 exact⟨rfl,rfl⟩
theorem after9_any(s : ByteArray)(x : Nat)(w : World)(hs : s.size = 9)(hx : ((s[8]'(by omega)).toNat : Int) = (x : Int))(hx2 : x < 255) :
 Calls Tryz.prog 67 #[.string s] w fun e w'=>e=.returned (.tuple #[.string (s.extract 0 8++strOfNums [((x+1:Nat):Int)]),.bool true])∧Below w.heap.size w w':=by
 have h1:((x:Int)==255)=false:=by simp;omega
 have h2:((x:Int)+1)%256=((x+1:Nat):Int):=by omega
 obtain⟨z,hz⟩:∃z:Int,z=((x+1:Nat):Int):=⟨_,rfl⟩
 have hzx:z=(x:Int)+1:=by omega
 have hcv:(convert 108 9 (.slice (some ⟨w.heap.size,0,none⟩) 1 1)).run Tryz.prog ((w.alloc (.cells #[.int .u8 ((x:Int)+1)] 5)).drew)=.ok (.string (strOfNums [z])) ((w.alloc (.cells #[.int .u8 ((x:Int)+1)] 5)).drew):=by
  rw[←hzx]
  refine run_convert_bytes_arg (P:=Tryz.prog) _ 108 5 Tryz.underlying108 Tryz.underlying5 w.heap.size 0 1 1 [z] rfl (fun i hi=>?_) 9 Tryz.underlying9
  obtain rfl:i=0:=by omega
  exact(Blk.new w 5 #[.int .u8 z]).drew.cell 0
 rw[←hz]
 obtain⟨Z,hZ⟩:∃Z,Z=strOfNums [z]:=⟨_,rfl⟩
 rw[←hZ] at hcv ⊢
 have hZs:Z.size=1:=by rw[hZ,strOfNums_size];rfl
 have HZ:=qD hZ
 have HZZ:=qD hz
 clear hz hZ h2 hzx
 go_enter Tryz.func67,Tryz.ntmps67
 go_upto_region 2 with fail
 go_loopw [4] (fun v wr=>v=.int .i64 9∧wr=w) (fun _ _=>0)
 case atStart=>exact⟨rfl,rfl⟩
 case round=>
  obtain⟨rfl,rfl⟩:=hrel
  go_wp2_with fail
  go_region
  all_goals
   go_wp2_with fail
   go_ret2
   exact⟨rfl,((Below.refl _ _).alloc (qL) _).drew⟩
def SpOk(is:List PI)(w:World)(e:Ending)(w':World):Prop:=
 ∃(A:Option Addr) (m c:Nat) (xs:List PS),e=.returned (.slice A m c)∧xs.map spP=spansL (is.map ivP)∧(∀x∈xs,∃p∈is,x=spanP p)∧m≤is.length∧SS w' A m c xs∧Below w.heap.size w w'
structure SpI(w:World)(is:List PI)(i:Nat)(v:Value)(xs:List PS)(wr:World):Prop where
 own:wr.ownsRow w.heap.size 127 12 v xs.length (flat recS xs)
 eq:xs.map spP=spansL ((is.take i).map ivP)
 le:xs.length≤i
 ok:∀x∈xs,okS w x
 pr:∀x∈xs,∃p∈is,x=spanP p
 bel:Below w.heap.size w wr
theorem SpI.step{w:World}{is:List PI}{i:Nat}{v:Value}{xs:List PS}{wr w':World}(h:SpI w is i v xs wr)(hb:Below wr.heap.size wr w'):SpI w is i v xs w':=⟨own_step h.own hb,h.eq,h.le,h.ok,h.pr,h.bel.step' hb⟩
theorem SpI.skip{w:World}{is:List PI}{i:Nat}{v:Value}{xs:List PS}{wr:World}{p:PI}(h:SpI w is i v xs wr)(hp:is[i]?=some p)(hn:(ivP p).ne=false):SpI w is (i+1) v xs wr:=by
 refine⟨h.own,?_,by have:=h.le;omega,h.ok,h.pr,h.bel⟩
 rw[take_snoc' hp,List.map_append,List.map_singleton,spansL_snoc,hn]
 exact h.eq
theorem SpI.next{w:World}{is:List PI}{i m:Nat}{v v':Value}{xs:List PS}{wr w':World}{p:PI}(h:SpI w is i v xs wr)(hp:is[i]?=some p)(hn:(ivP p).ne=true)(hok:okI w p)(hg:wr.grownBy w' v.ownBlock)(hm:m=xs.length+1)(ho:w'.ownsRow w.heap.size 127 12 v' m (flat recS xs++recS (spanP p))):SpI w is (i+1) v' (xs++[spanP p]) w':=by
 subst hm
 refine⟨?_,?_,by have:=h.le;simp;omega,fun x hx=>?_,fun x hx=>?_,h.bel.grown hg h.bel.size (own_ge h.own)⟩
 ·rw[flat_snoc,List.length_append];exact ho
 ·have e:spansL ((is.take (i+1)).map ivP)=spansL ((is.take i).map ivP)++[(ivP p).sp]:=by
   rw[take_snoc' hp,List.map_append,List.map_singleton,spansL_snoc,hn];rfl
  rw[e,List.map_append,h.eq]
  rfl
 ·rcases List.mem_append.1 hx with hx|hx
  ·exact h.ok x hx
  ·simp at hx;subst hx;exact hok.span
 ·rcases List.mem_append.1 hx with hx|hx
  ·exact h.pr x hx
  ·simp at hx;subst hx;exact⟨p,List.mem_of_getElem? hp,rfl⟩
theorem ne_false1{p:PI}(h:validV p.1.1.2=false):(ivP p).ne=false:=by show(validV p.1.1.2&&_&&_)=false;rw[h];rfl
theorem ne_false2{p:PI}(h:validV p.1.2.2=false):(ivP p).ne=false:=by show(validV p.1.1.2&&validV p.1.2.2&&_)=false;rw[h,Bool.and_false];rfl
theorem ne_false3{p:PI}(h:¬cmC (ivP p).sp.1 (ivP p).sp.2<0):(ivP p).ne=false:=by unfold Iv.ne;rw[decide_eq_false h,Bool.and_false]
theorem ne_true{p:PI}(h1:validV p.1.1.2=true)(h2:validV p.1.2.2=true)(h:cmC (ivP p).sp.1 (ivP p).sp.2<0):(ivP p).ne=true:=by
 show(validV p.1.1.2&&validV p.1.2.2&&_)=true;rw[h1,h2,decide_eq_true h];rfl
structure SpB(w:World)(is:List PI)(i:Nat)(v:Value)(xs:List PS)(g:Nat)(p:PI)(wr:World):Prop where
 i:SpI w is i v xs wr
 b5:Blk wr g 67 (arrI p)
 b6:Blk wr (g+1) 127 (arrS (spanP p))
theorem SpB.step{w:World}{is:List PI}{i:Nat}{v:Value}{xs:List PS}{g:Nat}{p:PI}{wr w':World}(h:SpB w is i v xs g p wr)(hb:Below wr.heap.size wr w'):SpB w is i v xs g p w':=⟨h.i.step hb,h.b5.step hb,h.b6.step hb⟩
theorem spans_any(is:List PI)(A:Option Addr)(n c:Nat)(w:World)(hT:Tabs w)(h:SI w A n c is)(hn:n≤1000000000):
 Calls Tryz.prog 112 #[.slice A n c] w (SpOk is w):=by
 obtain⟨j0,hj0,hy0,hy1,hy2⟩:=info_parts info_span
 have HT:=qD hT
 have H:=qD h
 have HL:=qD h.sr.ln
 clear hT h
 go_enter Tryz.func112,Tryz.ntmps112
 go_wp2_with fail
 go_loopw [3,9] (fun v3 v9 wr=>∃(i:Nat) (xs:List PS),i≤n∧v9=.int .i64 i∧SpI w is i v3 xs wr) (fun _ v9 _=>n-(intOf v9).toNat)
 case atStart=>exact⟨0,[],Nat.zero_le _,rfl,⟨own_nil _ _ _ _,rfl,qL,by simp,by simp,Below.refl _ _⟩⟩
 case round=>
  obtain⟨i,xs,hi,rfl,I⟩:=hrel
  have J:=qD I
  by_cases hlt:i<n
  ·obtain⟨p,hp⟩:∃p,is[i]?=some p:=⟨_,List.getElem?_eq_getElem (by have:=HL.out;omega)⟩
   obtain⟨b,off,rfl,hbl,hat,hok⟩:=H.out.at hp
   have HP:=qD hp
   have HOk:=qD hok
   have hbr:b<wr.heap.size:=by have:=I.bel.size;omega
   have hle:=I.le
   obtain⟨⟨p0,p1,p2,p3,p4⟩,⟨q0,q1,q2,q3,q4⟩,r0,r1⟩:=hat.keep (I.bel.block b hbl)
   clear hp hok hat I hbl
   go_upto_region 6 with fail
   have KB:SpB w is i u3 xs wr.heap.size p ((wr.alloc (.cells (arrI p) 67)).alloc (.cells (arrS (spanP p)) 127)):=
    ⟨(J.out.step ((Below.refl wr.heap.size wr).alloc (qL) _)).step ((Below.refl _ _).alloc (qL) _),(Blk.new_at rfl).alloc _,Blk.new_at (by simp)⟩
   change (Code.region 6 _ _).wp _ _ _ ((wr.alloc (.cells (arrI p) 67)).alloc (.cells (arrS (spanP p)) 127))
   generalize (wr.alloc (.cells (arrI p) 67)).alloc (.cells (arrS (spanP p)) 127)=wa at*
   generalize wr.heap.size=ga at*
   have LB:=qD KB
   clear p0 p1 p2 p3 p4 q0 q1 q2 q3 q4 r0 r1 J KB hbr
   obtain⟨⟨p0,p1,p2,p3,p4⟩,⟨q0,q1,q2,q3,q4⟩,r0,r1⟩:=IAt.of_blk LB.out.b5
   go_wp2_with fail
   refine(valid_any p.1.1.2 p.1.1.1 _ (HT.out.step LB.out.i.bel) (HOk.out.step LB.out.i.bel).1).mono ?_
   rintro e w1 ⟨rfl,hb1⟩
   have L1:=qD (LB.out.step hb1)
   clear hb1 p0 p1 p2 p3 p4 q0 q1 q2 q3 q4 r0 r1 LB
   cases h1:validV p.1.1.2
   ·have HI:=qD (L1.out.i.skip HP.out (ne_false1 h1))
    clear h1
    go_wp2_with fail
    go_roundw
    case rel=>exact⟨i+1,xs,by omega,by go_num,HI.out⟩
    case measure=>simp[intOf];omega
   have V1:=qD h1
   clear h1
   obtain⟨⟨p0,p1,p2,p3,p4⟩,⟨q0,q1,q2,q3,q4⟩,r0,r1⟩:=IAt.of_blk L1.out.b5
   go_wp2_with fail
   refine(valid_any p.1.2.2 p.1.2.1 _ (HT.out.step L1.out.i.bel) (HOk.out.step L1.out.i.bel).2).mono ?_
   rintro e w2 ⟨rfl,hb2⟩
   have L2:=qD (L1.out.step hb2)
   clear hb2 p0 p1 p2 p3 p4 q0 q1 q2 q3 q4 r0 r1 L1
   cases h2:validV p.1.2.2
   ·have HI:=qD (L2.out.i.skip HP.out (ne_false2 h2))
    clear h2
    go_wp2_with fail
    go_roundw
    case rel=>exact⟨i+1,xs,by omega,by go_num,HI.out⟩
    case measure=>simp[intOf];omega
   have V2:=qD h2
   clear h2
   obtain⟨⟨⟨p0,p1,p2,p3,p4⟩,p5⟩,⟨⟨q0,q1,q2,q3,q4⟩,q5⟩⟩:=SAt.of_blk L2.out.b6
   go_wp2_with fail
   refine(compare_any (spanP p).1 (spanP p).2 _ (HOk.out.step L2.out.i.bel).1 (HOk.out.step L2.out.i.bel).2).mono ?_
   rintro e w3 ⟨rfl,hb3⟩
   have L3:=qD (L2.out.step hb3)
   clear hb3 p0 p1 p2 p3 p4 p5 q0 q1 q2 q3 q4 q5 L2
   by_cases h3:cmC (cutP (spanP p).1) (cutP (spanP p).2)<0
   ·have HN:=qD (ne_true V1.out V2.out h3)
    obtain⟨⟨⟨p0,p1,p2,p3,p4⟩,p5⟩,⟨⟨q0,q1,q2,q3,q4⟩,q5⟩⟩:=SAt.of_blk L3.out.b6
    have hlo:w.heap.size≤w3.heap.size:=L3.out.i.bel.size
    have LK:=qD (L3.out.i.step ((Below.refl w3.heap.size w3).alloc (qL) (Obj.cells (arrS (spanP p)) 127)))
    go_wp2_with (at_builtin;refine wpList_append_any _ rfl _ _ 123 rfl w.heap.size 127 j0 (aggS (((VC.zero,Val.zero),false),((VC.zero,Val.zero),false))) 12 176 Tryz.underlying123 hj0 hy0 hy1 hy2 rfl (by decide) u3 xs.length (flat recS xs) rfl LK.out.own _ _ 1 _ (recS (spanP p)) rfl ⟨rfl,fun _=>⟨_,rfl,Nat.lt_succ_self _,news_at _ _ _⟩⟩ (recS_one _) (by unfold maxLen;omega) (by omega) ?c5 ?_)
    case c5=>first|omega|(simp;omega)
    intro v' w4 hown hg _
    have HI:=qD (LK.out.next HP.out HN.out HOk.out hg rfl hown)
    clear hown hg p0 p1 p2 p3 p4 p5 q0 q1 q2 q3 q4 q5 h3
    go_wp2_with fail
    go_roundw
    case rel=>exact⟨i+1,xs++[spanP p],by omega,by go_num,HI.out⟩
    case measure=>simp[intOf];omega
   ·have HI:=qD (L3.out.i.skip HP.out (ne_false3 h3))
    go_wp2_with fail
    go_roundw
    case rel=>exact⟨i+1,xs,by omega,by go_num,HI.out⟩
    case measure=>simp[intOf];omega
  ·clear I
   go_wp2_with fail
   go_ret
   obtain⟨A',c',e,hs⟩:=SS.of_own J.out.own rfl (by have:=J.out.le;unfold reach;omega) (fun x hx=>(J.out.ok x hx).step J.out.bel)
   exact⟨A',_,c',xs,by rw[←e];rfl,by rw[J.out.eq,List.take_of_length_le (by have:=HL.out;omega)],J.out.pr,by have:=J.out.le;have:=HL.out;omega,hs,J.out.bel⟩
end Go.Proofs.YtfkapannahcjiaaGreatDoor
