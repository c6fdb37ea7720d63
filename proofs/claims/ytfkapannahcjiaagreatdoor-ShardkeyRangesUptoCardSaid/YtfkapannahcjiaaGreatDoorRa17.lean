/- Parts of the proof, joined: SortMSp, SortGSp, SortTP, SortTSp, RgRec, SortIB. -/
import Derived.Test.YtfkapannahcjiaaGreatDoorRa1
import Derived.Test.YtfkapannahcjiaaGreatDoorRa16
import Derived.Test.YtfkapannahcjiaaGreatDoorRa2
import Derived.IntWalk
set_option maxRecDepth 100000
set_option maxHeartbeats 16000000
set_option linter.unusedSimpArgs false
namespace Go.Proofs.YtfkapannahcjiaaGreatDoor
open Go.RowKit
section
variable {α:Type} {cm:α→α→Int}
theorem RT.le{x y:α×Nat}(h:RT cm x y):cm x.1 y.1≤0:=by unfold RT at h;omega
theorem cm_le_lt(H:Ordered cm){x y z:α}(h1:cm x y≤0)(h2:cm y z<0):cm x z<0:=by
 have:=H.tr x y z h1 (by omega)
 omega
theorem cm_lt_le(H:Ordered cm){x y z:α}(h1:cm x y<0)(h2:cm y z≤0):cm x z<0:=by
 have:=H.tr x y z (by omega) h2
 omega
theorem cm_le_le(H:Ordered cm){x y z:α}(h1:cm x y≤0)(h2:cm y z≤0):cm x z≤0:=(H.tr x y z h1 h2).1
theorem pw_at{R:α×Nat→α×Nat→Prop}{l:List (α×Nat)}(h:l.Pairwise R){i j:Nat}{x y:α×Nat}(hij:i<j)(hx:l[i]?=some x)(hy:l[j]?=some y):R x y:=by
 obtain⟨hi,rfl⟩:=List.getElem?_eq_some_iff.1 hx
 obtain⟨hj,rfl⟩:=List.getElem?_eq_some_iff.1 hy
 exact List.pairwise_iff_getElem.1 h i j hi hj hij
theorem merge_one(H:Ordered cm){x:α×Nat}{Y1 Y2:List (α×Nat)}(hY:(Y1++Y2).Pairwise (RT cm))(ht:∀y∈Y1++Y2,x.2<y.2)(h1:∀y∈Y1,cm y.1 x.1<0)(h2:∀y∈Y2,¬cm y.1 x.1<0):Sorted cm ([x]++(Y1++Y2)) (Y1++x::Y2):=by
 refine⟨by rw[List.singleton_append];exact List.perm_middle,?_⟩
 rw[List.pairwise_append] at hY ⊢
 refine⟨hY.1,List.pairwise_cons.2 ⟨fun y hy=>?_,hY.2.1⟩,fun y hy z hz=>?_⟩
 ·unfold RT
  have:=h2 y hy
  have:=H.anti y.1 x.1
  have:=ht y (by simp[hy])
  omega
 ·rcases List.mem_cons.1 hz with rfl|hz
  ·exact .inl (h1 y hy)
  ·exact hY.2.2 y hy z hz
end
theorem swap3_list{α:Type}(A P1 P3 E:List α)(x y:α):((A++(P1++x::y::P3)++E).set (A.length+P1.length) y).set (A.length+P1.length+1) x=A++((P1++[y])++x::P3)++E:=by
 have e1:(A++(P1++x::y::P3)++E).set (A.length+P1.length) y=(A++P1++[y])++y::(P3++E):=by
  rw[show A++(P1++x::y::P3)++E=(A++P1)++x::(y::(P3++E)) by simp,List.set_append_right _ _ (by simp),show A.length+P1.length-(A++P1).length=0 by simp]
  simp
 rw[e1,List.set_append_right _ _ (by simp;omega),show A.length+P1.length+1-(A++P1++[y]).length=0 by simp;omega]
 simp
def MergedSp(g:Nat)(w:World)(A X Y D:List (PS×Nat))(e:Ending)(w':World):Prop:=e=.returned (.tuple #[])∧∃S,Sorted (fun p q:PS=>cmC (spP p).1 (spP q).1) (X++Y) S∧IsSp g w (A++S++D) w'
structure HalvesSp(A X Y D:List (PS×Nat))(g n:Nat)(w:World):Prop where
 row:SRowSp w g (A++X++Y++D)
 ln:n=(A++X++Y++D).length
 sz:n*176≤reach
 hX:X.Pairwise (RT (fun p q:PS=>cmC (spP p).1 (spP q).1))
 hY:Y.Pairwise (RT (fun p q:PS=>cmC (spP p).1 (spP q).1))
 hT:∀x∈X,∀y∈Y,x.2<y.2
 cmp:CmpOkSp g w (X++Y)
theorem sym1Sp(H:Ordered (fun p q:PS=>cmC (spP p).1 (spP q).1))(A:List (PS×Nat))(x:PS×Nat)(Y D:List (PS×Nat))(g n c a m b:Nat)(aI mI bI:Int)(w:World)(h:HalvesSp A [x] Y D g n w)(ha:a=A.length)(hm:m=a+1)(hb:b=m+Y.length)(haI:aI=a)(hmI:mI=m)(hbI:bI=b):
 Calls Tryz.prog 208 #[.slice (some ⟨g,0,none⟩) n c,.int .i64 aI,.int .i64 mI,.int .i64 bI,.func (.func 146) #[] #[]] w (MergedSp g w A [x] Y D):=by
 subst haI hmI hbI
 have hz:=h.sz
 unfold reach at hz
 have hbn:b≤n:=by have:=h.ln;simp at this;omega
 have ham:((m:Int)-(a:Int)==1)=true:=by simp;omega
 have HA:=qD ha
 have HM:=qD hm
 have hm1:a<m:=by omega
 have hmb:m≤b:=by omega
 have HBq:=qD hb
 have HH:=qD h
 have HO:=qD H
 have I0:Hid (IsSp g w (A++[x]++Y++D) w):=qD ⟨h.row,But.refl⟩
 clear h ha hm hb H
 go_enter Tryz.func208,Tryz.ntmps208
 go_wp2_with fail
 go_loopw [10,11] (fun v10 v11 wr=>∃(i j:Nat),v10=.int .i64 i∧v11=.int .i64 j∧m≤i∧i≤j∧j≤b∧(∀(k:Nat) y,Y[k]?=some y→m+k<i→cmC (spP y.1).1 (spP x.1).1<0)∧(∀(k:Nat) y,Y[k]?=some y→j≤m+k→¬cmC (spP y.1).1 (spP x.1).1<0)∧IsSp g w (A++[x]++Y++D) wr) (fun v10 v11 _=>(intOf v11).toNat-(intOf v10).toNat)
 case atStart=>exact⟨m,b,rfl,rfl,qL,hmb,qL,fun k y _ hk=>by omega,fun k y hy hk=>by have:=(List.getElem?_eq_some_iff.1 hy).1;have:=HBq.out;omega,I0.out⟩
 case round=>
  obtain⟨i,j,rfl,rfl,hmi,hij,hjb,hlo,hhi,I⟩:=hrel
  have HLo:=qD hlo
  have HHi:=qD hhi
  have J:=qD I
  clear hlo hhi
  by_cases hlt:i<j
  ·go_upto_region 5 with fail
   obtain⟨h,hh⟩:∃h:Nat,((i:Int)+(j:Int))/2=(h:Int):=⟨(i+j)/2,by omega⟩
   rw[hh]
   have h1:i≤h:=by omega
   have h2:h<j:=by omega
   clear hh
   obtain⟨y,hyY⟩:∃y,Y[h-m]?=some y:=⟨_,List.getElem?_eq_getElem (by have:=HBq.out;omega)⟩
   have hy:(A++[x]++Y++D)[h]?=some y:=by
    have hA:=HA.out
    have hM:=HM.out
    rw[List.append_assoc,List.getElem?_append_right (by simp;omega),List.getElem?_append_left (by have:=(List.getElem?_eq_some_iff.1 hyY).1;simp;omega)]
    rw[show h-(A++[x]).length=h-m by simp;omega]
    exact hyY
   have hx:(A++[x]++Y++D)[a]?=some x:=by
    rw[HA.out]
    simp
   have p0:wr.cell? ⟨g,h*12,none⟩=some (.int .i64 y.1.1.1.1.k):=I.row.cell hy 0 _ rfl
   have p1:wr.cell? ⟨g,h*12+1,none⟩=some (.int .i64 y.1.1.1.1.n):=I.row.cell hy 1 _ rfl
   have p2:wr.cell? ⟨g,h*12+2,none⟩=some (.string y.1.1.1.1.t):=I.row.cell hy 2 _ rfl
   have p3:wr.cell? ⟨g,h*12+3,none⟩=some (.slice y.1.1.1.1.LA y.1.1.1.1.ln y.1.1.1.1.lc):=I.row.cell hy 3 _ rfl
   have p4:wr.cell? ⟨g,h*12+4,none⟩=some (.slice y.1.1.1.1.DA y.1.1.1.1.dn y.1.1.1.1.dc):=I.row.cell hy 4 _ rfl
   have p5:wr.cell? ⟨g,h*12+5,none⟩=some (.bool y.1.1.2):=I.row.cell hy 5 _ rfl
   have p6:wr.cell? ⟨g,h*12+6,none⟩=some (.int .i64 y.1.2.1.1.k):=I.row.cell hy 6 _ rfl
   have p7:wr.cell? ⟨g,h*12+7,none⟩=some (.int .i64 y.1.2.1.1.n):=I.row.cell hy 7 _ rfl
   have p8:wr.cell? ⟨g,h*12+8,none⟩=some (.string y.1.2.1.1.t):=I.row.cell hy 8 _ rfl
   have p9:wr.cell? ⟨g,h*12+9,none⟩=some (.slice y.1.2.1.1.LA y.1.2.1.1.ln y.1.2.1.1.lc):=I.row.cell hy 9 _ rfl
   have p10:wr.cell? ⟨g,h*12+10,none⟩=some (.slice y.1.2.1.1.DA y.1.2.1.1.dn y.1.2.1.1.dc):=I.row.cell hy 10 _ rfl
   have p11:wr.cell? ⟨g,h*12+11,none⟩=some (.bool y.1.2.2):=I.row.cell hy 11 _ rfl
   have r0:wr.cell? ⟨g,a*12,none⟩=some (.int .i64 x.1.1.1.1.k):=I.row.cell hx 0 _ rfl
   have r1:wr.cell? ⟨g,a*12+1,none⟩=some (.int .i64 x.1.1.1.1.n):=I.row.cell hx 1 _ rfl
   have r2:wr.cell? ⟨g,a*12+2,none⟩=some (.string x.1.1.1.1.t):=I.row.cell hx 2 _ rfl
   have r3:wr.cell? ⟨g,a*12+3,none⟩=some (.slice x.1.1.1.1.LA x.1.1.1.1.ln x.1.1.1.1.lc):=I.row.cell hx 3 _ rfl
   have r4:wr.cell? ⟨g,a*12+4,none⟩=some (.slice x.1.1.1.1.DA x.1.1.1.1.dn x.1.1.1.1.dc):=I.row.cell hx 4 _ rfl
   have r5:wr.cell? ⟨g,a*12+5,none⟩=some (.bool x.1.1.2):=I.row.cell hx 5 _ rfl
   have r6:wr.cell? ⟨g,a*12+6,none⟩=some (.int .i64 x.1.2.1.1.k):=I.row.cell hx 6 _ rfl
   have r7:wr.cell? ⟨g,a*12+7,none⟩=some (.int .i64 x.1.2.1.1.n):=I.row.cell hx 7 _ rfl
   have r8:wr.cell? ⟨g,a*12+8,none⟩=some (.string x.1.2.1.1.t):=I.row.cell hx 8 _ rfl
   have r9:wr.cell? ⟨g,a*12+9,none⟩=some (.slice x.1.2.1.1.LA x.1.2.1.1.ln x.1.2.1.1.lc):=I.row.cell hx 9 _ rfl
   have r10:wr.cell? ⟨g,a*12+10,none⟩=some (.slice x.1.2.1.1.DA x.1.2.1.1.dn x.1.2.1.1.dc):=I.row.cell hx 10 _ rfl
   have r11:wr.cell? ⟨g,a*12+11,none⟩=some (.bool x.1.2.2):=I.row.cell hx 11 _ rfl
   have P0:∀k:BW wr,k.val.cell? ⟨g,h*12,none⟩=some (.int .i64 y.1.1.1.1.k):=fun k=>k.cell p0
   have P1:∀k:BW wr,k.val.cell? ⟨g,h*12+1,none⟩=some (.int .i64 y.1.1.1.1.n):=fun k=>k.cell p1
   have P2:∀k:BW wr,k.val.cell? ⟨g,h*12+2,none⟩=some (.string y.1.1.1.1.t):=fun k=>k.cell p2
   have P3:∀k:BW wr,k.val.cell? ⟨g,h*12+3,none⟩=some (.slice y.1.1.1.1.LA y.1.1.1.1.ln y.1.1.1.1.lc):=fun k=>k.cell p3
   have P4:∀k:BW wr,k.val.cell? ⟨g,h*12+4,none⟩=some (.slice y.1.1.1.1.DA y.1.1.1.1.dn y.1.1.1.1.dc):=fun k=>k.cell p4
   have P5:∀k:BW wr,k.val.cell? ⟨g,h*12+5,none⟩=some (.bool y.1.1.2):=fun k=>k.cell p5
   have P6:∀k:BW wr,k.val.cell? ⟨g,h*12+6,none⟩=some (.int .i64 y.1.2.1.1.k):=fun k=>k.cell p6
   have P7:∀k:BW wr,k.val.cell? ⟨g,h*12+7,none⟩=some (.int .i64 y.1.2.1.1.n):=fun k=>k.cell p7
   have P8:∀k:BW wr,k.val.cell? ⟨g,h*12+8,none⟩=some (.string y.1.2.1.1.t):=fun k=>k.cell p8
   have P9:∀k:BW wr,k.val.cell? ⟨g,h*12+9,none⟩=some (.slice y.1.2.1.1.LA y.1.2.1.1.ln y.1.2.1.1.lc):=fun k=>k.cell p9
   have P10:∀k:BW wr,k.val.cell? ⟨g,h*12+10,none⟩=some (.slice y.1.2.1.1.DA y.1.2.1.1.dn y.1.2.1.1.dc):=fun k=>k.cell p10
   have P11:∀k:BW wr,k.val.cell? ⟨g,h*12+11,none⟩=some (.bool y.1.2.2):=fun k=>k.cell p11
   have R0:∀k:BW wr,k.val.cell? ⟨g,a*12,none⟩=some (.int .i64 x.1.1.1.1.k):=fun k=>k.cell r0
   have R1:∀k:BW wr,k.val.cell? ⟨g,a*12+1,none⟩=some (.int .i64 x.1.1.1.1.n):=fun k=>k.cell r1
   have R2:∀k:BW wr,k.val.cell? ⟨g,a*12+2,none⟩=some (.string x.1.1.1.1.t):=fun k=>k.cell r2
   have R3:∀k:BW wr,k.val.cell? ⟨g,a*12+3,none⟩=some (.slice x.1.1.1.1.LA x.1.1.1.1.ln x.1.1.1.1.lc):=fun k=>k.cell r3
   have R4:∀k:BW wr,k.val.cell? ⟨g,a*12+4,none⟩=some (.slice x.1.1.1.1.DA x.1.1.1.1.dn x.1.1.1.1.dc):=fun k=>k.cell r4
   have R5:∀k:BW wr,k.val.cell? ⟨g,a*12+5,none⟩=some (.bool x.1.1.2):=fun k=>k.cell r5
   have R6:∀k:BW wr,k.val.cell? ⟨g,a*12+6,none⟩=some (.int .i64 x.1.2.1.1.k):=fun k=>k.cell r6
   have R7:∀k:BW wr,k.val.cell? ⟨g,a*12+7,none⟩=some (.int .i64 x.1.2.1.1.n):=fun k=>k.cell r7
   have R8:∀k:BW wr,k.val.cell? ⟨g,a*12+8,none⟩=some (.string x.1.2.1.1.t):=fun k=>k.cell r8
   have R9:∀k:BW wr,k.val.cell? ⟨g,a*12+9,none⟩=some (.slice x.1.2.1.1.LA x.1.2.1.1.ln x.1.2.1.1.lc):=fun k=>k.cell r9
   have R10:∀k:BW wr,k.val.cell? ⟨g,a*12+10,none⟩=some (.slice x.1.2.1.1.DA x.1.2.1.1.dn x.1.2.1.1.dc):=fun k=>k.cell r10
   have R11:∀k:BW wr,k.val.cell? ⟨g,a*12+11,none⟩=some (.bool x.1.2.2):=fun k=>k.cell r11
   have i0:(0:Int)≤(h:Int):=by omega
   have i1:(h:Int)<(n:Int):=by omega
   have i2:(0:Int)≤(a:Int):=by omega
   have i3:(a:Int)<(n:Int):=by omega
   have K1:Hid (∀k:BW wr,Calls Tryz.prog 146 #[aggSp y,aggSp x] k.val fun e w''=>e=.returned (.int .i64 (cmC (spP y.1).1 (spP x.1).1))∧∃k:BW wr,w''=k.val):=fun k=>
    Calls.bw (HH.out.cmp y x (by simp[List.mem_of_getElem? hyY]) (by simp) k.val (I.but.step k.below))
   have HY:=qD hyY
   clear p0 p1 p2 p3 p4 p5 p6 p7 p8 p9 p10 p11 r0 r1 r2 r3 r4 r5 r6 r7 r8 r9 r10 r11 hx hy hyY I
   refine wp_region_bw (by kernel_rfl) (by kernel_rfl) ?_
   repeat(go_big_quiet_step (with_reducible exact K1.out _))
   refine wpQuiet_nil ?_
   rintro _ ⟨kw,rfl⟩
   have J2:=qD (J.out.step kw.below)
   clear P0 P1 P2 P3 P4 P5 P6 P7 P8 P9 P10 P11 R0 R1 R2 R3 R4 R5 R6 R7 R8 R9 R10 R11 K1 i0 i1 i2 i3
   generalize kw.val=w2 at*
   by_cases hc:cmC (spP y.1).1 (spP x.1).1<0
   ·have HLo2:Hid (∀(k:Nat) z,Y[k]?=some z→m+k<h+1→cmC (spP z.1).1 (spP x.1).1<0):=fun k z hz hk=>by
     by_cases e:k=h-m
     ·subst e
      rw[HY.out] at hz
      cases hz
      exact hc
     ·exact cm_le_lt HO.out (RT.le (pw_at HH.out.hY (by omega) hz HY.out)) hc
    go_wp2_with fail
    go_roundw
    case rel=>exact⟨h+1,j,by go_num,rfl,by omega,by omega,hjb,HLo2.out,HHi.out,J2.out⟩
    case measure=>simp[intOf];omega
   ·have HHi2:Hid (∀(k:Nat) z,Y[k]?=some z→h≤m+k→¬cmC (spP z.1).1 (spP x.1).1<0):=fun k z hz hk=>by
     by_cases e:k=h-m
     ·subst e
      rw[HY.out] at hz
      cases hz
      exact hc
     ·have q1:=RT.le (pw_at HH.out.hY (by omega) HY.out hz)
      have q2:cmC (spP x.1).1 (spP y.1).1=-(cmC (spP y.1).1 (spP x.1).1):=HO.out.anti y.1 x.1
      have q3:cmC (spP x.1).1 (spP z.1).1≤0:=cm_le_le HO.out (y:=y.1) (show cmC (spP x.1).1 (spP y.1).1≤0 by omega) q1
      have q4:cmC (spP z.1).1 (spP x.1).1=-(cmC (spP x.1).1 (spP z.1).1):=HO.out.anti x.1 z.1
      omega
    go_wp2_with fail
    go_roundw
    case rel=>exact⟨i,h,rfl,rfl,hmi,h1,by omega,HLo.out,HHi2.out,J2.out⟩
    case measure=>simp[intOf];omega
  ·obtain rfl:i=j:=by omega
   obtain⟨Y1,Y2,hYY,hY1⟩:∃Y1 Y2,Y=Y1++Y2∧Y1.length=i-m:=⟨Y.take (i-m),Y.drop (i-m),(List.take_append_drop _ Y).symm,by rw[List.length_take];have:=HBq.out;omega⟩
   have HS:Hid (Sorted (fun p q:PS=>cmC (spP p).1 (spP q).1) ([x]++Y) (Y1++x::Y2)):=by
    have hp:=HH.out.hY
    have ht:=HH.out.hT x (by simp)
    rw[hYY] at hp ht
    rw[Hid,hYY]
    refine merge_one HO.out hp ht (fun y hy=>?_) (fun y hy=>?_)
    ·obtain⟨k,hk⟩:=List.getElem?_of_mem hy
     have hkl:=(List.getElem?_eq_some_iff.1 hk).1
     exact HLo.out k y (by rw[hYY,List.getElem?_append_left hkl];exact hk) (by omega)
    ·obtain⟨k,hk⟩:=List.getElem?_of_mem hy
     exact HHi.out (Y1.length+k) y (by rw[hYY,List.getElem?_append_right (by omega)];simpa using hk) (by omega)
   have HYY:=qD hYY
   have HY1:=qD hY1
   clear hYY hY1 I HLo HHi
   go_wp2_with fail
   go_loopw [13] (fun v13 wr=>∃(k:Nat) (P1 P2:List (PS×Nat)),v13=.int .i64 k∧k=a+P1.length∧Y1=P1++P2∧IsSp g w (A++(P1++x::P2)++(Y2++D)) wr) (fun v13 _=>n-(intOf v13).toNat)
   case atStart=>
    refine⟨a,[],Y1,rfl,rfl,rfl,?_⟩
    have:=J.out
    rw[HYY.out] at this
    simpa using this
   case round=>
    obtain⟨k,P1,P2,rfl,hk,hPP,I⟩:=hrel
    have HPP:=qD hPP
    have HK:=qD hk
    have J2:=qD I
    have hkl:P1.length≤i-m:=by rw[←HY1.out,hPP];simp
    by_cases hlt2:k<i-1
    ·obtain⟨y,P3,hP3⟩:∃y P3,P2=y::P3:=by
      cases P2 with
      | nil=>have h1:=HY1.out;rw[hPP] at h1;simp at h1;have:=HM.out;omega
      | cons y P3=>exact⟨y,P3,rfl⟩
     subst hP3
     have hkA:k=A.length+P1.length:=by rw[hk,HA.out]
     have HX:Hid ((A++(P1++x::y::P3)++(Y2++D))[k]?=some x):=by rw[Hid,hkA];simp
     have HYk:Hid ((A++(P1++x::y::P3)++(Y2++D))[k+1]?=some y):=by
      rw[Hid,hkA,show A++(P1++x::y::P3)++(Y2++D)=(A++P1++[x])++y::(P3++(Y2++D)) by simp,List.getElem?_append_right (by simp;omega),show A.length+P1.length+1-(A++P1++[x]).length=0 by simp;omega]
      rfl
     have HSw:Hid (((A++(P1++x::y::P3)++(Y2++D)).set k y).set (k+1) x=A++((P1++[y])++x::P3)++(Y2++D)):=by
      rw[Hid,hkA]
      exact swap3_list A P1 P3 (Y2++D) x y
     have hkn:k+1<n:=by omega
     have p0:wr.cell? ⟨g,k*12,none⟩=some (.int .i64 x.1.1.1.1.k):=J2.out.row.cell HX.out 0 _ rfl
     have p1:wr.cell? ⟨g,k*12+1,none⟩=some (.int .i64 x.1.1.1.1.n):=J2.out.row.cell HX.out 1 _ rfl
     have p2:wr.cell? ⟨g,k*12+2,none⟩=some (.string x.1.1.1.1.t):=J2.out.row.cell HX.out 2 _ rfl
     have p3:wr.cell? ⟨g,k*12+3,none⟩=some (.slice x.1.1.1.1.LA x.1.1.1.1.ln x.1.1.1.1.lc):=J2.out.row.cell HX.out 3 _ rfl
     have p4:wr.cell? ⟨g,k*12+4,none⟩=some (.slice x.1.1.1.1.DA x.1.1.1.1.dn x.1.1.1.1.dc):=J2.out.row.cell HX.out 4 _ rfl
     have p5:wr.cell? ⟨g,k*12+5,none⟩=some (.bool x.1.1.2):=J2.out.row.cell HX.out 5 _ rfl
     have p6:wr.cell? ⟨g,k*12+6,none⟩=some (.int .i64 x.1.2.1.1.k):=J2.out.row.cell HX.out 6 _ rfl
     have p7:wr.cell? ⟨g,k*12+7,none⟩=some (.int .i64 x.1.2.1.1.n):=J2.out.row.cell HX.out 7 _ rfl
     have p8:wr.cell? ⟨g,k*12+8,none⟩=some (.string x.1.2.1.1.t):=J2.out.row.cell HX.out 8 _ rfl
     have p9:wr.cell? ⟨g,k*12+9,none⟩=some (.slice x.1.2.1.1.LA x.1.2.1.1.ln x.1.2.1.1.lc):=J2.out.row.cell HX.out 9 _ rfl
     have p10:wr.cell? ⟨g,k*12+10,none⟩=some (.slice x.1.2.1.1.DA x.1.2.1.1.dn x.1.2.1.1.dc):=J2.out.row.cell HX.out 10 _ rfl
     have p11:wr.cell? ⟨g,k*12+11,none⟩=some (.bool x.1.2.2):=J2.out.row.cell HX.out 11 _ rfl
     have r0:wr.cell? ⟨g,(k+1)*12,none⟩=some (.int .i64 y.1.1.1.1.k):=J2.out.row.cell HYk.out 0 _ rfl
     have r1:wr.cell? ⟨g,(k+1)*12+1,none⟩=some (.int .i64 y.1.1.1.1.n):=J2.out.row.cell HYk.out 1 _ rfl
     have r2:wr.cell? ⟨g,(k+1)*12+2,none⟩=some (.string y.1.1.1.1.t):=J2.out.row.cell HYk.out 2 _ rfl
     have r3:wr.cell? ⟨g,(k+1)*12+3,none⟩=some (.slice y.1.1.1.1.LA y.1.1.1.1.ln y.1.1.1.1.lc):=J2.out.row.cell HYk.out 3 _ rfl
     have r4:wr.cell? ⟨g,(k+1)*12+4,none⟩=some (.slice y.1.1.1.1.DA y.1.1.1.1.dn y.1.1.1.1.dc):=J2.out.row.cell HYk.out 4 _ rfl
     have r5:wr.cell? ⟨g,(k+1)*12+5,none⟩=some (.bool y.1.1.2):=J2.out.row.cell HYk.out 5 _ rfl
     have r6:wr.cell? ⟨g,(k+1)*12+6,none⟩=some (.int .i64 y.1.2.1.1.k):=J2.out.row.cell HYk.out 6 _ rfl
     have r7:wr.cell? ⟨g,(k+1)*12+7,none⟩=some (.int .i64 y.1.2.1.1.n):=J2.out.row.cell HYk.out 7 _ rfl
     have r8:wr.cell? ⟨g,(k+1)*12+8,none⟩=some (.string y.1.2.1.1.t):=J2.out.row.cell HYk.out 8 _ rfl
     have r9:wr.cell? ⟨g,(k+1)*12+9,none⟩=some (.slice y.1.2.1.1.LA y.1.2.1.1.ln y.1.2.1.1.lc):=J2.out.row.cell HYk.out 9 _ rfl
     have r10:wr.cell? ⟨g,(k+1)*12+10,none⟩=some (.slice y.1.2.1.1.DA y.1.2.1.1.dn y.1.2.1.1.dc):=J2.out.row.cell HYk.out 10 _ rfl
     have r11:wr.cell? ⟨g,(k+1)*12+11,none⟩=some (.bool y.1.2.2):=J2.out.row.cell HYk.out 11 _ rfl
     have z:=SRowSp.frozen J2.out.row
     clear hk hPP I hkA hkl
     go_upto_region 11 with fail
     go_region
     all_goals
      clear p0 p1 p2 p3 p4 p5 p6 p7 p8 p9 p10 p11 r0 r1 r2 r3 r4 r5 r6 r7 r8 r9 r10 r11 z
      go_wp2_with fail
      refine⟨⟨k+1,P1++[y],P3,by go_num,by rw[HK.out];simp;omega,by rw[HPP.out];simp,?_⟩,by simp[intOf];omega⟩
      have r1:=J2.out.swap2 (List.getElem?_eq_some_iff.1 HX.out).1 (List.getElem?_eq_some_iff.1 HYk.out).1 x y
      rw[HSw.out] at r1
      exact r1
    ·have HE:Hid (IsSp g w (A++(Y1++x::Y2)++D) wr):=by
      have e:P2=[]:=List.eq_nil_of_length_eq_zero (by have h1:=HY1.out;rw[hPP] at h1;simp at h1;have:=HM.out;omega)
      rw[e,List.append_nil] at hPP
      rw[e] at I
      rw[Hid,hPP]
      simpa using I
     clear hk hPP I hkl
     go_wp2_with fail
     go_end0
     exact⟨rfl,_,HS.out,HE.out⟩
theorem merge_last{α:Type}{cm:α→α→Int}(H:Ordered cm){y:α×Nat}{X1 X2:List (α×Nat)}(hX:(X1++X2).Pairwise (RT cm))(ht:∀x∈X1++X2,x.2<y.2)(h1:∀x∈X1,¬cm y.1 x.1<0)(h2:∀x∈X2,cm y.1 x.1<0):Sorted cm ((X1++X2)++[y]) (X1++y::X2):=by
 refine⟨List.perm_middle.trans (List.perm_append_singleton y _).symm,?_⟩
 rw[List.pairwise_append] at hX ⊢
 refine⟨hX.1,List.pairwise_cons.2 ⟨fun x hx=>.inl (h2 x hx),hX.2.1⟩,fun x hx z hz=>?_⟩
 rcases List.mem_cons.1 hz with rfl|hz
 ·unfold RT
  have:=h1 x hx
  have:=H.anti z.1 x.1
  have:=ht x (by simp[hx])
  omega
 ·exact hX.2.2 x hx z hz
theorem sym2Sp(H:Ordered (fun p q:PS=>cmC (spP p).1 (spP q).1))(A X:List (PS×Nat))(y:PS×Nat)(D:List (PS×Nat))(g n c a m b:Nat)(aI mI bI:Int)(w:World)(h:HalvesSp A X [y] D g n w)(ha:a=A.length)(hm:m=a+X.length)(hb:b=m+1)(hX2:2≤X.length)(haI:aI=a)(hmI:mI=m)(hbI:bI=b):
 Calls Tryz.prog 208 #[.slice (some ⟨g,0,none⟩) n c,.int .i64 aI,.int .i64 mI,.int .i64 bI,.func (.func 146) #[] #[]] w (MergedSp g w A X [y] D):=by
 subst haI hmI hbI
 have hz:=h.sz
 unfold reach at hz
 have hbn:b≤n:=by have:=h.ln;simp at this;omega
 have ham:((m:Int)-(a:Int)==1)=false:=by simp;omega
 have hbm:((b:Int)-(m:Int)==1)=true:=by simp;omega
 have HA:=qD ha
 have HM:=qD hm
 have hm1:a≤m:=by omega
 have hmb:m<b:=by omega
 have HH:=qD h
 have HO:=qD H
 have I0:Hid (IsSp g w (A++X++[y]++D) w):=qD ⟨h.row,But.refl⟩
 clear h ha hm hb H
 go_enter Tryz.func208,Tryz.ntmps208
 go_wp2_with fail
 go_loopw [14,15] (fun v14 v15 wr=>∃(i j:Nat),v14=.int .i64 i∧v15=.int .i64 j∧a≤i∧i≤j∧j≤m∧(∀(k:Nat) x,X[k]?=some x→a+k<i→¬cmC (spP y.1).1 (spP x.1).1<0)∧(∀(k:Nat) x,X[k]?=some x→j≤a+k→cmC (spP y.1).1 (spP x.1).1<0)∧IsSp g w (A++X++[y]++D) wr) (fun v14 v15 _=>(intOf v15).toNat-(intOf v14).toNat)
 case atStart=>exact⟨a,m,rfl,rfl,qL,hm1,qL,fun k y _ hk=>by omega,fun k y hy hk=>by have:=(List.getElem?_eq_some_iff.1 hy).1;have:=HM.out;omega,I0.out⟩
 case round=>
  obtain⟨i,j,rfl,rfl,hmi,hij,hjb,hlo,hhi,I⟩:=hrel
  have HLo:=qD hlo
  have HHi:=qD hhi
  have J:=qD I
  clear hlo hhi
  by_cases hlt:i<j
  ·go_upto_region 17 with fail
   obtain⟨h,hh⟩:∃h:Nat,((i:Int)+(j:Int))/2=(h:Int):=⟨(i+j)/2,by omega⟩
   rw[hh]
   have h1:i≤h:=by omega
   have h2:h<j:=by omega
   clear hh
   obtain⟨x,hxX⟩:∃x,X[h-a]?=some x:=⟨_,List.getElem?_eq_getElem (by have:=HM.out;omega)⟩
   have hx:(A++X++[y]++D)[h]?=some x:=by
    have hA:=HA.out
    rw[List.append_assoc,List.append_assoc,List.getElem?_append_right (by omega),List.getElem?_append_left (by have:=(List.getElem?_eq_some_iff.1 hxX).1;omega),←hA]
    exact hxX
   have hy:(A++X++[y]++D)[m]?=some y:=by
    have hA:=HA.out
    have hM:=HM.out
    rw[List.append_assoc,List.getElem?_append_right (by simp;omega),show m-(A++X).length=0 by simp;omega]
    rfl
   have p0:wr.cell? ⟨g,h*12,none⟩=some (.int .i64 x.1.1.1.1.k):=I.row.cell hx 0 _ rfl
   have p1:wr.cell? ⟨g,h*12+1,none⟩=some (.int .i64 x.1.1.1.1.n):=I.row.cell hx 1 _ rfl
   have p2:wr.cell? ⟨g,h*12+2,none⟩=some (.string x.1.1.1.1.t):=I.row.cell hx 2 _ rfl
   have p3:wr.cell? ⟨g,h*12+3,none⟩=some (.slice x.1.1.1.1.LA x.1.1.1.1.ln x.1.1.1.1.lc):=I.row.cell hx 3 _ rfl
   have p4:wr.cell? ⟨g,h*12+4,none⟩=some (.slice x.1.1.1.1.DA x.1.1.1.1.dn x.1.1.1.1.dc):=I.row.cell hx 4 _ rfl
   have p5:wr.cell? ⟨g,h*12+5,none⟩=some (.bool x.1.1.2):=I.row.cell hx 5 _ rfl
   have p6:wr.cell? ⟨g,h*12+6,none⟩=some (.int .i64 x.1.2.1.1.k):=I.row.cell hx 6 _ rfl
   have p7:wr.cell? ⟨g,h*12+7,none⟩=some (.int .i64 x.1.2.1.1.n):=I.row.cell hx 7 _ rfl
   have p8:wr.cell? ⟨g,h*12+8,none⟩=some (.string x.1.2.1.1.t):=I.row.cell hx 8 _ rfl
   have p9:wr.cell? ⟨g,h*12+9,none⟩=some (.slice x.1.2.1.1.LA x.1.2.1.1.ln x.1.2.1.1.lc):=I.row.cell hx 9 _ rfl
   have p10:wr.cell? ⟨g,h*12+10,none⟩=some (.slice x.1.2.1.1.DA x.1.2.1.1.dn x.1.2.1.1.dc):=I.row.cell hx 10 _ rfl
   have p11:wr.cell? ⟨g,h*12+11,none⟩=some (.bool x.1.2.2):=I.row.cell hx 11 _ rfl
   have r0:wr.cell? ⟨g,m*12,none⟩=some (.int .i64 y.1.1.1.1.k):=I.row.cell hy 0 _ rfl
   have r1:wr.cell? ⟨g,m*12+1,none⟩=some (.int .i64 y.1.1.1.1.n):=I.row.cell hy 1 _ rfl
   have r2:wr.cell? ⟨g,m*12+2,none⟩=some (.string y.1.1.1.1.t):=I.row.cell hy 2 _ rfl
   have r3:wr.cell? ⟨g,m*12+3,none⟩=some (.slice y.1.1.1.1.LA y.1.1.1.1.ln y.1.1.1.1.lc):=I.row.cell hy 3 _ rfl
   have r4:wr.cell? ⟨g,m*12+4,none⟩=some (.slice y.1.1.1.1.DA y.1.1.1.1.dn y.1.1.1.1.dc):=I.row.cell hy 4 _ rfl
   have r5:wr.cell? ⟨g,m*12+5,none⟩=some (.bool y.1.1.2):=I.row.cell hy 5 _ rfl
   have r6:wr.cell? ⟨g,m*12+6,none⟩=some (.int .i64 y.1.2.1.1.k):=I.row.cell hy 6 _ rfl
   have r7:wr.cell? ⟨g,m*12+7,none⟩=some (.int .i64 y.1.2.1.1.n):=I.row.cell hy 7 _ rfl
   have r8:wr.cell? ⟨g,m*12+8,none⟩=some (.string y.1.2.1.1.t):=I.row.cell hy 8 _ rfl
   have r9:wr.cell? ⟨g,m*12+9,none⟩=some (.slice y.1.2.1.1.LA y.1.2.1.1.ln y.1.2.1.1.lc):=I.row.cell hy 9 _ rfl
   have r10:wr.cell? ⟨g,m*12+10,none⟩=some (.slice y.1.2.1.1.DA y.1.2.1.1.dn y.1.2.1.1.dc):=I.row.cell hy 10 _ rfl
   have r11:wr.cell? ⟨g,m*12+11,none⟩=some (.bool y.1.2.2):=I.row.cell hy 11 _ rfl
   have P0:∀k:BW wr,k.val.cell? ⟨g,h*12,none⟩=some (.int .i64 x.1.1.1.1.k):=fun k=>k.cell p0
   have P1:∀k:BW wr,k.val.cell? ⟨g,h*12+1,none⟩=some (.int .i64 x.1.1.1.1.n):=fun k=>k.cell p1
   have P2:∀k:BW wr,k.val.cell? ⟨g,h*12+2,none⟩=some (.string x.1.1.1.1.t):=fun k=>k.cell p2
   have P3:∀k:BW wr,k.val.cell? ⟨g,h*12+3,none⟩=some (.slice x.1.1.1.1.LA x.1.1.1.1.ln x.1.1.1.1.lc):=fun k=>k.cell p3
   have P4:∀k:BW wr,k.val.cell? ⟨g,h*12+4,none⟩=some (.slice x.1.1.1.1.DA x.1.1.1.1.dn x.1.1.1.1.dc):=fun k=>k.cell p4
   have P5:∀k:BW wr,k.val.cell? ⟨g,h*12+5,none⟩=some (.bool x.1.1.2):=fun k=>k.cell p5
   have P6:∀k:BW wr,k.val.cell? ⟨g,h*12+6,none⟩=some (.int .i64 x.1.2.1.1.k):=fun k=>k.cell p6
   have P7:∀k:BW wr,k.val.cell? ⟨g,h*12+7,none⟩=some (.int .i64 x.1.2.1.1.n):=fun k=>k.cell p7
   have P8:∀k:BW wr,k.val.cell? ⟨g,h*12+8,none⟩=some (.string x.1.2.1.1.t):=fun k=>k.cell p8
   have P9:∀k:BW wr,k.val.cell? ⟨g,h*12+9,none⟩=some (.slice x.1.2.1.1.LA x.1.2.1.1.ln x.1.2.1.1.lc):=fun k=>k.cell p9
   have P10:∀k:BW wr,k.val.cell? ⟨g,h*12+10,none⟩=some (.slice x.1.2.1.1.DA x.1.2.1.1.dn x.1.2.1.1.dc):=fun k=>k.cell p10
   have P11:∀k:BW wr,k.val.cell? ⟨g,h*12+11,none⟩=some (.bool x.1.2.2):=fun k=>k.cell p11
   have R0:∀k:BW wr,k.val.cell? ⟨g,m*12,none⟩=some (.int .i64 y.1.1.1.1.k):=fun k=>k.cell r0
   have R1:∀k:BW wr,k.val.cell? ⟨g,m*12+1,none⟩=some (.int .i64 y.1.1.1.1.n):=fun k=>k.cell r1
   have R2:∀k:BW wr,k.val.cell? ⟨g,m*12+2,none⟩=some (.string y.1.1.1.1.t):=fun k=>k.cell r2
   have R3:∀k:BW wr,k.val.cell? ⟨g,m*12+3,none⟩=some (.slice y.1.1.1.1.LA y.1.1.1.1.ln y.1.1.1.1.lc):=fun k=>k.cell r3
   have R4:∀k:BW wr,k.val.cell? ⟨g,m*12+4,none⟩=some (.slice y.1.1.1.1.DA y.1.1.1.1.dn y.1.1.1.1.dc):=fun k=>k.cell r4
   have R5:∀k:BW wr,k.val.cell? ⟨g,m*12+5,none⟩=some (.bool y.1.1.2):=fun k=>k.cell r5
   have R6:∀k:BW wr,k.val.cell? ⟨g,m*12+6,none⟩=some (.int .i64 y.1.2.1.1.k):=fun k=>k.cell r6
   have R7:∀k:BW wr,k.val.cell? ⟨g,m*12+7,none⟩=some (.int .i64 y.1.2.1.1.n):=fun k=>k.cell r7
   have R8:∀k:BW wr,k.val.cell? ⟨g,m*12+8,none⟩=some (.string y.1.2.1.1.t):=fun k=>k.cell r8
   have R9:∀k:BW wr,k.val.cell? ⟨g,m*12+9,none⟩=some (.slice y.1.2.1.1.LA y.1.2.1.1.ln y.1.2.1.1.lc):=fun k=>k.cell r9
   have R10:∀k:BW wr,k.val.cell? ⟨g,m*12+10,none⟩=some (.slice y.1.2.1.1.DA y.1.2.1.1.dn y.1.2.1.1.dc):=fun k=>k.cell r10
   have R11:∀k:BW wr,k.val.cell? ⟨g,m*12+11,none⟩=some (.bool y.1.2.2):=fun k=>k.cell r11
   have i0:(0:Int)≤(h:Int):=by omega
   have i1:(h:Int)<(n:Int):=by omega
   have i2:(0:Int)≤(m:Int):=by omega
   have i3:(m:Int)<(n:Int):=by omega
   have K1:Hid (∀k:BW wr,Calls Tryz.prog 146 #[aggSp y,aggSp x] k.val fun e w''=>e=.returned (.int .i64 (cmC (spP y.1).1 (spP x.1).1))∧∃k:BW wr,w''=k.val):=fun k=>
    Calls.bw (HH.out.cmp y x (by simp) (by simp[List.mem_of_getElem? hxX]) k.val (I.but.step k.below))
   have HY:=qD hxX
   clear p0 p1 p2 p3 p4 p5 p6 p7 p8 p9 p10 p11 r0 r1 r2 r3 r4 r5 r6 r7 r8 r9 r10 r11 hx hy hxX I
   refine wp_region_bw (by kernel_rfl) (by kernel_rfl) ?_
   repeat(go_big_quiet_step (with_reducible exact K1.out _))
   refine wpQuiet_nil ?_
   rintro _ ⟨kw,rfl⟩
   have J2:=qD (J.out.step kw.below)
   clear P0 P1 P2 P3 P4 P5 P6 P7 P8 P9 P10 P11 R0 R1 R2 R3 R4 R5 R6 R7 R8 R9 R10 R11 K1 i0 i1 i2 i3
   generalize kw.val=w2 at*
   by_cases hc:cmC (spP y.1).1 (spP x.1).1<0
   ·have HHi2:Hid (∀(k:Nat) z,X[k]?=some z→h≤a+k→cmC (spP y.1).1 (spP z.1).1<0):=fun k z hz hk=>by
     by_cases e:k=h-a
     ·subst e
      rw[HY.out] at hz
      cases hz
      exact hc
     ·exact cm_lt_le HO.out (y:=x.1) hc (RT.le (pw_at HH.out.hX (by omega) HY.out hz))
    have d4:(!decide (cmC (spP y.1).1 (spP x.1).1<0))=false:=by rw[decide_eq_true hc];rfl
    go_wp2_with fail
    all_goals first|(rename_i e;rw[d4] at e;contradiction)|skip
    go_roundw
    case rel=>exact⟨i,h,rfl,rfl,hmi,h1,by omega,HLo.out,HHi2.out,J2.out⟩
    case measure=>simp[intOf];omega
   ·have HLo2:Hid (∀(k:Nat) z,X[k]?=some z→a+k<h+1→¬cmC (spP y.1).1 (spP z.1).1<0):=fun k z hz hk=>by
     by_cases e:k=h-a
     ·subst e
      rw[HY.out] at hz
      cases hz
      exact hc
     ·have q1:=RT.le (pw_at HH.out.hX (by omega) hz HY.out)
      have q2:cmC (spP x.1).1 (spP y.1).1=-(cmC (spP y.1).1 (spP x.1).1):=HO.out.anti y.1 x.1
      have q3:cmC (spP z.1).1 (spP y.1).1≤0:=cm_le_le HO.out (y:=x.1) q1 (show cmC (spP x.1).1 (spP y.1).1≤0 by omega)
      have q4:cmC (spP y.1).1 (spP z.1).1=-(cmC (spP z.1).1 (spP y.1).1):=HO.out.anti z.1 y.1
      omega
    have d4:(!decide (cmC (spP y.1).1 (spP x.1).1<0))=true:=by rw[decide_eq_false hc];rfl
    go_wp2_with fail
    all_goals first|(rename_i e;rw[d4] at e;contradiction)|skip
    go_roundw
    case rel=>exact⟨h+1,j,by go_num,rfl,by omega,by omega,hjb,HLo2.out,HHi.out,J2.out⟩
    case measure=>simp[intOf];omega
  ·obtain rfl:i=j:=by omega
   obtain⟨X1,X2,hXX,hX1⟩:∃X1 X2,X=X1++X2∧X1.length=i-a:=⟨X.take (i-a),X.drop (i-a),(List.take_append_drop _ X).symm,by rw[List.length_take];have:=HM.out;omega⟩
   have HS:Hid (Sorted (fun p q:PS=>cmC (spP p).1 (spP q).1) (X++[y]) (X1++y::X2)):=by
    have hp:=HH.out.hX
    have ht:∀x∈X,x.2<y.2:=fun x hx=>HH.out.hT x hx y (by simp)
    rw[hXX] at hp ht
    rw[Hid,hXX]
    refine merge_last HO.out hp ht (fun x hx=>?_) (fun x hx=>?_)
    ·obtain⟨k,hk⟩:=List.getElem?_of_mem hx
     have hkl:=(List.getElem?_eq_some_iff.1 hk).1
     exact HLo.out k x (by rw[hXX,List.getElem?_append_left hkl];exact hk) (by omega)
    ·obtain⟨k,hk⟩:=List.getElem?_of_mem hx
     exact HHi.out (X1.length+k) x (by rw[hXX,List.getElem?_append_right (by omega)];simpa using hk) (by omega)
   have HXX:=qD hXX
   have HX1:=qD hX1
   have hX2l:X2.length=m-i:=by have h1:=HM.out;rw[hXX] at h1;simp at h1;omega
   have HX2:=qD hX2l
   clear hXX hX1 I HLo HHi hX2l
   go_wp2_with fail
   go_loopw [17] (fun v17 wr=>∃(k:Nat) (P1 P2:List (PS×Nat)),v17=.int .i64 k∧k=i+P1.length∧X2=P1++P2∧IsSp g w ((A++X1)++(P1++y::P2)++D) wr) (fun v17 _=>(intOf v17).toNat)
   case atStart=>
    refine⟨m,X2,[],rfl,by have:=HX2.out;omega,by simp,?_⟩
    have:=J.out
    rw[HXX.out] at this
    simpa using this
   case round=>
    obtain⟨k,P1,P2,rfl,hk,hPP,I⟩:=hrel
    have HPP:=qD hPP
    have HK:=qD hk
    have J2:=qD I
    have hkm:k≤m:=by have h1:=HX2.out;rw[hPP] at h1;simp at h1;omega
    by_cases hlt2:i<k
    ·obtain⟨P0,z,hP0⟩:∃P0 z,P1=P0++[z]:=by
      rcases List.eq_nil_or_concat P1 with h|⟨P0,z,h⟩
      ·rw[h] at hk;simp at hk;omega
      ·exact⟨P0,z,by rw[h,List.concat_eq_append]⟩
     have hkA:k=(A++X1).length+(P0.length+1):=by rw[hk,hP0];have:=HX1.out;have:=HA.out;simp;omega
     have HYk:Hid (((A++X1)++(P1++y::P2)++D)[k]?=some y):=by
      rw[Hid,hP0,hkA,show(A++X1)++((P0++[z])++y::P2)++D=(A++X1++P0++[z])++y::(P2++D) by simp,List.getElem?_append_right (by simp;omega),show(A++X1).length+(P0.length+1)-(A++X1++P0++[z]).length=0 by simp;omega]
      rfl
     have HZk:Hid (((A++X1)++(P1++y::P2)++D)[k-1]?=some z):=by
      rw[Hid,hP0,hkA,show(A++X1)++((P0++[z])++y::P2)++D=(A++X1++P0)++z::(y::(P2++D)) by simp,List.getElem?_append_right (by simp;omega),show(A++X1).length+(P0.length+1)-1-(A++X1++P0).length=0 by simp;omega]
      rfl
     have HSw:Hid ((((A++X1)++(P1++y::P2)++D).set k z).set (k-1) y=(A++X1)++(P0++y::z::P2)++D):=by
      rw[Hid,hP0,hkA]
      exact swap_list (A++X1) P0 P2 D y z
     have HP0:=qD hP0
     have hk1:1≤k:=by omega
     have p0:wr.cell? ⟨g,k*12,none⟩=some (.int .i64 y.1.1.1.1.k):=J2.out.row.cell HYk.out 0 _ rfl
     have p1:wr.cell? ⟨g,k*12+1,none⟩=some (.int .i64 y.1.1.1.1.n):=J2.out.row.cell HYk.out 1 _ rfl
     have p2:wr.cell? ⟨g,k*12+2,none⟩=some (.string y.1.1.1.1.t):=J2.out.row.cell HYk.out 2 _ rfl
     have p3:wr.cell? ⟨g,k*12+3,none⟩=some (.slice y.1.1.1.1.LA y.1.1.1.1.ln y.1.1.1.1.lc):=J2.out.row.cell HYk.out 3 _ rfl
     have p4:wr.cell? ⟨g,k*12+4,none⟩=some (.slice y.1.1.1.1.DA y.1.1.1.1.dn y.1.1.1.1.dc):=J2.out.row.cell HYk.out 4 _ rfl
     have p5:wr.cell? ⟨g,k*12+5,none⟩=some (.bool y.1.1.2):=J2.out.row.cell HYk.out 5 _ rfl
     have p6:wr.cell? ⟨g,k*12+6,none⟩=some (.int .i64 y.1.2.1.1.k):=J2.out.row.cell HYk.out 6 _ rfl
     have p7:wr.cell? ⟨g,k*12+7,none⟩=some (.int .i64 y.1.2.1.1.n):=J2.out.row.cell HYk.out 7 _ rfl
     have p8:wr.cell? ⟨g,k*12+8,none⟩=some (.string y.1.2.1.1.t):=J2.out.row.cell HYk.out 8 _ rfl
     have p9:wr.cell? ⟨g,k*12+9,none⟩=some (.slice y.1.2.1.1.LA y.1.2.1.1.ln y.1.2.1.1.lc):=J2.out.row.cell HYk.out 9 _ rfl
     have p10:wr.cell? ⟨g,k*12+10,none⟩=some (.slice y.1.2.1.1.DA y.1.2.1.1.dn y.1.2.1.1.dc):=J2.out.row.cell HYk.out 10 _ rfl
     have p11:wr.cell? ⟨g,k*12+11,none⟩=some (.bool y.1.2.2):=J2.out.row.cell HYk.out 11 _ rfl
     have r0:wr.cell? ⟨g,(k-1)*12,none⟩=some (.int .i64 z.1.1.1.1.k):=J2.out.row.cell HZk.out 0 _ rfl
     have r1:wr.cell? ⟨g,(k-1)*12+1,none⟩=some (.int .i64 z.1.1.1.1.n):=J2.out.row.cell HZk.out 1 _ rfl
     have r2:wr.cell? ⟨g,(k-1)*12+2,none⟩=some (.string z.1.1.1.1.t):=J2.out.row.cell HZk.out 2 _ rfl
     have r3:wr.cell? ⟨g,(k-1)*12+3,none⟩=some (.slice z.1.1.1.1.LA z.1.1.1.1.ln z.1.1.1.1.lc):=J2.out.row.cell HZk.out 3 _ rfl
     have r4:wr.cell? ⟨g,(k-1)*12+4,none⟩=some (.slice z.1.1.1.1.DA z.1.1.1.1.dn z.1.1.1.1.dc):=J2.out.row.cell HZk.out 4 _ rfl
     have r5:wr.cell? ⟨g,(k-1)*12+5,none⟩=some (.bool z.1.1.2):=J2.out.row.cell HZk.out 5 _ rfl
     have r6:wr.cell? ⟨g,(k-1)*12+6,none⟩=some (.int .i64 z.1.2.1.1.k):=J2.out.row.cell HZk.out 6 _ rfl
     have r7:wr.cell? ⟨g,(k-1)*12+7,none⟩=some (.int .i64 z.1.2.1.1.n):=J2.out.row.cell HZk.out 7 _ rfl
     have r8:wr.cell? ⟨g,(k-1)*12+8,none⟩=some (.string z.1.2.1.1.t):=J2.out.row.cell HZk.out 8 _ rfl
     have r9:wr.cell? ⟨g,(k-1)*12+9,none⟩=some (.slice z.1.2.1.1.LA z.1.2.1.1.ln z.1.2.1.1.lc):=J2.out.row.cell HZk.out 9 _ rfl
     have r10:wr.cell? ⟨g,(k-1)*12+10,none⟩=some (.slice z.1.2.1.1.DA z.1.2.1.1.dn z.1.2.1.1.dc):=J2.out.row.cell HZk.out 10 _ rfl
     have r11:wr.cell? ⟨g,(k-1)*12+11,none⟩=some (.bool z.1.2.2):=J2.out.row.cell HZk.out 11 _ rfl
     have zf:=SRowSp.frozen J2.out.row
     clear hk hPP I hkA hP0
     go_upto_region 23 with fail
     go_region
     all_goals
      clear p0 p1 p2 p3 p4 p5 p6 p7 p8 p9 p10 p11 r0 r1 r2 r3 r4 r5 r6 r7 r8 r9 r10 r11 zf
      go_wp2_with fail
      refine⟨⟨k-1,P0,z::P2,by rw[show((k-1:Nat):Int)=(k:Int)-1 by omega],by have h1:=HK.out;rw[HP0.out] at h1;simp at h1;omega,by rw[HPP.out,HP0.out];simp,?_⟩,by simp[intOf];omega⟩
      have r1:=J2.out.swap (List.getElem?_eq_some_iff.1 HYk.out).1 y z
      rw[HSw.out] at r1
      exact r1
    ·have HE:Hid (IsSp g w (A++(X1++y::X2)++D) wr):=by
      have e:P1=[]:=List.eq_nil_of_length_eq_zero (by omega)
      rw[e,List.nil_append] at hPP
      rw[e] at I
      rw[Hid,hPP]
      simpa using I
     clear hk hPP I
     go_wp2_with fail
     go_end0
     exact⟨rfl,_,HS.out,HE.out⟩
section
variable {α:Type} {cm:α→α→Int}
theorem at_le(H:Ordered cm){l:List (α×Nat)}(h:l.Pairwise (RT cm)){i j:Nat}{x y:α×Nat}(hij:i≤j)(hx:l[i]?=some x)(hy:l[j]?=some y):cm x.1 y.1≤0:=by
 by_cases e:i=j
 ·subst e
  rw[hx] at hy
  cases hy
  have:=H.anti x.1 x.1
  omega
 ·exact RT.le (pw_at h (by omega) hx hy)
theorem split_sorted{X1 X2 Y1 Y2 S1 S2:List (α×Nat)}(hX:(X1++X2).Pairwise (RT cm))(hY:(Y1++Y2).Pairwise (RT cm))(h12:∀x∈X1,∀y∈Y2,RT cm x y)(h21:∀y∈Y1,∀x∈X2,RT cm y x)(h1:Sorted cm (X1++Y1) S1)(h2:Sorted cm (X2++Y2) S2):Sorted cm ((X1++X2)++(Y1++Y2)) (S1++S2):=by
 refine⟨(h1.1.append h2.1).trans ?_,List.pairwise_append.2 ⟨h1.2,h2.2,fun u hu v hv=>?_⟩⟩
 ·rw[List.append_assoc,List.append_assoc]
  refine List.Perm.append_left X1 ?_
  rw[←List.append_assoc,←List.append_assoc]
  exact List.Perm.append_right Y2 List.perm_append_comm
 ·rcases List.mem_append.1 (h1.1.mem_iff.1 hu) with hu|hu<;>rcases List.mem_append.1 (h2.1.mem_iff.1 hv) with hv|hv
  ·exact(List.pairwise_append.1 hX).2.2 u hu v hv
  ·exact h12 u hu v hv
  ·exact h21 u hu v hv
  ·exact(List.pairwise_append.1 hY).2.2 u hu v hv
theorem atX{A X Y D:List (α×Nat)}{i:Nat}(h1:A.length≤i)(h2:i<A.length+X.length):(A++X++Y++D)[i]?=X[i-A.length]?:=by
 rw[List.append_assoc,List.append_assoc,List.getElem?_append_right h1,List.getElem?_append_left (by omega)]
theorem atY{A X Y D:List (α×Nat)}{i:Nat}(h1:A.length+X.length≤i)(h2:i<A.length+X.length+Y.length):(A++X++Y++D)[i]?=Y[i-(A.length+X.length)]?:=by
 rw[List.append_assoc,List.getElem?_append_right (by simp;omega),List.getElem?_append_left (by simp;omega)]
 simp
theorem sym_parts(H:Ordered cm){A X Y D:List (α×Nat)}{a m b mid s0 r0 t:Nat}(ha:a=A.length)(hm:m=a+X.length)(hb:b=m+Y.length)(hX:X.Pairwise (RT cm))(hY:Y.Pairwise (RT cm))(hT:∀x∈X,∀y∈Y,x.2<y.2)(hs:s0≤t)(hr:t≤r0)(hmid:mid=(a+b)/2)(hc:(mid<m∧s0=mid+m-b∧r0=mid)∨(m≤mid∧s0=a∧r0=m))(lo:t=s0∨∃x y,(A++X++Y++D)[t-1]?=some x∧(A++X++Y++D)[mid+m-t]?=some y∧¬cm y.1 x.1<0)(hi:t=r0∨∃x y,(A++X++Y++D)[t]?=some x∧(A++X++Y++D)[mid+m-1-t]?=some y∧cm y.1 x.1<0):
 ∃X1 X2 Y1 Y2,X=X1++X2∧Y=Y1++Y2∧X1.length=t-a∧X2.length=m-t∧Y1.length=mid-t∧Y2.length=b+t-(mid+m)∧(∀x∈X1,∀y∈Y2,RT cm x y)∧(∀y∈Y1,∀x∈X2,RT cm y x):=by
 have HLo:=qD lo
 have HHi:=qD hi
 clear lo hi
 have l1:(X.take (t-a)).length=t-a:=by rw[List.length_take];omega
 have l2:(X.drop (t-a)).length=m-t:=by rw[List.length_drop];omega
 have l3:(Y.take (mid-t)).length=mid-t:=by rw[List.length_take];omega
 have l4:(Y.drop (mid-t)).length=b+t-(mid+m):=by rw[List.length_drop];omega
 refine⟨_,_,_,_,(List.take_append_drop (t-a) X).symm,(List.take_append_drop (mid-t) Y).symm,l1,l2,l3,l4,fun x hx y hy=>?_,fun y hy x hx=>?_⟩
 ·obtain⟨k,hk⟩:=List.getElem?_of_mem hx
  obtain⟨k',hk'⟩:=List.getElem?_of_mem hy
  have q1:=(List.getElem?_eq_some_iff.1 hk).1
  have q2:=(List.getElem?_eq_some_iff.1 hk').1
  rw[List.getElem?_take_of_lt (by omega)] at hk
  rw[List.getElem?_drop] at hk'
  have ht:=hT x (List.mem_of_getElem? hk) y (List.mem_of_getElem? hk')
  rcases HLo.out with lo|⟨x0,y0,e1,e2,e3⟩
  ·omega
  ·rw[atX (by omega) (by omega)] at e1
   rw[atY (by omega) (by omega)] at e2
   have r1:=at_le H hX (by omega) hk e1
   have r2:=at_le H hY (by omega) e2 hk'
   have r3:=H.anti y0.1 x0.1
   have r4:=cm_le_le H r1 (show cm x0.1 y0.1≤0 by omega)
   have r5:=cm_le_le H r4 r2
   unfold RT
   omega
 ·obtain⟨k,hk⟩:=List.getElem?_of_mem hx
  obtain⟨k',hk'⟩:=List.getElem?_of_mem hy
  have q1:=(List.getElem?_eq_some_iff.1 hk).1
  have q2:=(List.getElem?_eq_some_iff.1 hk').1
  rw[List.getElem?_drop] at hk
  rw[List.getElem?_take_of_lt (by omega)] at hk'
  rcases HHi.out with hi|⟨x0,y0,e1,e2,e3⟩
  ·omega
  ·rw[atX (by omega) (by omega)] at e1
   rw[atY (by omega) (by omega)] at e2
   have r1:=at_le H hX (by omega) e1 hk
   have r2:=at_le H hY (by omega) hk' e2
   exact .inl (cm_lt_le H (cm_le_lt H r2 e3) r1)
end
theorem CmpOkSp.less{g:Nat}{w w1:World}{U U':List (PS×Nat)}(h:CmpOkSp g w U)(hb:But g w w1)(hs:∀x∈U',x∈U):CmpOkSp g w1 U':=fun x y hx hy wr hr=>h x y (hs x hx) (hs y hy) wr (hb.trans hr)
theorem halfSpL{A X1 X2 Y1 Y2 D:List (PS×Nat)}{g n:Nat}{w w1:World}(h:HalvesSp A (X1++X2) (Y1++Y2) D g n w)(I:IsSp g w (A++X1++Y1++X2++Y2++D) w1):HalvesSp A X1 Y1 (X2++Y2++D) g n w1:=
 ⟨by have:=I.row;simpa using this,by rw[h.ln];simp;omega,h.sz,(List.pairwise_append.1 h.hX).1,(List.pairwise_append.1 h.hY).1,fun x hx y hy=>h.hT x (by simp[hx]) y (by simp[hy]),h.cmp.less I.but (fun x hx=>by rcases List.mem_append.1 hx with hx|hx<;>simp[hx])⟩
theorem halfSpR{A X1 X2 Y1 Y2 D S1:List (PS×Nat)}{g n:Nat}{w w1:World}(h:HalvesSp A (X1++X2) (Y1++Y2) D g n w)(hl:S1.length=X1.length+Y1.length)(I:IsSp g w (A++S1++(X2++Y2++D)) w1):HalvesSp (A++S1) X2 Y2 D g n w1:=
 ⟨by have:=I.row;simpa using this,by rw[h.ln];simp;omega,h.sz,(List.pairwise_append.1 h.hX).2.1,(List.pairwise_append.1 h.hY).2.1,fun x hx y hy=>h.hT x (by simp[hx]) y (by simp[hy]),h.cmp.less I.but (fun x hx=>by rcases List.mem_append.1 hx with hx|hx<;>simp[hx])⟩
theorem sorted_self{α:Type}{cm:α→α→Int}{l:List (α×Nat)}(h:l.Pairwise (RT cm)):Sorted cm l l:=⟨List.Perm.refl _,h⟩
def SymOkSp(N:Nat):Prop:=∀(A X Y D:List (PS×Nat)) (g n c a m b:Nat) (aI mI bI:Int) (w:World),HalvesSp A X Y D g n w→a=A.length→m=a+X.length→b=m+Y.length→1≤X.length→1≤Y.length→X.length+Y.length<N→aI=a→mI=m→bI=b→
 Calls Tryz.prog 208 #[.slice (some ⟨g,0,none⟩) n c,.int .i64 aI,.int .i64 mI,.int .i64 bI,.func (.func 146) #[] #[]] w (MergedSp g w A X Y D)
def LoSp(L:List (PS×Nat))(s0 nn t:Nat):Prop:=t=s0∨∃x y,L[t-1]?=some x∧L[nn-t]?=some y∧¬cmC (spP y.1).1 (spP x.1).1<0
def HiSp(L:List (PS×Nat))(r0 nn t:Nat):Prop:=t=r0∨∃x y,L[t]?=some x∧L[nn-1-t]?=some y∧cmC (spP y.1).1 (spP x.1).1<0
theorem sym3Sp(H:Ordered (fun p q:PS=>cmC (spP p).1 (spP q).1))(A X Y D:List (PS×Nat))(g n c a m b:Nat)(aI mI bI:Int)(w:World)(h:HalvesSp A X Y D g n w)(ha:a=A.length)(hm:m=a+X.length)(hb:b=m+Y.length)(hX2:2≤X.length)(hY2:2≤Y.length)(ih:SymOkSp (X.length+Y.length))(haI:aI=a)(hmI:mI=m)(hbI:bI=b):
 Calls Tryz.prog 208 #[.slice (some ⟨g,0,none⟩) n c,.int .i64 aI,.int .i64 mI,.int .i64 bI,.func (.func 146) #[] #[]] w (MergedSp g w A X Y D):=by
 subst haI hmI hbI
 have hz:=h.sz
 unfold reach at hz
 have hbn:b≤n:=by have:=h.ln;simp at this;omega
 have ham:((m:Int)-(a:Int)==1)=false:=by simp;omega
 have hbm:((b:Int)-(m:Int)==1)=false:=by simp;omega
 have HA:=qD ha
 have HM:=qD hm
 have HB:=qD hb
 have hm1:a+2≤m:=by omega
 have hmb:m+2≤b:=by omega
 have HH:=qD h
 have HO:=qD H
 have HI:=qD ih
 have I0:Hid (IsSp g w (A++X++Y++D) w):=qD ⟨h.row,But.refl⟩
 clear h ha hm hb H ih hX2 hY2
 go_enter Tryz.func208,Tryz.ntmps208
 go_upto_region 25 with fail
 obtain⟨mid,hh⟩:∃mid:Nat,((a:Int)+(b:Int))/2=(mid:Int):=⟨(a+b)/2,by omega⟩
 rw[hh]
 have HMid:Hid (mid=(a+b)/2):=by unfold Hid;omega
 have hmid1:a<mid:=by omega
 have hmid2:mid<b:=by omega
 have hmid3:2*mid≤a+b:=by omega
 have hmid4:a+b≤2*mid+1:=by omega
 clear hh
 obtain⟨s0,r0,hc⟩:∃s0 r0:Nat,(mid<m∧s0=mid+m-b∧r0=mid)∨(m≤mid∧s0=a∧r0=m):=by
  by_cases e:mid<m
  ·exact⟨_,_,.inl ⟨e,rfl,rfl⟩⟩
  ·exact⟨_,_,.inr ⟨by omega,rfl,rfl⟩⟩
 have HC:=qD hc
 have hs1:a≤s0:=by omega
 have hs2:s0≤r0:=by omega
 have hr1:r0≤m:=by omega
 have hr2:r0≤mid:=by omega
 have hs3:mid+m≤b+s0:=by omega
 clear hc
 go_upto_region 26 with fail
 obtain⟨p,hp⟩:∃p:Nat,mid+m=p+1:=⟨mid+m-1,by omega⟩
 have HP:=qD hp
 have hp1:p+1≤b+s0:=by omega
 have hp2:m+r0≤p+1:=by omega
 rw[show(mid:Int)+(m:Int)=(p:Int)+1 by omega]
 clear hp
 go_upto_if 140 with fail
 go_cut [20,21] (fun s20 s21 wx=>s20=.int .i64 s0∧s21=.int .i64 r0∧w=wx)
 case first=>as_aux_lemma=>
  rcases HC.out with⟨q1,q2,q3⟩|⟨q1,q2,q3⟩
  all_goals
   have Q2:=qD q2
   have Q3:=qD q3
   clear q2 q3
   go_wp2_with fail
   go_meet
   exact⟨congrArg (Value.int .i64) (by have:=Q2.out;have:=HP.out;omega),congrArg (Value.int .i64) (by have:=Q3.out;omega),rfl⟩
 case rest=>
  obtain⟨rfl,rfl,rfl⟩:=hcut
  go_wp2_with fail
  go_loopw [20,21] (fun v20 v21 wr=>∃(i j:Nat),v20=.int .i64 i∧v21=.int .i64 j∧s0≤i∧i≤j∧j≤r0∧LoSp (A++X++Y++D) s0 (p+1) i∧HiSp (A++X++Y++D) r0 (p+1) j∧IsSp g w (A++X++Y++D) wr) (fun v20 v21 _=>(intOf v21).toNat-(intOf v20).toNat)
  case atStart=>exact⟨s0,r0,rfl,rfl,qL,hs2,qL,.inl rfl,.inl rfl,I0.out⟩
  case round=>
   obtain⟨i,j,rfl,rfl,hmi,hij,hjb,hlo,hhi,I⟩:=hrel
   have HLo:=qD hlo
   have HHi:=qD hhi
   have J:=qD I
   clear hlo hhi
   by_cases hlt:i<j
   ·as_aux_lemma=>
    go_upto_region 35 with fail
    obtain⟨h,hh⟩:∃h:Nat,((i:Int)+(j:Int))/2=(h:Int):=⟨(i+j)/2,by omega⟩
    rw[hh]
    have h1:i≤h:=by omega
    have h2:h<j:=by omega
    clear hh
    obtain⟨x,hx,hxX⟩:∃x,(A++X++Y++D)[h]?=some x∧x∈X:=by
     have hA:=HA.out
     have hM:=HM.out
     rw[atX (by omega) (by omega)]
     exact⟨_,List.getElem?_eq_getElem (by omega),List.getElem_mem _⟩
    obtain⟨y,hy,hyY⟩:∃y,(A++X++Y++D)[p-h]?=some y∧y∈Y:=by
     have hA:=HA.out
     have hM:=HM.out
     have hB:=HB.out
     rw[atY (by omega) (by omega)]
     exact⟨_,List.getElem?_eq_getElem (by omega),List.getElem_mem _⟩
    have p0:wr.cell? ⟨g,h*12,none⟩=some (.int .i64 x.1.1.1.1.k):=I.row.cell hx 0 _ rfl
    have p1:wr.cell? ⟨g,h*12+1,none⟩=some (.int .i64 x.1.1.1.1.n):=I.row.cell hx 1 _ rfl
    have p2:wr.cell? ⟨g,h*12+2,none⟩=some (.string x.1.1.1.1.t):=I.row.cell hx 2 _ rfl
    have p3:wr.cell? ⟨g,h*12+3,none⟩=some (.slice x.1.1.1.1.LA x.1.1.1.1.ln x.1.1.1.1.lc):=I.row.cell hx 3 _ rfl
    have p4:wr.cell? ⟨g,h*12+4,none⟩=some (.slice x.1.1.1.1.DA x.1.1.1.1.dn x.1.1.1.1.dc):=I.row.cell hx 4 _ rfl
    have p5:wr.cell? ⟨g,h*12+5,none⟩=some (.bool x.1.1.2):=I.row.cell hx 5 _ rfl
    have p6:wr.cell? ⟨g,h*12+6,none⟩=some (.int .i64 x.1.2.1.1.k):=I.row.cell hx 6 _ rfl
    have p7:wr.cell? ⟨g,h*12+7,none⟩=some (.int .i64 x.1.2.1.1.n):=I.row.cell hx 7 _ rfl
    have p8:wr.cell? ⟨g,h*12+8,none⟩=some (.string x.1.2.1.1.t):=I.row.cell hx 8 _ rfl
    have p9:wr.cell? ⟨g,h*12+9,none⟩=some (.slice x.1.2.1.1.LA x.1.2.1.1.ln x.1.2.1.1.lc):=I.row.cell hx 9 _ rfl
    have p10:wr.cell? ⟨g,h*12+10,none⟩=some (.slice x.1.2.1.1.DA x.1.2.1.1.dn x.1.2.1.1.dc):=I.row.cell hx 10 _ rfl
    have p11:wr.cell? ⟨g,h*12+11,none⟩=some (.bool x.1.2.2):=I.row.cell hx 11 _ rfl
    have r0:wr.cell? ⟨g,(p-h)*12,none⟩=some (.int .i64 y.1.1.1.1.k):=I.row.cell hy 0 _ rfl
    have r1:wr.cell? ⟨g,(p-h)*12+1,none⟩=some (.int .i64 y.1.1.1.1.n):=I.row.cell hy 1 _ rfl
    have r2:wr.cell? ⟨g,(p-h)*12+2,none⟩=some (.string y.1.1.1.1.t):=I.row.cell hy 2 _ rfl
    have r3:wr.cell? ⟨g,(p-h)*12+3,none⟩=some (.slice y.1.1.1.1.LA y.1.1.1.1.ln y.1.1.1.1.lc):=I.row.cell hy 3 _ rfl
    have r4:wr.cell? ⟨g,(p-h)*12+4,none⟩=some (.slice y.1.1.1.1.DA y.1.1.1.1.dn y.1.1.1.1.dc):=I.row.cell hy 4 _ rfl
    have r5:wr.cell? ⟨g,(p-h)*12+5,none⟩=some (.bool y.1.1.2):=I.row.cell hy 5 _ rfl
    have r6:wr.cell? ⟨g,(p-h)*12+6,none⟩=some (.int .i64 y.1.2.1.1.k):=I.row.cell hy 6 _ rfl
    have r7:wr.cell? ⟨g,(p-h)*12+7,none⟩=some (.int .i64 y.1.2.1.1.n):=I.row.cell hy 7 _ rfl
    have r8:wr.cell? ⟨g,(p-h)*12+8,none⟩=some (.string y.1.2.1.1.t):=I.row.cell hy 8 _ rfl
    have r9:wr.cell? ⟨g,(p-h)*12+9,none⟩=some (.slice y.1.2.1.1.LA y.1.2.1.1.ln y.1.2.1.1.lc):=I.row.cell hy 9 _ rfl
    have r10:wr.cell? ⟨g,(p-h)*12+10,none⟩=some (.slice y.1.2.1.1.DA y.1.2.1.1.dn y.1.2.1.1.dc):=I.row.cell hy 10 _ rfl
    have r11:wr.cell? ⟨g,(p-h)*12+11,none⟩=some (.bool y.1.2.2):=I.row.cell hy 11 _ rfl
    have P0:∀k:BW wr,k.val.cell? ⟨g,h*12,none⟩=some (.int .i64 x.1.1.1.1.k):=fun k=>k.cell p0
    have P1:∀k:BW wr,k.val.cell? ⟨g,h*12+1,none⟩=some (.int .i64 x.1.1.1.1.n):=fun k=>k.cell p1
    have P2:∀k:BW wr,k.val.cell? ⟨g,h*12+2,none⟩=some (.string x.1.1.1.1.t):=fun k=>k.cell p2
    have P3:∀k:BW wr,k.val.cell? ⟨g,h*12+3,none⟩=some (.slice x.1.1.1.1.LA x.1.1.1.1.ln x.1.1.1.1.lc):=fun k=>k.cell p3
    have P4:∀k:BW wr,k.val.cell? ⟨g,h*12+4,none⟩=some (.slice x.1.1.1.1.DA x.1.1.1.1.dn x.1.1.1.1.dc):=fun k=>k.cell p4
    have P5:∀k:BW wr,k.val.cell? ⟨g,h*12+5,none⟩=some (.bool x.1.1.2):=fun k=>k.cell p5
    have P6:∀k:BW wr,k.val.cell? ⟨g,h*12+6,none⟩=some (.int .i64 x.1.2.1.1.k):=fun k=>k.cell p6
    have P7:∀k:BW wr,k.val.cell? ⟨g,h*12+7,none⟩=some (.int .i64 x.1.2.1.1.n):=fun k=>k.cell p7
    have P8:∀k:BW wr,k.val.cell? ⟨g,h*12+8,none⟩=some (.string x.1.2.1.1.t):=fun k=>k.cell p8
    have P9:∀k:BW wr,k.val.cell? ⟨g,h*12+9,none⟩=some (.slice x.1.2.1.1.LA x.1.2.1.1.ln x.1.2.1.1.lc):=fun k=>k.cell p9
    have P10:∀k:BW wr,k.val.cell? ⟨g,h*12+10,none⟩=some (.slice x.1.2.1.1.DA x.1.2.1.1.dn x.1.2.1.1.dc):=fun k=>k.cell p10
    have P11:∀k:BW wr,k.val.cell? ⟨g,h*12+11,none⟩=some (.bool x.1.2.2):=fun k=>k.cell p11
    have R0:∀k:BW wr,k.val.cell? ⟨g,(p-h)*12,none⟩=some (.int .i64 y.1.1.1.1.k):=fun k=>k.cell r0
    have R1:∀k:BW wr,k.val.cell? ⟨g,(p-h)*12+1,none⟩=some (.int .i64 y.1.1.1.1.n):=fun k=>k.cell r1
    have R2:∀k:BW wr,k.val.cell? ⟨g,(p-h)*12+2,none⟩=some (.string y.1.1.1.1.t):=fun k=>k.cell r2
    have R3:∀k:BW wr,k.val.cell? ⟨g,(p-h)*12+3,none⟩=some (.slice y.1.1.1.1.LA y.1.1.1.1.ln y.1.1.1.1.lc):=fun k=>k.cell r3
    have R4:∀k:BW wr,k.val.cell? ⟨g,(p-h)*12+4,none⟩=some (.slice y.1.1.1.1.DA y.1.1.1.1.dn y.1.1.1.1.dc):=fun k=>k.cell r4
    have R5:∀k:BW wr,k.val.cell? ⟨g,(p-h)*12+5,none⟩=some (.bool y.1.1.2):=fun k=>k.cell r5
    have R6:∀k:BW wr,k.val.cell? ⟨g,(p-h)*12+6,none⟩=some (.int .i64 y.1.2.1.1.k):=fun k=>k.cell r6
    have R7:∀k:BW wr,k.val.cell? ⟨g,(p-h)*12+7,none⟩=some (.int .i64 y.1.2.1.1.n):=fun k=>k.cell r7
    have R8:∀k:BW wr,k.val.cell? ⟨g,(p-h)*12+8,none⟩=some (.string y.1.2.1.1.t):=fun k=>k.cell r8
    have R9:∀k:BW wr,k.val.cell? ⟨g,(p-h)*12+9,none⟩=some (.slice y.1.2.1.1.LA y.1.2.1.1.ln y.1.2.1.1.lc):=fun k=>k.cell r9
    have R10:∀k:BW wr,k.val.cell? ⟨g,(p-h)*12+10,none⟩=some (.slice y.1.2.1.1.DA y.1.2.1.1.dn y.1.2.1.1.dc):=fun k=>k.cell r10
    have R11:∀k:BW wr,k.val.cell? ⟨g,(p-h)*12+11,none⟩=some (.bool y.1.2.2):=fun k=>k.cell r11
    have i0:(0:Int)≤(h:Int):=by omega
    have i1:(h:Int)<(n:Int):=by omega
    have i2:(0:Int)≤(p:Int)-(h:Int):=by omega
    have i3:(p:Int)-(h:Int)<(n:Int):=by omega
    have K1:Hid (∀k:BW wr,Calls Tryz.prog 146 #[aggSp y,aggSp x] k.val fun e w''=>e=.returned (.int .i64 (cmC (spP y.1).1 (spP x.1).1))∧∃k:BW wr,w''=k.val):=fun k=>
     Calls.bw (HH.out.cmp y x (by simp[hyY]) (by simp[hxX]) k.val (I.but.step k.below))
    have HX:=qD hx
    have HY:=qD hy
    clear p0 p1 p2 p3 p4 p5 p6 p7 p8 p9 p10 p11 r0 r1 r2 r3 r4 r5 r6 r7 r8 r9 r10 r11 hx hy hxX hyY I
    refine wp_region_bw (by as_aux_lemma=>kernel_rfl) (by as_aux_lemma=>kernel_rfl) ?_
    repeat(go_big_quiet_step (with_reducible exact K1.out _))
    refine wpQuiet_nil ?_
    rintro _ ⟨kw,rfl⟩
    have J2:=qD (J.out.step kw.below)
    clear P0 P1 P2 P3 P4 P5 P6 P7 P8 P9 P10 P11 R0 R1 R2 R3 R4 R5 R6 R7 R8 R9 R10 R11 K1 i0 i1 i2 i3
    generalize kw.val=w2 at*
    by_cases hc:cmC (spP y.1).1 (spP x.1).1<0
    ·have HHi2:Hid (HiSp (A++X++Y++D) r0 (p+1) h):=.inr ⟨x,y,HX.out,HY.out,hc⟩
     have d4:(!decide (cmC (spP y.1).1 (spP x.1).1<0))=false:=by rw[decide_eq_true hc];rfl
     go_wp2_with fail
     all_goals first|(rename_i e;rw[d4] at e;contradiction)|skip
     go_roundw
     case rel=>exact⟨i,h,rfl,rfl,hmi,h1,by omega,HLo.out,HHi2.out,J2.out⟩
     case measure=>simp[intOf];omega
    ·have HLo2:Hid (LoSp (A++X++Y++D) s0 (p+1) (h+1)):=.inr ⟨x,y,HX.out,by rw[Nat.add_sub_add_right];exact HY.out,hc⟩
     have d4:(!decide (cmC (spP y.1).1 (spP x.1).1<0))=true:=by rw[decide_eq_false hc];rfl
     go_wp2_with fail
     all_goals first|(rename_i e;rw[d4] at e;contradiction)|skip
     go_roundw
     case rel=>exact⟨h+1,j,by go_num,rfl,by omega,by omega,hjb,HLo2.out,HHi.out,J2.out⟩
     case measure=>simp[intOf];omega
   ·obtain rfl:i=j:=by omega
    obtain⟨X1,X2,Y1,Y2,hXX,hYY,l1,l2,l3,l4,h12,h21⟩:=sym_parts (D:=D) HO.out HA.out HM.out HB.out HH.out.hX HH.out.hY HH.out.hT hmi hjb HMid.out HC.out (by rw[HP.out];exact HLo.out) (by rw[HP.out];exact HHi.out)
    have HS:Hid (∀S1 S2,Sorted (fun p q:PS=>cmC (spP p).1 (spP q).1) (X1++Y1) S1→Sorted (fun p q:PS=>cmC (spP p).1 (spP q).1) (X2++Y2) S2→Sorted (fun p q:PS=>cmC (spP p).1 (spP q).1) (X++Y) (S1++S2)):=fun S1 S2 q1 q2=>by
     have hp:=HH.out.hX
     have hq:=HH.out.hY
     rw[hXX] at hp ⊢
     rw[hYY] at hq ⊢
     exact split_sorted hp hq h12 h21 q1 q2
    have HH2:Hid (HalvesSp A (X1++X2) (Y1++Y2) D g n w):=by have:=HH.out;rw[hXX,hYY] at this;exact this
    have HJ:Hid (IsSp g w (A++X1++X2++Y1++Y2++D) wr):=by have:=J.out;rw[hXX,hYY] at this;rw[Hid];simpa using this
    have HL1:=qD l1
    have HL2:=qD l2
    have HL3:=qD l3
    have HL4:=qD l4
    have hsum:mid-a<X.length+Y.length:=by have:=HM.out;have:=HB.out;omega
    have hsum2:b-mid<X.length+Y.length:=by have:=HM.out;have:=HB.out;omega
    clear hXX hYY l1 l2 l3 l4 h12 h21 I J HLo HHi
    go_upto_region 39 with fail
    obtain⟨en,hen⟩:∃en:Nat,(p:Int)+1-(i:Int)=(en:Int):=⟨p+1-i,by omega⟩
    have HEn:Hid (en+i=mid+m):=by unfold Hid;have:=HP.out;omega
    have hen1:en≤b:=by omega
    rw[hen]
    clear hen
    go_cut [185] (fun s wx=>s=.bool (decide (i<m∧m<en))∧wr=wx)
    case first=>as_aux_lemma=>
     by_cases e1:i<m<;>by_cases e2:m<en
     all_goals
      go_wp2_with fail
      go_meet
      exact⟨congrArg Value.bool (by simp[e1,e2]),rfl⟩
    case rest=>
     obtain⟨rfl,rfl⟩:=hcut
     go_upto_if 185 with fail
     go_cut [] (fun wx=>IsSp g w (A++X1++Y1++X2++Y2++D) wx)
     case first=>as_aux_lemma=>
      by_cases e:i<m∧m<en
      ·have d:decide (i<m∧m<en)=true:=decide_eq_true e
       rw[d]
       clear d
       go_wp2_with fail
       refine(rotateSp_any (A++X1) X2 Y1 (Y2++D) g n c i m en _ _ _ _ _ (by have:=HJ.out.row;simpa using this) (by rw[HH2.out.ln];simp) (by have:=HA.out;have:=HL1.out;simp;omega) (by have:=HA.out;have:=HL1.out;have:=HL2.out;simp;omega) (by have:=HA.out;have:=HL1.out;have:=HL2.out;have:=HL3.out;have:=HEn.out;simp;omega) (by have:=HL2.out;omega) (by have:=HL3.out;have:=HEn.out;omega) rfl rfl rfl HH2.out.sz).mono ?_
       rintro e w1 ⟨rfl,h1⟩
       have H1:=qD (HJ.out.then h1)
       clear h1
       go_wp2_with fail
       go_meet
       have:=H1.out
       simpa using this
      ·have d:decide (i<m∧m<en)=false:=decide_eq_false e
       rw[d]
       clear d
       go_wp2_with fail
       go_meet
       have h1:=HJ.out
       have q:X2=[]∨Y1=[]:=by
        by_cases e1:i<m
        ·exact .inr (List.eq_nil_of_length_eq_zero (by have:=HL3.out;have:=HEn.out;omega))
        ·exact .inl (List.eq_nil_of_length_eq_zero (by have:=HL2.out;omega))
       rcases q with q|q
       ·rw[q] at h1 ⊢;simpa using h1
       ·rw[q] at h1 ⊢;simpa using h1
     case rest=>
      have HJ2:=qD hcut
      clear hcut
      go_upto_region 41 with fail
      go_cut [199] (fun s wx=>s=.bool (decide (a<i∧i<mid))∧wc=wx)
      case first=>as_aux_lemma=>
       by_cases e1:a<i<;>by_cases e2:i<mid
       all_goals
        go_wp2_with fail
        go_meet
        exact⟨congrArg Value.bool (by simp[e1,e2]),rfl⟩
      case rest=>
       obtain⟨rfl,rfl⟩:=hcut
       go_upto_if 199 with fail
       go_cut [] (fun wx=>∃S1,Sorted (fun p q:PS=>cmC (spP p).1 (spP q).1) (X1++Y1) S1∧IsSp g w (A++S1++(X2++Y2++D)) wx)
       case first=>as_aux_lemma=>
        by_cases e:a<i∧i<mid
        ·have d:decide (a<i∧i<mid)=true:=decide_eq_true e
         rw[d]
         clear d
         go_wp2_with fail
         refine(HI.out A X1 Y1 (X2++Y2++D) g n c a i mid _ _ _ _ (halfSpL HH2.out HJ2.out) HA.out (by have:=HL1.out;omega) (by have:=HL3.out;omega) (by have:=HL1.out;omega) (by have:=HL3.out;omega) (by have:=HL1.out;have:=HL3.out;omega) rfl rfl rfl).mono ?_
         rintro e w1 ⟨rfl,S1,h1,h2⟩
         have H1:=qD h1
         have H2:=qD (HJ2.out.then h2)
         clear h1 h2
         go_wp2_with fail
         go_meet
         exact⟨S1,H1.out,H2.out⟩
        ·have d:decide (a<i∧i<mid)=false:=decide_eq_false e
         rw[d]
         clear d
         go_wp2_with fail
         go_meet
         have hh:=halfSpL HH2.out HJ2.out
         refine⟨X1++Y1,sorted_self ?_,by have:=HJ2.out;simpa using this⟩
         have q:X1=[]∨Y1=[]:=by
          by_cases e1:a<i
          ·exact .inr (List.eq_nil_of_length_eq_zero (by have:=HL3.out;omega))
          ·exact .inl (List.eq_nil_of_length_eq_zero (by have:=HL1.out;omega))
         rcases q with q|q
         ·rw[q];simpa using hh.hY
         ·rw[q];simpa using hh.hX
       case rest=>
        obtain⟨S1,hS1,I⟩:=hcut
        have HS1:=qD hS1
        have HJ3:=qD I
        have HLS:Hid (S1.length=X1.length+Y1.length):=by rw[Hid,hS1.1.length_eq];simp
        clear hS1 I
        go_upto_region 43 with fail
        go_cut [213] (fun s wx=>s=.bool (decide (mid<en∧en<b))∧wc=wx)
        case first=>as_aux_lemma=>
         by_cases e1:mid<en<;>by_cases e2:en<b
         all_goals
          go_wp2_with fail
          go_meet
          exact⟨congrArg Value.bool (by simp[e1,e2]),rfl⟩
        case rest=>
         obtain⟨rfl,rfl⟩:=hcut
         by_cases e:mid<en∧en<b
         ·as_aux_lemma=>
          have d:decide (mid<en∧en<b)=true:=decide_eq_true e
          rw[d]
          clear d
          go_wp2_with fail
          refine(HI.out (A++S1) X2 Y2 D g n c mid en b _ _ _ _ (halfSpR HH2.out HLS.out HJ3.out) (by have:=HA.out;have:=HLS.out;have:=HL1.out;have:=HL3.out;simp;omega) (by have:=HL2.out;have:=HEn.out;omega) (by have:=HL4.out;have:=HEn.out;omega) (by have:=HL2.out;have:=HEn.out;omega) (by have:=HL4.out;have:=HEn.out;omega) (by have:=HL2.out;have:=HL4.out;have:=HEn.out;omega) rfl rfl rfl).mono ?_
          rintro e w1 ⟨rfl,S2,h1,h2⟩
          have H1:=qD h1
          have H2:=qD (HJ3.out.then h2)
          clear h1 h2
          go_wp2_with fail
          go_end0
          exact⟨rfl,S1++S2,HS.out S1 S2 HS1.out H1.out,by have:=H2.out;simpa using this⟩
         ·as_aux_lemma=>
          have d:decide (mid<en∧en<b)=false:=decide_eq_false e
          rw[d]
          clear d
          go_wp2_with fail
          go_end0
          have hh:=halfSpR HH2.out HLS.out HJ3.out
          refine⟨rfl,S1++(X2++Y2),HS.out S1 _ HS1.out (sorted_self ?_),by have:=HJ3.out;simpa using this⟩
          have q:X2=[]∨Y2=[]:=by
           by_cases e1:mid<en
           ·exact .inr (List.eq_nil_of_length_eq_zero (by have:=HL4.out;have:=HEn.out;omega))
           ·exact .inl (List.eq_nil_of_length_eq_zero (by have:=HL2.out;have:=HEn.out;omega))
          rcases q with q|q
          ·rw[q];simpa using hh.hY
          ·rw[q];simpa using hh.hX
theorem symSp_any(H:Ordered (fun p q:PS=>cmC (spP p).1 (spP q).1))(N:Nat):SymOkSp N:=by
 induction N with
 | zero=>exact fun A X Y D g n c a m b aI mI bI w h ha hm hb h1 h2 h3=>absurd h3 (by omega)
 | succ N ih=>
  intro A X Y D g n c a m b aI mI bI w h ha hm hb h1 h2 h3 haI hmI hbI
  by_cases e1:X.length=1
  ·obtain⟨x,rfl⟩:=List.length_eq_one_iff.1 e1
   exact sym1Sp H A x Y D g n c a m b aI mI bI w h ha (by simpa using hm) hb haI hmI hbI
  ·by_cases e2:Y.length=1
   ·obtain⟨y,rfl⟩:=List.length_eq_one_iff.1 e2
    exact sym2Sp H A X y D g n c a m b aI mI bI w h ha hm (by simpa using hb) (by omega) haI hmI hbI
   ·exact sym3Sp H A X Y D g n c a m b aI mI bI w h ha hm hb (by omega) (by omega) (fun A' X' Y' D' g' n' c' a' m' b' aI' mI' bI' w' q1 q2 q3 q4 q5 q6 q7 q8 q9 q10=>ih A' X' Y' D' g' n' c' a' m' b' aI' mI' bI' w' q1 q2 q3 q4 q5 q6 (by omega) q8 q9 q10) haI hmI hbI
section
variable {α:Type}
def blk(bs q:Nat)(L:List α):List α:=(L.drop (q*bs)).take bs
theorem blk_before{A T:List α}{bs q:Nat}(h:q*bs+bs≤A.length):blk bs q (A++T)=blk bs q A:=by
 unfold blk
 rw[List.drop_append_of_le_length (by omega),List.take_append_of_le_length (by rw[List.length_drop];omega)]
theorem blk_behind{A T:List α}{bs q k:Nat}(hA:A.length=k*bs)(h:k≤q):blk bs q (A++T)=blk bs (q-k) T:=by
 unfold blk
 have e:q*bs=A.length+(q-k)*bs:=by rw[hA,←Nat.add_mul,Nat.add_sub_cancel' h]
 rw[e,List.drop_length_add_append]
theorem blk_zero{S T:List α}{bs:Nat}(h:S.length=bs∨(S.length≤bs∧T=[])):blk bs 0 (S++T)=S:=by
 unfold blk
 rcases h with h|⟨h,rfl⟩
 ·subst h;simp
 ·simp[List.take_of_length_le h]
variable {cm:α→α→Int}
theorem runs_step{A0 A Seg S:List (α×Nat)}{bs k:Nat}(hA0:A0.length=k*bs)(hA:A.length=k*bs)(h:∀q,q<k→Sorted cm (blk bs q A0) (blk bs q A))(hl:Seg.length=bs)(hS:Sorted cm Seg S):
 ∀q,q<k+1→Sorted cm (blk bs q (A0++Seg)) (blk bs q (A++S)):=fun q hq=>by
 by_cases e:q=k
 ·subst e
  have hl2:S.length=bs:=by rw[←hl];exact hS.1.length_eq
  have e1:blk bs 0 (Seg++[])=Seg:=blk_zero (.inl hl)
  have e2:blk bs 0 (S++[])=S:=blk_zero (.inl hl2)
  rw[List.append_nil] at e1 e2
  rw[blk_behind hA0 (qL),blk_behind hA (qL),Nat.sub_self,e1,e2]
  exact hS
 ·have hk:(q+1)*bs≤k*bs:=Nat.mul_le_mul_right _ (by omega)
  rw[Nat.succ_mul] at hk
  rw[blk_before (by omega),blk_before (by omega)]
  exact h q (by omega)
theorem runs_last{A0 A Seg S:List (α×Nat)}{bs k:Nat}(hA0:A0.length=k*bs)(hA:A.length=k*bs)(h:∀q,q<k→Sorted cm (blk bs q A0) (blk bs q A))(hl:Seg.length≤bs)(hS:Sorted cm Seg S):
 ∀q,Sorted cm (blk bs q (A0++Seg)) (blk bs q (A++S)):=fun q=>by
 have hl2:S.length≤bs:=by rw[hS.1.length_eq];exact hl
 by_cases e:q<k
 ·have hk:(q+1)*bs≤k*bs:=Nat.mul_le_mul_right _ (by omega)
  rw[Nat.succ_mul] at hk
  rw[blk_before (by omega),blk_before (by omega)]
  exact h q e
 ·rw[blk_behind hA0 (by omega),blk_behind hA (by omega)]
  by_cases e0:q=k
  ·subst e0
   have e1:blk bs 0 (Seg++[])=Seg:=blk_zero (.inr ⟨hl,rfl⟩)
   have e2:blk bs 0 (S++[])=S:=blk_zero (.inr ⟨hl2,rfl⟩)
   rw[List.append_nil] at e1 e2
   rw[Nat.sub_self,e1,e2]
   exact hS
  ·have hk:1*bs≤(q-k)*bs:=Nat.mul_le_mul_right _ (by omega)
   unfold blk
   rw[List.drop_eq_nil_of_le (by omega),List.drop_eq_nil_of_le (by omega),List.take_nil]
   exact⟨List.Perm.refl _,List.Pairwise.nil⟩
theorem runs_tail{X0 Y0 D0 X Y D:List (α×Nat)}{bs:Nat}(h1:X0.length=bs)(h2:Y0.length=bs∨(Y0.length≤bs∧D0=[]))(h3:X.length=bs)(h4:Y.length=bs∨(Y.length≤bs∧D=[]))(h:∀q,Sorted cm (blk bs q (X0++(Y0++D0))) (blk bs q (X++(Y++D)))):
 Sorted cm X0 X∧Sorted cm Y0 Y:=by
 refine⟨?_,?_⟩
 ·have:=h 0
  rwa [blk_zero (.inl h1),blk_zero (.inl h3)] at this
 ·have:=h 1
  rwa [blk_behind (k:=1) (by omega) (qL),blk_behind (k:=1) (by omega) (qL),Nat.sub_self,blk_zero h2,blk_zero h4] at this
theorem runs_rest{Z0 D0 Z D:List (α×Nat)}{bs:Nat}(h1:Z0.length=2*bs)(h3:Z.length=2*bs)(h:∀q,Sorted cm (blk bs q (Z0++D0)) (blk bs q (Z++D)))(q:Nat):Sorted cm (blk bs q D0) (blk bs q D):=by
 have:=h (q+2)
 rwa [blk_behind (k:=2) h1 (by omega),blk_behind (k:=2) h3 (by omega),Nat.add_sub_cancel] at this
theorem runs_all{L0 L:List (α×Nat)}{bs:Nat}(hl:L0.length≤bs)(hl2:L.length≤bs)(h:∀q,Sorted cm (blk bs q L0) (blk bs q L)):Sorted cm L0 L:=by
 have:=h 0
 have e1:blk bs 0 (L0++[])=L0:=blk_zero (.inr ⟨hl,rfl⟩)
 have e2:blk bs 0 (L++[])=L:=blk_zero (.inr ⟨hl2,rfl⟩)
 rw[List.append_nil] at e1 e2
 rwa [e1,e2] at this
end
structure DoneSp(bs:Nat)(L0:List (PS×Nat))(k:Nat)(A0 A R:List (PS×Nat)):Prop where
 e:L0=A0++R
 l0:A0.length=k*bs
 l:A.length=k*bs
 s:∀q,q<k→Sorted (fun p q:PS=>cmC (spP p).1 (spP q).1) (blk bs q A0) (blk bs q A)
structure MidSp(bs:Nat)(L0:List (PS×Nat))(k:Nat)(A0 A R0 R:List (PS×Nat)):Prop where
 e:L0=A0++R0
 l0:A0.length=k*(2*bs)
 l:A.length=k*(2*bs)
 rl:R.length=R0.length
 s:∀q,q<k→Sorted (fun p q:PS=>cmC (spP p).1 (spP q).1) (blk (2*bs) q A0) (blk (2*bs) q A)
 t:∀q,Sorted (fun p q:PS=>cmC (spP p).1 (spP q).1) (blk bs q R0) (blk bs q R)
structure PairSp(bs:Nat)(R0 R X0 Y0 D0 X Y D:List (PS×Nat)):Prop where
 e0:R0=X0++(Y0++D0)
 e:R=X++(Y++D)
 x0:X0.length=bs
 x:X.length=bs
 y0:Y0.length=bs∨(Y0.length≤bs∧D0=[])
 y:Y.length=bs∨(Y.length≤bs∧D=[])
theorem pairSp_of(bs:Nat)(R0 R:List (PS×Nat))(hl:R.length=R0.length)(hb:bs≤R.length):PairSp bs R0 R (R0.take bs) ((R0.drop bs).take bs) ((R0.drop bs).drop bs) (R.take bs) ((R.drop bs).take bs) ((R.drop bs).drop bs):=by
 have aux:∀l:List (PS×Nat),(l.take bs).length=bs∨((l.take bs).length≤bs∧l.drop bs=[]):=fun l=>by
  by_cases e:bs≤l.length
  ·exact .inl (by rw[List.length_take];omega)
  ·exact .inr ⟨by rw[List.length_take];omega,List.drop_eq_nil_of_le (by omega)⟩
 exact⟨by rw[List.take_append_drop,List.take_append_drop],by rw[List.take_append_drop,List.take_append_drop],by rw[List.length_take];omega,by rw[List.length_take];omega,aux _,aux _⟩
theorem MidSp.sorted{bs k:Nat}{L0 A0 A R0 R X0 Y0 D0 X Y D:List (PS×Nat)}(h:MidSp bs L0 k A0 A R0 R)(hp:PairSp bs R0 R X0 Y0 D0 X Y D):Sorted (fun p q:PS=>cmC (spP p).1 (spP q).1) X0 X∧Sorted (fun p q:PS=>cmC (spP p).1 (spP q).1) Y0 Y:=
 runs_tail hp.x0 hp.y0 hp.x hp.y (by have:=h.t;rw[hp.e0,hp.e] at this;exact this)
theorem MidSp.halves{bs k:Nat}{L0 A0 A R0 R X0 Y0 D0 X Y D:List (PS×Nat)}(h:MidSp bs L0 k A0 A R0 R)(hp:PairSp bs R0 R X0 Y0 D0 X Y D){g n:Nat}{w wr:World}(ht:Tagged L0)(hc:CmpOkSp g w L0)(I:IsSp g w (A++R) wr)(hn:n=L0.length)(hz:n*176≤reach):HalvesSp A X Y D g n wr:=by
 obtain⟨s1,s2⟩:=h.sorted hp
 have ht2:Tagged (A0++(X0++(Y0++D0))):=by rw[←hp.e0,←h.e];exact ht
 refine⟨?_,?_,hz,s1.2,s2.2,fun x hx y hy=>?_,hc.less I.but fun x hx=>?_⟩
 ·have:=I.row
  rw[hp.e] at this
  simpa using this
 ·rw[hn,h.e,List.append_assoc,List.append_assoc,←hp.e,List.length_append,List.length_append,h.l0,h.l,h.rl]
 ·have q:=(List.pairwise_append.1 (List.pairwise_append.1 ht2).2.1).2.2
  exact q x (s1.1.mem_iff.1 hx) y (by simp[s2.1.mem_iff.1 hy])
 ·rw[h.e,hp.e0]
  rcases List.mem_append.1 hx with hx|hx
  ·simp[s1.1.mem_iff.1 hx]
  ·simp[s2.1.mem_iff.1 hx]
theorem Sorted.both{α:Type}{cm:α→α→Int}{X0 Y0 X Y S:List (α×Nat)}(h1:Sorted cm X0 X)(h2:Sorted cm Y0 Y)(h:Sorted cm (X++Y) S):Sorted cm (X0++Y0) S:=⟨h.1.trans (h1.1.append h2.1),h.2⟩
theorem MidSp.next{bs k:Nat}{L0 A0 A R0 R X0 Y0 D0 X Y D S:List (PS×Nat)}(h:MidSp bs L0 k A0 A R0 R)(hp:PairSp bs R0 R X0 Y0 D0 X Y D)(hS:Sorted (fun p q:PS=>cmC (spP p).1 (spP q).1) (X++Y) S)(hy:Y.length=bs)(hy0:Y0.length=bs):MidSp bs L0 (k+1) (A0++(X0++Y0)) (A++S) D0 D:=by
 obtain⟨s1,s2⟩:=h.sorted hp
 have hS2:=Sorted.both s1 s2 hS
 have l1:(X0++Y0).length=2*bs:=by rw[List.length_append,hp.x0,hy0];omega
 have l2:(X++Y).length=2*bs:=by rw[List.length_append,hp.x,hy];omega
 refine⟨?_,?_,?_,?_,runs_step h.l0 h.l h.s l1 hS2,fun q=>runs_rest l1 l2 ?_ q⟩
 ·rw[h.e,hp.e0];simp
 ·rw[List.length_append,h.l0,l1];exact(Nat.succ_mul k (2*bs)).symm
 ·rw[List.length_append,h.l,hS.1.length_eq,l2];exact(Nat.succ_mul k (2*bs)).symm
 ·have:=h.rl
  rw[hp.e,hp.e0] at this
  simp[hp.x,hp.x0,hy,hy0] at this
  exact this
 ·have:=h.t
  rw[hp.e0,hp.e] at this
  simpa using this
theorem MidSp.last{bs k:Nat}{L0 A0 A R0 R X0 Y0 X Y S:List (PS×Nat)}(h:MidSp bs L0 k A0 A R0 R)(hp:PairSp bs R0 R X0 Y0 [] X Y [])(hS:Sorted (fun p q:PS=>cmC (spP p).1 (spP q).1) (X++Y) S)(q:Nat):Sorted (fun p q:PS=>cmC (spP p).1 (spP q).1) (blk (2*bs) q L0) (blk (2*bs) q (A++S)):=by
 obtain⟨s1,s2⟩:=h.sorted hp
 have e:L0=A0++(X0++Y0):=by rw[h.e,hp.e0,List.append_nil]
 rw[e]
 exact runs_last h.l0 h.l h.s (by rw[List.length_append,hp.x0];rcases hp.y0 with q|⟨q,_⟩<;>omega) (Sorted.both s1 s2 hS) q
theorem MidSp.lone{bs k:Nat}{L0 A0 A R0 R:List (PS×Nat)}(h:MidSp bs L0 k A0 A R0 R)(hl:R.length≤bs)(q:Nat):Sorted (fun p q:PS=>cmC (spP p).1 (spP q).1) (blk (2*bs) q L0) (blk (2*bs) q (A++R)):=by
 rw[h.e]
 exact runs_last h.l0 h.l h.s (by rw[←h.rl];omega) (runs_all (by rw[←h.rl];exact hl) hl h.t) q
theorem stableSp_any(H:Ordered (fun p q:PS=>cmC (spP p).1 (spP q).1))(L0:List (PS×Nat))(g n c:Nat)(w:World)(hr:SRowSp w g L0)(hn:n=L0.length)(hz:n*176≤reach)(ht:Tagged L0)(hc:CmpOkSp g w L0):
 Calls Tryz.prog 179 #[.slice (some ⟨g,0,none⟩) n c,.int .i64 n,.func (.func 146) #[] #[]] w (IsDoneSp g w [] L0 []):=by
 have HZ:=qD hz
 unfold reach at hz
 have HN:=qD hn
 have HT:=qD ht
 have HC:=qD hc
 have HO:=qD H
 have I0:Hid (IsSp g w L0 w):=qD ⟨hr,But.refl⟩
 clear hr hn ht hc H
 go_enter Tryz.func179,Tryz.ntmps179
 go_wp2_with fail
 go_loopw [7,8] (fun v7 v8 wr=>∃(k a b:Nat) (A0 A R:List (PS×Nat)),v7=.int .i64 a∧v8=.int .i64 b∧b=a+20∧a=k*20∧a≤n∧DoneSp 20 L0 k A0 A R∧IsSp g w (A++R) wr) (fun _ v8 _=>n+40-(intOf v8).toNat)
 case atStart=>exact⟨0,0,20,[],[],L0,rfl,rfl,rfl,rfl,Nat.zero_le _,⟨rfl,rfl,rfl,fun q hq=>absurd hq (by omega)⟩,I0.out⟩
 case round=>
  obtain⟨k,a,b,A0,A,R,rfl,rfl,hb,hk,han,hD,I⟩:=hrel
  have HB:=qD hb
  have HK:=qD hk
  have HD:=qD hD
  have J:=qD I
  have hRl:R.length=n-a:=by have h1:=HN.out;rw[hD.e] at h1;simp[hD.l0] at h1;omega
  have HRl:=qD hRl
  clear hk hD I hRl
  by_cases hlt:b≤n
  ·have hb2:b=a+20:=hb
   have hl1:(R.take 20).length=20:=by rw[List.length_take];have:=HRl.out;omega
   have HL1:=qD hl1
   have HR:Hid (R=R.take 20++R.drop 20):=(List.take_append_drop 20 R).symm
   have HM:∀x∈R,x∈L0:=fun x hx=>by rw[HD.out.e];simp[hx]
   have HM':=qD HM
   clear hb hb2 hl1 HM
   go_wp2_with fail
   refine(isortSp_any HO.out A (R.take 20) (R.drop 20) g n c a b _ (by rw[List.append_assoc,←HR.out];exact J.out.row) (by rw[List.append_assoc,←HR.out,List.length_append,HD.out.l,HRl.out,←HK.out];omega) (by rw[HD.out.l];exact HK.out) (by rw[HD.out.l,HL1.out,←HK.out];exact HB.out) HZ.out ?_ ?_).mono ?_
   ·have:=HT.out
    rw[HD.out.e,HR.out] at this
    exact(List.pairwise_append.1 (List.pairwise_append.1 this).2.1).1
   ·exact HC.out.less J.out.but (fun x hx=>HM'.out x (List.mem_of_mem_take hx))
   rintro e w1 ⟨rfl,S,hS,h1⟩
   have HS:=qD hS
   have H1:=qD (J.out.then h1)
   clear hS h1
   go_wp2_with fail
   go_roundw
   case rel=>
    refine⟨k+1,b,b+20,A0++R.take 20,A++S,R.drop 20,rfl,by go_num,rfl,by have:=HB.out;have:=HK.out;omega,hlt,⟨by rw[List.append_assoc,←HR.out];exact HD.out.e,?_,?_,?_⟩,H1.out⟩
    ·rw[List.length_append,HD.out.l0,HL1.out];omega
    ·rw[List.length_append,HD.out.l,HS.out.1.length_eq,HL1.out];omega
    ·exact runs_step HD.out.l0 HD.out.l HD.out.s HL1.out HS.out
   case measure=>simp[intOf];omega
  ·have hRl2:R.length≤20:=by have:=HRl.out;omega
   have HM:∀x∈R,x∈L0:=fun x hx=>by rw[HD.out.e];simp[hx]
   have HM':=qD HM
   clear hb HM
   go_wp2_with fail
   refine(isortSp_any HO.out A R [] g n c a n _ (by rw[List.append_nil];exact J.out.row) (by rw[List.append_nil,List.length_append,HD.out.l,HRl.out,←HK.out];omega) (by rw[HD.out.l];exact HK.out) (by rw[HD.out.l,HRl.out,←HK.out];omega) HZ.out ?_ ?_).mono ?_
   ·have:=HT.out
    rw[HD.out.e] at this
    exact(List.pairwise_append.1 this).2.1
   ·exact HC.out.less J.out.but HM'.out
   rintro e w1 ⟨rfl,S,hS,h1⟩
   have J1:Hid (IsSp g w (A++S) w1):=by have:=J.out.then h1;rw[List.append_nil] at this;exact this
   have HR1:Hid (∀q,Sorted (fun p q:PS=>cmC (spP p).1 (spP q).1) (blk 20 q L0) (blk 20 q (A++S))):=by rw[Hid,HD.out.e];exact runs_last HD.out.l0 HD.out.l HD.out.s hRl2 hS
   have HLl:Hid ((A++S).length=L0.length):=by rw[Hid,HD.out.e,List.length_append,List.length_append,HD.out.l,HD.out.l0,hS.1.length_eq]
   clear hS h1
   go_wp2_with fail
   go_loopw [6] (fun v6 wr=>∃(bs:Nat) (L:List (PS×Nat)),v6=.int .i64 bs∧20≤bs∧bs≤2*n+20∧L.length=L0.length∧(∀q,Sorted (fun p q:PS=>cmC (spP p).1 (spP q).1) (blk bs q L0) (blk bs q L))∧IsSp g w L wr) (fun v6 _=>n-(intOf v6).toNat)
   case atStart=>exact⟨20,A++S,rfl,qL,by omega,HLl.out,HR1.out,J1.out⟩
   case round=>
    clear HB HK HD J HRl HM' J1 HR1 HLl
    obtain⟨bs,L,rfl,hb1,hb2,hl,hR,I⟩:=hrel
    have HL:=qD hl
    have HRu:=qD hR
    have J:=qD I
    clear hl hR I
    by_cases hlt2:bs<n
    ·go_wp2_with fail
     go_loopw [7,8] (fun v7 v8 wr=>∃(k a b:Nat) (A0 A R0 R:List (PS×Nat)),v7=.int .i64 a∧v8=.int .i64 b∧b=a+2*bs∧a≤n∧A.length=a∧MidSp bs L0 k A0 A R0 R∧IsSp g w (A++R) wr) (fun _ v8 _=>n+1-(intOf v8).toNat)
     case atStart=>exact⟨0,0,2*bs,[],[],L0,L,rfl,by go_num,by omega,Nat.zero_le _,rfl,⟨rfl,by simp,by simp,HL.out,fun q hq=>absurd hq (by omega),HRu.out⟩,J.out⟩
     case round=>
      clear HL HRu J
      obtain⟨k,a,b,A0,A,R0,R,rfl,rfl,hb,han,hA,hM,I⟩:=hrel
      have HB:=qD hb
      have HA:=qD hA
      have HM:=qD hM
      have J:=qD I
      have hRl:R.length=n-a:=by have h1:=HN.out;rw[hM.e] at h1;have h2:=hM.l0;have h3:=hM.l;simp at h1;rw[hM.rl];omega
      have HRl:=qD hRl
      clear hM I hA
      by_cases hlt3:b≤n
      ·obtain⟨X0,Y0,D0,X,Y,D,hp⟩:∃X0 Y0 D0 X Y D,PairSp bs R0 R X0 Y0 D0 X Y D:=⟨_,_,_,_,_,_,pairSp_of bs R0 R HM.out.rl (by omega)⟩
       have hy:Y.length=bs:=by
        have h1:=HRl.out
        rw[hp.e,List.length_append,List.length_append,hp.x] at h1
        rcases hp.y with q|⟨q,rfl⟩
        ·exact q
        ·simp at h1;omega
       have hy0:Y0.length=bs:=by
        have h1:=HRl.out
        rw[HM.out.rl,hp.e0,List.length_append,List.length_append,hp.x0] at h1
        rcases hp.y0 with q|⟨q,rfl⟩
        ·exact q
        ·simp at h1;omega
       have HPa:=qD hp
       have HY:=qD hy
       have HY0:=qD hy0
       have hbn:a+2*bs≤n:=by omega
       clear hp hy hy0 hb hRl
       go_wp2_with fail
       refine(symSp_any HO.out _ A X Y D g n c a (a+bs) b _ _ _ _ (HM.out.halves HPa.out HT.out HC.out J.out HN.out HZ.out) HA.out.symm (by rw[HPa.out.x]) (by rw[HY.out];have:=HB.out;omega) (by rw[HPa.out.x];omega) (by rw[HY.out];omega) (Nat.lt_succ_self _) rfl (by omega) rfl).mono ?_
       rintro e w2 ⟨rfl,S,hS,h1⟩
       have HS:=qD hS
       have H1:=qD (J.out.then h1)
       clear hS h1
       go_wp2_with fail
       go_roundw
       case rel=>
        exact⟨k+1,b,b+2*bs,_,A++S,_,D,rfl,by go_num,rfl,hlt3,by rw[List.length_append,HS.out.1.length_eq,List.length_append,HA.out,HPa.out.x,HY.out];have:=HB.out;omega,HM.out.next HPa.out HS.out HY.out HY0.out,H1.out⟩
       case measure=>simp[intOf];omega
      ·have hab:n<a+2*bs:=by omega
       clear hb hRl
       by_cases hm:a+bs<n
       ·obtain⟨X0,Y0,X,Y,hp⟩:∃X0 Y0 X Y,PairSp bs R0 R X0 Y0 [] X Y []:=by
         have q:=pairSp_of bs R0 R HM.out.rl (by have:=HRl.out;omega)
         rw[show(R0.drop bs).drop bs=[] from List.eq_nil_of_length_eq_zero (by have:=HRl.out;have:=HM.out.rl;simp;omega),show(R.drop bs).drop bs=[] from List.eq_nil_of_length_eq_zero (by have:=HRl.out;simp;omega)] at q
         exact⟨_,_,_,_,q⟩
        have hy:Y.length=n-a-bs:=by have h1:=HRl.out;rw[hp.e] at h1;have:=hp.x;simp at h1;omega
        have HPa:=qD hp
        have HY:=qD hy
        clear hp hy
        go_wp2_with fail
        refine(symSp_any HO.out _ A X Y [] g n c a (a+bs) n _ _ _ _ (HM.out.halves HPa.out HT.out HC.out J.out HN.out HZ.out) HA.out.symm (by rw[HPa.out.x]) (by rw[HY.out];omega) (by rw[HPa.out.x];omega) (by rw[HY.out];omega) (Nat.lt_succ_self _) rfl (by omega) rfl).mono ?_
        rintro e w2 ⟨rfl,S,hS,h1⟩
        have HS:=qD hS
        have H1:Hid (IsSp g w (A++S) w2):=by have:=J.out.then h1;rw[List.append_nil] at this;exact this
        clear hS h1
        go_wp2_with fail
        go_roundw
        case rel=>
         exact⟨2*bs,A++S,by go_num,by omega,by omega,by rw[List.length_append,HS.out.1.length_eq,List.length_append,HA.out,HPa.out.x,HY.out,←HN.out];omega,HM.out.last HPa.out HS.out,H1.out⟩
        case measure=>simp[intOf];omega
       ·go_wp2_with fail
        go_roundw
        case rel=>
         exact⟨2*bs,A++R,by go_num,by omega,by omega,by rw[List.length_append,HA.out,HRl.out,←HN.out];omega,HM.out.lone (by have:=HRl.out;omega),J.out⟩
        case measure=>simp[intOf];omega
    ·have HE:Hid (Sorted (fun p q:PS=>cmC (spP p).1 (spP q).1) L0 L):=runs_all (by rw[←HN.out];omega) (by rw[HL.out,←HN.out];omega) HRu.out
     go_wp2_with fail
     go_end0
     exact⟨rfl,L,HE.out,by have:=J.out;simpa using this⟩
abbrev B2:=ByteArray×ByteArray
def recB2(p:B2):List Value:=[.string p.1,.string p.2]
theorem recB2_length(p:B2):(recB2 p).length=2:=rfl
theorem recB2_one(p:B2):∀u∈recB2 p,u.oneCell'=true:=by simp[recB2,Value.oneCell']
def cmB2(p q:B2):Int:=lex (cmpB p.1 q.1) (cmpB p.2 q.2)
theorem cmB2_le{p q:B2}(h:cmB2 p q≤0):¬cmpB q.1 p.1<0:=by
 unfold cmB2 lex at h
 have:=cmpB_anti p.1 q.1
 split at h
 ·omega
 ·omega
def recTB(e:B2×Nat):List Value:=recB2 e.1
theorem recTB_length(e:B2×Nat):(recTB e).length=2:=recB2_length e.1
def SRowB(w:World)(g:Nat)(L:List (B2×Nat)):Prop:=∃R:List Value,Blk w g 45 (flat recTB L++R).toArray
abbrev aggB(p:B2×Nat):Value:=.agg #[.string p.1.1,.string p.1.2]
section
variable {w w':World} {g:Nat} {L:List (B2×Nat)}
theorem SRowB.cell(h:SRowB w g L){j:Nat}{p:B2×Nat}(hj:L[j]?=some p)(i:Nat)(v:Value)(hi:(recTB p)[i]?=some v):w.cell? ⟨g,j*2+i,none⟩=some v:=by
 obtain⟨R,h⟩:=h
 have hf:=flat_get recTB_length hj hi
 rw[Blk.cell h (j*2+i),List.getElem?_toArray,List.getElem?_append_left (List.getElem?_eq_some_iff.1 hf).1]
 exact hf
theorem SRowB.step(h:SRowB w g L)(hb:Below w.heap.size w w'):SRowB w' g L:=by obtain⟨R,h⟩:=h;exact⟨R,Blk.step h hb⟩
theorem SRowB.drew(h:SRowB w g L):SRowB w.drew g L:=by obtain⟨R,h⟩:=h;exact⟨R,Blk.drew h⟩
theorem SRowB.frozen(h:SRowB w g L)(i:Nat):w.frozen? ⟨g,i,none⟩=false:=by obtain⟨R,h⟩:=h;exact Blk.frozen h i
theorem SRowB.lt(h:SRowB w g L):g<w.heap.size:=by obtain⟨R,h⟩:=h;exact Blk.lt h
theorem SRowB.put(h:SRowB w g L){j:Nat}(hj:j<L.length)(p:B2×Nat):SRowB ((w.setCell ⟨g,j*2,none⟩ (.string p.1.1)).setCell ⟨g,j*2+1,none⟩ (.string p.1.2)) g (L.set j p):=by
 obtain⟨R,h⟩:=h
 have hl:=flat_length recTB_length L
 have e:flat recTB (L.set j p)++R=setList (flat recTB L++R) (j*2) (recTB p):=by
  rw[flat_set recTB_length L j p hj,setList_app _ _ _ _ (by rw[recTB_length];omega)]
 refine⟨R,?_⟩
 rw[e]
 clear e hl
 generalize flat recTB L++R=X at h ⊢
 have:=Blk.set_ (Blk.set_ h (j*2) (.string p.1.1)) (j*2+1) (.string p.1.2)
 rw[show(setList X (j*2) (recTB p)).toArray=((X.toArray.setIfInBounds (j*2) (.string p.1.1)).setIfInBounds (j*2+1) (.string p.1.2)) from by simp[setList,recTB,recB2]]
 exact this
end
def CmpOkB(g:Nat)(w:World)(U:List (B2×Nat)):Prop:=∀(x y:B2×Nat),x∈U→y∈U→∀wr,But g w wr→
 Calls Tryz.prog 69 #[aggB x,aggB y] wr fun e w'=>e=.returned (.int .i64 (cmB2 x.1 y.1))∧Below wr.heap.size wr w'
structure IsB(g:Nat)(w:World)(L:List (B2×Nat))(wr:World):Prop where
 row:SRowB wr g L
 but:But g w wr
theorem IsB.step{g:Nat}{w wr w':World}{L:List (B2×Nat)}(h:IsB g w L wr)(hb:Below wr.heap.size wr w'):IsB g w L w':=⟨h.row.step hb,h.but.step hb⟩
theorem IsB.swap{g:Nat}{w w2:World}{L:List (B2×Nat)}(h:IsB g w L w2){jj:Nat}(hl:jj<L.length)(x y:B2×Nat):IsB g w ((L.set jj y).set (jj-1) x) ((((w2.setCell ⟨g,jj*2,none⟩ (.string y.1.1)).setCell ⟨g,jj*2+1,none⟩ (.string y.1.2)).setCell ⟨g,(jj-1)*2,none⟩ (.string x.1.1)).setCell ⟨g,(jj-1)*2+1,none⟩ (.string x.1.2)).drew:=
 ⟨SRowB.drew ((h.row.put hl y).put (j:=jj-1) (by rw[List.length_set];omega) x),But.step ((((h.but.set (p:=⟨g,jj*2,none⟩) rfl (.string y.1.1)).set (p:=⟨g,jj*2+1,none⟩) rfl (.string y.1.2)).set (p:=⟨g,(jj-1)*2,none⟩) rfl (.string x.1.1)).set (p:=⟨g,(jj-1)*2+1,none⟩) rfl (.string x.1.2)) ((Below.refl _ _).drew)⟩
def IsDoneB(g:Nat)(w:World)(A Seg D:List (B2×Nat))(e:Ending)(w':World):Prop:=
 e=.returned (.tuple #[])∧∃S,Sorted cmB2 Seg S∧IsB g w (A++S++D) w'
theorem isortB_any(H:Ordered cmB2)(A Seg D:List (B2×Nat))(g n c a b:Nat)(w:World)(hr:SRowB w g (A++Seg++D))(hn:n=(A++Seg++D).length)(ha:a=A.length)(hb:b=A.length+Seg.length)(hz:n*32≤reach)(ht:Tagged Seg)(hc:CmpOkB g w Seg):
 Calls Tryz.prog 150 #[.slice (some ⟨g,0,none⟩) n c,.int .i64 a,.int .i64 b,.func (.func 69) #[] #[]] w (IsDoneB g w A Seg D):=by
 unfold reach at hz
 have HN:=qD hn
 have HA:=qD ha
 have HBq:=qD hb
 have hab:a≤b:=by omega
 have hbn:b≤n:=by rw[hn];simp;omega
 have HC:=qD hc
 have HT:=qD ht
 have HO:=qD H
 have I0:Hid (IsB g w (A++Seg++D) w):=qD ⟨hr,But.refl⟩
 clear hr hn ha hb ht hc H
 cases hs:Seg with
 | nil=>
  have hab':b≤a:=by have:=HA.out;have:=HBq.out;rw[hs] at this;simp at this;omega
  have HS:=qD hs
  clear hs
  go_enter Tryz.func150,Tryz.ntmps150
  go_wp2_with fail
  go_loopw [8] (fun v8 wr=>v8=.int .i64 (a+1)∧wr=w) (fun _ _=>0)
  case atStart=>exact⟨by go_num,rfl⟩
  case round=>
   obtain⟨rfl,rfl⟩:=hrel
   go_wp2_with fail
   go_end0
   exact⟨rfl,[],Sorted.nil,by have:=I0.out;rw[HS.out] at this;exact this⟩
 | cons x0 rest=>
  have HS:=qD hs
  clear hs
  rw[←HS.out]
  go_enter Tryz.func150,Tryz.ntmps150
  go_wp2_with fail
  go_loopw [8] (fun v8 wr=>∃(i:Nat) (P Q S:List (B2×Nat)),v8=.int .i64 i∧i=a+P.length∧1≤P.length∧i≤b∧Seg=P++Q∧Sorted cmB2 P S∧IsB g w (A++S++(Q++D)) wr) (fun v8 _=>b-(intOf v8).toNat)
  case atStart=>
   refine⟨a+1,[x0],rest,[x0],by go_num,rfl,qL,?_,HS.out,Sorted.one x0,?_⟩
   ·have:=HBq.out;have:=HA.out;rw[HS.out] at*;simp at*;omega
   ·have:=I0.out
    rw[HS.out] at this
    simpa using this
  case round=>
   obtain⟨i,P,Q,S,rfl,hi,hP,hib,hPQ,hS,I⟩:=hrel
   have HI:=qD hi
   have HPQ:=qD hPQ
   have HSo:=qD hS
   have J:=qD I
   clear hi hPQ hS
   by_cases hlt:i<b
   ·obtain⟨x,Q',hQ⟩:∃x Q',Q=x::Q':=by
     cases Q with
     | nil=>
      have h1:=HBq.out
      have h2:=HI.out
      have h3:=HA.out
      rw[HPQ.out] at h1
      simp at h1
      omega
     | cons x Q'=>exact⟨x,Q',rfl⟩
    have HQ:=qD hQ
    have hSl:S.length=P.length:=HSo.out.perm.length_eq
    have HSl:=qD hSl
    clear I hSl hQ
    go_wp2_with fail
    go_loopw [9] (fun v9 wr=>∃(jj:Nat) (S1 S2:List (B2×Nat)),v9=.int .i64 jj∧jj=a+S1.length∧jj≤i∧S=S1++S2∧(∀y∈S2,cmB2 x.1 y.1<0)∧IsB g w (A++(S1++x::S2)++(Q'++D)) wr) (fun v9 _=>(intOf v9).toNat)
    case atStart=>
     refine⟨i,S,[],rfl,by rw[HI.out,HSl.out],qL,by simp,by simp,?_⟩
     have:=J.out
     rw[HQ.out] at this
     simpa using this
    case round=>
     clear J
     obtain⟨jj,S1,S2,rfl,hj,hji,hSS,hall,I⟩:=hrel
     have HJ:=qD hj
     have HSS:=qD hSS
     have HAll:=qD hall
     have J:=qD I
     clear hj hSS hall
     by_cases hgt:a<jj
     ·obtain⟨S3,y,hS3⟩:∃S3 y,S1=S3++[y]:=by
       rcases List.eq_nil_or_concat S1 with h|⟨S3,y,h⟩
       ·have:=HJ.out;rw[h] at this;simp at this;omega
       ·exact⟨S3,y,by rw[h,List.concat_eq_append]⟩
      have hA:=HA.out
      have hj1:jj=A.length+(S3.length+1):=by rw[HJ.out,hS3];simp;omega
      have hx:(A++(S1++x::S2)++(Q'++D))[jj]?=some x:=by
       rw[hS3,hj1];simp
      have hy:(A++(S1++x::S2)++(Q'++D))[jj-1]?=some y:=by
       rw[hS3,hj1];simp
      have hxm:x∈Seg:=by rw[HPQ.out,HQ.out];simp
      have hym:y∈Seg:=by
       rw[HPQ.out]
       exact List.mem_append_left _ (HSo.out.perm.subset (by rw[HSS.out,hS3];simp))
      have p0:wr.cell? ⟨g,jj*2,none⟩=some (.string x.1.1):=I.row.cell hx 0 _ rfl
      have p1:wr.cell? ⟨g,jj*2+1,none⟩=some (.string x.1.2):=I.row.cell hx 1 _ rfl
      have r0:wr.cell? ⟨g,(jj-1)*2,none⟩=some (.string y.1.1):=I.row.cell hy 0 _ rfl
      have r1:wr.cell? ⟨g,(jj-1)*2+1,none⟩=some (.string y.1.2):=I.row.cell hy 1 _ rfl
      have P0:∀k:BW wr,k.val.cell? ⟨g,jj*2,none⟩=some (.string x.1.1):=fun k=>k.cell p0
      have P1:∀k:BW wr,k.val.cell? ⟨g,jj*2+1,none⟩=some (.string x.1.2):=fun k=>k.cell p1
      have R0:∀k:BW wr,k.val.cell? ⟨g,(jj-1)*2,none⟩=some (.string y.1.1):=fun k=>k.cell r0
      have R1:∀k:BW wr,k.val.cell? ⟨g,(jj-1)*2+1,none⟩=some (.string y.1.2):=fun k=>k.cell r1
      have hjn:jj<n:=by omega
      have i0:(0:Int)≤(jj:Int):=by omega
      have i1:(jj:Int)<(n:Int):=by omega
      have i2:(0:Int)≤(jj:Int)-1:=by omega
      have i3:(jj:Int)-1<(n:Int):=by omega
      have W1:IntKind.i64.wrap ((jj:Int)-1)=(jj:Int)-1:=wrap_i64' (by omega) (by omega)
      have W2:((jj:Int)-1).toNat=jj-1:=by omega
      have K1:Hid (∀k:BW wr,Calls Tryz.prog 69 #[aggB x,aggB y] k.val fun e w''=>e=.returned (.int .i64 (cmB2 x.1 y.1))∧∃k:BW wr,w''=k.val):=fun k=>
       Calls.bw (HC.out x y hxm hym k.val (I.but.step k.below))
      have HX:=qD hx
      have HY:=qD hy
      have HS3:=qD hS3
      have HJ1:=qD hj1
      clear p0 r0 p1 r1 hx hy hxm hym I hS3 hj1 hA
      go_upto_region 4 with fail
      refine wp_region_bw (by kernel_rfl) (by kernel_rfl) ?_
      repeat(go_big_quiet_step (with_reducible exact K1.out _))
      refine wpQuiet_nil ?_
      rintro _ ⟨kw,rfl⟩
      have J2:=qD (J.out.step kw.below)
      clear P0 R0 P1 R1 K1 W1 W2 i0 i1 i2 i3
      generalize kw.val=w2 at*
      by_cases hc:cmB2 x.1 y.1<0
      ·have p0:w2.cell? ⟨g,jj*2,none⟩=some (.string x.1.1):=J2.out.row.cell HX.out 0 _ rfl
       have p1:w2.cell? ⟨g,jj*2+1,none⟩=some (.string x.1.2):=J2.out.row.cell HX.out 1 _ rfl
       have r0:w2.cell? ⟨g,(jj-1)*2,none⟩=some (.string y.1.1):=J2.out.row.cell HY.out 0 _ rfl
       have r1:w2.cell? ⟨g,(jj-1)*2+1,none⟩=some (.string y.1.2):=J2.out.row.cell HY.out 1 _ rfl
       have z:=SRowB.frozen J2.out.row
       go_upto_region 6 with fail
       go_region
       all_goals
        clear p0 r0 p1 r1 z
        go_wp2_with fail
        refine⟨⟨jj-1,S3,y::S2,by rw[show((jj-1:Nat):Int)=(jj:Int)-1 by omega],by rw[HJ1.out,HA.out];omega,by omega,by rw[HSS.out,HS3.out];simp,?_,?_⟩,by simp[intOf];omega⟩
        ·intro q hq
         rcases List.mem_cons.1 hq with rfl|hq
         ·exact hc
         ·exact HAll.out q hq
        ·have hl:jj<(A++(S1++x::S2)++(Q'++D)).length:=(List.getElem?_eq_some_iff.1 HX.out).1
         have r1:=J2.out.swap hl x y
         rw[HS3.out,HJ1.out,swap_list,←HJ1.out] at r1
         exact r1
      ·have HD:Hid (Sorted cmB2 (P++[x]) (S1++x::S2)):=by
        refine Sorted.insert HO.out (by rw[←HSS.out];exact HSo.out) (fun y hy=>?_) HAll.out (fun q hq=>?_)
        ·have h:=HT.out
         rw[HPQ.out,HQ.out] at h
         exact(List.pairwise_append.1 h).2.2 y hy x (by simp)
        ·rw[HS3.out] at hq
         simp at hq
         subst hq
         exact hc
       go_wp2_with fail
       go_roundw
       case rel=>exact⟨i+1,P++[x],Q',S1++x::S2,by go_num,by rw[HI.out];simp;omega,by simp,by omega,by rw[HPQ.out,HQ.out];simp,HD.out,J2.out⟩
       case measure=>simp[intOf];omega
     ·have HN1:Hid (S1=[]):=List.eq_nil_of_length_eq_zero (by have:=HJ.out;omega)
      have HD:Hid (Sorted cmB2 (P++[x]) (S1++x::S2)):=by
       refine Sorted.insert HO.out (by rw[←HSS.out];exact HSo.out) (fun y hy=>?_) HAll.out (fun q hq=>?_)
       ·have h:=HT.out
        rw[HPQ.out,HQ.out] at h
        exact(List.pairwise_append.1 h).2.2 y hy x (by simp)
       ·rw[HN1.out] at hq
        simp at hq
      clear I
      have hgt':decide ((a:Int)<(jj:Int))=false:=decide_eq_false (by omega)
      go_upto_region 4 with fail
      go_quiet (fail)
      go_wp2_with fail
      go_roundw
      case rel=>exact⟨i+1,P++[x],Q',S1++x::S2,by go_num,by rw[HI.out];simp;omega,by simp,by omega,by rw[HPQ.out,HQ.out];simp,HD.out,J.out.step (Below.drewN (Below.refl _ _) _)⟩
      case measure=>simp[intOf];omega
   ·have HF:Hid (Q=[]):=by
     have h1:=HBq.out
     have h2:=HI.out
     have h3:=HA.out
     rw[HPQ.out] at h1
     simp at h1
     exact List.eq_nil_of_length_eq_zero (by omega)
    clear I
    go_wp2_with fail
    go_end0
    refine⟨rfl,S,?_,?_⟩
    ·have:=HSo.out;rw[HPQ.out,HF.out,List.append_nil];exact this
    ·have:=J.out;rw[HF.out,List.nil_append] at this;exact this
end Go.Proofs.YtfkapannahcjiaaGreatDoor
