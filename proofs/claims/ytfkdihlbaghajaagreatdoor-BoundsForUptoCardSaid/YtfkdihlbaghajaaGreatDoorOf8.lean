/- Parts of the proof, joined: SortGSp, SortTP, SortTSp, IvSpans, IvMerged, IvMergedWalk, ValOpen. -/
import Derived.Test.YtfkdihlbaghajaaGreatDoorOf1
import Derived.Test.YtfkdihlbaghajaaGreatDoorOf7
import Derived.Test.YtfkdihlbaghajaaGreatDoorOf5
import Derived.Test.YtfkdihlbaghajaaGreatDoorOf4
import Derived.Laws.OwnMore
import Derived.Lib.SmallJoins
import Derived.ProofKit
import Derived.OpenShut
import Derived.Deep.Slices
set_option maxRecDepth 100000
set_option maxHeartbeats 16000000
set_option linter.unusedSimpArgs false
namespace Go.Proofs.YtfkdihlbaghajaaGreatDoor
open Go.RowKit
section
variable {α:Type} {cm:α→α→Int}
theorem at_le(H:Ordered cm){l:List (α×Nat)}(h:l.Pairwise (RT cm)){i j:Nat}{x y:α×Nat}(hij:i≤j)(hx:l[i]?=some x)(hy:l[j]?=some y):cm x.1 y.1≤0:=by
 by_cases e:i=j
 ·subst e
  rw[hx] at hy
  cases hy
  have:=H.anti x.1 x.1
  omega
 ·exact RT.le (pw_at h (by omega) hx hy)
theorem split_sorted{X1 X2 Y1 Y2 S1 S2:List (α×Nat)}(hX:(X1++X2).Pairwise (RT cm))(hY:(Y1++Y2).Pairwise (RT cm))(h12:∀x∈X1,∀y∈Y2,RT cm x y)(h21:∀y∈Y1,∀x∈X2,RT cm y x)(h1:Sorted cm (X1++Y1) S1)(h2:Sorted cm (X2++Y2) S2):Sorted cm ((X1++X2)++(Y1++Y2)) (S1++S2):=by
 refine⟨(h1.1.append h2.1).trans ?_,List.pairwise_append.2 ⟨h1.2,h2.2,fun u hu v hv=>?_⟩⟩
 ·rw[List.append_assoc,List.append_assoc]
  refine List.Perm.append_left X1 ?_
  rw[←List.append_assoc,←List.append_assoc]
  exact List.Perm.append_right Y2 List.perm_append_comm
 ·rcases List.mem_append.1 (h1.1.mem_iff.1 hu) with hu|hu<;>rcases List.mem_append.1 (h2.1.mem_iff.1 hv) with hv|hv
  ·exact(List.pairwise_append.1 hX).2.2 u hu v hv
  ·exact h12 u hu v hv
  ·exact h21 u hu v hv
  ·exact(List.pairwise_append.1 hY).2.2 u hu v hv
theorem atX{A X Y D:List (α×Nat)}{i:Nat}(h1:A.length≤i)(h2:i<A.length+X.length):(A++X++Y++D)[i]?=X[i-A.length]?:=by
 rw[List.append_assoc,List.append_assoc,List.getElem?_append_right h1,List.getElem?_append_left (by omega)]
theorem atY{A X Y D:List (α×Nat)}{i:Nat}(h1:A.length+X.length≤i)(h2:i<A.length+X.length+Y.length):(A++X++Y++D)[i]?=Y[i-(A.length+X.length)]?:=by
 rw[List.append_assoc,List.getElem?_append_right (by simp;omega),List.getElem?_append_left (by simp;omega)]
 simp
theorem sym_parts(H:Ordered cm){A X Y D:List (α×Nat)}{a m b mid s0 r0 t:Nat}(ha:a=A.length)(hm:m=a+X.length)(hb:b=m+Y.length)(hX:X.Pairwise (RT cm))(hY:Y.Pairwise (RT cm))(hT:∀x∈X,∀y∈Y,x.2<y.2)(hs:s0≤t)(hr:t≤r0)(hmid:mid=(a+b)/2)(hc:(mid<m∧s0=mid+m-b∧r0=mid)∨(m≤mid∧s0=a∧r0=m))(lo:t=s0∨∃x y,(A++X++Y++D)[t-1]?=some x∧(A++X++Y++D)[mid+m-t]?=some y∧¬cm y.1 x.1<0)(hi:t=r0∨∃x y,(A++X++Y++D)[t]?=some x∧(A++X++Y++D)[mid+m-1-t]?=some y∧cm y.1 x.1<0):
 ∃X1 X2 Y1 Y2,X=X1++X2∧Y=Y1++Y2∧X1.length=t-a∧X2.length=m-t∧Y1.length=mid-t∧Y2.length=b+t-(mid+m)∧(∀x∈X1,∀y∈Y2,RT cm x y)∧(∀y∈Y1,∀x∈X2,RT cm y x):=by
 have HLo:=qD lo
 have HHi:=qD hi
 clear lo hi
 have l1:(X.take (t-a)).length=t-a:=by rw[List.length_take];omega
 have l2:(X.drop (t-a)).length=m-t:=by rw[List.length_drop];omega
 have l3:(Y.take (mid-t)).length=mid-t:=by rw[List.length_take];omega
 have l4:(Y.drop (mid-t)).length=b+t-(mid+m):=by rw[List.length_drop];omega
 refine⟨_,_,_,_,(List.take_append_drop (t-a) X).symm,(List.take_append_drop (mid-t) Y).symm,l1,l2,l3,l4,fun x hx y hy=>?_,fun y hy x hx=>?_⟩
 ·obtain⟨k,hk⟩:=List.getElem?_of_mem hx
  obtain⟨k',hk'⟩:=List.getElem?_of_mem hy
  have q1:=(List.getElem?_eq_some_iff.1 hk).1
  have q2:=(List.getElem?_eq_some_iff.1 hk').1
  rw[List.getElem?_take_of_lt (by omega)] at hk
  rw[List.getElem?_drop] at hk'
  have ht:=hT x (List.mem_of_getElem? hk) y (List.mem_of_getElem? hk')
  rcases HLo.out with lo|⟨x0,y0,e1,e2,e3⟩
  ·omega
  ·rw[atX (by omega) (by omega)] at e1
   rw[atY (by omega) (by omega)] at e2
   have r1:=at_le H hX (by omega) hk e1
   have r2:=at_le H hY (by omega) e2 hk'
   have r3:=H.anti y0.1 x0.1
   have r4:=cm_le_le H r1 (show cm x0.1 y0.1≤0 by omega)
   have r5:=cm_le_le H r4 r2
   unfold RT
   omega
 ·obtain⟨k,hk⟩:=List.getElem?_of_mem hx
  obtain⟨k',hk'⟩:=List.getElem?_of_mem hy
  have q1:=(List.getElem?_eq_some_iff.1 hk).1
  have q2:=(List.getElem?_eq_some_iff.1 hk').1
  rw[List.getElem?_drop] at hk
  rw[List.getElem?_take_of_lt (by omega)] at hk'
  rcases HHi.out with hi|⟨x0,y0,e1,e2,e3⟩
  ·omega
  ·rw[atX (by omega) (by omega)] at e1
   rw[atY (by omega) (by omega)] at e2
   have r1:=at_le H hX (by omega) e1 hk
   have r2:=at_le H hY (by omega) hk' e2
   exact .inl (cm_lt_le H (cm_le_lt H r2 e3) r1)
end
theorem CmpOkSp.less{g:Nat}{w w1:World}{U U':List (PS×Nat)}(h:CmpOkSp g w U)(hb:But g w w1)(hs:∀x∈U',x∈U):CmpOkSp g w1 U':=fun x y hx hy wr hr=>h x y (hs x hx) (hs y hy) wr (hb.trans hr)
theorem halfSpL{A X1 X2 Y1 Y2 D:List (PS×Nat)}{g n:Nat}{w w1:World}(h:HalvesSp A (X1++X2) (Y1++Y2) D g n w)(I:IsSp g w (A++X1++Y1++X2++Y2++D) w1):HalvesSp A X1 Y1 (X2++Y2++D) g n w1:=
 ⟨by have:=I.row;simpa using this,by rw[h.ln];simp;omega,h.sz,(List.pairwise_append.1 h.hX).1,(List.pairwise_append.1 h.hY).1,fun x hx y hy=>h.hT x (by simp[hx]) y (by simp[hy]),h.cmp.less I.but (fun x hx=>by rcases List.mem_append.1 hx with hx|hx<;>simp[hx])⟩
theorem halfSpR{A X1 X2 Y1 Y2 D S1:List (PS×Nat)}{g n:Nat}{w w1:World}(h:HalvesSp A (X1++X2) (Y1++Y2) D g n w)(hl:S1.length=X1.length+Y1.length)(I:IsSp g w (A++S1++(X2++Y2++D)) w1):HalvesSp (A++S1) X2 Y2 D g n w1:=
 ⟨by have:=I.row;simpa using this,by rw[h.ln];simp;omega,h.sz,(List.pairwise_append.1 h.hX).2.1,(List.pairwise_append.1 h.hY).2.1,fun x hx y hy=>h.hT x (by simp[hx]) y (by simp[hy]),h.cmp.less I.but (fun x hx=>by rcases List.mem_append.1 hx with hx|hx<;>simp[hx])⟩
theorem sorted_self{α:Type}{cm:α→α→Int}{l:List (α×Nat)}(h:l.Pairwise (RT cm)):Sorted cm l l:=⟨List.Perm.refl _,h⟩
def SymOkSp(N:Nat):Prop:=∀(A X Y D:List (PS×Nat)) (g n c a m b:Nat) (aI mI bI:Int) (w:World),HalvesSp A X Y D g n w→a=A.length→m=a+X.length→b=m+Y.length→1≤X.length→1≤Y.length→X.length+Y.length<N→aI=a→mI=m→bI=b→
 Calls Tryz.prog 260 #[.slice (some ⟨g,0,none⟩) n c,.int .i64 aI,.int .i64 mI,.int .i64 bI,.func (.func 177) #[] #[]] w (MergedSp g w A X Y D)
def LoSp(L:List (PS×Nat))(s0 nn t:Nat):Prop:=t=s0∨∃x y,L[t-1]?=some x∧L[nn-t]?=some y∧¬cmC (spP y.1).1 (spP x.1).1<0
def HiSp(L:List (PS×Nat))(r0 nn t:Nat):Prop:=t=r0∨∃x y,L[t]?=some x∧L[nn-1-t]?=some y∧cmC (spP y.1).1 (spP x.1).1<0
theorem sym3Sp(H:Ordered (fun p q:PS=>cmC (spP p).1 (spP q).1))(A X Y D:List (PS×Nat))(g n c a m b:Nat)(aI mI bI:Int)(w:World)(h:HalvesSp A X Y D g n w)(ha:a=A.length)(hm:m=a+X.length)(hb:b=m+Y.length)(hX2:2≤X.length)(hY2:2≤Y.length)(ih:SymOkSp (X.length+Y.length))(haI:aI=a)(hmI:mI=m)(hbI:bI=b):
 Calls Tryz.prog 260 #[.slice (some ⟨g,0,none⟩) n c,.int .i64 aI,.int .i64 mI,.int .i64 bI,.func (.func 177) #[] #[]] w (MergedSp g w A X Y D):=by
 subst haI hmI hbI
 have hz:=h.sz
 unfold reach at hz
 have hbn:b≤n:=by have:=h.ln;simp at this;omega
 have ham:((m:Int)-(a:Int)==1)=false:=by simp;omega
 have hbm:((b:Int)-(m:Int)==1)=false:=by simp;omega
 have HA:=qD ha
 have HM:=qD hm
 have HB:=qD hb
 have hm1:a+2≤m:=by omega
 have hmb:m+2≤b:=by omega
 have HH:=qD h
 have HO:=qD H
 have HI:=qD ih
 have I0:Hid (IsSp g w (A++X++Y++D) w):=qD ⟨h.row,But.refl⟩
 clear h ha hm hb H ih hX2 hY2
 go_enter Tryz.func260,Tryz.ntmps260
 go_upto_region 25 with fail
 obtain⟨mid,hh⟩:∃mid:Nat,((a:Int)+(b:Int))/2=(mid:Int):=⟨(a+b)/2,by omega⟩
 rw[hh]
 have HMid:Hid (mid=(a+b)/2):=by unfold Hid;omega
 have hmid1:a<mid:=by omega
 have hmid2:mid<b:=by omega
 have hmid3:2*mid≤a+b:=by omega
 have hmid4:a+b≤2*mid+1:=by omega
 clear hh
 obtain⟨s0,r0,hc⟩:∃s0 r0:Nat,(mid<m∧s0=mid+m-b∧r0=mid)∨(m≤mid∧s0=a∧r0=m):=by
  by_cases e:mid<m
  ·exact⟨_,_,.inl ⟨e,rfl,rfl⟩⟩
  ·exact⟨_,_,.inr ⟨by omega,rfl,rfl⟩⟩
 have HC:=qD hc
 have hs1:a≤s0:=by omega
 have hs2:s0≤r0:=by omega
 have hr1:r0≤m:=by omega
 have hr2:r0≤mid:=by omega
 have hs3:mid+m≤b+s0:=by omega
 clear hc
 go_upto_region 26 with fail
 obtain⟨p,hp⟩:∃p:Nat,mid+m=p+1:=⟨mid+m-1,by omega⟩
 have HP:=qD hp
 have hp1:p+1≤b+s0:=by omega
 have hp2:m+r0≤p+1:=by omega
 rw[show(mid:Int)+(m:Int)=(p:Int)+1 by omega]
 clear hp
 go_upto_if 140 with fail
 go_cut [20,21] (fun s20 s21 wx=>s20=.int .i64 s0∧s21=.int .i64 r0∧w=wx)
 case first=>as_aux_lemma=>
  rcases HC.out with⟨q1,q2,q3⟩|⟨q1,q2,q3⟩
  all_goals
   have Q2:=qD q2
   have Q3:=qD q3
   clear q2 q3
   go_wp2_with fail
   go_meet
   exact⟨congrArg (Value.int .i64) (by have:=Q2.out;have:=HP.out;omega),congrArg (Value.int .i64) (by have:=Q3.out;omega),rfl⟩
 case rest=>
  obtain⟨rfl,rfl,rfl⟩:=hcut
  go_wp2_with fail
  go_loopw [20,21] (fun v20 v21 wr=>∃(i j:Nat),v20=.int .i64 i∧v21=.int .i64 j∧s0≤i∧i≤j∧j≤r0∧LoSp (A++X++Y++D) s0 (p+1) i∧HiSp (A++X++Y++D) r0 (p+1) j∧IsSp g w (A++X++Y++D) wr) (fun v20 v21 _=>(intOf v21).toNat-(intOf v20).toNat)
  case atStart=>exact⟨s0,r0,rfl,rfl,qL,hs2,qL,.inl rfl,.inl rfl,I0.out⟩
  case round=>
   obtain⟨i,j,rfl,rfl,hmi,hij,hjb,hlo,hhi,I⟩:=hrel
   have HLo:=qD hlo
   have HHi:=qD hhi
   have J:=qD I
   clear hlo hhi
   by_cases hlt:i<j
   ·as_aux_lemma=>
    go_upto_region 35 with fail
    obtain⟨h,hh⟩:∃h:Nat,((i:Int)+(j:Int))/2=(h:Int):=⟨(i+j)/2,by omega⟩
    rw[hh]
    have h1:i≤h:=by omega
    have h2:h<j:=by omega
    clear hh
    obtain⟨x,hx,hxX⟩:∃x,(A++X++Y++D)[h]?=some x∧x∈X:=by
     have hA:=HA.out
     have hM:=HM.out
     rw[atX (by omega) (by omega)]
     exact⟨_,List.getElem?_eq_getElem (by omega),List.getElem_mem _⟩
    obtain⟨y,hy,hyY⟩:∃y,(A++X++Y++D)[p-h]?=some y∧y∈Y:=by
     have hA:=HA.out
     have hM:=HM.out
     have hB:=HB.out
     rw[atY (by omega) (by omega)]
     exact⟨_,List.getElem?_eq_getElem (by omega),List.getElem_mem _⟩
    have p0:wr.cell? ⟨g,h*12,none⟩=some (.int .i64 x.1.1.1.1.k):=I.row.cell hx 0 _ rfl
    have p1:wr.cell? ⟨g,h*12+1,none⟩=some (.int .i64 x.1.1.1.1.n):=I.row.cell hx 1 _ rfl
    have p2:wr.cell? ⟨g,h*12+2,none⟩=some (.string x.1.1.1.1.t):=I.row.cell hx 2 _ rfl
    have p3:wr.cell? ⟨g,h*12+3,none⟩=some (.slice x.1.1.1.1.LA x.1.1.1.1.ln x.1.1.1.1.lc):=I.row.cell hx 3 _ rfl
    have p4:wr.cell? ⟨g,h*12+4,none⟩=some (.slice x.1.1.1.1.DA x.1.1.1.1.dn x.1.1.1.1.dc):=I.row.cell hx 4 _ rfl
    have p5:wr.cell? ⟨g,h*12+5,none⟩=some (.bool x.1.1.2):=I.row.cell hx 5 _ rfl
    have p6:wr.cell? ⟨g,h*12+6,none⟩=some (.int .i64 x.1.2.1.1.k):=I.row.cell hx 6 _ rfl
    have p7:wr.cell? ⟨g,h*12+7,none⟩=some (.int .i64 x.1.2.1.1.n):=I.row.cell hx 7 _ rfl
    have p8:wr.cell? ⟨g,h*12+8,none⟩=some (.string x.1.2.1.1.t):=I.row.cell hx 8 _ rfl
    have p9:wr.cell? ⟨g,h*12+9,none⟩=some (.slice x.1.2.1.1.LA x.1.2.1.1.ln x.1.2.1.1.lc):=I.row.cell hx 9 _ rfl
    have p10:wr.cell? ⟨g,h*12+10,none⟩=some (.slice x.1.2.1.1.DA x.1.2.1.1.dn x.1.2.1.1.dc):=I.row.cell hx 10 _ rfl
    have p11:wr.cell? ⟨g,h*12+11,none⟩=some (.bool x.1.2.2):=I.row.cell hx 11 _ rfl
    have r0:wr.cell? ⟨g,(p-h)*12,none⟩=some (.int .i64 y.1.1.1.1.k):=I.row.cell hy 0 _ rfl
    have r1:wr.cell? ⟨g,(p-h)*12+1,none⟩=some (.int .i64 y.1.1.1.1.n):=I.row.cell hy 1 _ rfl
    have r2:wr.cell? ⟨g,(p-h)*12+2,none⟩=some (.string y.1.1.1.1.t):=I.row.cell hy 2 _ rfl
    have r3:wr.cell? ⟨g,(p-h)*12+3,none⟩=some (.slice y.1.1.1.1.LA y.1.1.1.1.ln y.1.1.1.1.lc):=I.row.cell hy 3 _ rfl
    have r4:wr.cell? ⟨g,(p-h)*12+4,none⟩=some (.slice y.1.1.1.1.DA y.1.1.1.1.dn y.1.1.1.1.dc):=I.row.cell hy 4 _ rfl
    have r5:wr.cell? ⟨g,(p-h)*12+5,none⟩=some (.bool y.1.1.2):=I.row.cell hy 5 _ rfl
    have r6:wr.cell? ⟨g,(p-h)*12+6,none⟩=some (.int .i64 y.1.2.1.1.k):=I.row.cell hy 6 _ rfl
    have r7:wr.cell? ⟨g,(p-h)*12+7,none⟩=some (.int .i64 y.1.2.1.1.n):=I.row.cell hy 7 _ rfl
    have r8:wr.cell? ⟨g,(p-h)*12+8,none⟩=some (.string y.1.2.1.1.t):=I.row.cell hy 8 _ rfl
    have r9:wr.cell? ⟨g,(p-h)*12+9,none⟩=some (.slice y.1.2.1.1.LA y.1.2.1.1.ln y.1.2.1.1.lc):=I.row.cell hy 9 _ rfl
    have r10:wr.cell? ⟨g,(p-h)*12+10,none⟩=some (.slice y.1.2.1.1.DA y.1.2.1.1.dn y.1.2.1.1.dc):=I.row.cell hy 10 _ rfl
    have r11:wr.cell? ⟨g,(p-h)*12+11,none⟩=some (.bool y.1.2.2):=I.row.cell hy 11 _ rfl
    have P0:∀k:BW wr,k.val.cell? ⟨g,h*12,none⟩=some (.int .i64 x.1.1.1.1.k):=fun k=>k.cell p0
    have P1:∀k:BW wr,k.val.cell? ⟨g,h*12+1,none⟩=some (.int .i64 x.1.1.1.1.n):=fun k=>k.cell p1
    have P2:∀k:BW wr,k.val.cell? ⟨g,h*12+2,none⟩=some (.string x.1.1.1.1.t):=fun k=>k.cell p2
    have P3:∀k:BW wr,k.val.cell? ⟨g,h*12+3,none⟩=some (.slice x.1.1.1.1.LA x.1.1.1.1.ln x.1.1.1.1.lc):=fun k=>k.cell p3
    have P4:∀k:BW wr,k.val.cell? ⟨g,h*12+4,none⟩=some (.slice x.1.1.1.1.DA x.1.1.1.1.dn x.1.1.1.1.dc):=fun k=>k.cell p4
    have P5:∀k:BW wr,k.val.cell? ⟨g,h*12+5,none⟩=some (.bool x.1.1.2):=fun k=>k.cell p5
    have P6:∀k:BW wr,k.val.cell? ⟨g,h*12+6,none⟩=some (.int .i64 x.1.2.1.1.k):=fun k=>k.cell p6
    have P7:∀k:BW wr,k.val.cell? ⟨g,h*12+7,none⟩=some (.int .i64 x.1.2.1.1.n):=fun k=>k.cell p7
    have P8:∀k:BW wr,k.val.cell? ⟨g,h*12+8,none⟩=some (.string x.1.2.1.1.t):=fun k=>k.cell p8
    have P9:∀k:BW wr,k.val.cell? ⟨g,h*12+9,none⟩=some (.slice x.1.2.1.1.LA x.1.2.1.1.ln x.1.2.1.1.lc):=fun k=>k.cell p9
    have P10:∀k:BW wr,k.val.cell? ⟨g,h*12+10,none⟩=some (.slice x.1.2.1.1.DA x.1.2.1.1.dn x.1.2.1.1.dc):=fun k=>k.cell p10
    have P11:∀k:BW wr,k.val.cell? ⟨g,h*12+11,none⟩=some (.bool x.1.2.2):=fun k=>k.cell p11
    have R0:∀k:BW wr,k.val.cell? ⟨g,(p-h)*12,none⟩=some (.int .i64 y.1.1.1.1.k):=fun k=>k.cell r0
    have R1:∀k:BW wr,k.val.cell? ⟨g,(p-h)*12+1,none⟩=some (.int .i64 y.1.1.1.1.n):=fun k=>k.cell r1
    have R2:∀k:BW wr,k.val.cell? ⟨g,(p-h)*12+2,none⟩=some (.string y.1.1.1.1.t):=fun k=>k.cell r2
    have R3:∀k:BW wr,k.val.cell? ⟨g,(p-h)*12+3,none⟩=some (.slice y.1.1.1.1.LA y.1.1.1.1.ln y.1.1.1.1.lc):=fun k=>k.cell r3
    have R4:∀k:BW wr,k.val.cell? ⟨g,(p-h)*12+4,none⟩=some (.slice y.1.1.1.1.DA y.1.1.1.1.dn y.1.1.1.1.dc):=fun k=>k.cell r4
    have R5:∀k:BW wr,k.val.cell? ⟨g,(p-h)*12+5,none⟩=some (.bool y.1.1.2):=fun k=>k.cell r5
    have R6:∀k:BW wr,k.val.cell? ⟨g,(p-h)*12+6,none⟩=some (.int .i64 y.1.2.1.1.k):=fun k=>k.cell r6
    have R7:∀k:BW wr,k.val.cell? ⟨g,(p-h)*12+7,none⟩=some (.int .i64 y.1.2.1.1.n):=fun k=>k.cell r7
    have R8:∀k:BW wr,k.val.cell? ⟨g,(p-h)*12+8,none⟩=some (.string y.1.2.1.1.t):=fun k=>k.cell r8
    have R9:∀k:BW wr,k.val.cell? ⟨g,(p-h)*12+9,none⟩=some (.slice y.1.2.1.1.LA y.1.2.1.1.ln y.1.2.1.1.lc):=fun k=>k.cell r9
    have R10:∀k:BW wr,k.val.cell? ⟨g,(p-h)*12+10,none⟩=some (.slice y.1.2.1.1.DA y.1.2.1.1.dn y.1.2.1.1.dc):=fun k=>k.cell r10
    have R11:∀k:BW wr,k.val.cell? ⟨g,(p-h)*12+11,none⟩=some (.bool y.1.2.2):=fun k=>k.cell r11
    have i0:(0:Int)≤(h:Int):=by omega
    have i1:(h:Int)<(n:Int):=by omega
    have i2:(0:Int)≤(p:Int)-(h:Int):=by omega
    have i3:(p:Int)-(h:Int)<(n:Int):=by omega
    have K1:Hid (∀k:BW wr,Calls Tryz.prog 177 #[aggSp y,aggSp x] k.val fun e w''=>e=.returned (.int .i64 (cmC (spP y.1).1 (spP x.1).1))∧∃k:BW wr,w''=k.val):=fun k=>
     Calls.bw (HH.out.cmp y x (by simp[hyY]) (by simp[hxX]) k.val (I.but.step k.below))
    have HX:=qD hx
    have HY:=qD hy
    clear p0 p1 p2 p3 p4 p5 p6 p7 p8 p9 p10 p11 r0 r1 r2 r3 r4 r5 r6 r7 r8 r9 r10 r11 hx hy hxX hyY I
    refine wp_region_bw (by as_aux_lemma=>kernel_rfl) (by as_aux_lemma=>kernel_rfl) ?_
    repeat(go_big_quiet_step (with_reducible exact K1.out _))
    refine wpQuiet_nil ?_
    rintro _ ⟨kw,rfl⟩
    have J2:=qD (J.out.step kw.below)
    clear P0 P1 P2 P3 P4 P5 P6 P7 P8 P9 P10 P11 R0 R1 R2 R3 R4 R5 R6 R7 R8 R9 R10 R11 K1 i0 i1 i2 i3
    generalize kw.val=w2 at*
    by_cases hc:cmC (spP y.1).1 (spP x.1).1<0
    ·have HHi2:Hid (HiSp (A++X++Y++D) r0 (p+1) h):=.inr ⟨x,y,HX.out,HY.out,hc⟩
     have d4:(!decide (cmC (spP y.1).1 (spP x.1).1<0))=false:=by rw[decide_eq_true hc];rfl
     go_wp2_with fail
     all_goals first|(rename_i e;rw[d4] at e;contradiction)|skip
     go_roundw
     case rel=>exact⟨i,h,rfl,rfl,hmi,h1,by omega,HLo.out,HHi2.out,J2.out⟩
     case measure=>simp[intOf];omega
    ·have HLo2:Hid (LoSp (A++X++Y++D) s0 (p+1) (h+1)):=.inr ⟨x,y,HX.out,by rw[Nat.add_sub_add_right];exact HY.out,hc⟩
     have d4:(!decide (cmC (spP y.1).1 (spP x.1).1<0))=true:=by rw[decide_eq_false hc];rfl
     go_wp2_with fail
     all_goals first|(rename_i e;rw[d4] at e;contradiction)|skip
     go_roundw
     case rel=>exact⟨h+1,j,by go_num,rfl,by omega,by omega,hjb,HLo2.out,HHi.out,J2.out⟩
     case measure=>simp[intOf];omega
   ·obtain rfl:i=j:=by omega
    obtain⟨X1,X2,Y1,Y2,hXX,hYY,l1,l2,l3,l4,h12,h21⟩:=sym_parts (D:=D) HO.out HA.out HM.out HB.out HH.out.hX HH.out.hY HH.out.hT hmi hjb HMid.out HC.out (by rw[HP.out];exact HLo.out) (by rw[HP.out];exact HHi.out)
    have HS:Hid (∀S1 S2,Sorted (fun p q:PS=>cmC (spP p).1 (spP q).1) (X1++Y1) S1→Sorted (fun p q:PS=>cmC (spP p).1 (spP q).1) (X2++Y2) S2→Sorted (fun p q:PS=>cmC (spP p).1 (spP q).1) (X++Y) (S1++S2)):=fun S1 S2 q1 q2=>by
     have hp:=HH.out.hX
     have hq:=HH.out.hY
     rw[hXX] at hp ⊢
     rw[hYY] at hq ⊢
     exact split_sorted hp hq h12 h21 q1 q2
    have HH2:Hid (HalvesSp A (X1++X2) (Y1++Y2) D g n w):=by have:=HH.out;rw[hXX,hYY] at this;exact this
    have HJ:Hid (IsSp g w (A++X1++X2++Y1++Y2++D) wr):=by have:=J.out;rw[hXX,hYY] at this;rw[Hid];simpa using this
    have HL1:=qD l1
    have HL2:=qD l2
    have HL3:=qD l3
    have HL4:=qD l4
    have hsum:mid-a<X.length+Y.length:=by have:=HM.out;have:=HB.out;omega
    have hsum2:b-mid<X.length+Y.length:=by have:=HM.out;have:=HB.out;omega
    clear hXX hYY l1 l2 l3 l4 h12 h21 I J HLo HHi
    go_upto_region 39 with fail
    obtain⟨en,hen⟩:∃en:Nat,(p:Int)+1-(i:Int)=(en:Int):=⟨p+1-i,by omega⟩
    have HEn:Hid (en+i=mid+m):=by unfold Hid;have:=HP.out;omega
    have hen1:en≤b:=by omega
    rw[hen]
    clear hen
    go_cut [185] (fun s wx=>s=.bool (decide (i<m∧m<en))∧wr=wx)
    case first=>as_aux_lemma=>
     by_cases e1:i<m<;>by_cases e2:m<en
     all_goals
      go_wp2_with fail
      go_meet
      exact⟨congrArg Value.bool (by simp[e1,e2]),rfl⟩
    case rest=>
     obtain⟨rfl,rfl⟩:=hcut
     go_upto_if 185 with fail
     go_cut [] (fun wx=>IsSp g w (A++X1++Y1++X2++Y2++D) wx)
     case first=>as_aux_lemma=>
      by_cases e:i<m∧m<en
      ·have d:decide (i<m∧m<en)=true:=decide_eq_true e
       rw[d]
       clear d
       go_wp2_with fail
       refine(rotateSp_any (A++X1) X2 Y1 (Y2++D) g n c i m en _ _ _ _ _ (by have:=HJ.out.row;simpa using this) (by rw[HH2.out.ln];simp) (by have:=HA.out;have:=HL1.out;simp;omega) (by have:=HA.out;have:=HL1.out;have:=HL2.out;simp;omega) (by have:=HA.out;have:=HL1.out;have:=HL2.out;have:=HL3.out;have:=HEn.out;simp;omega) (by have:=HL2.out;omega) (by have:=HL3.out;have:=HEn.out;omega) rfl rfl rfl HH2.out.sz).mono ?_
       rintro e w1 ⟨rfl,h1⟩
       have H1:=qD (HJ.out.then h1)
       clear h1
       go_wp2_with fail
       go_meet
       have:=H1.out
       simpa using this
      ·have d:decide (i<m∧m<en)=false:=decide_eq_false e
       rw[d]
       clear d
       go_wp2_with fail
       go_meet
       have h1:=HJ.out
       have q:X2=[]∨Y1=[]:=by
        by_cases e1:i<m
        ·exact .inr (List.eq_nil_of_length_eq_zero (by have:=HL3.out;have:=HEn.out;omega))
        ·exact .inl (List.eq_nil_of_length_eq_zero (by have:=HL2.out;omega))
       rcases q with q|q
       ·rw[q] at h1 ⊢;simpa using h1
       ·rw[q] at h1 ⊢;simpa using h1
     case rest=>
      have HJ2:=qD hcut
      clear hcut
      go_upto_region 41 with fail
      go_cut [199] (fun s wx=>s=.bool (decide (a<i∧i<mid))∧wc=wx)
      case first=>as_aux_lemma=>
       by_cases e1:a<i<;>by_cases e2:i<mid
       all_goals
        go_wp2_with fail
        go_meet
        exact⟨congrArg Value.bool (by simp[e1,e2]),rfl⟩
      case rest=>
       obtain⟨rfl,rfl⟩:=hcut
       go_upto_if 199 with fail
       go_cut [] (fun wx=>∃S1,Sorted (fun p q:PS=>cmC (spP p).1 (spP q).1) (X1++Y1) S1∧IsSp g w (A++S1++(X2++Y2++D)) wx)
       case first=>as_aux_lemma=>
        by_cases e:a<i∧i<mid
        ·have d:decide (a<i∧i<mid)=true:=decide_eq_true e
         rw[d]
         clear d
         go_wp2_with fail
         refine(HI.out A X1 Y1 (X2++Y2++D) g n c a i mid _ _ _ _ (halfSpL HH2.out HJ2.out) HA.out (by have:=HL1.out;omega) (by have:=HL3.out;omega) (by have:=HL1.out;omega) (by have:=HL3.out;omega) (by have:=HL1.out;have:=HL3.out;omega) rfl rfl rfl).mono ?_
         rintro e w1 ⟨rfl,S1,h1,h2⟩
         have H1:=qD h1
         have H2:=qD (HJ2.out.then h2)
         clear h1 h2
         go_wp2_with fail
         go_meet
         exact⟨S1,H1.out,H2.out⟩
        ·have d:decide (a<i∧i<mid)=false:=decide_eq_false e
         rw[d]
         clear d
         go_wp2_with fail
         go_meet
         have hh:=halfSpL HH2.out HJ2.out
         refine⟨X1++Y1,sorted_self ?_,by have:=HJ2.out;simpa using this⟩
         have q:X1=[]∨Y1=[]:=by
          by_cases e1:a<i
          ·exact .inr (List.eq_nil_of_length_eq_zero (by have:=HL3.out;omega))
          ·exact .inl (List.eq_nil_of_length_eq_zero (by have:=HL1.out;omega))
         rcases q with q|q
         ·rw[q];simpa using hh.hY
         ·rw[q];simpa using hh.hX
       case rest=>
        obtain⟨S1,hS1,I⟩:=hcut
        have HS1:=qD hS1
        have HJ3:=qD I
        have HLS:Hid (S1.length=X1.length+Y1.length):=by rw[Hid,hS1.1.length_eq];simp
        clear hS1 I
        go_upto_region 43 with fail
        go_cut [213] (fun s wx=>s=.bool (decide (mid<en∧en<b))∧wc=wx)
        case first=>as_aux_lemma=>
         by_cases e1:mid<en<;>by_cases e2:en<b
         all_goals
          go_wp2_with fail
          go_meet
          exact⟨congrArg Value.bool (by simp[e1,e2]),rfl⟩
        case rest=>
         obtain⟨rfl,rfl⟩:=hcut
         by_cases e:mid<en∧en<b
         ·as_aux_lemma=>
          have d:decide (mid<en∧en<b)=true:=decide_eq_true e
          rw[d]
          clear d
          go_wp2_with fail
          refine(HI.out (A++S1) X2 Y2 D g n c mid en b _ _ _ _ (halfSpR HH2.out HLS.out HJ3.out) (by have:=HA.out;have:=HLS.out;have:=HL1.out;have:=HL3.out;simp;omega) (by have:=HL2.out;have:=HEn.out;omega) (by have:=HL4.out;have:=HEn.out;omega) (by have:=HL2.out;have:=HEn.out;omega) (by have:=HL4.out;have:=HEn.out;omega) (by have:=HL2.out;have:=HL4.out;have:=HEn.out;omega) rfl rfl rfl).mono ?_
          rintro e w1 ⟨rfl,S2,h1,h2⟩
          have H1:=qD h1
          have H2:=qD (HJ3.out.then h2)
          clear h1 h2
          go_wp2_with fail
          go_end0
          exact⟨rfl,S1++S2,HS.out S1 S2 HS1.out H1.out,by have:=H2.out;simpa using this⟩
         ·as_aux_lemma=>
          have d:decide (mid<en∧en<b)=false:=decide_eq_false e
          rw[d]
          clear d
          go_wp2_with fail
          go_end0
          have hh:=halfSpR HH2.out HLS.out HJ3.out
          refine⟨rfl,S1++(X2++Y2),HS.out S1 _ HS1.out (sorted_self ?_),by have:=HJ3.out;simpa using this⟩
          have q:X2=[]∨Y2=[]:=by
           by_cases e1:mid<en
           ·exact .inr (List.eq_nil_of_length_eq_zero (by have:=HL4.out;have:=HEn.out;omega))
           ·exact .inl (List.eq_nil_of_length_eq_zero (by have:=HL2.out;have:=HEn.out;omega))
          rcases q with q|q
          ·rw[q];simpa using hh.hY
          ·rw[q];simpa using hh.hX
theorem symSp_any(H:Ordered (fun p q:PS=>cmC (spP p).1 (spP q).1))(N:Nat):SymOkSp N:=by
 induction N with
 | zero=>exact fun A X Y D g n c a m b aI mI bI w h ha hm hb h1 h2 h3=>absurd h3 (by omega)
 | succ N ih=>
  intro A X Y D g n c a m b aI mI bI w h ha hm hb h1 h2 h3 haI hmI hbI
  by_cases e1:X.length=1
  ·obtain⟨x,rfl⟩:=List.length_eq_one_iff.1 e1
   exact sym1Sp H A x Y D g n c a m b aI mI bI w h ha (by simpa using hm) hb haI hmI hbI
  ·by_cases e2:Y.length=1
   ·obtain⟨y,rfl⟩:=List.length_eq_one_iff.1 e2
    exact sym2Sp H A X y D g n c a m b aI mI bI w h ha hm (by simpa using hb) (by omega) haI hmI hbI
   ·exact sym3Sp H A X Y D g n c a m b aI mI bI w h ha hm hb (by omega) (by omega) (fun A' X' Y' D' g' n' c' a' m' b' aI' mI' bI' w' q1 q2 q3 q4 q5 q6 q7 q8 q9 q10=>ih A' X' Y' D' g' n' c' a' m' b' aI' mI' bI' w' q1 q2 q3 q4 q5 q6 (by omega) q8 q9 q10) haI hmI hbI
section
variable {α:Type}
def blk(bs q:Nat)(L:List α):List α:=(L.drop (q*bs)).take bs
theorem blk_before{A T:List α}{bs q:Nat}(h:q*bs+bs≤A.length):blk bs q (A++T)=blk bs q A:=by
 unfold blk
 rw[List.drop_append_of_le_length (by omega),List.take_append_of_le_length (by rw[List.length_drop];omega)]
theorem blk_behind{A T:List α}{bs q k:Nat}(hA:A.length=k*bs)(h:k≤q):blk bs q (A++T)=blk bs (q-k) T:=by
 unfold blk
 have e:q*bs=A.length+(q-k)*bs:=by rw[hA,←Nat.add_mul,Nat.add_sub_cancel' h]
 rw[e,List.drop_length_add_append]
theorem blk_zero{S T:List α}{bs:Nat}(h:S.length=bs∨(S.length≤bs∧T=[])):blk bs 0 (S++T)=S:=by
 unfold blk
 rcases h with h|⟨h,rfl⟩
 ·subst h;simp
 ·simp[List.take_of_length_le h]
variable {cm:α→α→Int}
theorem runs_step{A0 A Seg S:List (α×Nat)}{bs k:Nat}(hA0:A0.length=k*bs)(hA:A.length=k*bs)(h:∀q,q<k→Sorted cm (blk bs q A0) (blk bs q A))(hl:Seg.length=bs)(hS:Sorted cm Seg S):
 ∀q,q<k+1→Sorted cm (blk bs q (A0++Seg)) (blk bs q (A++S)):=fun q hq=>by
 by_cases e:q=k
 ·subst e
  have hl2:S.length=bs:=by rw[←hl];exact hS.1.length_eq
  have e1:blk bs 0 (Seg++[])=Seg:=blk_zero (.inl hl)
  have e2:blk bs 0 (S++[])=S:=blk_zero (.inl hl2)
  rw[List.append_nil] at e1 e2
  rw[blk_behind hA0 (qL),blk_behind hA (qL),Nat.sub_self,e1,e2]
  exact hS
 ·have hk:(q+1)*bs≤k*bs:=Nat.mul_le_mul_right _ (by omega)
  rw[Nat.succ_mul] at hk
  rw[blk_before (by omega),blk_before (by omega)]
  exact h q (by omega)
theorem runs_last{A0 A Seg S:List (α×Nat)}{bs k:Nat}(hA0:A0.length=k*bs)(hA:A.length=k*bs)(h:∀q,q<k→Sorted cm (blk bs q A0) (blk bs q A))(hl:Seg.length≤bs)(hS:Sorted cm Seg S):
 ∀q,Sorted cm (blk bs q (A0++Seg)) (blk bs q (A++S)):=fun q=>by
 have hl2:S.length≤bs:=by rw[hS.1.length_eq];exact hl
 by_cases e:q<k
 ·have hk:(q+1)*bs≤k*bs:=Nat.mul_le_mul_right _ (by omega)
  rw[Nat.succ_mul] at hk
  rw[blk_before (by omega),blk_before (by omega)]
  exact h q e
 ·rw[blk_behind hA0 (by omega),blk_behind hA (by omega)]
  by_cases e0:q=k
  ·subst e0
   have e1:blk bs 0 (Seg++[])=Seg:=blk_zero (.inr ⟨hl,rfl⟩)
   have e2:blk bs 0 (S++[])=S:=blk_zero (.inr ⟨hl2,rfl⟩)
   rw[List.append_nil] at e1 e2
   rw[Nat.sub_self,e1,e2]
   exact hS
  ·have hk:1*bs≤(q-k)*bs:=Nat.mul_le_mul_right _ (by omega)
   unfold blk
   rw[List.drop_eq_nil_of_le (by omega),List.drop_eq_nil_of_le (by omega),List.take_nil]
   exact⟨List.Perm.refl _,List.Pairwise.nil⟩
theorem runs_tail{X0 Y0 D0 X Y D:List (α×Nat)}{bs:Nat}(h1:X0.length=bs)(h2:Y0.length=bs∨(Y0.length≤bs∧D0=[]))(h3:X.length=bs)(h4:Y.length=bs∨(Y.length≤bs∧D=[]))(h:∀q,Sorted cm (blk bs q (X0++(Y0++D0))) (blk bs q (X++(Y++D)))):
 Sorted cm X0 X∧Sorted cm Y0 Y:=by
 refine⟨?_,?_⟩
 ·have:=h 0
  rwa [blk_zero (.inl h1),blk_zero (.inl h3)] at this
 ·have:=h 1
  rwa [blk_behind (k:=1) (by omega) (qL),blk_behind (k:=1) (by omega) (qL),Nat.sub_self,blk_zero h2,blk_zero h4] at this
theorem runs_rest{Z0 D0 Z D:List (α×Nat)}{bs:Nat}(h1:Z0.length=2*bs)(h3:Z.length=2*bs)(h:∀q,Sorted cm (blk bs q (Z0++D0)) (blk bs q (Z++D)))(q:Nat):Sorted cm (blk bs q D0) (blk bs q D):=by
 have:=h (q+2)
 rwa [blk_behind (k:=2) h1 (by omega),blk_behind (k:=2) h3 (by omega),Nat.add_sub_cancel] at this
theorem runs_all{L0 L:List (α×Nat)}{bs:Nat}(hl:L0.length≤bs)(hl2:L.length≤bs)(h:∀q,Sorted cm (blk bs q L0) (blk bs q L)):Sorted cm L0 L:=by
 have:=h 0
 have e1:blk bs 0 (L0++[])=L0:=blk_zero (.inr ⟨hl,rfl⟩)
 have e2:blk bs 0 (L++[])=L:=blk_zero (.inr ⟨hl2,rfl⟩)
 rw[List.append_nil] at e1 e2
 rwa [e1,e2] at this
end
structure DoneSp(bs:Nat)(L0:List (PS×Nat))(k:Nat)(A0 A R:List (PS×Nat)):Prop where
 e:L0=A0++R
 l0:A0.length=k*bs
 l:A.length=k*bs
 s:∀q,q<k→Sorted (fun p q:PS=>cmC (spP p).1 (spP q).1) (blk bs q A0) (blk bs q A)
structure MidSp(bs:Nat)(L0:List (PS×Nat))(k:Nat)(A0 A R0 R:List (PS×Nat)):Prop where
 e:L0=A0++R0
 l0:A0.length=k*(2*bs)
 l:A.length=k*(2*bs)
 rl:R.length=R0.length
 s:∀q,q<k→Sorted (fun p q:PS=>cmC (spP p).1 (spP q).1) (blk (2*bs) q A0) (blk (2*bs) q A)
 t:∀q,Sorted (fun p q:PS=>cmC (spP p).1 (spP q).1) (blk bs q R0) (blk bs q R)
structure PairSp(bs:Nat)(R0 R X0 Y0 D0 X Y D:List (PS×Nat)):Prop where
 e0:R0=X0++(Y0++D0)
 e:R=X++(Y++D)
 x0:X0.length=bs
 x:X.length=bs
 y0:Y0.length=bs∨(Y0.length≤bs∧D0=[])
 y:Y.length=bs∨(Y.length≤bs∧D=[])
theorem pairSp_of(bs:Nat)(R0 R:List (PS×Nat))(hl:R.length=R0.length)(hb:bs≤R.length):PairSp bs R0 R (R0.take bs) ((R0.drop bs).take bs) ((R0.drop bs).drop bs) (R.take bs) ((R.drop bs).take bs) ((R.drop bs).drop bs):=by
 have aux:∀l:List (PS×Nat),(l.take bs).length=bs∨((l.take bs).length≤bs∧l.drop bs=[]):=fun l=>by
  by_cases e:bs≤l.length
  ·exact .inl (by rw[List.length_take];omega)
  ·exact .inr ⟨by rw[List.length_take];omega,List.drop_eq_nil_of_le (by omega)⟩
 exact⟨by rw[List.take_append_drop,List.take_append_drop],by rw[List.take_append_drop,List.take_append_drop],by rw[List.length_take];omega,by rw[List.length_take];omega,aux _,aux _⟩
theorem MidSp.sorted{bs k:Nat}{L0 A0 A R0 R X0 Y0 D0 X Y D:List (PS×Nat)}(h:MidSp bs L0 k A0 A R0 R)(hp:PairSp bs R0 R X0 Y0 D0 X Y D):Sorted (fun p q:PS=>cmC (spP p).1 (spP q).1) X0 X∧Sorted (fun p q:PS=>cmC (spP p).1 (spP q).1) Y0 Y:=
 runs_tail hp.x0 hp.y0 hp.x hp.y (by have:=h.t;rw[hp.e0,hp.e] at this;exact this)
theorem MidSp.halves{bs k:Nat}{L0 A0 A R0 R X0 Y0 D0 X Y D:List (PS×Nat)}(h:MidSp bs L0 k A0 A R0 R)(hp:PairSp bs R0 R X0 Y0 D0 X Y D){g n:Nat}{w wr:World}(ht:Tagged L0)(hc:CmpOkSp g w L0)(I:IsSp g w (A++R) wr)(hn:n=L0.length)(hz:n*176≤reach):HalvesSp A X Y D g n wr:=by
 obtain⟨s1,s2⟩:=h.sorted hp
 have ht2:Tagged (A0++(X0++(Y0++D0))):=by rw[←hp.e0,←h.e];exact ht
 refine⟨?_,?_,hz,s1.2,s2.2,fun x hx y hy=>?_,hc.less I.but fun x hx=>?_⟩
 ·have:=I.row
  rw[hp.e] at this
  simpa using this
 ·rw[hn,h.e,List.append_assoc,List.append_assoc,←hp.e,List.length_append,List.length_append,h.l0,h.l,h.rl]
 ·have q:=(List.pairwise_append.1 (List.pairwise_append.1 ht2).2.1).2.2
  exact q x (s1.1.mem_iff.1 hx) y (by simp[s2.1.mem_iff.1 hy])
 ·rw[h.e,hp.e0]
  rcases List.mem_append.1 hx with hx|hx
  ·simp[s1.1.mem_iff.1 hx]
  ·simp[s2.1.mem_iff.1 hx]
theorem Sorted.both{α:Type}{cm:α→α→Int}{X0 Y0 X Y S:List (α×Nat)}(h1:Sorted cm X0 X)(h2:Sorted cm Y0 Y)(h:Sorted cm (X++Y) S):Sorted cm (X0++Y0) S:=⟨h.1.trans (h1.1.append h2.1),h.2⟩
theorem MidSp.next{bs k:Nat}{L0 A0 A R0 R X0 Y0 D0 X Y D S:List (PS×Nat)}(h:MidSp bs L0 k A0 A R0 R)(hp:PairSp bs R0 R X0 Y0 D0 X Y D)(hS:Sorted (fun p q:PS=>cmC (spP p).1 (spP q).1) (X++Y) S)(hy:Y.length=bs)(hy0:Y0.length=bs):MidSp bs L0 (k+1) (A0++(X0++Y0)) (A++S) D0 D:=by
 obtain⟨s1,s2⟩:=h.sorted hp
 have hS2:=Sorted.both s1 s2 hS
 have l1:(X0++Y0).length=2*bs:=by rw[List.length_append,hp.x0,hy0];omega
 have l2:(X++Y).length=2*bs:=by rw[List.length_append,hp.x,hy];omega
 refine⟨?_,?_,?_,?_,runs_step h.l0 h.l h.s l1 hS2,fun q=>runs_rest l1 l2 ?_ q⟩
 ·rw[h.e,hp.e0];simp
 ·rw[List.length_append,h.l0,l1];exact(Nat.succ_mul k (2*bs)).symm
 ·rw[List.length_append,h.l,hS.1.length_eq,l2];exact(Nat.succ_mul k (2*bs)).symm
 ·have:=h.rl
  rw[hp.e,hp.e0] at this
  simp[hp.x,hp.x0,hy,hy0] at this
  exact this
 ·have:=h.t
  rw[hp.e0,hp.e] at this
  simpa using this
theorem MidSp.last{bs k:Nat}{L0 A0 A R0 R X0 Y0 X Y S:List (PS×Nat)}(h:MidSp bs L0 k A0 A R0 R)(hp:PairSp bs R0 R X0 Y0 [] X Y [])(hS:Sorted (fun p q:PS=>cmC (spP p).1 (spP q).1) (X++Y) S)(q:Nat):Sorted (fun p q:PS=>cmC (spP p).1 (spP q).1) (blk (2*bs) q L0) (blk (2*bs) q (A++S)):=by
 obtain⟨s1,s2⟩:=h.sorted hp
 have e:L0=A0++(X0++Y0):=by rw[h.e,hp.e0,List.append_nil]
 rw[e]
 exact runs_last h.l0 h.l h.s (by rw[List.length_append,hp.x0];rcases hp.y0 with q|⟨q,_⟩<;>omega) (Sorted.both s1 s2 hS) q
theorem MidSp.lone{bs k:Nat}{L0 A0 A R0 R:List (PS×Nat)}(h:MidSp bs L0 k A0 A R0 R)(hl:R.length≤bs)(q:Nat):Sorted (fun p q:PS=>cmC (spP p).1 (spP q).1) (blk (2*bs) q L0) (blk (2*bs) q (A++R)):=by
 rw[h.e]
 exact runs_last h.l0 h.l h.s (by rw[←h.rl];omega) (runs_all (by rw[←h.rl];exact hl) hl h.t) q
theorem stableSp_any(H:Ordered (fun p q:PS=>cmC (spP p).1 (spP q).1))(L0:List (PS×Nat))(g n c:Nat)(w:World)(hr:SRowSp w g L0)(hn:n=L0.length)(hz:n*176≤reach)(ht:Tagged L0)(hc:CmpOkSp g w L0):
 Calls Tryz.prog 228 #[.slice (some ⟨g,0,none⟩) n c,.int .i64 n,.func (.func 177) #[] #[]] w (IsDoneSp g w [] L0 []):=by
 have HZ:=qD hz
 unfold reach at hz
 have HN:=qD hn
 have HT:=qD ht
 have HC:=qD hc
 have HO:=qD H
 have I0:Hid (IsSp g w L0 w):=qD ⟨hr,But.refl⟩
 clear hr hn ht hc H
 go_enter Tryz.func228,Tryz.ntmps228
 go_wp2_with fail
 go_loopw [7,8] (fun v7 v8 wr=>∃(k a b:Nat) (A0 A R:List (PS×Nat)),v7=.int .i64 a∧v8=.int .i64 b∧b=a+20∧a=k*20∧a≤n∧DoneSp 20 L0 k A0 A R∧IsSp g w (A++R) wr) (fun _ v8 _=>n+40-(intOf v8).toNat)
 case atStart=>exact⟨0,0,20,[],[],L0,rfl,rfl,rfl,rfl,Nat.zero_le _,⟨rfl,rfl,rfl,fun q hq=>absurd hq (by omega)⟩,I0.out⟩
 case round=>
  obtain⟨k,a,b,A0,A,R,rfl,rfl,hb,hk,han,hD,I⟩:=hrel
  have HB:=qD hb
  have HK:=qD hk
  have HD:=qD hD
  have J:=qD I
  have hRl:R.length=n-a:=by have h1:=HN.out;rw[hD.e] at h1;simp[hD.l0] at h1;omega
  have HRl:=qD hRl
  clear hk hD I hRl
  by_cases hlt:b≤n
  ·have hb2:b=a+20:=hb
   have hl1:(R.take 20).length=20:=by rw[List.length_take];have:=HRl.out;omega
   have HL1:=qD hl1
   have HR:Hid (R=R.take 20++R.drop 20):=(List.take_append_drop 20 R).symm
   have HM:∀x∈R,x∈L0:=fun x hx=>by rw[HD.out.e];simp[hx]
   have HM':=qD HM
   clear hb hb2 hl1 HM
   go_wp2_with fail
   refine(isortSp_any HO.out A (R.take 20) (R.drop 20) g n c a b _ (by rw[List.append_assoc,←HR.out];exact J.out.row) (by rw[List.append_assoc,←HR.out,List.length_append,HD.out.l,HRl.out,←HK.out];omega) (by rw[HD.out.l];exact HK.out) (by rw[HD.out.l,HL1.out,←HK.out];exact HB.out) HZ.out ?_ ?_).mono ?_
   ·have:=HT.out
    rw[HD.out.e,HR.out] at this
    exact(List.pairwise_append.1 (List.pairwise_append.1 this).2.1).1
   ·exact HC.out.less J.out.but (fun x hx=>HM'.out x (List.mem_of_mem_take hx))
   rintro e w1 ⟨rfl,S,hS,h1⟩
   have HS:=qD hS
   have H1:=qD (J.out.then h1)
   clear hS h1
   go_wp2_with fail
   go_roundw
   case rel=>
    refine⟨k+1,b,b+20,A0++R.take 20,A++S,R.drop 20,rfl,by go_num,rfl,by have:=HB.out;have:=HK.out;omega,hlt,⟨by rw[List.append_assoc,←HR.out];exact HD.out.e,?_,?_,?_⟩,H1.out⟩
    ·rw[List.length_append,HD.out.l0,HL1.out];omega
    ·rw[List.length_append,HD.out.l,HS.out.1.length_eq,HL1.out];omega
    ·exact runs_step HD.out.l0 HD.out.l HD.out.s HL1.out HS.out
   case measure=>simp[intOf];omega
  ·have hRl2:R.length≤20:=by have:=HRl.out;omega
   have HM:∀x∈R,x∈L0:=fun x hx=>by rw[HD.out.e];simp[hx]
   have HM':=qD HM
   clear hb HM
   go_wp2_with fail
   refine(isortSp_any HO.out A R [] g n c a n _ (by rw[List.append_nil];exact J.out.row) (by rw[List.append_nil,List.length_append,HD.out.l,HRl.out,←HK.out];omega) (by rw[HD.out.l];exact HK.out) (by rw[HD.out.l,HRl.out,←HK.out];omega) HZ.out ?_ ?_).mono ?_
   ·have:=HT.out
    rw[HD.out.e] at this
    exact(List.pairwise_append.1 this).2.1
   ·exact HC.out.less J.out.but HM'.out
   rintro e w1 ⟨rfl,S,hS,h1⟩
   have J1:Hid (IsSp g w (A++S) w1):=by have:=J.out.then h1;rw[List.append_nil] at this;exact this
   have HR1:Hid (∀q,Sorted (fun p q:PS=>cmC (spP p).1 (spP q).1) (blk 20 q L0) (blk 20 q (A++S))):=by rw[Hid,HD.out.e];exact runs_last HD.out.l0 HD.out.l HD.out.s hRl2 hS
   have HLl:Hid ((A++S).length=L0.length):=by rw[Hid,HD.out.e,List.length_append,List.length_append,HD.out.l,HD.out.l0,hS.1.length_eq]
   clear hS h1
   go_wp2_with fail
   go_loopw [6] (fun v6 wr=>∃(bs:Nat) (L:List (PS×Nat)),v6=.int .i64 bs∧20≤bs∧bs≤2*n+20∧L.length=L0.length∧(∀q,Sorted (fun p q:PS=>cmC (spP p).1 (spP q).1) (blk bs q L0) (blk bs q L))∧IsSp g w L wr) (fun v6 _=>n-(intOf v6).toNat)
   case atStart=>exact⟨20,A++S,rfl,qL,by omega,HLl.out,HR1.out,J1.out⟩
   case round=>
    clear HB HK HD J HRl HM' J1 HR1 HLl
    obtain⟨bs,L,rfl,hb1,hb2,hl,hR,I⟩:=hrel
    have HL:=qD hl
    have HRu:=qD hR
    have J:=qD I
    clear hl hR I
    by_cases hlt2:bs<n
    ·go_wp2_with fail
     go_loopw [7,8] (fun v7 v8 wr=>∃(k a b:Nat) (A0 A R0 R:List (PS×Nat)),v7=.int .i64 a∧v8=.int .i64 b∧b=a+2*bs∧a≤n∧A.length=a∧MidSp bs L0 k A0 A R0 R∧IsSp g w (A++R) wr) (fun _ v8 _=>n+1-(intOf v8).toNat)
     case atStart=>exact⟨0,0,2*bs,[],[],L0,L,rfl,by go_num,by omega,Nat.zero_le _,rfl,⟨rfl,by simp,by simp,HL.out,fun q hq=>absurd hq (by omega),HRu.out⟩,J.out⟩
     case round=>
      clear HL HRu J
      obtain⟨k,a,b,A0,A,R0,R,rfl,rfl,hb,han,hA,hM,I⟩:=hrel
      have HB:=qD hb
      have HA:=qD hA
      have HM:=qD hM
      have J:=qD I
      have hRl:R.length=n-a:=by have h1:=HN.out;rw[hM.e] at h1;have h2:=hM.l0;have h3:=hM.l;simp at h1;rw[hM.rl];omega
      have HRl:=qD hRl
      clear hM I hA
      by_cases hlt3:b≤n
      ·obtain⟨X0,Y0,D0,X,Y,D,hp⟩:∃X0 Y0 D0 X Y D,PairSp bs R0 R X0 Y0 D0 X Y D:=⟨_,_,_,_,_,_,pairSp_of bs R0 R HM.out.rl (by omega)⟩
       have hy:Y.length=bs:=by
        have h1:=HRl.out
        rw[hp.e,List.length_append,List.length_append,hp.x] at h1
        rcases hp.y with q|⟨q,rfl⟩
        ·exact q
        ·simp at h1;omega
       have hy0:Y0.length=bs:=by
        have h1:=HRl.out
        rw[HM.out.rl,hp.e0,List.length_append,List.length_append,hp.x0] at h1
        rcases hp.y0 with q|⟨q,rfl⟩
        ·exact q
        ·simp at h1;omega
       have HPa:=qD hp
       have HY:=qD hy
       have HY0:=qD hy0
       have hbn:a+2*bs≤n:=by omega
       clear hp hy hy0 hb hRl
       go_wp2_with fail
       refine(symSp_any HO.out _ A X Y D g n c a (a+bs) b _ _ _ _ (HM.out.halves HPa.out HT.out HC.out J.out HN.out HZ.out) HA.out.symm (by rw[HPa.out.x]) (by rw[HY.out];have:=HB.out;omega) (by rw[HPa.out.x];omega) (by rw[HY.out];omega) (Nat.lt_succ_self _) rfl (by omega) rfl).mono ?_
       rintro e w2 ⟨rfl,S,hS,h1⟩
       have HS:=qD hS
       have H1:=qD (J.out.then h1)
       clear hS h1
       go_wp2_with fail
       go_roundw
       case rel=>
        exact⟨k+1,b,b+2*bs,_,A++S,_,D,rfl,by go_num,rfl,hlt3,by rw[List.length_append,HS.out.1.length_eq,List.length_append,HA.out,HPa.out.x,HY.out];have:=HB.out;omega,HM.out.next HPa.out HS.out HY.out HY0.out,H1.out⟩
       case measure=>simp[intOf];omega
      ·have hab:n<a+2*bs:=by omega
       clear hb hRl
       by_cases hm:a+bs<n
       ·obtain⟨X0,Y0,X,Y,hp⟩:∃X0 Y0 X Y,PairSp bs R0 R X0 Y0 [] X Y []:=by
         have q:=pairSp_of bs R0 R HM.out.rl (by have:=HRl.out;omega)
         rw[show(R0.drop bs).drop bs=[] from List.eq_nil_of_length_eq_zero (by have:=HRl.out;have:=HM.out.rl;simp;omega),show(R.drop bs).drop bs=[] from List.eq_nil_of_length_eq_zero (by have:=HRl.out;simp;omega)] at q
         exact⟨_,_,_,_,q⟩
        have hy:Y.length=n-a-bs:=by have h1:=HRl.out;rw[hp.e] at h1;have:=hp.x;simp at h1;omega
        have HPa:=qD hp
        have HY:=qD hy
        clear hp hy
        go_wp2_with fail
        refine(symSp_any HO.out _ A X Y [] g n c a (a+bs) n _ _ _ _ (HM.out.halves HPa.out HT.out HC.out J.out HN.out HZ.out) HA.out.symm (by rw[HPa.out.x]) (by rw[HY.out];omega) (by rw[HPa.out.x];omega) (by rw[HY.out];omega) (Nat.lt_succ_self _) rfl (by omega) rfl).mono ?_
        rintro e w2 ⟨rfl,S,hS,h1⟩
        have HS:=qD hS
        have H1:Hid (IsSp g w (A++S) w2):=by have:=J.out.then h1;rw[List.append_nil] at this;exact this
        clear hS h1
        go_wp2_with fail
        go_roundw
        case rel=>
         exact⟨2*bs,A++S,by go_num,by omega,by omega,by rw[List.length_append,HS.out.1.length_eq,List.length_append,HA.out,HPa.out.x,HY.out,←HN.out];omega,HM.out.last HPa.out HS.out,H1.out⟩
        case measure=>simp[intOf];omega
       ·go_wp2_with fail
        go_roundw
        case rel=>
         exact⟨2*bs,A++R,by go_num,by omega,by omega,by rw[List.length_append,HA.out,HRl.out,←HN.out];omega,HM.out.lone (by have:=HRl.out;omega),J.out⟩
        case measure=>simp[intOf];omega
    ·have HE:Hid (Sorted (fun p q:PS=>cmC (spP p).1 (spP q).1) L0 L):=runs_all (by rw[←HN.out];omega) (by rw[HL.out,←HN.out];omega) HRu.out
     go_wp2_with fail
     go_end0
     exact⟨rfl,L,HE.out,by have:=J.out;simpa using this⟩
def SpOk(is:List PI)(w:World)(e:Ending)(w':World):Prop:=
 ∃(A:Option Addr) (m c:Nat) (xs:List PS),e=.returned (.slice A m c)∧xs.map spP=spansL (is.map ivP)∧(∀x∈xs,∃p∈is,x=spanP p)∧m≤is.length∧SS w' A m c xs∧Below w.heap.size w w'
structure SpI(w:World)(is:List PI)(i:Nat)(v:Value)(xs:List PS)(wr:World):Prop where
 own:wr.ownsRow w.heap.size 140 12 v xs.length (flat recS xs)
 eq:xs.map spP=spansL ((is.take i).map ivP)
 le:xs.length≤i
 ok:∀x∈xs,okS w x
 pr:∀x∈xs,∃p∈is,x=spanP p
 bel:Below w.heap.size w wr
theorem SpI.step{w:World}{is:List PI}{i:Nat}{v:Value}{xs:List PS}{wr w':World}(h:SpI w is i v xs wr)(hb:Below wr.heap.size wr w'):SpI w is i v xs w':=⟨own_step h.own hb,h.eq,h.le,h.ok,h.pr,h.bel.step' hb⟩
theorem SpI.skip{w:World}{is:List PI}{i:Nat}{v:Value}{xs:List PS}{wr:World}{p:PI}(h:SpI w is i v xs wr)(hp:is[i]?=some p)(hn:(ivP p).ne=false):SpI w is (i+1) v xs wr:=by
 refine⟨h.own,?_,by have:=h.le;omega,h.ok,h.pr,h.bel⟩
 rw[take_snoc' hp,List.map_append,List.map_singleton,spansL_snoc,hn]
 exact h.eq
theorem SpI.next{w:World}{is:List PI}{i m:Nat}{v v':Value}{xs:List PS}{wr w':World}{p:PI}(h:SpI w is i v xs wr)(hp:is[i]?=some p)(hn:(ivP p).ne=true)(hok:okI w p)(hg:wr.grownBy w' v.ownBlock)(hm:m=xs.length+1)(ho:w'.ownsRow w.heap.size 140 12 v' m (flat recS xs++recS (spanP p))):SpI w is (i+1) v' (xs++[spanP p]) w':=by
 subst hm
 refine⟨?_,?_,by have:=h.le;simp;omega,fun x hx=>?_,fun x hx=>?_,h.bel.grown hg h.bel.size (own_ge h.own)⟩
 ·rw[flat_snoc,List.length_append];exact ho
 ·have e:spansL ((is.take (i+1)).map ivP)=spansL ((is.take i).map ivP)++[(ivP p).sp]:=by
   rw[take_snoc' hp,List.map_append,List.map_singleton,spansL_snoc,hn];rfl
  rw[e,List.map_append,h.eq]
  rfl
 ·rcases List.mem_append.1 hx with hx|hx
  ·exact h.ok x hx
  ·simp at hx;subst hx;exact hok.span
 ·rcases List.mem_append.1 hx with hx|hx
  ·exact h.pr x hx
  ·simp at hx;subst hx;exact⟨p,List.mem_of_getElem? hp,rfl⟩
theorem ne_false1{p:PI}(h:validV p.1.1.2=false):(ivP p).ne=false:=by show(validV p.1.1.2&&_&&_)=false;rw[h];rfl
theorem ne_false2{p:PI}(h:validV p.1.2.2=false):(ivP p).ne=false:=by show(validV p.1.1.2&&validV p.1.2.2&&_)=false;rw[h,Bool.and_false];rfl
theorem ne_false3{p:PI}(h:¬cmC (ivP p).sp.1 (ivP p).sp.2<0):(ivP p).ne=false:=by unfold Iv.ne;rw[decide_eq_false h,Bool.and_false]
theorem ne_true{p:PI}(h1:validV p.1.1.2=true)(h2:validV p.1.2.2=true)(h:cmC (ivP p).sp.1 (ivP p).sp.2<0):(ivP p).ne=true:=by
 show(validV p.1.1.2&&validV p.1.2.2&&_)=true;rw[h1,h2,decide_eq_true h];rfl
structure SpB(w:World)(is:List PI)(i:Nat)(v:Value)(xs:List PS)(g:Nat)(p:PI)(wr:World):Prop where
 i:SpI w is i v xs wr
 b5:Blk wr g 93 (arrI p)
 b6:Blk wr (g+1) 140 (arrS (spanP p))
theorem SpB.step{w:World}{is:List PI}{i:Nat}{v:Value}{xs:List PS}{g:Nat}{p:PI}{wr w':World}(h:SpB w is i v xs g p wr)(hb:Below wr.heap.size wr w'):SpB w is i v xs g p w':=⟨h.i.step hb,h.b5.step hb,h.b6.step hb⟩
theorem spans_any(is:List PI)(A:Option Addr)(n c:Nat)(w:World)(hT:Tabs w)(h:SI w A n c is)(hn:n≤1000000000):
 Calls Tryz.prog 108 #[.slice A n c] w (SpOk is w):=by
 obtain⟨j0,hj0,hy0,hy1,hy2⟩:=info_parts info_span
 have HT:=qD hT
 have H:=qD h
 have HL:=qD h.sr.ln
 clear hT h
 go_enter Tryz.func108,Tryz.ntmps108
 go_wp2_with fail
 go_loopw [3,9] (fun v3 v9 wr=>∃(i:Nat) (xs:List PS),i≤n∧v9=.int .i64 i∧SpI w is i v3 xs wr) (fun _ v9 _=>n-(intOf v9).toNat)
 case atStart=>exact⟨0,[],Nat.zero_le _,rfl,⟨own_nil _ _ _ _,rfl,qL,by simp,by simp,Below.refl _ _⟩⟩
 case round=>
  obtain⟨i,xs,hi,rfl,I⟩:=hrel
  have J:=qD I
  by_cases hlt:i<n
  ·obtain⟨p,hp⟩:∃p,is[i]?=some p:=⟨_,List.getElem?_eq_getElem (by have:=HL.out;omega)⟩
   obtain⟨b,off,rfl,hbl,hat,hok⟩:=H.out.at hp
   have HP:=qD hp
   have HOk:=qD hok
   have hbr:b<wr.heap.size:=by have:=I.bel.size;omega
   have hle:=I.le
   obtain⟨⟨p0,p1,p2,p3,p4⟩,⟨q0,q1,q2,q3,q4⟩,r0,r1⟩:=hat.keep (I.bel.block b hbl)
   clear hp hok hat I hbl
   go_upto_region 6 with fail
   have KB:SpB w is i u3 xs wr.heap.size p ((wr.alloc (.cells (arrI p) 93)).alloc (.cells (arrS (spanP p)) 140)):=
    ⟨(J.out.step ((Below.refl wr.heap.size wr).alloc (qL) _)).step ((Below.refl _ _).alloc (qL) _),(Blk.new_at rfl).alloc _,Blk.new_at (by simp)⟩
   change (Code.region 6 _ _).wp _ _ _ ((wr.alloc (.cells (arrI p) 93)).alloc (.cells (arrS (spanP p)) 140))
   generalize (wr.alloc (.cells (arrI p) 93)).alloc (.cells (arrS (spanP p)) 140)=wa at*
   generalize wr.heap.size=ga at*
   have LB:=qD KB
   clear p0 p1 p2 p3 p4 q0 q1 q2 q3 q4 r0 r1 J KB hbr
   obtain⟨⟨p0,p1,p2,p3,p4⟩,⟨q0,q1,q2,q3,q4⟩,r0,r1⟩:=IAt.of_blk LB.out.b5
   go_wp2_with fail
   refine(valid_any p.1.1.2 p.1.1.1 _ (HT.out.step LB.out.i.bel) (HOk.out.step LB.out.i.bel).1).mono ?_
   rintro e w1 ⟨rfl,hb1⟩
   have L1:=qD (LB.out.step hb1)
   clear hb1 p0 p1 p2 p3 p4 q0 q1 q2 q3 q4 r0 r1 LB
   cases h1:validV p.1.1.2
   ·have HI:=qD (L1.out.i.skip HP.out (ne_false1 h1))
    clear h1
    go_wp2_with fail
    go_roundw
    case rel=>exact⟨i+1,xs,by omega,by go_num,HI.out⟩
    case measure=>simp[intOf];omega
   have V1:=qD h1
   clear h1
   obtain⟨⟨p0,p1,p2,p3,p4⟩,⟨q0,q1,q2,q3,q4⟩,r0,r1⟩:=IAt.of_blk L1.out.b5
   go_wp2_with fail
   refine(valid_any p.1.2.2 p.1.2.1 _ (HT.out.step L1.out.i.bel) (HOk.out.step L1.out.i.bel).2).mono ?_
   rintro e w2 ⟨rfl,hb2⟩
   have L2:=qD (L1.out.step hb2)
   clear hb2 p0 p1 p2 p3 p4 q0 q1 q2 q3 q4 r0 r1 L1
   cases h2:validV p.1.2.2
   ·have HI:=qD (L2.out.i.skip HP.out (ne_false2 h2))
    clear h2
    go_wp2_with fail
    go_roundw
    case rel=>exact⟨i+1,xs,by omega,by go_num,HI.out⟩
    case measure=>simp[intOf];omega
   have V2:=qD h2
   clear h2
   obtain⟨⟨⟨p0,p1,p2,p3,p4⟩,p5⟩,⟨⟨q0,q1,q2,q3,q4⟩,q5⟩⟩:=SAt.of_blk L2.out.b6
   go_wp2_with fail
   refine(compare_any (spanP p).1 (spanP p).2 _ (HOk.out.step L2.out.i.bel).1 (HOk.out.step L2.out.i.bel).2).mono ?_
   rintro e w3 ⟨rfl,hb3⟩
   have L3:=qD (L2.out.step hb3)
   clear hb3 p0 p1 p2 p3 p4 p5 q0 q1 q2 q3 q4 q5 L2
   by_cases h3:cmC (cutP (spanP p).1) (cutP (spanP p).2)<0
   ·have HN:=qD (ne_true V1.out V2.out h3)
    obtain⟨⟨⟨p0,p1,p2,p3,p4⟩,p5⟩,⟨⟨q0,q1,q2,q3,q4⟩,q5⟩⟩:=SAt.of_blk L3.out.b6
    have hlo:w.heap.size≤w3.heap.size:=L3.out.i.bel.size
    have LK:=qD (L3.out.i.step ((Below.refl w3.heap.size w3).alloc (qL) (Obj.cells (arrS (spanP p)) 140)))
    go_wp2_with (at_builtin;refine wpList_append_any _ rfl _ _ 136 rfl w.heap.size 140 j0 (aggS (((VC.zero,Val.zero),false),((VC.zero,Val.zero),false))) 12 176 Tryz.underlying136 hj0 hy0 hy1 hy2 rfl (by decide) u3 xs.length (flat recS xs) rfl LK.out.own _ _ 1 _ (recS (spanP p)) rfl ⟨rfl,fun _=>⟨_,rfl,Nat.lt_succ_self _,news_at _ _ _⟩⟩ (recS_one _) (by unfold maxLen;omega) (by omega) ?c5 ?_)
    case c5=>first|omega|(simp;omega)
    intro v' w4 hown hg _
    have HI:=qD (LK.out.next HP.out HN.out HOk.out hg rfl hown)
    clear hown hg p0 p1 p2 p3 p4 p5 q0 q1 q2 q3 q4 q5 h3
    go_wp2_with fail
    go_roundw
    case rel=>exact⟨i+1,xs++[spanP p],by omega,by go_num,HI.out⟩
    case measure=>simp[intOf];omega
   ·have HI:=qD (L3.out.i.skip HP.out (ne_false3 h3))
    go_wp2_with fail
    go_roundw
    case rel=>exact⟨i+1,xs,by omega,by go_num,HI.out⟩
    case measure=>simp[intOf];omega
  ·clear I
   go_wp2_with fail
   go_ret
   obtain⟨A',c',e,hs⟩:=SS.of_own J.out.own rfl (by have:=J.out.le;unfold reach;omega) (fun x hx=>(J.out.ok x hx).step J.out.bel)
   exact⟨A',_,c',xs,by rw[←e];rfl,by rw[J.out.eq,List.take_of_length_le (by have:=HL.out;omega)],J.out.pr,by have:=J.out.le;have:=HL.out;omega,hs,J.out.bel⟩
theorem ordSp:Ordered (fun p q:PS=>cmC (spP p).1 (spP q).1):=⟨fun _ _=>lin_cut.anti _ _,fun _ _ _=>lin_cut.tr _ _ _⟩
theorem cloneSp_any(xs:List PS)(A:Option Addr)(n c:Nat)(w:World)(h:SS w A n c xs)(hn:n≤1000000000):
 Calls Tryz.prog 175 #[.slice A n c] w fun e w'=>∃v,e=.returned v∧w'.ownsRow w.heap.size 140 12 v n (flat recS xs)∧Below w.heap.size w w':=by
 obtain⟨j0,hj0,hy0,hy1,hy2⟩:=info_parts info_span
 have HL:=qD h.sr.ln
 cases A with
 | none=>
  have h0:n=0:=by
   rcases Nat.eq_zero_or_pos n with h0|h0
   ·exact h0
   ·obtain⟨b,off,e,_⟩:=h.sr.el h0;cases e
  subst h0
  have HX:Hid (xs=[]):=List.eq_nil_of_length_eq_zero HL.out.symm
  clear h
  have kn:=fun(w:World)=>Lib.run_eql_slice_nil (P:=Tryz.prog) w 136 140 none 0 c 0 0 Tryz.underlying136
  go_enter Tryz.func175,Tryz.ntmps175
  go_wp2_with fail
  go_ret
  exact⟨_,rfl,by rw[HX.out];exact own_nil _ _ _ _,Below.refl _ _⟩
 | some ad=>
  have hR:Reads w w.heap.size 12 (some ad) n (flat recS xs):=by
   refine⟨by rw[flat_length recS_length,HL.out],fun hp=>?_⟩
   obtain⟨b,off,e,hb,hel⟩:=h.sr.el hp
   cases e
   refine⟨_,rfl,hb,fun j u hu=>?_⟩
   have hj:=(List.getElem?_eq_some_iff.1 hu).1
   rw[flat_length recS_length] at hj
   obtain⟨a,v,g1,g2,g3⟩:=flat_at' recS_length (by omega) xs j hj
   have:=hel (j/12) a g1 (j%12) v g2
   rw[addr_add]
   rw[g3] at hu
   cases hu
   rw[show off+j=off+j/12*12+j%12 by omega]
   exact this
  have HR:=qD hR
  have hO:(w.alloc (.cells #[] 140)).ownsRow w.heap.size 140 12 (.slice (some ⟨w.heap.size,0,none⟩) 0 0) 0 []:=
   ⟨rfl,.inr ⟨w.heap.size,0,#[],rfl,qL,Blk.new_at rfl,qL,Nat.zero_le _,rfl,rfl⟩⟩
  have HO:=qD hO
  have h1:∀u∈flat recS xs,u.oneCell'=true:=by
   intro u hu
   obtain⟨p,_,hp⟩:=List.mem_flatMap.1 hu
   exact recS_one p u hp
  have H1:=qD h1
  clear h hR hO h1
  have kn:=fun(w:World)=>Lib.run_eql_slice_nil (P:=Tryz.prog) w 136 140 (some ad) n c 0 0 Tryz.underlying136
  go_enter Tryz.func175,Tryz.ntmps175
  go_wp2_with (at_builtin;refine wpList_append_any _ rfl _ _ 136 rfl w.heap.size 140 j0 (aggS (((VC.zero,Val.zero),false),((VC.zero,Val.zero),false))) 12 176 Tryz.underlying136 hj0 hy0 hy1 hy2 rfl (by decide) (.slice (some ⟨w.heap.size,0,none⟩) 0 0) 0 [] rfl HO.out w.heap.size (some ad) n c (flat recS xs) rfl (HR.out.alloc (qL) _) H1.out (by unfold maxLen;omega) (by omega) (by simp) ?_)
  intro v' w2 hown hg _
  go_wp2_with fail
  go_ret
  refine⟨v',rfl,by simpa using hown,?_⟩
  exact((Below.refl w.heap.size w).alloc (qL) _).grown hg (by simp) (fun k hk=>by simp[Value.ownBlock] at hk;omega)
theorem isortSp_nil(w:World):Calls Tryz.prog 259 #[.slice none 0 0,.int .i64 0,.int .i64 0,.func (.func 177) #[] #[]] w fun e w'=>e=.returned (.tuple #[])∧w=w':=by
 go_enter Tryz.func259,Tryz.ntmps259
 go_wp2_with fail
 go_loopw [8] (fun v8 wr=>v8=.int .i64 1∧wr=w) (fun _ _=>0)
 case atStart=>exact⟨rfl,rfl⟩
 case round=>
  obtain⟨rfl,rfl⟩:=hrel
  go_wp2_with fail
  go_end0
  exact⟨rfl,rfl⟩
theorem stableSp_nil(w:World):Calls Tryz.prog 228 #[.slice none 0 0,.int .i64 0,.func (.func 177) #[] #[]] w fun e w'=>e=.returned (.tuple #[])∧w=w':=by
 go_enter Tryz.func228,Tryz.ntmps228
 go_wp2_with fail
 go_loop [7,8] (fun v7 v8=>v7=.int .i64 0∧v8=.int .i64 20) (fun _ _=>0)
 case atStart=>exact⟨rfl,rfl⟩
 case round=>
  obtain⟨rfl,rfl⟩:=hrel
  go_wp2_with fail
  refine(isortSp_nil _).mono ?_
  rintro e w1 ⟨rfl,rfl⟩
  go_wp2_with fail
  go_loop [6] (fun v6=>v6=.int .i64 20) (fun _=>0)
  case atStart=>rfl
  case round=>
   subst hrel
   go_wp2_with fail
   go_end0
   exact⟨rfl,rfl⟩
theorem sortSp_nil(w:World):Calls Tryz.prog 176 #[.slice none 0 0,.func (.func 177) #[] #[]] w fun e w'=>e=.returned (.tuple #[])∧w=w':=by
 go_enter Tryz.func176,Tryz.ntmps176
 go_wp2_with fail
 refine(stableSp_nil _).mono ?_
 rintro e w1 ⟨rfl,rfl⟩
 go_wp2_with fail
 go_end0
 exact⟨rfl,rfl⟩
theorem sortSp_any(L:List (PS×Nat))(g n c:Nat)(w:World)(hr:SRowSp w g L)(hn:n=L.length)(hz:n*176≤reach)(ht:Tagged L)(hc:CmpOkSp g w L):
 Calls Tryz.prog 176 #[.slice (some ⟨g,0,none⟩) n c,.func (.func 177) #[] #[]] w (IsDoneSp g w [] L []):=by
 have HR:=qD hr
 have HN:=qD hn
 have HT:=qD ht
 have HC:=qD hc
 have HZ:=qD hz
 clear hr hn ht hc hz
 go_enter Tryz.func176,Tryz.ntmps176
 go_wp2_with fail
 refine(stableSp_any ordSp L g n c _ HR.out HN.out HZ.out HT.out HC.out).mono ?_
 rintro e w1 hd
 have HD:=qD hd
 obtain⟨rfl,_⟩:=hd
 go_wp2_with fail
 go_end0
 exact HD.out
def SortedBy(xs ys:List PS):Prop:=ys.Perm xs∧ys.Pairwise fun p q=>cmC (spP p).1 (spP q).1≤0
theorem SortedBy.of{xs:List PS}{S:List (PS×Nat)}(h:Sorted (fun p q:PS=>cmC (spP p).1 (spP q).1) (tagFrom 0 xs) S):SortedBy xs (S.map Prod.fst):=by
 refine⟨?_,?_⟩
 ·have:=h.perm.map Prod.fst
  rwa [tagFrom_map] at this
 ·rw[List.pairwise_map]
  refine h.ord.imp fun {a b} hab=>?_
  have hab':cmC (spP a.1).1 (spP b.1).1<0∨cmC (spP a.1).1 (spP b.1).1=0∧a.2<b.2:=hab
  omega
theorem SortedBy.merge{xs ys:List PS}(h:SortedBy xs ys)(hne:∀x∈xs,cmC (spP x).1 (spP x).2<0∧VC1 (spP x).1∧VC1 (spP x).2):
 IsNF (fun a=>inS cmC a (xs.map spP)) (mergeS cmC (ys.map spP))∧(mergeS cmC (ys.map spP)).length≤xs.length:=by
 have h1:∀s∈ys.map spP,cmC s.1 s.2<0∧VC1 s.1∧VC1 s.2:=by
  intro s hs
  obtain⟨x,hx,rfl⟩:=List.mem_map.1 hs
  exact hne x (h.1.subset hx)
 have h2:(ys.map spP).Pairwise fun s t=>cmC s.1 t.1≤0:=by rw[List.pairwise_map];exact h.2
 have hm:=mergeS_ok lin_cut h1 h2
 refine⟨⟨hm.nf,fun a=>by rw[hm.mem];exact inS_perm (h.1.map spP)⟩,?_⟩
 have:=mergeS_len (cm:=cmC) (ys.map spP)
 have hl:=h.1.length_eq
 simp only[List.length_map] at this
 omega
theorem SRowSp.of_own{w:World}{base g n cap:Nat}{xs:List PS}(h:w.ownsRow base 140 12 (.slice (some ⟨g,0,none⟩) n cap) n (flat recS xs)):SRowSp w g (tagFrom 0 xs):=by
 rcases h.2 with⟨h',_⟩|⟨g',cap',cur,h',_,hg,_,_,_,htake⟩
 ·simp at h'
 ·simp only[Value.slice.injEq,Option.some.injEq,Addr.mk.injEq,and_true,true_and] at h'
  obtain⟨rfl,rfl⟩:=h'
  have e:flat recTSp (tagFrom 0 xs)=flat recS xs:=by
   have:∀k,flat recTSp (tagFrom k xs)=flat recS xs:=by
    intro k
    clear hg htake h
    induction xs generalizing k with
    | nil=>rfl
    | cons x r ih=>
     have e1:flat recTSp (tagFrom k (x::r))=recS x++flat recTSp (tagFrom (k+1) r):=rfl
     rw[e1,ih];rfl
   exact this 0
  refine⟨cur.toList.drop (n*12),?_⟩
  show w.heap[g]?=_
  rw[hg,e,←htake,List.take_append_drop]
theorem SRowSp.reads{w:World}{g n cap:Nat}{L:List (PS×Nat)}(h:SRowSp w g L)(hn:n=L.length)(hc:n≤cap):SR 12 recS w (some ⟨g,0,none⟩) n cap (L.map Prod.fst):=by
 refine⟨by rw[List.length_map,hn],hc,fun _=>⟨g,0,rfl,h.lt,fun i a hi j v hj=>?_⟩⟩
 rw[List.getElem?_map] at hi
 obtain⟨p,hp,rfl⟩:=Option.map_eq_some_iff.1 hi
 rw[Nat.zero_add]
 exact h.cell hp j v hj
structure MgI(w w2:World)(S:List PS)(i:Nat)(v:Value)(cs:List PS)(wr:World):Prop where
 own:wr.ownsRow w2.heap.size 140 12 v cs.length (flat recS cs)
 eq:cs.map spP=mergeS cmC ((S.take i).map spP)
 le:cs.length≤i
 ok:∀x∈cs,okS w x
 pr:∀x∈cs,(∃y∈S,x.1=y.1)∧∃y∈S,x.2=y.2
 bel:Below w2.heap.size w2 wr
section
variable {w w2:World} {S:List PS} {i:Nat} {v:Value} {cs:List PS} {wr w':World}
theorem MgI.step(h:MgI w w2 S i v cs wr)(hb:Below wr.heap.size wr w'):MgI w w2 S i v cs w':=⟨own_step h.own hb,h.eq,h.le,h.ok,h.pr,h.bel.step' hb⟩
theorem stepS_app{α:Type}{cm:α→α→Int}{c:List (α×α)}{s:α×α}(h:c=[]∨∃d l,c=d++[l]∧cm l.2 s.1<0):stepS cm c s=c++[s]:=by
 rcases h with rfl|⟨d,l,rfl,h⟩
 ·rfl
 ·unfold stepS
  have e0:(d++[l]).getLast?=some l:=by simp
  rw[e0];simp only;rw[if_pos h]
theorem stepS_up{α:Type}{cm:α→α→Int}{d:List (α×α)}{l s:α×α}(h1:¬cm l.2 s.1<0)(h2:cm l.2 s.2<0):stepS cm (d++[l]) s=d++[(l.1,s.2)]:=by
 unfold stepS
 have e0:(d++[l]).getLast?=some l:=by simp
 rw[e0];simp only;rw[if_neg h1,if_pos h2,List.dropLast_concat]
theorem stepS_no{α:Type}{cm:α→α→Int}{d:List (α×α)}{l s:α×α}(h1:¬cm l.2 s.1<0)(h2:¬cm l.2 s.2<0):stepS cm (d++[l]) s=d++[l]:=by
 unfold stepS
 have e0:(d++[l]).getLast?=some l:=by simp
 rw[e0];simp only;rw[if_neg h1,if_neg h2]
theorem MgI.same(h:MgI w w2 S i v cs wr){p:PS}(hp:S[i]?=some p)(hs:stepS cmC (cs.map spP) (spP p)=cs.map spP):MgI w w2 S (i+1) v cs wr:=by
 refine⟨h.own,?_,by have:=h.le;omega,h.ok,h.pr,h.bel⟩
 rw[take_snoc' hp,List.map_append,List.map_singleton,mergeS_snoc,←h.eq,hs]
theorem MgI.add(h:MgI w w2 S i v cs wr){p:PS}(hp:S[i]?=some p)(hs:stepS cmC (cs.map spP) (spP p)=cs.map spP++[spP p])(hok:okS w p){v':Value}{m:Nat}(hg:wr.grownBy w' v.ownBlock)(hm:m=cs.length+1)(ho:w'.ownsRow w2.heap.size 140 12 v' m (flat recS cs++recS p)):MgI w w2 S (i+1) v' (cs++[p]) w':=by
 subst hm
 refine⟨?_,?_,by have:=h.le;simp;omega,fun x hx=>?_,fun x hx=>?_,h.bel.grown hg h.bel.size (own_ge h.own)⟩
 ·rw[flat_snoc,List.length_append];exact ho
 ·rw[take_snoc' hp,List.map_append (l₁:=S.take i),List.map_singleton,mergeS_snoc,←h.eq,hs,List.map_append]
  rfl
 ·rcases List.mem_append.1 hx with hx|hx
  ·exact h.ok x hx
  ·simp at hx;subst hx;exact hok
 ·rcases List.mem_append.1 hx with hx|hx
  ·exact h.pr x hx
  ·simp at hx;subst hx;exact⟨⟨x,List.mem_of_getElem? hp,rfl⟩,x,List.mem_of_getElem? hp,rfl⟩
end
abbrev setC(w:World)(g off:Nat)(q:PC):World:=(setV w g off q.1.1).setCell ⟨g,off+5,none⟩ (.bool q.2)
theorem own_setC{w:World}{base g n cap:Nat}{t:TypeId}{xs:List Value}(h:w.ownsRow base t 12 (.slice (some ⟨g,0,none⟩) n cap) n xs)(off:Nat)(q:PC):
 (setC w g off q).ownsRow base t 12 (.slice (some ⟨g,0,none⟩) n cap) n (setList xs off (recK q)):=by
 have h1:=(h.stored off (.int .i64 q.1.1.k)).1
 have h2:=(h1.stored (off+1) (.int .i64 q.1.1.n)).1
 have h3:=(h2.stored (off+2) (.string q.1.1.t)).1
 have h4:=(h3.stored (off+3) (.slice q.1.1.LA q.1.1.ln q.1.1.lc)).1
 have h5:=(h4.stored (off+4) (.slice q.1.1.DA q.1.1.dn q.1.1.dc)).1
 exact(h5.stored (off+5) (.bool q.2)).1
theorem flat_to(d:List PS)(l:PS)(q:PC):setList (flat recS (d++[l])) (d.length*12+6) (recK q)=flat recS (d++[(l.1,q)]):=by
 have e1:flat recS (d++[l])=(flat recS d++recK l.1)++recK l.2:=by rw[flat_snoc];simp[recS]
 have hl:(flat recS d++recK l.1).length=d.length*12+6:=by rw[List.length_append,flat_length recS_length,recK_length]
 rw[setList_eq _ _ _ (by rw[e1,List.length_append,hl,recK_length,recK_length];omega),e1,←hl,List.take_left,recK_length,List.drop_of_length_le (by rw[List.length_append,recK_length];omega),List.append_nil,flat_snoc]
 simp[recS]
theorem below_setC{B:Nat}{a w:World}(h:Below B a w){b:Nat}(hB:B≤b)(off:Nat)(q:PC):Below B a (setC w b off q):=(below_setV h hB off q.1.1).setCell hB _
theorem MgI.put{w w2:World}{S:List PS}{i g n cap:Nat}{d:List PS}{l p:PS}{wr:World}(h:MgI w w2 S i (.slice (some ⟨g,0,none⟩) n cap) (d++[l]) wr)(hp:S[i]?=some p)(hs:stepS cmC ((d++[l]).map spP) (spP p)=(d++[(l.1,p.2)]).map spP)(hok:okS w p)(hn:n=d.length+1):MgI w w2 S (i+1) (.slice (some ⟨g,0,none⟩) n cap) (d++[(l.1,p.2)]) (setC wr g (d.length*12+6) p.2):=by
 have ho:=h.own
 have hl:(d++[l]).length=n:=by rw[hn];simp
 rw[hl] at ho
 refine⟨?_,?_,by have:=h.le;simp at this ⊢;omega,fun x hx=>?_,fun x hx=>?_,below_setC h.bel (own_ge h.own g rfl) _ _⟩
 ·rw[←flat_to d l p.2,show(d++[(l.1,p.2)]).length=n by rw[hn];simp]
  exact own_setC ho _ _
 ·rw[take_snoc' hp,List.map_append (l₁:=S.take i),List.map_singleton,mergeS_snoc,←h.eq,hs]
 ·rcases List.mem_append.1 hx with hx|hx
  ·exact h.ok x (by simp[hx])
  ·simp at hx;subst hx;exact⟨(h.ok l (by simp)).1,hok.2⟩
 ·rcases List.mem_append.1 hx with hx|hx
  ·exact h.pr x (by simp[hx])
  ·simp at hx;subst hx;exact⟨(h.pr l (by simp)).1,p,List.mem_of_getElem? hp,rfl⟩
structure MgB(w w2:World)(S:List PS)(i:Nat)(v:Value)(cs:List PS)(g:Nat)(p:PS)(wr:World):Prop where
 i:MgI w w2 S i v cs wr
 b5:Blk wr g 140 (arrS p)
theorem MgB.step{w w2:World}{S:List PS}{i:Nat}{v:Value}{cs:List PS}{g:Nat}{p:PS}{wr w':World}(h:MgB w w2 S i v cs g p wr)(hb:Below wr.heap.size wr w'):MgB w w2 S i v cs g p w':=⟨h.i.step hb,h.b5.step hb⟩
def MgOk(xs:List PS)(w:World)(e:Ending)(w':World):Prop:=
 ∃(A:Option Addr) (m c:Nat) (ys:List PS),e=.returned (.slice A m c)∧(∃S,SortedBy xs S∧ys.map spP=mergeS cmC (S.map spP))∧(∀y∈ys,(∃x∈xs,y.1=x.1)∧∃x∈xs,y.2=x.2)∧(∀b off,A=some ⟨b,off,none⟩→w.heap.size≤b)∧SS w' A m c ys∧m≤xs.length∧Below w.heap.size w w'
theorem merged_any(xs:List PS)(A:Option Addr)(n c:Nat)(w:World)(h:SS w A n c xs)(hn:n≤1000000000):
 Calls Tryz.prog 107 #[.slice A n c] w (MgOk xs w):=by
 obtain⟨j0,hj0,hy0,hy1,hy2⟩:=info_parts info_span
 have H:=qD h
 have HL:=qD h.sr.ln
 clear h
 go_enter Tryz.func107,Tryz.ntmps107
 go_wp2_with fail
 refine(cloneSp_any xs A n c _ H.out hn).mono ?_
 rintro e w1 ⟨v1,rfl,hown,hb1⟩
 have HB1:=qD hb1
 obtain⟨A1,c1,rfl,hc1⟩:=own_slice hown
 have HO:=qD hown
 clear hown hb1
 have sorted:Hid (Calls Tryz.prog 176 #[.slice A1 n c1,.func (.func 177) #[] #[]] w1 fun e w'=>e=.returned (.tuple #[])∧∃S,SortedBy xs S∧SR 12 recS w' A1 n c1 S∧Below w.heap.size w w'):=by
  rcases HO.out.2 with⟨h',h0⟩|⟨g,cap,cur,h',hg,_⟩
  ·cases h'
   have hx:xs=[]:=List.eq_nil_of_length_eq_zero (by have:=HL.out;omega)
   refine qD ((sortSp_nil w1).mono ?_)
   rintro e w' ⟨rfl,rfl⟩
   exact⟨rfl,[],by rw[hx];exact⟨.nil,.nil⟩,SR.nil,HB1.out⟩
  ·cases h'
   refine qD ((sortSp_any (tagFrom 0 xs) g n c1 w1 (SRowSp.of_own HO.out) (by rw[tagFrom_length];exact HL.out) (by unfold reach;omega) (tagFrom_tagged _ _) ?_).mono ?_)
   ·intro x y hx hy wr hbt
    have okx:∀z∈tagFrom 0 xs,okS wr z.1:=by
     intro z hz
     have hz':z.1∈xs:=by
      have:=List.mem_map_of_mem (f:=Prod.fst) hz
      rwa [tagFrom_map] at this
     exact(H.out.ok z.1 hz').step (HB1.out.trans (hbt.below HB1.out.size hg))
    exact mcmp_any x.1 y.1 wr (okx x hx) (okx y hy)
   ·rintro e w' ⟨rfl,S,hS,hI⟩
    simp only[List.nil_append,List.append_nil] at hI
    have hl:n=S.length:=by rw[hS.perm.length_eq,tagFrom_length];exact HL.out
    exact⟨rfl,S.map Prod.fst,SortedBy.of hS,hI.row.reads hl hc1,HB1.out.trans (hI.but.below HB1.out.size hg)⟩
 go_wp2_with fail
 refine sorted.out.mono ?_
 rintro e w2 ⟨rfl,S,hS,hSR,hb2⟩
 clear sorted HO HB1 hc1
 have HS:=qD hS
 have HSR:=qD hSR
 have HB2:=qD hb2
 have HSL:Hid (n=S.length):=hSR.ln
 have hokS:∀x∈S,okS w x:=fun x hx=>H.out.ok x (hS.1.subset hx)
 have HOk:=qD hokS
 clear hS hSR hb2 hokS
 go_wp2_with fail
 go_loopw [3,13] (fun v3 v13 wr=>∃(i:Nat) (cs:List PS),i≤n∧v13=.int .i64 i∧MgI w w2 S i v3 cs wr) (fun _ v13 _=>n-(intOf v13).toNat)
 case atStart=>exact⟨0,[],Nat.zero_le _,rfl,⟨own_nil _ _ _ _,rfl,qL,by simp,by simp,Below.refl _ _⟩⟩
 case round=>
  obtain⟨i,cs,hi,rfl,I⟩:=hrel
  have J:=qD I
  by_cases hlt:i<n
  ·obtain⟨p,hp⟩:∃p,S[i]?=some p:=⟨_,List.getElem?_eq_getElem (by have:=HSL.out;omega)⟩
   obtain⟨b,off,rfl,hbl,hel⟩:=HSR.out.el (by omega)
   have hat:SAt w2 b (off+i*12) p:=sat_of fun j v hj=>hel i p hp j v hj
   have HP:=qD hp
   have HPk:=qD (HOk.out p (List.mem_of_getElem? hp))
   have hbr:b<wr.heap.size:=by have:=I.bel.size;omega
   have hle:=I.le
   obtain⟨⟨⟨p0,p1,p2,p3,p4⟩,p5⟩,⟨⟨q0,q1,q2,q3,q4⟩,q5⟩⟩:=hat.keep (I.bel.block b hbl)
   obtain⟨m,hm⟩:∃m,m=cs.length:=⟨_,rfl⟩
   obtain⟨A3,c3,hv3,hc3⟩:=own_slice I.own
   rw[←hm] at hv3 hc3 hle
   subst hv3
   have HM:=qD hm
   clear hp hat I hbl hel hm
   go_upto_region 8 with fail
   have KB:MgB w w2 S i (.slice A3 m c3) cs wr.heap.size p (wr.alloc (.cells (arrS p) 140)):=⟨J.out.step ((Below.refl wr.heap.size wr).alloc (qL) _),Blk.new_at rfl⟩
   change (Code.region 8 _ _).wp _ _ _ (wr.alloc (.cells (arrS p) 140))
   generalize wr.alloc (.cells (arrS p) 140)=wa at*
   generalize wr.heap.size=ga at*
   have LB:=qD KB
   clear p0 p1 p2 p3 p4 p5 q0 q1 q2 q3 q4 q5 J KB hbr
   rcases List.eq_nil_or_concat cs with hcs|⟨d,l,hcs⟩
   ·have hm1:decide ((m:Int)-1<0)=true:=decide_eq_true (by have:=HM.out;rw[hcs] at this;simp at this;omega)
    have HSt:Hid (stepS cmC (cs.map spP) (spP p)=cs.map spP++[spP p]):=qD (stepS_app (.inl (by rw[hcs];rfl)))
    clear hcs
    refine wp_region_bw (by kernel_rfl) (by kernel_rfl) ?_
    repeat(go_big_quiet_step (fail))
    refine wpQuiet_nil ?_
    rintro _ ⟨kw,rfl⟩
    have L1:=qD (LB.out.step kw.below)
    clear hm1 LB
    generalize kw.val=w3 at*
    obtain⟨⟨⟨p0,p1,p2,p3,p4⟩,p5⟩,⟨⟨q0,q1,q2,q3,q4⟩,q5⟩⟩:=SAt.of_blk L1.out.b5
    have hlo:w2.heap.size≤w3.heap.size:=L1.out.i.bel.size
    have LK:=qD (L1.out.i.step ((Below.refl w3.heap.size w3).alloc (qL) (Obj.cells (arrS p) 140)))
    have hown:(w3.alloc (.cells (arrS p) 140)).ownsRow w2.heap.size 140 12 (.slice A3 m c3) m (flat recS cs):=by have:=LK.out.own;rw[←HM.out] at this;exact this
    have HOw:=qD hown
    clear hown
    go_wp2_with (at_builtin;refine wpList_append_any _ rfl _ _ 136 rfl w2.heap.size 140 j0 (aggS (((VC.zero,Val.zero),false),((VC.zero,Val.zero),false))) 12 176 Tryz.underlying136 hj0 hy0 hy1 hy2 rfl (by decide) (.slice A3 m c3) m (flat recS cs) rfl HOw.out _ _ 1 _ (recS p) rfl ⟨rfl,fun _=>⟨_,rfl,Nat.lt_succ_self _,news_at _ _ _⟩⟩ (recS_one _) (by unfold maxLen;omega) (by omega) (by simp;omega) ?_)
    intro v' w4 hown hg _
    have HI:=qD (LK.out.add HP.out HSt.out HPk.out hg (by rw[HM.out]) hown)
    clear hown hg p0 p1 p2 p3 p4 p5 q0 q1 q2 q3 q4 q5
    go_wp2_with fail
    go_roundw
    case rel=>exact⟨i+1,cs++[p],by omega,by go_num,HI.out⟩
    case measure=>simp[intOf];omega
   ·rw[List.concat_eq_append] at hcs
    have hml:m=d.length+1:=by rw[HM.out,hcs];simp
    obtain⟨g,hA3⟩:∃g,A3=some ⟨g,0,none⟩:=by
     obtain⟨g,cap,hv,_⟩:=LB.out.i.own.form (by rw[hcs];simp)
     injection hv with hv
     exact⟨g,hv⟩
    subst hA3
    have hrow:CAt wa g ((m-1)*12+6) l.2:=by
     have ho:=LB.out.i.own
     rw[←HM.out] at ho
     refine cat_of fun j v hj=>?_
     have hlt:=(List.getElem?_eq_some_iff.1 hj).1
     rw[recK_length] at hlt
     rw[Nat.add_assoc,ho.cellAt _ (by omega)]
     refine flat_get recS_length (xs:=cs) (a:=l) (by rw[hcs,show m-1=d.length by omega];simp) ?_
     show(recK l.1++recK l.2)[6+j]?=some v
     rw[List.getElem?_append_right (by rw[recK_length];omega),recK_length,show 6+j-6=j by omega]
     exact hj
    have hokl:okS w l:=LB.out.i.ok l (by rw[hcs];simp)
    have HOl:=qD hokl
    have HML:=qD hml
    have HCS:=qD hcs
    have hwb:Hid (Below w.heap.size w wa):=qD (HB2.out.trans (LB.out.i.bel.mono HB2.out.size))
    obtain⟨⟨r0,r1,r2,r3,r4⟩,r5⟩:=hrow
    obtain⟨⟨⟨p0,p1,p2,p3,p4⟩,p5⟩,⟨⟨q0,q1,q2,q3,q4⟩,q5⟩⟩:=SAt.of_blk LB.out.b5
    have R0:∀k:BW wa,k.val.cell? ⟨g,(m-1)*12+6,none⟩=some (.int .i64 l.2.1.1.k):=fun k=>k.cell r0
    have R1:∀k:BW wa,k.val.cell? ⟨g,(m-1)*12+6+1,none⟩=some (.int .i64 l.2.1.1.n):=fun k=>k.cell r1
    have R2:∀k:BW wa,k.val.cell? ⟨g,(m-1)*12+6+2,none⟩=some (.string l.2.1.1.t):=fun k=>k.cell r2
    have R3:∀k:BW wa,k.val.cell? ⟨g,(m-1)*12+6+3,none⟩=some (.slice l.2.1.1.LA l.2.1.1.ln l.2.1.1.lc):=fun k=>k.cell r3
    have R4:∀k:BW wa,k.val.cell? ⟨g,(m-1)*12+6+4,none⟩=some (.slice l.2.1.1.DA l.2.1.1.dn l.2.1.1.dc):=fun k=>k.cell r4
    have R5:∀k:BW wa,k.val.cell? ⟨g,(m-1)*12+6+5,none⟩=some (.bool l.2.2):=fun k=>k.cell r5
    have P0:∀k:BW wa,k.val.cell? ⟨ga,0,none⟩=some (.int .i64 p.1.1.1.k):=fun k=>k.cell p0
    have P1:∀k:BW wa,k.val.cell? ⟨ga,1,none⟩=some (.int .i64 p.1.1.1.n):=fun k=>k.cell p1
    have P2:∀k:BW wa,k.val.cell? ⟨ga,2,none⟩=some (.string p.1.1.1.t):=fun k=>k.cell p2
    have P3:∀k:BW wa,k.val.cell? ⟨ga,3,none⟩=some (.slice p.1.1.1.LA p.1.1.1.ln p.1.1.1.lc):=fun k=>k.cell p3
    have P4:∀k:BW wa,k.val.cell? ⟨ga,4,none⟩=some (.slice p.1.1.1.DA p.1.1.1.dn p.1.1.1.dc):=fun k=>k.cell p4
    have P5:∀k:BW wa,k.val.cell? ⟨ga,5,none⟩=some (.bool p.1.2):=fun k=>k.cell p5
    have i0:(0:Int)≤(m:Int)-1:=by omega
    have i1:(m:Int)-1<(m:Int):=by omega
    have W2:((m:Int)-1).toNat=m-1:=by omega
    have hm1:decide ((m:Int)-1<0)=false:=decide_eq_false (by omega)
    have K1:Hid (∀k:BW wa,Calls Tryz.prog 119 #[aggK l.2,aggK p.1] k.val fun e w''=>e=.returned (.int .i64 (cmC (cutP l.2) (cutP p.1)))∧∃k:BW wa,w''=k.val):=fun k=>
     Calls.bw (compare_any l.2 p.1 k.val ((HOl.out.step hwb.out).2.step k.below) ((HPk.out.step hwb.out).1.step k.below))
    clear hcs hokl hml r0 r1 r2 r3 r4 r5 p0 p1 p2 p3 p4 p5 q0 q1 q2 q3 q4 q5
    refine wp_region_bw (by kernel_rfl) (by kernel_rfl) ?_
    repeat(go_big_quiet_step (with_reducible exact K1.out _))
    refine wpQuiet_nil ?_
    rintro _ ⟨kw,rfl⟩
    have L1:=qD (LB.out.step kw.below)
    clear R0 R1 R2 R3 R4 R5 P0 P1 P2 P3 P4 P5 K1 i0 i1 W2 hm1 LB hwb
    generalize kw.val=w3 at*
    by_cases hc:cmC (cutP l.2) (cutP p.1)<0
    ·have HSt:Hid (stepS cmC (cs.map spP) (spP p)=cs.map spP++[spP p]):=qD (stepS_app (.inr ⟨d.map spP,spP l,by rw[HCS.out,List.map_append];rfl,hc⟩))
     obtain⟨⟨⟨p0,p1,p2,p3,p4⟩,p5⟩,⟨⟨q0,q1,q2,q3,q4⟩,q5⟩⟩:=SAt.of_blk L1.out.b5
     have hlo:w2.heap.size≤w3.heap.size:=L1.out.i.bel.size
     have LK:=qD (L1.out.i.step ((Below.refl w3.heap.size w3).alloc (qL) (Obj.cells (arrS p) 140)))
     have hown:(w3.alloc (.cells (arrS p) 140)).ownsRow w2.heap.size 140 12 (.slice (some ⟨g,0,none⟩) m c3) m (flat recS cs):=by have:=LK.out.own;rw[←HM.out] at this;exact this
     have HOw:=qD hown
     clear hown
     go_wp2_with (at_builtin;refine wpList_append_any _ rfl _ _ 136 rfl w2.heap.size 140 j0 (aggS (((VC.zero,Val.zero),false),((VC.zero,Val.zero),false))) 12 176 Tryz.underlying136 hj0 hy0 hy1 hy2 rfl (by decide) (.slice (some ⟨g,0,none⟩) m c3) m (flat recS cs) rfl HOw.out _ _ 1 _ (recS p) rfl ⟨rfl,fun _=>⟨_,rfl,Nat.lt_succ_self _,news_at _ _ _⟩⟩ (recS_one _) (by unfold maxLen;omega) (by omega) (by simp;omega) ?_)
     intro v' w4 hown hg _
     have HI:=qD (LK.out.add HP.out HSt.out HPk.out hg (by rw[HM.out]) hown)
     clear hown hg p0 p1 p2 p3 p4 p5 q0 q1 q2 q3 q4 q5
     go_wp2_with fail
     go_roundw
     case rel=>exact⟨i+1,cs++[p],by omega,by go_num,HI.out⟩
     case measure=>simp[intOf];omega
    ·go_upto_region 10 with fail
     have hrow:CAt w3 g ((m-1)*12+6) l.2:=by
      have ho:=L1.out.i.own
      rw[←HM.out] at ho
      have hml:=HML.out
      refine cat_of fun j v hj=>?_
      have hlt:=(List.getElem?_eq_some_iff.1 hj).1
      rw[recK_length] at hlt
      rw[Nat.add_assoc,ho.cellAt _ (by omega)]
      refine flat_get recS_length (xs:=cs) (a:=l) (by rw[HCS.out,show m-1=d.length by omega];simp) ?_
      show(recK l.1++recK l.2)[6+j]?=some v
      rw[List.getElem?_append_right (by rw[recK_length];omega),recK_length,show 6+j-6=j by omega]
      exact hj
     have hwb:Hid (Below w.heap.size w w3):=qD (HB2.out.trans (L1.out.i.bel.mono HB2.out.size))
     obtain⟨⟨r0,r1,r2,r3,r4⟩,r5⟩:=hrow
     obtain⟨_,⟨⟨q0,q1,q2,q3,q4⟩,q5⟩⟩:=SAt.of_blk L1.out.b5
     have R0:∀k:BW w3,k.val.cell? ⟨g,(m-1)*12+6,none⟩=some (.int .i64 l.2.1.1.k):=fun k=>k.cell r0
     have R1:∀k:BW w3,k.val.cell? ⟨g,(m-1)*12+6+1,none⟩=some (.int .i64 l.2.1.1.n):=fun k=>k.cell r1
     have R2:∀k:BW w3,k.val.cell? ⟨g,(m-1)*12+6+2,none⟩=some (.string l.2.1.1.t):=fun k=>k.cell r2
     have R3:∀k:BW w3,k.val.cell? ⟨g,(m-1)*12+6+3,none⟩=some (.slice l.2.1.1.LA l.2.1.1.ln l.2.1.1.lc):=fun k=>k.cell r3
     have R4:∀k:BW w3,k.val.cell? ⟨g,(m-1)*12+6+4,none⟩=some (.slice l.2.1.1.DA l.2.1.1.dn l.2.1.1.dc):=fun k=>k.cell r4
     have R5:∀k:BW w3,k.val.cell? ⟨g,(m-1)*12+6+5,none⟩=some (.bool l.2.2):=fun k=>k.cell r5
     have Q0:∀k:BW w3,k.val.cell? ⟨ga,6,none⟩=some (.int .i64 p.2.1.1.k):=fun k=>k.cell q0
     have Q1:∀k:BW w3,k.val.cell? ⟨ga,7,none⟩=some (.int .i64 p.2.1.1.n):=fun k=>k.cell q1
     have Q2:∀k:BW w3,k.val.cell? ⟨ga,8,none⟩=some (.string p.2.1.1.t):=fun k=>k.cell q2
     have Q3:∀k:BW w3,k.val.cell? ⟨ga,9,none⟩=some (.slice p.2.1.1.LA p.2.1.1.ln p.2.1.1.lc):=fun k=>k.cell q3
     have Q4:∀k:BW w3,k.val.cell? ⟨ga,10,none⟩=some (.slice p.2.1.1.DA p.2.1.1.dn p.2.1.1.dc):=fun k=>k.cell q4
     have Q5:∀k:BW w3,k.val.cell? ⟨ga,11,none⟩=some (.bool p.2.2):=fun k=>k.cell q5
     have hml:=HML.out
     have i0:(0:Int)≤(m:Int)-1:=by omega
     have i1:(m:Int)-1<(m:Int):=by omega
     have W2:((m:Int)-1).toNat=m-1:=by omega
     have K1:Hid (∀k:BW w3,Calls Tryz.prog 119 #[aggK l.2,aggK p.2] k.val fun e w''=>e=.returned (.int .i64 (cmC (cutP l.2) (cutP p.2)))∧∃k:BW w3,w''=k.val):=fun k=>
      Calls.bw (compare_any l.2 p.2 k.val ((HOl.out.step hwb.out).2.step k.below) ((HPk.out.step hwb.out).2.step k.below))
     clear hml r0 r1 r2 r3 r4 r5 q0 q1 q2 q3 q4 q5
     refine wp_region_bw (by kernel_rfl) (by kernel_rfl) ?_
     repeat(go_big_quiet_step (with_reducible exact K1.out _))
     refine wpQuiet_nil ?_
     rintro _ ⟨kw,rfl⟩
     have L2:=qD (L1.out.step kw.below)
     clear R0 R1 R2 R3 R4 R5 Q0 Q1 Q2 Q3 Q4 Q5 K1 i0 i1 W2 L1 hwb
     generalize kw.val=w4 at*
     by_cases hd:cmC (cutP l.2) (cutP p.2)<0
     ·have hml:=HML.out
      have hst:stepS cmC ((d++[l]).map spP) (spP p)=(d++[(l.1,p.2)]).map spP:=by
       rw[List.map_append,List.map_append]
       exact stepS_up hc hd
      have HI:Hid (MgI w w2 S (i+1) (.slice (some ⟨g,0,none⟩) m c3) (d++[(l.1,p.2)]) (setC w4 g ((m-1)*12+6) p.2)):=by
       have h0:=L2.out.i
       rw[HCS.out] at h0
       have:=h0.put HP.out hst HPk.out hml
       rw[show d.length=m-1 by omega] at this
       exact qD this
      have ho:w4.ownsRow w2.heap.size 140 12 (.slice (some ⟨g,0,none⟩) m c3) m (flat recS cs):=by have:=L2.out.i.own;rw[←HM.out] at this;exact this
      have z:=ho.frozenAt
      have hrow:CAt w4 g ((m-1)*12+6) l.2:=by
       have ho:=L2.out.i.own
       rw[←HM.out] at ho
       have hml:=HML.out
       refine cat_of fun j v hj=>?_
       have hlt:=(List.getElem?_eq_some_iff.1 hj).1
       rw[recK_length] at hlt
       rw[Nat.add_assoc,ho.cellAt _ (by omega)]
       refine flat_get recS_length (xs:=cs) (a:=l) (by rw[HCS.out,show m-1=d.length by omega];simp) ?_
       show(recK l.1++recK l.2)[6+j]?=some v
       rw[List.getElem?_append_right (by rw[recK_length];omega),recK_length,show 6+j-6=j by omega]
       exact hj
      obtain⟨⟨r0,r1,r2,r3,r4⟩,r5⟩:=hrow
      obtain⟨_,⟨⟨q0,q1,q2,q3,q4⟩,q5⟩⟩:=SAt.of_blk L2.out.b5
      have i0:(0:Int)≤(m:Int)-1:=by omega
      have i1:(m:Int)-1<(m:Int):=by omega
      have W2:((m:Int)-1).toNat=m-1:=by omega
      clear ho hst hml
      go_upto_region 12 with fail
      clear r0 r1 r2 r3 r4 r5 q0 q1 q2 q3 q4 q5 z i0 i1 W2
      obtain⟨w5,hw5,HI5⟩:∃w5,setC w4 g ((m-1)*12+6) p.2=w5∧Hid (MgI w w2 S (i+1) (.slice (some ⟨g,0,none⟩) m c3) (d++[(l.1,p.2)]) w5):=⟨_,rfl,HI⟩
      unfold setC setV at hw5
      rw[hw5]
      clear hw5 HI
      go_wp2_with fail
      go_roundw
      case rel=>exact⟨i+1,d++[(l.1,p.2)],by omega,by go_num,HI5.out⟩
      case measure=>simp[intOf];omega
     ·have hst:stepS cmC (cs.map spP) (spP p)=cs.map spP:=by
       rw[HCS.out,List.map_append]
       exact stepS_no hc hd
      have HI:=qD (L2.out.i.same HP.out hst)
      clear hst
      go_wp2_with fail
      go_roundw
      case rel=>exact⟨i+1,cs,by omega,by go_num,HI.out⟩
      case measure=>simp[intOf];omega
  ·clear I
   go_wp2_with fail
   go_ret
   obtain⟨A',c',e,hs⟩:=SS.of_own J.out.own rfl (by have:=J.out.le;unfold reach;omega) (fun x hx=>(J.out.ok x hx).step (HB2.out.trans (J.out.bel.mono HB2.out.size)))
   refine⟨A',_,c',cs,by rw[←e];rfl,⟨S,HS.out,by rw[J.out.eq,List.take_of_length_le (by have:=HSL.out;omega)]⟩,fun y hy=>⟨by obtain⟨z,hz,e⟩:=(J.out.pr y hy).1;exact⟨z,HS.out.1.subset hz,e⟩,by obtain⟨z,hz,e⟩:=(J.out.pr y hy).2;exact⟨z,HS.out.1.subset hz,e⟩⟩,fun b off hA=>?_,hs,?_,HB2.out.trans (J.out.bel.mono HB2.out.size)⟩
   ·have h1:=J.out.own
    rw[e,hA] at h1
    have:=own_ge h1 b rfl
    have:=HB2.out.size
    omega
   ·have:=J.out.le
    have:=HL.out
    omega
open Go.ChangeShapes Go.WideShapes Go.ChangeAt Go.Joins Go.Deep
def Light{H:Type}(t:TypeId)(d:DataW H):Prop:=∀z∈d.weights Tryz.prog t,z≤reach0
theorem light_all{H:Type}{t:TypeId}{l:List (DataW H)}(h:∀z∈DataW.weightsAll Tryz.prog t l,z≤reach0):∀d∈l,Light t d:=by
 induction l with
 | nil=>intro d hd;simp at hd
 | cons x r ih=>
  intro d hd
  simp only[DataW.weightsAll,List.mem_append] at h
  rcases List.mem_cons.1 hd with rfl|hd
  ·exact fun z hz=>h z (.inl hz)
  ·exact ih (fun z hz=>h z (.inr hz)) d hd
theorem light_each{H:Type}{t:TypeId}{ts:List TypeId}{d:DataW H}{r:List (DataW H)}(h:(DataW.weightsEach Tryz.prog (t::ts) (d::r)).all (·≤reachBytes)=true):Light t d∧(DataW.weightsEach Tryz.prog ts r).all (·≤reachBytes)=true:=by
 simp only[DataW.weightsEach,List.all_append,Bool.and_eq_true] at h
 refine⟨fun z hz=>?_,h.2⟩
 have:=List.all_eq_true.1 h.1 z hz
 exact of_decide_eq_true this
theorem bytes_value:Tryz.prog.bytesOf 32=80:=by kernel_rfl
theorem bytes_field:Tryz.prog.bytesOf 120=96:=by kernel_rfl
theorem cells_value:Tryz.prog.cellsOf 32=5:=by kernel_rfl
theorem cells_field:Tryz.prog.cellsOf 120=6:=by kernel_rfl
theorem cells_int:Tryz.prog.cellsOf 3=1:=by kernel_rfl
theorem cells_string:Tryz.prog.cellsOf 9=1:=by kernel_rfl
theorem cells_list:Tryz.prog.cellsOf 29=1:=by kernel_rfl
theorem cells_doc:Tryz.prog.cellsOf 30=1:=by kernel_rfl
theorem five{α:Type}{l:List α}(h:l.length=5):∃a b c d e,l=[a,b,c,d,e]:=by
 match l,h with
 | [a,b,c,d,e],_=>exact⟨a,b,c,d,e,rfl⟩
theorem six{α:Type}{l:List α}(h:l.length=6):∃a b c d e f,l=[a,b,c,d,e,f]:=by
 match l,h with
 | [a,b,c,d,e,f],_=>exact⟨a,b,c,d,e,f,rfl⟩
theorem two{α:Type}{l:List α}(h:l.length=2):∃a b,l=[a,b]:=by
 match l,h with
 | [a,b],_=>exact⟨a,b,rfl⟩
section
variable {H:Type} {enc:TypeId×Value→H} {W:World} {base:Nat} {spare:Nat→Bool} {held:Bool}
theorem cells_at{a:Addr}{n:Nat}{cs:List Value}(h:W.cells? base a n=some cs)(hn:0<n):∃b off,a=⟨b,off,none⟩∧∀i,i<n→W.cell? ⟨b,off+i,none⟩=cs[i]?:=by
 obtain⟨_,hl,hat⟩:=World.cells?_some h
 obtain⟨b,off,spot⟩:=a
 have h0:=hat 0 hn
 rw[List.getElem?_eq_getElem (by omega)] at h0
 have hs:spot=none:=by simpa[Addr.add] using World.cell?_spot h0
 subst hs
 exact⟨b,off,rfl,fun i hi=>by rw[←addr_add];exact hat i hi⟩
def ReadsV(H:Type)(enc:TypeId×Value→H)(W:World)(base:Nat)(spare:Nat→Bool)(held:Bool)(n:Nat):Prop:=
 ∀(cs:List Value) (y:DataW H×List MemPlace),DataW.trod enc Tryz.prog W base spare held n 32 cs=some y→Light 32 y.1→∃c x,cs=c.list∧RW W c x
theorem choose_fn{α:Type}{p:Nat→α→Prop}(d:α)(len:Nat)(h:∀i,i<len→∃x,p i x):∃f:Nat→α,∀i,i<len→p i (f i):=by
 refine⟨fun i=>if h':i<len then(h i h').choose else d,fun i h'=>?_⟩
 simp only[dif_pos h']
 exact(h i h').choose_spec
theorem read_list(n:Nat){v:Value}{y:DataW H×List MemPlace}(ih:∀n',n'<n→ReadsV H enc W base spare held n')(h:DataW.trod enc Tryz.prog W base spare held n 29 [v]=some y)(hw:Light 29 y.1):
 ∃(LA:Option Addr) (ln lc:Nat) (l:List Val),v=.slice LA ln lc∧ln=l.length∧ln≤lc∧ln*80≤reach∧(0<ln→∃b off,LA=some ⟨b,off,none⟩∧∀(i:Nat) (y:Val),l[i]?=some y→∃e,VAt W b (off+i*5) e∧RW W e y):=by
 rcases DataW.trod_slice Tryz.underlying29 h with⟨hcs,_⟩|⟨a,len,cap,elems,rest,n',rfl,hcs,rfl,_,hlc,hcm,hel,hat,_,_⟩
 ·simp at hcs
  exact⟨none,0,0,[],hcs,rfl,qL,by decide,fun h=>absurd h (by omega)⟩
 ·simp at hcs
  subst hcs
  simp only[Light,DataW.weights,Tryz.underlying29,List.mem_cons,List.mem_append,bytes_value] at hw
  have hsz:len*80≤reach:=by
   have:=hw _ (.inl rfl)
   simp only[List.length_map,hel] at this
   have h2:len*80≤(len+rest.length)*80:=Nat.mul_le_mul_right _ (by omega)
   have:=le_reach
   omega
  have wl:=light_all (l:=elems.map (·.1)) (fun z hz=>hw z (.inr (.inl hz)))
  rcases Nat.eq_zero_or_pos len with h0|hp
  ·exact⟨some a,len,cap,[],rfl,h0,hlc,hsz,fun h=>absurd h (by omega)⟩
  have step:∀i,i<len→∃cs',W.cells? base (a.add (i*5)) 5=some cs'∧∃e x,cs'=VC.list e∧RW W e x:=by
   intro i hi
   have h1:=hat i hi
   rw[cells_value,List.getElem?_eq_getElem (by omega)] at h1
   obtain⟨cs',hcs',ht'⟩:=Option.bind_eq_some_iff.1 h1
   exact⟨cs',hcs',ih n' (by omega) cs' _ ht' (wl _ (List.mem_map_of_mem (List.getElem_mem _)))⟩
  obtain⟨cs0,h0,_⟩:=step 0 hp
  obtain⟨b,off,ha,_⟩:=cells_at h0 (by omega)
  have ha':a=⟨b,off,none⟩:=by simpa[Addr.add] using ha
  subst ha'
  obtain⟨f,hf⟩:=choose_fn (p:=fun i x=>∃e,VAt W b (off+i*5) e∧RW W e x) Val.zero len (fun i hi=>by
   obtain⟨cs',hcs',e,x,rfl,hx⟩:=step i hi
   rw[addr_add] at hcs'
   obtain⟨b',off',ha',hc⟩:=cells_at hcs' (by omega)
   injection ha' with e1 e2
   subst e1 e2
   exact⟨x,e,⟨hc 0 (by omega),hc 1 (by omega),hc 2 (by omega),hc 3 (by omega),hc 4 (by omega)⟩,hx⟩)
  refine⟨_,len,cap,(List.range len).map f,rfl,by simp,hlc,hsz,fun _=>⟨b,off,rfl,fun i y hi=>?_⟩⟩
  have hlt:i<len:=by have:=(List.getElem?_eq_some_iff.1 hi).1;simpa using this
  rw[List.getElem?_map,List.getElem?_range hlt] at hi
  simp only[Option.map_some,Option.some.injEq] at hi
  subst hi
  exact hf i hlt
theorem read_doc(n:Nat){v:Value}{y:DataW H×List MemPlace}(ih:∀n',n'<n→ReadsV H enc W base spare held n')(h:DataW.trod enc Tryz.prog W base spare held n 30 [v]=some y)(hw:Light 30 y.1):
 ∃(DA:Option Addr) (dn dc:Nat) (d:List Fld),v=.slice DA dn dc∧dn=d.length∧dn≤dc∧dn*96≤reach0∧(0<dn→∃b off,DA=some ⟨b,off,none⟩∧∀(i:Nat) (f:Fld),d[i]?=some f→W.cell? ⟨b,off+i*6,none⟩=some (.string f.s)∧f.s.size≤reach∧∃e,VAt W b (off+i*6+1) e∧RW W e f.v):=by
 rcases DataW.trod_slice Tryz.underlying30 h with⟨hcs,_⟩|⟨a,len,cap,elems,rest,n',rfl,hcs,rfl,_,hlc,hcm,hel,hat,_,_⟩
 ·simp at hcs
  exact⟨none,0,0,[],hcs,rfl,qL,by decide,fun h=>absurd h (by omega)⟩
 ·simp at hcs
  subst hcs
  simp only[Light,DataW.weights,Tryz.underlying30,List.mem_cons,List.mem_append,bytes_field] at hw
  have hsz:len*96≤reach0:=by
   have:=hw _ (.inl rfl)
   simp only[List.length_map,hel] at this
   have h2:len*96≤(len+rest.length)*96:=Nat.mul_le_mul_right _ (by omega)
   omega
  have wl:=light_all (l:=elems.map (·.1)) (fun z hz=>hw z (.inr (.inl hz)))
  rcases Nat.eq_zero_or_pos len with h0|hp
  ·exact⟨some a,len,cap,[],rfl,h0,hlc,hsz,fun h=>absurd h (by omega)⟩
  have step:∀i,i<len→∃cs',W.cells? base (a.add (i*6)) 6=some cs'∧∃(s:ByteArray) (e:VC) (x:Val),cs'=.string s::VC.list e∧s.size≤reach∧RW W e x:=by
   intro i hi
   have h1:=hat i hi
   rw[cells_field,List.getElem?_eq_getElem (by omega)] at h1
   obtain⟨cs',hcs',ht'⟩:=Option.bind_eq_some_iff.1 h1
   have hwi:=wl _ (List.mem_map_of_mem (List.getElem_mem (l:=elems) (n:=i) (by omega)))
   generalize elems[i]=q at*
   obtain⟨ys,n'',rfl,rfl,hcl,hyl,hf⟩:=DataW.trod_struct Tryz.underlying120 ht'
   rw[cells_field] at hcl
   obtain⟨v0,v1,v2,v3,v4,v5,rfl⟩:=six hcl
   obtain⟨y0,y1,rfl⟩:=two hyl
   have f0:DataW.trod enc Tryz.prog W base spare held n'' 9 [v0]=some y0:=by simpa[cells_string] using hf 0 _ rfl
   have f1:DataW.trod enc Tryz.prog W base spare held n'' 32 [v1,v2,v3,v4,v5]=some y1:=by simpa[cells_value] using hf 1 _ rfl
   obtain⟨s,e0,rfl,_⟩:=DataW.trod_string Tryz.underlying9 f0
   simp only[List.cons.injEq,and_true] at e0
   subst e0
   simp only[Light,DataW.weights,Tryz.underlying120,List.map,DataW.weightsEach,List.mem_append] at hwi
   obtain⟨e,x,he,hx⟩:=ih n'' (by omega) _ _ f1 (fun z hz=>hwi z (.inr (.inl hz)))
   refine⟨_,hcs',s,e,x,by rw[he],Nat.le_trans (hwi s.size (.inl (by simp))) le_reach,hx⟩
  obtain⟨cs0,h0,_⟩:=step 0 hp
  obtain⟨b,off,ha,_⟩:=cells_at h0 (by omega)
  have ha':a=⟨b,off,none⟩:=by simpa[Addr.add] using ha
  subst ha'
  obtain⟨f,hf⟩:=choose_fn (p:=fun i (f:Fld)=>W.cell? ⟨b,off+i*6,none⟩=some (.string f.s)∧f.s.size≤reach∧∃e,VAt W b (off+i*6+1) e∧RW W e f.v) (.mk ByteArray.empty Val.zero) len (fun i hi=>by
   obtain⟨cs',hcs',s,e,x,rfl,hs,hx⟩:=step i hi
   rw[addr_add] at hcs'
   obtain⟨b',off',ha',hc⟩:=cells_at hcs' (by omega)
   injection ha' with e1 e2
   subst e1 e2
   exact⟨.mk s x,hc 0 (by omega),hs,e,⟨hc 1 (by omega),hc 2 (by omega),hc 3 (by omega),hc 4 (by omega),hc 5 (by omega)⟩,hx⟩)
  refine⟨_,len,cap,(List.range len).map f,rfl,by simp,hlc,hsz,fun _=>⟨b,off,rfl,fun i y hi=>?_⟩⟩
  have hlt:i<len:=by have:=(List.getElem?_eq_some_iff.1 hi).1;simpa using this
  rw[List.getElem?_map,List.getElem?_range hlt] at hi
  simp only[Option.map_some,Option.some.injEq] at hi
  subst hi
  exact hf i hlt
theorem read_value_d:∀(fuel:Nat) (cs:List Value) (y:DataW H×List MemPlace),DataW.trod enc Tryz.prog W base spare held fuel 32 cs=some y→Light 32 y.1→∃c x,cs=c.list∧RW W c x∧c.dn*96≤reach0:=by
 intro fuel
 induction fuel using Nat.strongRecOn with
 | _ fuel ih=>
 intro cs y h hw
 obtain⟨ys,n,rfl,rfl,hcl,hyl,hf⟩:=DataW.trod_struct Tryz.underlying32 h
 rw[cells_value] at hcl
 obtain⟨v0,v1,v2,v3,v4,rfl⟩:=five hcl
 obtain⟨y0,y1,y2,y3,y4,rfl⟩:=five hyl
 have f0:DataW.trod enc Tryz.prog W base spare held n 3 [v0]=some y0:=by simpa[cells_int] using hf 0 _ rfl
 have f1:DataW.trod enc Tryz.prog W base spare held n 3 [v1]=some y1:=by simpa[cells_int] using hf 1 _ rfl
 have f2:DataW.trod enc Tryz.prog W base spare held n 9 [v2]=some y2:=by simpa[cells_string] using hf 2 _ rfl
 have f3:DataW.trod enc Tryz.prog W base spare held n 29 [v3]=some y3:=by simpa[cells_list] using hf 3 _ rfl
 have f4:DataW.trod enc Tryz.prog W base spare held n 30 [v4]=some y4:=by simpa[cells_doc] using hf 4 _ rfl
 obtain⟨k,e0,rfl,_⟩:=DataW.trod_int Tryz.underlying3 f0
 obtain⟨m,e1,rfl,_⟩:=DataW.trod_int Tryz.underlying3 f1
 obtain⟨t,e2,rfl,_⟩:=DataW.trod_string Tryz.underlying9 f2
 simp only[List.cons.injEq,and_true] at e0 e1 e2
 subst e0 e1 e2
 have hw':Light 9 (DataW.lit (H:=H) (.string t.data.toList))∧Light 29 y3.1∧Light 30 y4.1:=by
  simp only[Light,DataW.weights,Tryz.underlying32,List.map,DataW.weightsEach,List.mem_append] at hw
  refine⟨fun z hz=>hw z ?_,fun z hz=>hw z ?_,fun z hz=>hw z ?_⟩
  ·simp only[DataW.weights] at hz
   exact .inr (.inr (.inl hz))
  ·exact .inr (.inr (.inr (.inl hz)))
  ·exact .inr (.inr (.inr (.inr (.inl hz))))
 obtain⟨w2,w3,w4⟩:=hw'
 have htz:t.size≤reach:=Nat.le_trans (w2 t.size (by simp[DataW.weights])) le_reach
 have ih':∀n',n'<n+1→ReadsV H enc W base spare held n':=fun n' hn cs y h1 h2=>by
  obtain⟨c,x,e,r,_⟩:=ih n' (by omega) cs y h1 h2
  exact⟨c,x,e,r⟩
 obtain⟨LA,ln,lc,l,rfl,hl1,hl2,hl3,hl4⟩:=read_list n (fun n' hn=>ih' n' (by omega)) f3 w3
 obtain⟨DA,dn,dc,d,rfl,hd1,hd2,hd3,hd4⟩:=read_doc n (fun n' hn=>ih' n' (by omega)) f4 w4
 refine⟨⟨k,m,t,LA,ln,lc,DA,dn,dc⟩,.mk k m t l d,rfl,RVs.shut ⟨rfl,rfl,rfl,htz,hl1,hl2,hl3,fun hp=>?_,hd1,hd2,Nat.le_trans hd3 le_reach,fun hp=>?_⟩,hd3⟩
 ·obtain⟨b,off,e,h⟩:=hl4 hp
  exact⟨b,off,e,Ft.top,h⟩
 ·obtain⟨b,off,e,h⟩:=hd4 hp
  exact⟨b,off,e,Ft.top,h⟩
theorem read_value(fuel:Nat)(cs:List Value)(y:DataW H×List MemPlace)(h:DataW.trod enc Tryz.prog W base spare held fuel 32 cs=some y)(hl:Light 32 y.1):∃c x,cs=c.list∧RW W c x:=by
 obtain⟨c,x,e,r,_⟩:=read_value_d fuel cs y h hl
 exact⟨c,x,e,r⟩
end
end Go.Proofs.YtfkdihlbaghajaaGreatDoor
