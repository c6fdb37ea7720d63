/- Parts of the proof, joined: YChRepA, YIvBaseB, IvBaseC, YIvRefA, IvRefMeet, YIxRep, YBoForP, YChKeys, ShOne, YBoIs25, IxValid, IxValid2. -/
import Derived.Test.YtfkdihlbaghajaaGreatDoorOf1
import Derived.Test.YtfkdihlbaghajaaGreatDoorOf2
import Derived.Test.YtfkdihlbaghajaaGreatDoorOf11
import Derived.Test.YtfkdihlbaghajaaGreatDoorOf13
import Derived.Test.YtfkdihlbaghajaaGreatDoorOf5
import Derived.Test.YtfkdihlbaghajaaGreatDoorOf15
import Derived.Test.YtfkdihlbaghajaaGreatDoorOf8
import Derived.Test.YtfkdihlbaghajaaGreatDoorOf14
import Derived.Test.YtfkdihlbaghajaaGreatDoorOf16
import Derived.Test.YtfkdihlbaghajaaGreatDoorOf18
import Derived.Test.YtfkdihlbaghajaaGreatDoorOf17
import Derived.Test.YtfkdihlbaghajaaGreatDoorOf19
import Derived.Test.YtfkdihlbaghajaaGreatDoorOf20
import Derived.Test.YtfkdihlbaghajaaGreatDoorOf23
import Derived.Test.YtfkdihlbaghajaaGreatDoorOf22
import Derived.Test.YtfkdihlbaghajaaGreatDoorOf24
import Derived.Laws.OwnMore
import Derived.Deep.RegionHeld3
import Derived.Laws.Concat
set_option maxRecDepth 100000
set_option maxHeartbeats 16000000
set_option linter.unusedSimpArgs false
namespace Go.Proofs.YtfkdihlbaghajaaGreatDoor
open Go.RowKit
theorem OR.step{w w':World}{o:OC}{q:Od}(h:OR w o q)(hb:Below w.heap.size w w'):OR w' o q:=⟨h.d,h.st.step hb⟩
theorem KO.step{w w':World}{A:Option Addr}{n c:Nat}{os:List OC}{ks:List Od}(h:KO w A n c os ks)(hb:Below w.heap.size w w'):KO w' A n c os ks:=⟨h.sr.step hb,h.sz,h.ln,fun i o q h1 h2=>(h.el i o q h1 h2).step hb⟩
theorem KS.step{w w':World}{A:Option Addr}{n c:Nat}{ks:List Od}(h:KS w A n c ks)(hb:Below w.heap.size w w'):KS w' A n c ks:=by obtain⟨os,h⟩:=h;exact⟨os,h.step hb⟩
theorem KS.nil{w:World}{A:Option Addr}{c:Nat}:KS w A 0 c []:=⟨[],SR.nil,by show 0*32≤reach;decide,rfl,fun i o q h=>by simp at h⟩
section
variable {α:Type}
end
def ordL:List Od→List Od→Int
 | _,[]=>0
 | done,o::r=>if pathB o.p=false then 10 else if done.any (fun e=>sameP e.p o.p) then 12 else ordL (done++[o]) r
def ordE(ks:List Od):Int:=if 8<ks.length then 2 else ordL [] ks
section
variable {w4:World} {l m:List (Cut×Cut)} {i k:Nat} {v:Value} {cs:List PS} {ga:Nat} {u:PS} {wr w':World}
end
theorem results_iv{fn:Func}{p:Tmp}(h:fn.results=#[.cell p 93])(tmps:Array Value)(g1 off:Nat)(h1:tmps[p]?.getD undef=.pointer (some ⟨g1,off,none⟩))(W:World)(v:PI)(q:IAt W g1 off v):(results fn tmps).run Tryz.prog W=.ok (aggI v) W:=by
 obtain⟨⟨q0,q1,q2,q3,q4⟩,⟨r0,r1,r2,r3,r4⟩,s0,s1⟩:=q
 simp only[Nat.add_assoc,Nat.reduceAdd] at r0 r1 r2 r3 r4
 simp[results,h,h1,asAddr,go_sem,q0,q1,q2,q3,q4,r0,r1,r2,r3,r4,s0,s1]
theorem putI{w:World}{g:Nat}{t:TypeId}{u:PI}(h:Blk w g t (arrI u))(v:PI):Blk (w.setCells g 0 (recI v)) g t (arrI v):=by
 have h1:Blk w g t (recI u).toArray:=h
 have h2:=Blk.setCells (recI v) 0 h1
 rw[setList_eq _ _ _ (by rw[recI_length,recI_length];omega)] at h2
 rw[recI_length,List.take_zero,List.nil_append,List.drop_of_length_le (by rw[recI_length];omega),List.append_nil] at h2
 exact h2
theorem below_setCells{B:Nat}{a:World}{g:Nat}(vs:List Value):∀{w:World},Below B a w→B≤g→∀o,Below B a (w.setCells g o vs):=by
 induction vs with
 | nil=>intro w h _ o;exact h
 | cons v r ih=>intro w h hg o;exact ih (h.setCell hg v) hg (o+1)
theorem sp_ivP(p:PI):(ivP p).sp=(lowI p,uppI p):=rfl
section
variable {w:World} {is:List PI} {i:Nat} {S:List PI} {v:Value} {wr w':World}
end
theorem inS_gap{l:List Iv}{x:Iv}{a:Cut}(h1:VC1 x.sp.1)(h2:VC1 x.sp.2):inS cmC a (spansL (l++[x]))↔inS cmC a (spansL l)∨(cmC x.sp.1 a≤0∧cmC a x.sp.2<0):=by
 rw[spansL_snoc]
 by_cases h:cmC x.sp.1 x.sp.2<0
 ·have hne:x.ne=true:=by
   unfold Iv.ne
   rw[show validV x.lo=true from h1,show validV x.hi=true from h2,decide_eq_true h]
   rfl
  rw[hne,if_pos rfl,inS_app,inS_one]
 ·have hne:x.ne=false:=by
   unfold Iv.ne
   rw[decide_eq_false h,Bool.and_false]
  rw[hne]
  simp only[Bool.false_eq_true,if_false]
  refine⟨.inl,fun k=>k.resolve_right fun⟨k1,k2⟩=>h ?_⟩
  have:=lin_cut.tr x.sp.1 a x.sp.2 k1 (by omega)
  omega
section
variable {w1 w2:World} {g:Nat} {n:List (Cut×Cut)} {j:Nat} {v:Value} {gs:List PI} {f:PC} {wr w':World}
end
def bothI(p q:PI):PI:=(((if 0<cmC (lowI q) (lowI p) then q.1.1 else p.1.1),(if cmC (uppI q) (uppI p)<0 then q.1.2 else p.1.2)),((if 0<cmC (lowI q) (lowI p) then q.2.1 else p.2.1),(if cmC (uppI q) (uppI p)<0 then q.2.2 else p.2.2)))
theorem both_low(p q:PI):lowI (bothI p q)=maxS cmC (lowI p) (lowI q):=by
 have:=lin_cut.anti (lowI p) (lowI q)
 unfold maxS bothI lowI
 by_cases h:0<cmC (lowI q) (lowI p)
 ·have h':cmC (lowI p) (lowI q)<0:=by omega
  unfold lowI at h h'
  simp only[if_pos h,if_pos h']
 ·have h':¬cmC (lowI p) (lowI q)<0:=by omega
  unfold lowI at h h'
  simp only[if_neg h,if_neg h']
theorem both_upp(p q:PI):uppI (bothI p q)=minS cmC (uppI p) (uppI q):=by
 unfold minS bothI uppI
 by_cases h:cmC (uppI q) (uppI p)<0
 ·unfold uppI at h
  simp only[if_pos h]
 ·unfold uppI at h
  simp only[if_neg h]
theorem both_ok{w:World}{p q:PI}(hp:okI w p)(hq:okI w q):okI w (bothI p q):=by
 unfold bothI okI
 constructor
 ·show RW w (if _ then q.1.1 else p.1.1).1 (if _ then q.1.1 else p.1.1).2
  split
  ·exact hq.1
  ·exact hp.1
 ·show RW w (if _ then q.1.2 else p.1.2).1 (if _ then q.1.2 else p.1.2).2
  split
  ·exact hq.2
  ·exact hp.2
abbrev zIm:PI:=(((VC.zero,Val.zero),(VC.zero,Val.zero)),(false,false))
structure BoI(w:World)(p q u:PI)(wr:World):Prop where
 b2:Blk wr w.heap.size 93 (arrI p)
 b3:Blk wr (w.heap.size+1) 93 (arrI q)
 b4:Blk wr (w.heap.size+2) 93 (arrI zIm)
 b5:Blk wr (w.heap.size+3) 93 (arrI u)
 bel:Below w.heap.size w wr
theorem BoI.step{w:World}{p q u:PI}{wr w':World}(h:BoI w p q u wr)(hb:Below wr.heap.size wr w'):BoI w p q u w':=⟨h.b2.step hb,h.b3.step hb,h.b4.step hb,h.b5.step hb,h.bel.step' hb⟩
theorem BoI.lo{w:World}{p q u:PI}{wr:World}(h:BoI w p q u wr):BoI w p q ((q.1.1,u.1.2),(q.2.1,u.2.2)) ((setV wr (w.heap.size+3) 0 q.1.1.1).setCell ⟨w.heap.size+3,10,none⟩ (.bool q.2.1)):=
 ⟨(h.b2.farV (by omega) 0 _).far (by show _≠w.heap.size+3;omega) _,(h.b3.farV (by omega) 0 _).far (by show _≠w.heap.size+3;omega) _,(h.b4.farV (by omega) 0 _).far (by show _≠w.heap.size+3;omega) _,
  (((((h.b5.set_ 0 _).set_ 1 _).set_ 2 _).set_ 3 _).set_ 4 _).set_ 10 _,(below_setV h.bel (by omega) 0 _).setCell (by show _≤w.heap.size+3;omega) _⟩
theorem BoI.hi{w:World}{p q u:PI}{wr:World}(h:BoI w p q u wr):BoI w p q ((u.1.1,q.1.2),(u.2.1,q.2.2)) ((setV wr (w.heap.size+3) 5 q.1.2.1).setCell ⟨w.heap.size+3,11,none⟩ (.bool q.2.2)):=
 ⟨(h.b2.farV (by omega) 5 _).far (by show _≠w.heap.size+3;omega) _,(h.b3.farV (by omega) 5 _).far (by show _≠w.heap.size+3;omega) _,(h.b4.farV (by omega) 5 _).far (by show _≠w.heap.size+3;omega) _,
  (((((h.b5.set_ 5 _).set_ 6 _).set_ 7 _).set_ 8 _).set_ 9 _).set_ 11 _,(below_setV h.bel (by omega) 5 _).setCell (by show _≤w.heap.size+3;omega) _⟩
theorem rboth_any(p q:PI)(w:World)(hp:okI w p)(hq:okI w q):Calls Tryz.prog 121 #[aggI p,aggI q] w fun e w'=>e=.returned (aggI (bothI p q))∧Below w.heap.size w w':=by
 have HP:=qD hp
 have HQ:=qD hq
 have I0:Hid (BoI w p q p ((((w.alloc (.cells (arrI p) 93)).alloc (.cells (arrI q) 93)).alloc (.cells (arrI zIm) 93)).alloc (.cells (arrI p) 93))):=
  qD ⟨(((Blk.new_at rfl).alloc _).alloc _).alloc _,((Blk.new_at (by simp)).alloc _).alloc _,(Blk.new_at (by simp)).alloc _,Blk.new_at (by simp),(((Below.refl w.heap.size w).alloc (qL) _).alloc (by simp) _).alloc (by simp;omega) _ |>.alloc (by simp;omega) _⟩
 clear hp hq
 go_enter Tryz.func121,Tryz.ntmps121
 go_upto_region 2 with fail
 change (Code.region 2 _ _).wp _ _ _ ((((w.alloc (.cells (arrI p) 93)).alloc (.cells (arrI q) 93)).alloc (.cells (arrI zIm) 93)).alloc (.cells (arrI p) 93))
 generalize (((w.alloc (.cells (arrI p) 93)).alloc (.cells (arrI q) 93)).alloc (.cells (arrI zIm) 93)).alloc (.cells (arrI p) 93)=w0 at*
 obtain⟨⟨x0,x1,x2,x3,x4⟩,⟨x5,x6,x7,x8,x9⟩,x10,x11⟩:=IAt.of_blk I0.out.b2
 obtain⟨⟨y0,y1,y2,y3,y4⟩,⟨y5,y6,y7,y8,y9⟩,y10,y11⟩:=IAt.of_blk I0.out.b3
 go_wp2_with fail
 refine(rbefore_any q p _ (HQ.out.step I0.out.bel) (HP.out.step I0.out.bel)).mono ?_
 rintro e w1 ⟨rfl,hb1⟩
 have I1:=qD (I0.out.step hb1)
 clear hb1 I0 x0 x1 x2 x3 x4 x5 x6 x7 x8 x9 x10 x11 y0 y1 y2 y3 y4 y5 y6 y7 y8 y9 y10 y11
 by_cases hl:0<cmC (q.1.1.2,!q.2.1) (p.1.1.2,!p.2.1)
 ·have HL:Hid (0<cmC (lowI q) (lowI p)):=qD hl
  obtain⟨⟨x0,x1,x2,x3,x4⟩,⟨x5,x6,x7,x8,x9⟩,x10,x11⟩:=IAt.of_blk I1.out.b5
  obtain⟨⟨y0,y1,y2,y3,y4⟩,⟨y5,y6,y7,y8,y9⟩,y10,y11⟩:=IAt.of_blk I1.out.b3
  have zf:=I1.out.b5.frozen
  go_upto_region 5 with fail
  have I2':=I1.out.lo
  change (Code.region 5 _ _).wp _ _ _ ((setV w1 (w.heap.size+3) 0 q.1.1.1).setCell ⟨w.heap.size+3,10,none⟩ (.bool q.2.1))
  generalize (setV w1 (w.heap.size+3) 0 q.1.1.1).setCell ⟨w.heap.size+3,10,none⟩ (.bool q.2.1)=w2 at*
  have I2:=qD I2'
  clear hl x0 x1 x2 x3 x4 x5 x6 x7 x8 x9 x10 x11 y0 y1 y2 y3 y4 y5 y6 y7 y8 y9 y10 y11 zf I2' I1
  obtain⟨⟨x0,x1,x2,x3,x4⟩,⟨x5,x6,x7,x8,x9⟩,x10,x11⟩:=IAt.of_blk I2.out.b2
  obtain⟨⟨y0,y1,y2,y3,y4⟩,⟨y5,y6,y7,y8,y9⟩,y10,y11⟩:=IAt.of_blk I2.out.b3
  go_wp2_with fail
  refine(rbeyond_any q p _ (HQ.out.step I2.out.bel) (HP.out.step I2.out.bel)).mono ?_
  rintro e w3 ⟨rfl,hb3⟩
  have I3:=qD (I2.out.step hb3)
  clear hb3 I2 x0 x1 x2 x3 x4 x5 x6 x7 x8 x9 x10 x11 y0 y1 y2 y3 y4 y5 y6 y7 y8 y9 y10 y11
  by_cases hh:cmC (q.1.2.2,q.2.2) (p.1.2.2,p.2.2)<0
  ·have HH:Hid (cmC (uppI q) (uppI p)<0):=qD hh
   obtain⟨⟨x0,x1,x2,x3,x4⟩,⟨x5,x6,x7,x8,x9⟩,x10,x11⟩:=IAt.of_blk I3.out.b5
   obtain⟨⟨y0,y1,y2,y3,y4⟩,⟨y5,y6,y7,y8,y9⟩,y10,y11⟩:=IAt.of_blk I3.out.b3
   have zf:=I3.out.b5.frozen
   go_upto_region 8 with fail
   have I4':=I3.out.hi
   change (Code.region 8 _ _).wp _ _ _ ((setV w3 (w.heap.size+3) 5 q.1.2.1).setCell ⟨w.heap.size+3,11,none⟩ (.bool q.2.2))
   generalize (setV w3 (w.heap.size+3) 5 q.1.2.1).setCell ⟨w.heap.size+3,11,none⟩ (.bool q.2.2)=w4 at*
   have I4:=qD I4'
   clear hh x0 x1 x2 x3 x4 x5 x6 x7 x8 x9 x10 x11 y0 y1 y2 y3 y4 y5 y6 y7 y8 y9 y10 y11 zf I4' I3
   obtain⟨⟨x0,x1,x2,x3,x4⟩,⟨x5,x6,x7,x8,x9⟩,x10,x11⟩:=IAt.of_blk I4.out.b5
   obtain⟨⟨y0,y1,y2,y3,y4⟩,⟨y5,y6,y7,y8,y9⟩,y10,y11⟩:=IAt.of_blk I4.out.b4
   have zf:=I4.out.b4.frozen
   have hB:=putI I4.out.b4 ((q.1.1,q.1.2),(q.2.1,q.2.2))
   go_wp2_with fail
   obtain⟨W,hW,HB⟩:∃W,w4.setCells (w.heap.size+2) 0 (recI ((q.1.1,q.1.2),(q.2.1,q.2.2)))=W∧Hid (Blk W (w.heap.size+2) 93 (arrI ((q.1.1,q.1.2),(q.2.1,q.2.2)))):=⟨_,rfl,qD hB⟩
   have HBe:Hid (Below w.heap.size w W):=by rw[Hid,←hW];exact below_setCells _ I4.out.bel (by omega) _
   have HU:Hid (bothI p q=((q.1.1,q.1.2),(q.2.1,q.2.2))):=by unfold Hid bothI;simp only[if_pos HL.out,if_pos HH.out]
   simp only[recI,recV,VC.list,List.cons_append,List.nil_append,World.setCells,Nat.zero_add,Nat.reduceAdd] at hW
   rw[hW]
   refine bodyPost_ret (results_iv rfl _ (w.heap.size+2) 0 rfl _ ((q.1.1,q.1.2),(q.2.1,q.2.2)) (IAt.of_blk HB.out)) rfl ⟨?_,HBe.out⟩
   rw[HU.out]
  ·have HH:Hid (¬cmC (uppI q) (uppI p)<0):=qD hh
   go_upto_region 8 with fail
   have I4:=qD I3.out
   clear hh I3
   obtain⟨⟨x0,x1,x2,x3,x4⟩,⟨x5,x6,x7,x8,x9⟩,x10,x11⟩:=IAt.of_blk I4.out.b5
   obtain⟨⟨y0,y1,y2,y3,y4⟩,⟨y5,y6,y7,y8,y9⟩,y10,y11⟩:=IAt.of_blk I4.out.b4
   have zf:=I4.out.b4.frozen
   have hB:=putI I4.out.b4 ((q.1.1,p.1.2),(q.2.1,p.2.2))
   go_wp2_with fail
   obtain⟨W,hW,HB⟩:∃W,w3.setCells (w.heap.size+2) 0 (recI ((q.1.1,p.1.2),(q.2.1,p.2.2)))=W∧Hid (Blk W (w.heap.size+2) 93 (arrI ((q.1.1,p.1.2),(q.2.1,p.2.2)))):=⟨_,rfl,qD hB⟩
   have HBe:Hid (Below w.heap.size w W):=by rw[Hid,←hW];exact below_setCells _ I4.out.bel (by omega) _
   have HU:Hid (bothI p q=((q.1.1,p.1.2),(q.2.1,p.2.2))):=by unfold Hid bothI;simp only[if_pos HL.out,if_neg (show ¬cmC (uppI q) (uppI p)<0 by have:=HH.out;omega)]
   simp only[recI,recV,VC.list,List.cons_append,List.nil_append,World.setCells,Nat.zero_add,Nat.reduceAdd] at hW
   rw[hW]
   refine bodyPost_ret (results_iv rfl _ (w.heap.size+2) 0 rfl _ ((q.1.1,p.1.2),(q.2.1,p.2.2)) (IAt.of_blk HB.out)) rfl ⟨?_,HBe.out⟩
   rw[HU.out]
 ·have HL:Hid (¬0<cmC (lowI q) (lowI p)):=qD hl
  go_upto_region 5 with fail
  have I2:=qD I1.out
  clear hl I1
  obtain⟨⟨x0,x1,x2,x3,x4⟩,⟨x5,x6,x7,x8,x9⟩,x10,x11⟩:=IAt.of_blk I2.out.b2
  obtain⟨⟨y0,y1,y2,y3,y4⟩,⟨y5,y6,y7,y8,y9⟩,y10,y11⟩:=IAt.of_blk I2.out.b3
  go_wp2_with fail
  refine(rbeyond_any q p _ (HQ.out.step I2.out.bel) (HP.out.step I2.out.bel)).mono ?_
  rintro e w3 ⟨rfl,hb3⟩
  have I3:=qD (I2.out.step hb3)
  clear hb3 I2 x0 x1 x2 x3 x4 x5 x6 x7 x8 x9 x10 x11 y0 y1 y2 y3 y4 y5 y6 y7 y8 y9 y10 y11
  by_cases hh:cmC (q.1.2.2,q.2.2) (p.1.2.2,p.2.2)<0
  ·have HH:Hid (cmC (uppI q) (uppI p)<0):=qD hh
   obtain⟨⟨x0,x1,x2,x3,x4⟩,⟨x5,x6,x7,x8,x9⟩,x10,x11⟩:=IAt.of_blk I3.out.b5
   obtain⟨⟨y0,y1,y2,y3,y4⟩,⟨y5,y6,y7,y8,y9⟩,y10,y11⟩:=IAt.of_blk I3.out.b3
   have zf:=I3.out.b5.frozen
   go_upto_region 8 with fail
   have I4':=I3.out.hi
   change (Code.region 8 _ _).wp _ _ _ ((setV w3 (w.heap.size+3) 5 q.1.2.1).setCell ⟨w.heap.size+3,11,none⟩ (.bool q.2.2))
   generalize (setV w3 (w.heap.size+3) 5 q.1.2.1).setCell ⟨w.heap.size+3,11,none⟩ (.bool q.2.2)=w4 at*
   have I4:=qD I4'
   clear hh x0 x1 x2 x3 x4 x5 x6 x7 x8 x9 x10 x11 y0 y1 y2 y3 y4 y5 y6 y7 y8 y9 y10 y11 zf I4' I3
   obtain⟨⟨x0,x1,x2,x3,x4⟩,⟨x5,x6,x7,x8,x9⟩,x10,x11⟩:=IAt.of_blk I4.out.b5
   obtain⟨⟨y0,y1,y2,y3,y4⟩,⟨y5,y6,y7,y8,y9⟩,y10,y11⟩:=IAt.of_blk I4.out.b4
   have zf:=I4.out.b4.frozen
   have hB:=putI I4.out.b4 ((p.1.1,q.1.2),(p.2.1,q.2.2))
   go_wp2_with fail
   obtain⟨W,hW,HB⟩:∃W,w4.setCells (w.heap.size+2) 0 (recI ((p.1.1,q.1.2),(p.2.1,q.2.2)))=W∧Hid (Blk W (w.heap.size+2) 93 (arrI ((p.1.1,q.1.2),(p.2.1,q.2.2)))):=⟨_,rfl,qD hB⟩
   have HBe:Hid (Below w.heap.size w W):=by rw[Hid,←hW];exact below_setCells _ I4.out.bel (by omega) _
   have HU:Hid (bothI p q=((p.1.1,q.1.2),(p.2.1,q.2.2))):=by unfold Hid bothI;simp only[if_neg (show ¬0<cmC (lowI q) (lowI p) by have:=HL.out;omega),if_pos HH.out]
   simp only[recI,recV,VC.list,List.cons_append,List.nil_append,World.setCells,Nat.zero_add,Nat.reduceAdd] at hW
   rw[hW]
   refine bodyPost_ret (results_iv rfl _ (w.heap.size+2) 0 rfl _ ((p.1.1,q.1.2),(p.2.1,q.2.2)) (IAt.of_blk HB.out)) rfl ⟨?_,HBe.out⟩
   rw[HU.out]
  ·have HH:Hid (¬cmC (uppI q) (uppI p)<0):=qD hh
   go_upto_region 8 with fail
   have I4:=qD I3.out
   clear hh I3
   obtain⟨⟨x0,x1,x2,x3,x4⟩,⟨x5,x6,x7,x8,x9⟩,x10,x11⟩:=IAt.of_blk I4.out.b5
   obtain⟨⟨y0,y1,y2,y3,y4⟩,⟨y5,y6,y7,y8,y9⟩,y10,y11⟩:=IAt.of_blk I4.out.b4
   have zf:=I4.out.b4.frozen
   have hB:=putI I4.out.b4 p
   go_wp2_with fail
   obtain⟨W,hW,HB⟩:∃W,w3.setCells (w.heap.size+2) 0 (recI p)=W∧Hid (Blk W (w.heap.size+2) 93 (arrI p)):=⟨_,rfl,qD hB⟩
   have HBe:Hid (Below w.heap.size w W):=by rw[Hid,←hW];exact below_setCells _ I4.out.bel (by omega) _
   have HU:Hid (bothI p q=p):=by unfold Hid bothI;simp only[if_neg (show ¬0<cmC (lowI q) (lowI p) by have:=HL.out;omega),if_neg (show ¬cmC (uppI q) (uppI p)<0 by have:=HH.out;omega)]
   simp only[recI,recV,VC.list,List.cons_append,List.nil_append,World.setCells,Nat.zero_add,Nat.reduceAdd] at hW
   rw[hW]
   refine bodyPost_ret (results_iv rfl _ (w.heap.size+2) 0 rfl _ p (IAt.of_blk HB.out)) rfl ⟨?_,HBe.out⟩
   rw[HU.out]
structure RmtI(w:World)(is js:List PI)(i k:Nat)(v:Value)(gs:List PI)(wr:World):Prop where
 own:wr.ownsRow w.heap.size 93 12 v gs.length (flat recI gs)
 mem:∀a,inS cmC a (spansL (gs.map ivP))↔(inS cmC a (spansL ((is.take i).map ivP))∧inS cmC a (spansL (js.map ivP)))∨(inS cmC a (spansL (is[i]?.toList.map ivP))∧inS cmC a (spansL ((js.take k).map ivP)))
 le:gs.length≤i*js.length+k
 ok:∀x∈gs,okI w x
 bel:Below w.heap.size w wr
section
variable {w:World} {is js:List PI} {i k:Nat} {v:Value} {gs:List PI} {wr w':World} {p q:PI}
theorem RmtI.step(h:RmtI w is js i k v gs wr)(hb:Below wr.heap.size wr w'):RmtI w is js i k v gs w':=⟨own_step h.own hb,h.mem,h.le,h.ok,h.bel.step' hb⟩
theorem sp_one(p:PI)(h:(ivP p).ne=true):spansL ([p].map ivP)=[(lowI p,uppI p)]:=by
 show spansL ([]++[ivP p])=_
 rw[spansL_snoc,h]
 rfl
theorem sp_none(p:PI)(h:(ivP p).ne=false):spansL ([p].map ivP)=[]:=by
 show spansL ([]++[ivP p])=_
 rw[spansL_snoc,h]
 rfl
theorem RmtI.skip1(h:RmtI w is js i k v gs wr)(hp:is[i]?=some p)(hne:(ivP p).ne=false):RmtI w is js i (k+1) v gs wr:=by
 refine⟨h.own,fun a=>?_,by have:=h.le;omega,h.ok,h.bel⟩
 have:=h.mem a
 rw[hp] at this ⊢
 rw[show(some p).toList=[p] from rfl,sp_none p hne] at this ⊢
 exact this.trans ⟨fun h=>h.elim .inl fun h=>absurd h.1 (inS_nil a),fun h=>h.elim .inl fun h=>absurd h.1 (inS_nil a)⟩
theorem RmtI.skip2(h:RmtI w is js i k v gs wr)(hq:js[k]?=some q)(hne:(ivP q).ne=false):RmtI w is js i (k+1) v gs wr:=by
 refine⟨h.own,fun a=>?_,by have:=h.le;omega,h.ok,h.bel⟩
 rw[h.mem a,take_snoc' hq,List.map_append (l₁:=js.take k),spansL_app,sp_none q hne,List.append_nil]
theorem RmtI.add{v':Value}{m:Nat}(h:RmtI w is js i k v gs wr)(hp:is[i]?=some p)(hq:js[k]?=some q)(hnp:(ivP p).ne=true)(hnq:(ivP q).ne=true)(hop:okI w p)(hoq:okI w q)(hg:wr.grownBy w' v.ownBlock)(hm:m=gs.length+1)(ho:w'.ownsRow w.heap.size 93 12 v' m (flat recI gs++recI (bothI p q))):RmtI w is js i (k+1) v' (gs++[bothI p q]) w':=by
 subst hm
 refine⟨?_,fun a=>?_,by have:=h.le;simp;omega,fun x hx=>?_,h.bel.grown hg h.bel.size (own_ge h.own)⟩
 ·rw[flat_snoc,List.length_append];exact ho
 ·have np:=ne_sp hnp
  have nq:=ne_sp hnq
  have e1:(ivP (bothI p q)).sp=(maxS cmC (lowI p) (lowI q),minS cmC (uppI p) (uppI q)):=by rw[sp_ivP,both_low,both_upp]
  have hg2:=inS_gap (l:=gs.map ivP) (x:=ivP (bothI p q)) (a:=a) (by rw[e1];exact maxS_V (V:=VC1) np.2.1 nq.2.1) (by rw[e1];exact minS_V (V:=VC1) np.2.2 nq.2.2)
  rw[e1] at hg2
  rw[List.map_append (l₁:=gs),List.map_singleton,hg2,h.mem a,take_snoc' hq,List.map_append (l₁:=js.take k),spansL_app,inS_app,sp_one q hnq,inS_one,hp,show(some p).toList=[p] from rfl,sp_one p hnp,inS_one,maxS_le lin_cut,lt_minS lin_cut]
  constructor
  ·rintro((h|h)|⟨⟨h1,h2⟩,h3,h4⟩)
   ·exact .inl h
   ·exact .inr ⟨h.1,.inl h.2⟩
   ·exact .inr ⟨⟨h1,h3⟩,.inr ⟨h2,h4⟩⟩
  ·rintro(h|⟨h1,h2|h2⟩)
   ·exact .inl (.inl h)
   ·exact .inl (.inr ⟨h1,h2⟩)
   ·exact .inr ⟨⟨h1.1,h2.1⟩,h1.2,h2.2⟩
 ·rcases List.mem_append.1 hx with hx|hx
  ·exact h.ok x hx
  ·simp at hx;subst hx;exact both_ok hop hoq
theorem prod_lt{i k n m:Nat}(hi:i<n)(hk:k<m):i*m+k+1≤n*m:=by
 have h1:(i+1)*m≤n*m:=Nat.mul_le_mul_right _ hi
 rw[Nat.add_mul,Nat.one_mul] at h1
 omega
theorem RmtI.row(h:RmtI w is js i js.length v gs wr)(hp:is[i]?=some p):RmtI w is js (i+1) 0 v gs wr:=by
 refine⟨h.own,fun a=>?_,by have:=h.le;rw[Nat.add_mul,Nat.one_mul];omega,h.ok,h.bel⟩
 have hz:¬inS cmC a (spansL ((js.take 0).map ivP)):=by rw[List.take_zero];exact inS_nil a
 rw[h.mem a,take_snoc' hp,List.map_append (l₁:=is.take i),spansL_app,inS_app,hp,List.take_length,show(some p).toList=[p] from rfl]
 constructor
 ·rintro(⟨h1,h2⟩|⟨h1,h2⟩)
  ·exact .inl ⟨.inl h1,h2⟩
  ·exact .inl ⟨.inr h1,h2⟩
 ·rintro(⟨h1|h1,h2⟩|⟨_,h2⟩)
  ·exact .inl ⟨h1,h2⟩
  ·exact .inr ⟨h1,h2⟩
  ·exact absurd h2 hz
end
theorem rmeetP_any(is js:List PI)(A B:Option Addr)(n c n' c':Nat)(w:World)(h:SI w A n c is)(h':SI w B n' c' js)(hpr:n*n'≤300000000000):
 Calls Tryz.prog 65 #[.slice A n c,.slice B n' c'] w (NormOk (fun a=>inS cmC a (spansL (is.map ivP))∧inS cmC a (spansL (js.map ivP))) (n*n') w):=by
 obtain⟨i0,hi0,hz0,hz1,hz2⟩:=info_parts info_interval
 have H:=qD h
 have H':=qD h'
 have HL:=qD h.sr.ln
 have HL':=qD h'.sr.ln
 have HPR:Hid (n*js.length≤300000000000):=by have e:=h'.sr.ln;rw[e] at hpr;exact hpr
 have HPS:Hid (n*js.length=n*n'):=by have e:=h'.sr.ln;rw[Hid,e]
 have hn:n≤837730000000:=by have:=h.sz;unfold reach at this;omega
 have hn':n'≤837730000000:=by have:=h'.sz;unfold reach at this;omega
 clear h h' hpr
 go_enter Tryz.func65,Tryz.ntmps65
 go_wp2_with fail
 go_loopw [5,6] (fun v5 v6 wr=>∃(i:Nat) (gs:List PI),i≤n∧v6=.int .i64 i∧RmtI w is js i 0 v5 gs wr) (fun _ v6 _=>n-(intOf v6).toNat)
 case atStart=>exact⟨0,[],Nat.zero_le _,rfl,⟨own_nil _ _ _ _,fun a=>⟨fun h=>absurd h (inS_nil a),fun h=>h.elim (fun h=>absurd h.1 (inS_nil a)) (fun h=>absurd h.2 (inS_nil a))⟩,Nat.zero_le _,by simp,Below.refl _ _⟩⟩
 case round=>
  obtain⟨i,gs,hi,rfl,I⟩:=hrel
  have J:=qD I
  by_cases hlt:i<n
  ·obtain⟨p,hp⟩:∃p,is[i]?=some p:=⟨_,List.getElem?_eq_getElem (by have:=HL.out;omega)⟩
   obtain⟨b,off,rfl,hbl,hat,hok⟩:=H.out.at hp
   have HP:=qD hp
   have HA:=qD hat
   have HOk:=qD hok
   clear hp hat hok I
   go_wp2_with fail
   go_loopw [5,7] (fun v5 v7 wr=>∃(k:Nat) (gs:List PI),k≤n'∧v7=.int .i64 k∧RmtI w is js i k v5 gs wr) (fun _ v7 _=>n'-(intOf v7).toNat)
   case atStart=>exact⟨0,gs,Nat.zero_le _,rfl,J.out⟩
   case round=>
    clear J
    obtain⟨k,gs2,hk,rfl,I⟩:=hrel
    have J:=qD I
    by_cases hkt:k<n'
    ·obtain⟨q,hq⟩:∃q,js[k]?=some q:=⟨_,List.getElem?_eq_getElem (by have:=HL'.out;omega)⟩
     obtain⟨b',off',rfl,hbl',hat',hok'⟩:=H'.out.at hq
     have HQ:=qD hq
     have HA':=qD hat'
     have HOk':=qD hok'
     obtain⟨⟨x0,x1,x2,x3,x4⟩,⟨x5,x6,x7,x8,x9⟩,x10,x11⟩:=HA.out.keep (I.bel.block b hbl)
     obtain⟨⟨y0,y1,y2,y3,y4⟩,⟨y5,y6,y7,y8,y9⟩,y10,y11⟩:=HA'.out.keep (I.bel.block b' hbl')
     have i0':(0:Int)≤(k:Int):=by omega
     have i1':(k:Int)<(n':Int):=by omega
     have i2':(0:Int)≤(i:Int):=by omega
     have i3':(i:Int)<(n:Int):=by omega
     clear hq hat' hok' I
     go_wp2_with fail
     refine(rempty_any p _ (HOk.out.step J.out.bel)).mono ?_
     rintro e w1 ⟨rfl,hb1⟩
     have J1:=qD (J.out.step hb1)
     clear hb1 x0 x1 x2 x3 x4 x5 x6 x7 x8 x9 x10 x11 y0 y1 y2 y3 y4 y5 y6 y7 y8 y9 y10 y11 J
     cases hne:(ivP p).ne
     ·have HI:=qD (J1.out.skip1 HP.out hne)
      clear hne
      go_wp2_with fail
      go_roundw
      case rel=>exact⟨k+1,gs2,by omega,by go_num,HI.out⟩
      case measure=>simp[intOf];omega
     have HNp:=qD hne
     clear hne
     obtain⟨⟨y0,y1,y2,y3,y4⟩,⟨y5,y6,y7,y8,y9⟩,y10,y11⟩:=HA'.out.keep (J1.out.bel.block b' hbl')
     go_wp2_with fail
     refine(rempty_any q _ (HOk'.out.step J1.out.bel)).mono ?_
     rintro e w2 ⟨rfl,hb2⟩
     have J2:=qD (J1.out.step hb2)
     clear hb2 y0 y1 y2 y3 y4 y5 y6 y7 y8 y9 y10 y11 J1
     cases hne:(ivP q).ne
     ·have HI:=qD (J2.out.skip2 HQ.out hne)
      clear hne
      go_wp2_with fail
      go_roundw
      case rel=>exact⟨k+1,gs2,by omega,by go_num,HI.out⟩
      case measure=>simp[intOf];omega
     have HNq:=qD hne
     clear hne
     go_upto_region 9 with fail
     obtain⟨⟨x0,x1,x2,x3,x4⟩,⟨x5,x6,x7,x8,x9⟩,x10,x11⟩:=HA.out.keep (J2.out.bel.block b hbl)
     obtain⟨⟨y0,y1,y2,y3,y4⟩,⟨y5,y6,y7,y8,y9⟩,y10,y11⟩:=HA'.out.keep (J2.out.bel.block b' hbl')
     have bw:b<w2.heap.size:=by have:=J2.out.bel.size;omega
     have bw':b'<w2.heap.size:=by have:=J2.out.bel.size;omega
     have KC:Hid (∀(w':World),(∀g,g<w.heap.size→w'.heap[g]?=w2.heap[g]?)→w'.cell? ⟨b,off+i*12,none⟩=some (.int .i64 p.1.1.1.k)∧w'.cell? ⟨b,off+i*12+1,none⟩=some (.int .i64 p.1.1.1.n)∧w'.cell? ⟨b,off+i*12+2,none⟩=some (.string p.1.1.1.t)∧w'.cell? ⟨b,off+i*12+3,none⟩=some (.slice p.1.1.1.LA p.1.1.1.ln p.1.1.1.lc)∧w'.cell? ⟨b,off+i*12+4,none⟩=some (.slice p.1.1.1.DA p.1.1.1.dn p.1.1.1.dc)∧w'.cell? ⟨b,off+i*12+5,none⟩=some (.int .i64 p.1.2.1.k)∧w'.cell? ⟨b,off+i*12+6,none⟩=some (.int .i64 p.1.2.1.n)∧w'.cell? ⟨b,off+i*12+7,none⟩=some (.string p.1.2.1.t)∧w'.cell? ⟨b,off+i*12+8,none⟩=some (.slice p.1.2.1.LA p.1.2.1.ln p.1.2.1.lc)∧w'.cell? ⟨b,off+i*12+9,none⟩=some (.slice p.1.2.1.DA p.1.2.1.dn p.1.2.1.dc)∧w'.cell? ⟨b,off+i*12+10,none⟩=some (.bool p.2.1)∧w'.cell? ⟨b,off+i*12+11,none⟩=some (.bool p.2.2)∧w'.cell? ⟨b',off'+k*12,none⟩=some (.int .i64 q.1.1.1.k)∧w'.cell? ⟨b',off'+k*12+1,none⟩=some (.int .i64 q.1.1.1.n)∧w'.cell? ⟨b',off'+k*12+2,none⟩=some (.string q.1.1.1.t)∧w'.cell? ⟨b',off'+k*12+3,none⟩=some (.slice q.1.1.1.LA q.1.1.1.ln q.1.1.1.lc)∧w'.cell? ⟨b',off'+k*12+4,none⟩=some (.slice q.1.1.1.DA q.1.1.1.dn q.1.1.1.dc)∧w'.cell? ⟨b',off'+k*12+5,none⟩=some (.int .i64 q.1.2.1.k)∧w'.cell? ⟨b',off'+k*12+6,none⟩=some (.int .i64 q.1.2.1.n)∧w'.cell? ⟨b',off'+k*12+7,none⟩=some (.string q.1.2.1.t)∧w'.cell? ⟨b',off'+k*12+8,none⟩=some (.slice q.1.2.1.LA q.1.2.1.ln q.1.2.1.lc)∧w'.cell? ⟨b',off'+k*12+9,none⟩=some (.slice q.1.2.1.DA q.1.2.1.dn q.1.2.1.dc)∧w'.cell? ⟨b',off'+k*12+10,none⟩=some (.bool q.2.1)∧w'.cell? ⟨b',off'+k*12+11,none⟩=some (.bool q.2.2)):=fun w' hk=>by
      have e:∀o,w'.cell? ⟨b,o,none⟩=w2.cell? ⟨b,o,none⟩:=fun o=>World.cell?_of_block (w:=w2) (a:=⟨b,o,none⟩) (hk b hbl)
      have e':∀o,w'.cell? ⟨b',o,none⟩=w2.cell? ⟨b',o,none⟩:=fun o=>World.cell?_of_block (w:=w2) (a:=⟨b',o,none⟩) (hk b' hbl')
      exact⟨(e _).trans x0,(e _).trans x1,(e _).trans x2,(e _).trans x3,(e _).trans x4,(e _).trans x5,(e _).trans x6,(e _).trans x7,(e _).trans x8,(e _).trans x9,(e _).trans x10,(e _).trans x11,(e' _).trans y0,(e' _).trans y1,(e' _).trans y2,(e' _).trans y3,(e' _).trans y4,(e' _).trans y5,(e' _).trans y6,(e' _).trans y7,(e' _).trans y8,(e' _).trans y9,(e' _).trans y10,(e' _).trans y11⟩
     have KS:Hid (∀w',Below w2.heap.size w2 w'→w'.cell? ⟨b,off+i*12,none⟩=some (.int .i64 p.1.1.1.k)∧w'.cell? ⟨b,off+i*12+1,none⟩=some (.int .i64 p.1.1.1.n)∧w'.cell? ⟨b,off+i*12+2,none⟩=some (.string p.1.1.1.t)∧w'.cell? ⟨b,off+i*12+3,none⟩=some (.slice p.1.1.1.LA p.1.1.1.ln p.1.1.1.lc)∧w'.cell? ⟨b,off+i*12+4,none⟩=some (.slice p.1.1.1.DA p.1.1.1.dn p.1.1.1.dc)∧w'.cell? ⟨b,off+i*12+5,none⟩=some (.int .i64 p.1.2.1.k)∧w'.cell? ⟨b,off+i*12+6,none⟩=some (.int .i64 p.1.2.1.n)∧w'.cell? ⟨b,off+i*12+7,none⟩=some (.string p.1.2.1.t)∧w'.cell? ⟨b,off+i*12+8,none⟩=some (.slice p.1.2.1.LA p.1.2.1.ln p.1.2.1.lc)∧w'.cell? ⟨b,off+i*12+9,none⟩=some (.slice p.1.2.1.DA p.1.2.1.dn p.1.2.1.dc)∧w'.cell? ⟨b,off+i*12+10,none⟩=some (.bool p.2.1)∧w'.cell? ⟨b,off+i*12+11,none⟩=some (.bool p.2.2)∧w'.cell? ⟨b',off'+k*12,none⟩=some (.int .i64 q.1.1.1.k)∧w'.cell? ⟨b',off'+k*12+1,none⟩=some (.int .i64 q.1.1.1.n)∧w'.cell? ⟨b',off'+k*12+2,none⟩=some (.string q.1.1.1.t)∧w'.cell? ⟨b',off'+k*12+3,none⟩=some (.slice q.1.1.1.LA q.1.1.1.ln q.1.1.1.lc)∧w'.cell? ⟨b',off'+k*12+4,none⟩=some (.slice q.1.1.1.DA q.1.1.1.dn q.1.1.1.dc)∧w'.cell? ⟨b',off'+k*12+5,none⟩=some (.int .i64 q.1.2.1.k)∧w'.cell? ⟨b',off'+k*12+6,none⟩=some (.int .i64 q.1.2.1.n)∧w'.cell? ⟨b',off'+k*12+7,none⟩=some (.string q.1.2.1.t)∧w'.cell? ⟨b',off'+k*12+8,none⟩=some (.slice q.1.2.1.LA q.1.2.1.ln q.1.2.1.lc)∧w'.cell? ⟨b',off'+k*12+9,none⟩=some (.slice q.1.2.1.DA q.1.2.1.dn q.1.2.1.dc)∧w'.cell? ⟨b',off'+k*12+10,none⟩=some (.bool q.2.1)∧w'.cell? ⟨b',off'+k*12+11,none⟩=some (.bool q.2.2)):=fun w' hb=>KC.out w' fun g hg=>hb.block g (by have:=J2.out.bel.size;omega)
     obtain⟨mg,hmg⟩:∃m,m=gs2.length:=⟨_,rfl⟩
     have hown:w2.ownsRow w.heap.size 93 12 u5 mg (flat recI gs2):=by rw[hmg];exact J2.out.own
     have HOw:=qD hown
     have hle:=J2.out.le
     rw[←hmg] at hle
     have HMg:=qD hmg
     have hpl:mg+1≤300000000000:=by
      have h1:=prod_lt hlt (show k<js.length by have:=HL'.out;omega)
      have h2:=HPR.out
      omega
     have KG:Hid (∀w' w'' o,Below w2.heap.size w2 w'→(w'.alloc o).grownBy w'' u5.ownBlock→w''.cell? ⟨b,off+i*12,none⟩=some (.int .i64 p.1.1.1.k)∧w''.cell? ⟨b,off+i*12+1,none⟩=some (.int .i64 p.1.1.1.n)∧w''.cell? ⟨b,off+i*12+2,none⟩=some (.string p.1.1.1.t)∧w''.cell? ⟨b,off+i*12+3,none⟩=some (.slice p.1.1.1.LA p.1.1.1.ln p.1.1.1.lc)∧w''.cell? ⟨b,off+i*12+4,none⟩=some (.slice p.1.1.1.DA p.1.1.1.dn p.1.1.1.dc)∧w''.cell? ⟨b,off+i*12+5,none⟩=some (.int .i64 p.1.2.1.k)∧w''.cell? ⟨b,off+i*12+6,none⟩=some (.int .i64 p.1.2.1.n)∧w''.cell? ⟨b,off+i*12+7,none⟩=some (.string p.1.2.1.t)∧w''.cell? ⟨b,off+i*12+8,none⟩=some (.slice p.1.2.1.LA p.1.2.1.ln p.1.2.1.lc)∧w''.cell? ⟨b,off+i*12+9,none⟩=some (.slice p.1.2.1.DA p.1.2.1.dn p.1.2.1.dc)∧w''.cell? ⟨b,off+i*12+10,none⟩=some (.bool p.2.1)∧w''.cell? ⟨b,off+i*12+11,none⟩=some (.bool p.2.2)∧w''.cell? ⟨b',off'+k*12,none⟩=some (.int .i64 q.1.1.1.k)∧w''.cell? ⟨b',off'+k*12+1,none⟩=some (.int .i64 q.1.1.1.n)∧w''.cell? ⟨b',off'+k*12+2,none⟩=some (.string q.1.1.1.t)∧w''.cell? ⟨b',off'+k*12+3,none⟩=some (.slice q.1.1.1.LA q.1.1.1.ln q.1.1.1.lc)∧w''.cell? ⟨b',off'+k*12+4,none⟩=some (.slice q.1.1.1.DA q.1.1.1.dn q.1.1.1.dc)∧w''.cell? ⟨b',off'+k*12+5,none⟩=some (.int .i64 q.1.2.1.k)∧w''.cell? ⟨b',off'+k*12+6,none⟩=some (.int .i64 q.1.2.1.n)∧w''.cell? ⟨b',off'+k*12+7,none⟩=some (.string q.1.2.1.t)∧w''.cell? ⟨b',off'+k*12+8,none⟩=some (.slice q.1.2.1.LA q.1.2.1.ln q.1.2.1.lc)∧w''.cell? ⟨b',off'+k*12+9,none⟩=some (.slice q.1.2.1.DA q.1.2.1.dn q.1.2.1.dc)∧w''.cell? ⟨b',off'+k*12+10,none⟩=some (.bool q.2.1)∧w''.cell? ⟨b',off'+k*12+11,none⟩=some (.bool q.2.2)):=fun w' w'' o hb hg=>KC.out w'' fun g hg2=>by
      have hs:=J2.out.bel.size
      have hs':=hb.size
      rw[hg.block g (by simp;omega) (fun e=>by have:=own_ge HOw.out g e.symm;omega),Below.heap_alloc w' o g (by omega)]
      exact hb.block g (by omega)
     have F1:Hid (mg+1≤maxLen):=by unfold Hid maxLen;omega
     have F2:Hid ((mg+1)*168≤140737488355328):=by unfold Hid;omega
     have RP:=qD (HOk.out.step J2.out.bel)
     have RQ:=qD (HOk'.out.step J2.out.bel)
     have hsz:=J2.out.bel.size
     have B:=qD ((Below.refl w2.heap.size w2).drewN 1)
     clear x0 x1 x2 x3 x4 x5 x6 x7 x8 x9 x10 x11 y0 y1 y2 y3 y4 y5 y6 y7 y8 y9 y10 y11 hown hmg hle hpl
     go_region_held3 (fun w'=>w'.cell? ⟨b,off+i*12,none⟩=some (.int .i64 p.1.1.1.k)∧w'.cell? ⟨b,off+i*12+1,none⟩=some (.int .i64 p.1.1.1.n)∧w'.cell? ⟨b,off+i*12+2,none⟩=some (.string p.1.1.1.t)∧w'.cell? ⟨b,off+i*12+3,none⟩=some (.slice p.1.1.1.LA p.1.1.1.ln p.1.1.1.lc)∧w'.cell? ⟨b,off+i*12+4,none⟩=some (.slice p.1.1.1.DA p.1.1.1.dn p.1.1.1.dc)∧w'.cell? ⟨b,off+i*12+5,none⟩=some (.int .i64 p.1.2.1.k)∧w'.cell? ⟨b,off+i*12+6,none⟩=some (.int .i64 p.1.2.1.n)∧w'.cell? ⟨b,off+i*12+7,none⟩=some (.string p.1.2.1.t)∧w'.cell? ⟨b,off+i*12+8,none⟩=some (.slice p.1.2.1.LA p.1.2.1.ln p.1.2.1.lc)∧w'.cell? ⟨b,off+i*12+9,none⟩=some (.slice p.1.2.1.DA p.1.2.1.dn p.1.2.1.dc)∧w'.cell? ⟨b,off+i*12+10,none⟩=some (.bool p.2.1)∧w'.cell? ⟨b,off+i*12+11,none⟩=some (.bool p.2.2)∧w'.cell? ⟨b',off'+k*12,none⟩=some (.int .i64 q.1.1.1.k)∧w'.cell? ⟨b',off'+k*12+1,none⟩=some (.int .i64 q.1.1.1.n)∧w'.cell? ⟨b',off'+k*12+2,none⟩=some (.string q.1.1.1.t)∧w'.cell? ⟨b',off'+k*12+3,none⟩=some (.slice q.1.1.1.LA q.1.1.1.ln q.1.1.1.lc)∧w'.cell? ⟨b',off'+k*12+4,none⟩=some (.slice q.1.1.1.DA q.1.1.1.dn q.1.1.1.dc)∧w'.cell? ⟨b',off'+k*12+5,none⟩=some (.int .i64 q.1.2.1.k)∧w'.cell? ⟨b',off'+k*12+6,none⟩=some (.int .i64 q.1.2.1.n)∧w'.cell? ⟨b',off'+k*12+7,none⟩=some (.string q.1.2.1.t)∧w'.cell? ⟨b',off'+k*12+8,none⟩=some (.slice q.1.2.1.LA q.1.2.1.ln q.1.2.1.lc)∧w'.cell? ⟨b',off'+k*12+9,none⟩=some (.slice q.1.2.1.DA q.1.2.1.dn q.1.2.1.dc)∧w'.cell? ⟨b',off'+k*12+10,none⟩=some (.bool q.2.1)∧w'.cell? ⟨b',off'+k*12+11,none⟩=some (.bool q.2.2))
      (first|exact KS.out _ B.out|exact KS.out _ (B.out.alloc B.out.size _)|((try dsimp only);assumption)|go_keep)
      (first
        | (refine step_append_any _ rfl (.tmp 34) (.tmp 44) 51 rfl w.heap.size 93 i0 (aggI (((VC.zero,Val.zero),(VC.zero,Val.zero)),(false,false))) 12 168 Tryz.underlying51 hi0 hz0 hz1 hz2 rfl (by decide) u5 mg (flat recI gs2) (by simp[Act.eval]) ((own_step HOw.out B.out).alloc _) (w4.heap.size+1) (some ⟨w4.heap.size,0,none⟩) 1 1 (recI (bothI p q)) (by simp[Act.eval]) ⟨rfl,fun _=>⟨_,rfl,Nat.lt_succ_self _,news_at _ _ _⟩⟩ (recI_one _) F1.out F2.out (le_alloc (Nat.le_trans hsz B.out.size) _) ?_;intro v' w5 hown hgr hat;have hs:=KG.out _ _ _ B.out hgr)
        | (go_at_call 121;refine(rboth_any p q _ (RP.out.step B.out) (RQ.out.step B.out)).mono ?_;rintro e3 w4 ⟨rfl,hb⟩;replace B:=qD (B.out.step' hb);clear hb))
     all_goals
      have HI:=qD (((J2.out.step B.out).step ((Below.refl _ _).alloc (qL) _)).add HP.out HQ.out HNp.out HNq.out HOk.out HOk'.out hgr (by rw[HMg.out]) hown)
      clear hown hgr hat hs KC KS KG HOw RP RQ B J2 F1 F2 i0' i1' i2' i3'
      go_wp2_with fail
      go_roundw
      case rel=>exact⟨k+1,gs2++[bothI p q],by omega,by go_num,HI.out⟩
      case measure=>simp[intOf];omega
    ·have hkn:k=js.length:=by have:=HL'.out;omega
     have HI:Hid (RmtI w is js (i+1) 0 u5 gs2 wr):=by rw[hkn] at I;exact qD (I.row HP.out)
     clear I J hkn
     go_wp2_with fail
     go_roundw
     case rel=>exact⟨i+1,gs2,by omega,by go_num,HI.out⟩
     case measure=>simp[intOf];omega
  ·have hit:is.take i=is:=List.take_of_length_le (by have:=HL.out;omega)
   have hle:=I.le
   have hile:i*js.length≤300000000000∧i*js.length=n*n':=by
    obtain rfl:i=n:=by omega
    exact⟨HPR.out,HPS.out⟩
   have HMem:Hid (∀a,inS cmC a (spansL (gs.map ivP))↔inS cmC a (spansL (is.map ivP))∧inS cmC a (spansL (js.map ivP))):=fun a=>by
    have:=I.mem a
    rw[hit] at this
    exact this.trans ⟨fun h=>h.elim id fun h=>absurd h.2 (inS_nil a),.inl⟩
   obtain⟨A2,c2,rfl,hs⟩:=SI.of_own I.own rfl (by unfold reach;omega) (fun x hx=>(I.ok x hx).step I.bel)
   obtain⟨mg,hmg⟩:∃m,m=gs.length:=⟨_,rfl⟩
   rw[←hmg] at hs hle ⊢
   have hmg3:mg≤300000000000:=by omega
   have HIL:=qD hile
   clear hile
   have HS:=qD hs
   have Z:=qD I.bel
   clear hs I J hit hmg
   go_wp2_with fail
   refine(rnormal_any gs A2 mg c2 _ HS.out (by omega)).mono ?_
   rintro e w3 ⟨A3,m3,c3,zs,r,rfl,he,hn3,hm3,hs3,hb3⟩
   have HE:=qD he
   have HN:Hid (IsNF (fun a=>inS cmC a (spansL (is.map ivP))∧inS cmC a (spansL (js.map ivP))) r):=⟨hn3.1,fun a=>(hn3.2 a).trans (HMem.out a)⟩
   have HM:Hid (m3≤n*n'):=by unfold Hid;have:=HIL.out.2;omega
   have HS3:=qD hs3
   have Z3:=qD (Z.out.step' hb3)
   clear he hn3 hm3 hs3 hb3
   go_wp2_with fail
   go_ret
   exact⟨A3,m3,c3,zs,r,rfl,HE.out,HN.out,HM.out,HS3.out,Z3.out⟩
theorem WIx.step{w w':World}{x:IxT}(h:WIx w x)(hb:Below w.heap.size w w'):WIx w' x:=⟨h.nsz,h.ks.step hb,h.wh.step hb⟩
theorem ix_where{w:World}{g:Nat}{t:TypeId}{x:IxT}(h:Blk w g t (arrIx x)):w.rangeAt g 6 (recPr x.wh):=
 range_blk h _ _ fun j v hj=>by
  show(recIx x).toArray[6+j]?=some v
  rw[List.getElem?_toArray,Nat.add_comm]
  exact hj
theorem BL.step{w w':World}{A:Option Addr}{n c:Nat}{ls:List IL}(h:BL w A n c ls)(hb:Below w.heap.size w w'):BL w' A n c ls:=⟨h.sr.step hb,h.sz,fun x hx=>(h.el x hx).step hb⟩
theorem NfL.same{S:Cut→Prop}{k k':Nat}{h h':IL}(p:NfL S k h)(p':NfL S k' h'):h.ys.map ivP=h'.ys.map ivP:=by
 obtain⟨n,e,i⟩:=p.nf
 obtain⟨n',e',i'⟩:=p'.nf
 exact norm_same e e' i i' fun _ _=>Iff.rfl
theorem meet_nf(l m:List (Cut×Cut))(hl:NF cmC VC1 l)(hm:NF cmC VC1 m):∃r,NF cmC VC1 r∧(∀a,inS cmC a r↔inS cmC a l∧inS cmC a m)∧r.length≤l.length+m.length:=by
 have key:∀(n:Nat) (L R c:List (Cut×Cut)),L.length+R.length≤n→NF cmC VC1 L→NF cmC VC1 R→MeI cmC VC1 l m L R c→∃r,NF cmC VC1 r∧(∀a,inS cmC a r↔inS cmC a l∧inS cmC a m)∧r.length≤c.length+(L.length+R.length):=by
  intro n
  induction n with
  | zero=>
   intro L R c hn _ _ h
   obtain rfl:L=[]:=List.eq_nil_of_length_eq_zero (by omega)
   exact⟨c,h.nf,fun a=>⟨fun k=>(h.mem a).2 (.inl k),fun k=>((h.mem a).1 k).resolve_right fun k=>inS_nil a k.1⟩,by omega⟩
  | succ n ih=>
   intro L R c hn hL hR h
   match L,R with
   | [],R=>exact⟨c,h.nf,fun a=>⟨fun k=>(h.mem a).2 (.inl k),fun k=>((h.mem a).1 k).resolve_right fun k=>inS_nil a k.1⟩,by omega⟩
   | s::L,[]=>exact⟨c,h.nf,fun a=>⟨fun k=>(h.mem a).2 (.inl k),fun k=>((h.mem a).1 k).resolve_right fun k=>inS_nil a k.2⟩,by omega⟩
   | s::L,t::R=>
    have hc:(addS cmC c (maxS cmC s.1 t.1,minS cmC s.2 t.2)).length≤c.length+1:=by
     unfold addS
     split
     ·simp
     ·omega
    simp only[List.length_cons] at hn ⊢
    by_cases hlt:cmC s.2 t.2<0
    ·obtain⟨r,h1,h2,h3⟩:=ih L (t::R) _ (by simp only[List.length_cons];omega) hL.tail hR (h.left lin_cut hL hR hlt)
     simp only[List.length_cons] at h3
     exact⟨r,h1,h2,by omega⟩
    ·obtain⟨r,h1,h2,h3⟩:=ih (s::L) R _ (by simp only[List.length_cons];omega) hL hR.tail (h.right lin_cut hL hR hlt)
     simp only[List.length_cons] at h3
     exact⟨r,h1,h2,by omega⟩
 obtain⟨r,h1,h2,h3⟩:=key _ l m [] (qL) hl hm MeI.start
 exact⟨r,h1,h2,by simpa using h3⟩
theorem nf_meet_len{S T:Cut→Prop}{l m r:List (Cut×Cut)}(hl:IsNF S l)(hm:IsNF T m)(hr:IsNF (fun a=>S a∧T a) r):r.length≤l.length+m.length:=by
 obtain⟨r',h1,h2,h3⟩:=meet_nf l m hl.1 hm.1
 have h4:IsNF (fun a=>S a∧T a) r':=⟨h1,fun a=>(h2 a).trans (and_congr (hl.2 a) (hm.2 a))⟩
 rw[hr.unique h4 fun _ _=>Iff.rfl]
 exact h3
theorem rmeetN_any{S T:Cut→Prop}{l m:List (Cut×Cut)}(is js:List PI)(A B:Option Addr)(n c n' c':Nat)(w:World)(h:SI w A n c is)(h':SI w B n' c' js)(hl:is.map ivP=l.map ivOf)(hm:js.map ivP=m.map ivOf)(kl:IsNF S l)(km:IsNF T m)(hn:n*n'≤300000000000):
 Calls Tryz.prog 65 #[.slice A n c,.slice B n' c'] w (NormOk (fun a=>S a∧T a) (n+n') w):=by
 refine(rmeetP_any is js A B n c n' c' w h h' hn).mono ?_
 rintro e w' ⟨A3,m3,c3,zs,r,e1,e2,e3,e4,e5,e6⟩
 have e3':IsNF (fun a=>S a∧T a) r:=⟨e3.1,fun a=>(e3.2 a).trans (and_congr (nf_spans hl kl a) (nf_spans hm km a))⟩
 refine⟨A3,m3,c3,zs,r,e1,e2,e3',?_,e5,e6⟩
 have h1:=nf_meet_len kl km e3'
 have h2:=congrArg List.length e2
 have h3:=congrArg List.length hl
 have h4:=congrArg List.length hm
 simp only[List.length_map] at h2 h3 h4
 have:=h.sr.ln;have:=h'.sr.ln;have:=e5.sr.ln
 omega
theorem ordL_at{l:List Od}{i:Nat}{o:Od}(h:l[i]?=some o):ordL (l.take i) (l.drop i)=if pathB o.p=false then 10 else if(l.take i).any (fun e=>sameP e.p o.p) then 12 else ordL (l.take (i+1)) (l.drop (i+1)):=by
 rw[drop_of h,ordL,List.take_add_one,h]
 rfl
theorem ordL_end{l:List Od}{i:Nat}(h:l.length≤i):ordL (l.take i) (l.drop i)=0:=by rw[List.drop_of_length_le h,ordL]
theorem sameP_comm:∀(l m:List ByteArray),sameP l m=sameP m l
 | [],[]=>rfl
 | [],_::_=>rfl
 | _::_,[]=>rfl
 | a::r,b::s=>by
  rw[sameP,sameP,sameP_comm r s]
  congr 1
  rw[Bool.eq_iff_iff,beq_iff_eq,beq_iff_eq]
  exact eq_comm
theorem rsame12_any(l m:List ByteArray)(A B:Option Addr)(n c k d:Nat)(w:World)(h:ST w A n c l)(h':ST w B k d m):
 Calls Tryz.prog 116 #[.slice A n c,.slice B k d] w fun e w'=>e=.returned (.bool (sameP l m))∧Below w.heap.size w w':=by
 have hz:n≤140737488355328:=by have:=h.sz;unfold reach at this;omega
 have hk:k≤140737488355328:=by have:=h'.sz;unfold reach at this;omega
 have H:=qD h
 have H':=qD h'
 clear h h'
 by_cases hnk:n=k
 rotate_left
 ·have HF:Hid (sameP l m=false):=sameP_len (by have:=H.out.sr.ln;have:=H'.out.sr.ln;omega)
  have hnk':((n:Int) != (k:Int))=true:=by simp;omega
  go_enter Tryz.func116,Tryz.ntmps116
  go_wp2_with fail
  go_ret
  exact⟨by rw[HF.out];rfl,Below.refl _ _⟩
 subst hnk
 go_enter Tryz.func116,Tryz.ntmps116
 go_wp2_with fail
 go_loopw [5] (fun v wr=>∃i:Nat,i≤n∧v=.int .i64 i∧sameP l m=sameP (l.drop i) (m.drop i)∧Below w.heap.size w wr) (fun v _=>n-(intOf v).toNat)
 case atStart=>exact⟨0,Nat.zero_le _,rfl,rfl,Below.refl _ _⟩
 case round=>
  obtain⟨i,hi,rfl,ha,hbel⟩:=hrel
  have HA:=qD ha
  have HB:=qD hbel
  clear ha
  by_cases hlt:i<n
  ·obtain⟨b,off,x,hA,hb,hx,e0⟩:=H.out.sr.at1 hlt
   obtain⟨b',off',y,hA',hb',hy,f0⟩:=H'.out.sr.at1 hlt
   subst hA hA'
   have HX:=qD (sameP_at hx hy)
   have e1:=(hbel.cell (p:=⟨b,off+i,none⟩) hb).trans e0
   have f1:=(hbel.cell (p:=⟨b',off'+i,none⟩) hb').trans f0
   have X0:∀kk:BW wr,kk.val.cell? ⟨b,off+i,none⟩=some (.string x):=fun kk=>kk.cell e1
   have Y0:∀kk:BW wr,kk.val.cell? ⟨b',off'+i,none⟩=some (.string y):=fun kk=>kk.cell f1
   have i0:(0:Int)≤(i:Int):=by omega
   have i1:(i:Int)<(n:Int):=by omega
   clear hx hy e0 f0 hbel
   go_upto_region 6 with fail
   clear e1 f1
   refine wp_region_bw (by kernel_rfl) (by kernel_rfl) ?_
   repeat(go_big_quiet_step (fail))
   refine wpQuiet_nil ?_
   rintro _ ⟨kw,rfl⟩
   have HK:=qD kw.below
   generalize kw.val=w5 at*
   clear X0 Y0
   cases hq:(x.toList==y.toList)
   ·have HF:Hid (sameP l m=false):=by rw[Hid,HA.out,HX.out,hq];rfl
    go_wp2_with fail
    go_ret
    exact⟨by rw[HF.out];rfl,HB.out.step' HK.out⟩
   ·have HF:Hid (sameP l m=sameP (l.drop (i+1)) (m.drop (i+1))):=by rw[Hid,HA.out,HX.out,hq];rfl
    go_wp2_with fail
    go_roundw
    case rel=>exact⟨i+1,by omega,by go_num,HF.out,HB.out.step' HK.out⟩
    case measure=>simp[intOf];omega
  ·have HF:Hid (sameP l m=true):=by rw[Hid,HA.out];exact sameP_end (by have:=H.out.sr.ln;omega) (by have:=H'.out.sr.ln;omega)
   clear hbel
   go_wp2_with fail
   go_ret
   exact⟨by rw[HF.out];rfl,HB.out⟩
theorem rprefix_any(l m:List ByteArray)(A B:Option Addr)(n c k d:Nat)(w:World)(h:ST w A n c l)(h':ST w B k d m)(hnk:n=k):
 Calls Tryz.prog 229 #[.slice A n c,.slice B k d] w fun e w'=>e=.returned (.bool (sameP l m))∧Below w.heap.size w w':=by
 have hz:n≤140737488355328:=by have:=h.sz;unfold reach at this;omega
 have hk:k≤140737488355328:=by have:=h'.sz;unfold reach at this;omega
 have H:=qD h
 have H':=qD h'
 clear h h'
 subst hnk
 go_enter Tryz.func229,Tryz.ntmps229
 go_wp2_with fail
 go_loopw [5] (fun v wr=>∃i:Nat,i≤n∧v=.int .i64 i∧sameP l m=sameP (l.drop i) (m.drop i)∧Below w.heap.size w wr) (fun v _=>n-(intOf v).toNat)
 case atStart=>exact⟨0,Nat.zero_le _,rfl,rfl,Below.refl _ _⟩
 case round=>
  obtain⟨i,hi,rfl,ha,hbel⟩:=hrel
  have HA:=qD ha
  have HB:=qD hbel
  clear ha
  by_cases hlt:i<n
  ·obtain⟨b,off,x,hA,hb,hx,e0⟩:=H.out.sr.at1 hlt
   obtain⟨b',off',y,hA',hb',hy,f0⟩:=H'.out.sr.at1 hlt
   subst hA hA'
   have HX:=qD (sameP_at hx hy)
   have e1:=(hbel.cell (p:=⟨b,off+i,none⟩) hb).trans e0
   have f1:=(hbel.cell (p:=⟨b',off'+i,none⟩) hb').trans f0
   have X0:∀kk:BW wr,kk.val.cell? ⟨b,off+i,none⟩=some (.string x):=fun kk=>kk.cell e1
   have Y0:∀kk:BW wr,kk.val.cell? ⟨b',off'+i,none⟩=some (.string y):=fun kk=>kk.cell f1
   have i0:(0:Int)≤(i:Int):=by omega
   have i1:(i:Int)<(n:Int):=by omega
   clear hx hy e0 f0 hbel
   go_upto_region 6 with fail
   clear e1 f1
   refine wp_region_bw (by kernel_rfl) (by kernel_rfl) ?_
   repeat(go_big_quiet_step (fail))
   refine wpQuiet_nil ?_
   rintro _ ⟨kw,rfl⟩
   have HK:=qD kw.below
   generalize kw.val=w5 at*
   clear X0 Y0
   cases hq:(x.toList==y.toList)
   ·have HF:Hid (sameP l m=false):=by rw[Hid,HA.out,HX.out,hq];rfl
    go_wp2_with fail
    go_ret
    exact⟨by rw[HF.out];rfl,HB.out.step' HK.out⟩
   ·have HF:Hid (sameP l m=sameP (l.drop (i+1)) (m.drop (i+1))):=by rw[Hid,HA.out,HX.out,hq];rfl
    go_wp2_with fail
    go_roundw
    case rel=>exact⟨i+1,by omega,by go_num,HF.out,HB.out.step' HK.out⟩
    case measure=>simp[intOf];omega
  ·have HF:Hid (sameP l m=true):=by rw[Hid,HA.out];exact sameP_end (by have:=H.out.sr.ln;omega) (by have:=H'.out.sr.ln;omega)
   clear hbel
   go_wp2_with fail
   go_ret
   exact⟨by rw[HF.out];rfl,HB.out⟩
theorem rsame04_any(l m:List ByteArray)(A B:Option Addr)(n c k d:Nat)(w:World)(h:ST w A n c l)(h':ST w B k d m):
 Calls Tryz.prog 181 #[.slice A n c,.slice B k d] w fun e w'=>e=.returned (.bool (sameP l m))∧Below w.heap.size w w':=by
 have H:=qD h
 have H':=qD h'
 clear h h'
 by_cases hnk:n=k
 ·subst hnk
  go_enter Tryz.func181,Tryz.ntmps181
  go_wp2_with fail
  refine(rprefix_any l m _ _ _ _ _ _ _ H.out H'.out rfl).mono ?_
  rintro e w1 ⟨rfl,hb⟩
  go_wp2_with fail
  go_ret
  exact⟨rfl,hb⟩
 ·have HF:Hid (sameP l m=false):=sameP_len (by have:=H.out.sr.ln;have:=H'.out.sr.ln;omega)
  have hnk':((n:Int)==(k:Int))=false:=by simp;omega
  go_enter Tryz.func181,Tryz.ntmps181
  go_wp2_with fail
  go_ret
  exact⟨by rw[HF.out];rfl,Below.refl _ _⟩
theorem rorder_any(ks:List Od)(A:Option Addr)(n c:Nat)(w:World)(h:KS w A n c ks):
 Calls Tryz.prog 60 #[.slice A n c] w fun e w'=>e=.returned (.int .i64 (ordE ks))∧Below w.heap.size w w':=by
 have hln:=qD h.ln
 obtain⟨os,h⟩:=h
 have hz:n≤140737488355328:=by have:=h.sz;unfold reach at this;omega
 have hc:=h.sr.lc
 have H:=qD h
 clear h
 by_cases h8:8<n
 ·have HV:Hid (ordE ks=2):=by unfold Hid ordE;rw[if_pos (by have:=hln.out;omega)]
  go_enter Tryz.func60,Tryz.ntmps60
  go_wp2_with fail
  go_ret
  exact⟨by rw[HV.out];rfl,Below.refl _ _⟩
 have HV:Hid (ordE ks=ordL (ks.take 0) (ks.drop 0)):=by unfold Hid ordE;rw[if_neg (by have:=hln.out;omega)];rfl
 go_enter Tryz.func60,Tryz.ntmps60
 go_wp2_with fail
 go_loopw [3] (fun v wr=>∃i:Nat,i≤n∧v=.int .i64 i∧ordE ks=ordL (ks.take i) (ks.drop i)∧Below w.heap.size w wr) (fun v _=>n-(intOf v).toNat)
 case atStart=>exact⟨0,Nat.zero_le _,rfl,HV.out,Below.refl _ _⟩
 case round=>
  obtain⟨i,hi,rfl,ha,hbel⟩:=hrel
  have HA:=qD ha
  have HB:=qD hbel
  clear ha
  by_cases hlt:i<n
  ·obtain⟨b,off,x,hA,hb,hx,e0,e1⟩:=H.out.sr.at2 hlt
   obtain⟨q,hq⟩:∃q,ks[i]?=some q:=⟨_,List.getElem?_eq_getElem (by have:=hln.out;omega)⟩
   subst hA
   have HOR:=qD (H.out.el i x q hx hq)
   have HX:=qD (ordL_at hq)
   have HE0:=qD e0
   have g0:=(hbel.cell (p:=⟨b,off+i*2,none⟩) hb).trans e0
   obtain⟨xA,xn,xc,xd⟩:=x
   clear hx hq e0 e1 hbel
   simp only at g0
   go_wp2_with fail
   refine(rpath_any q.p _ _ _ _ (HOR.out.st.step HB.out)).mono ?_
   rintro e w1 ⟨rfl,rfl⟩
   cases hp:pathB q.p
   ·have HF:Hid (ordE ks=10):=by rw[Hid,HA.out,HX.out,if_pos hp]
    go_wp2_with fail
    go_ret
    exact⟨by rw[HF.out];rfl,HB.out⟩
   have HY:Hid (ordL (ks.take i) (ks.drop i)=if(ks.take i).any (fun e=>sameP e.p q.p) then 12 else ordL (ks.take (i+1)) (ks.drop (i+1))):=by
    rw[Hid,HX.out,if_neg (by rw[hp];simp)]
   have hic:i≤c:=by omega
   clear HX hp g0
   go_wp2_with fail
   obtain⟨wo,hwo⟩:∃wo:World,wo=w1:=⟨_,rfl⟩
   rw[←hwo] at HB ⊢
   clear hwo
   go_loopw [4] (fun v wr=>∃j:Nat,j≤i∧v=.int .i64 j∧(ks.take i).any (fun e=>sameP e.p q.p)=((ks.take i).drop j).any (fun e=>sameP e.p q.p)∧Below w.heap.size w wr) (fun v _=>i-(intOf v).toNat)
   case atStart=>exact⟨0,Nat.zero_le _,rfl,rfl,HB.out⟩
   case round=>
    obtain⟨j,hj,rfl,hany,hbel2⟩:=hrel
    have HN:=qD hany
    have HB2:=qD hbel2
    clear hany
    by_cases hjl:j<i
    ·obtain⟨b2,off2,y,hA2,hbb,hy,e0,e1⟩:=H.out.sr.at2 (i:=j) (by omega)
     obtain⟨r,hr⟩:∃r,ks[j]?=some r:=⟨_,List.getElem?_eq_getElem (by have:=hln.out;omega)⟩
     injection hA2 with hA2
     injection hA2 with hb1 ho1
     subst hb1 ho1
     have HOR2:=qD (H.out.el j y r hy hr)
     have HY2:Hid (((ks.take i).drop j).any (fun e=>sameP e.p q.p)=(sameP r.p q.p||((ks.take i).drop (j+1)).any (fun e=>sameP e.p q.p))):=by
      rw[Hid,drop_of (show(ks.take i)[j]?=some r by rw[List.getElem?_take,if_pos hjl];exact hr)]
      rfl
     have g1:=(hbel2.cell (p:=⟨b,off+j*2,none⟩) hb).trans e0
     have g0:=(hbel2.cell (p:=⟨b,off+i*2,none⟩) hb).trans HE0.out
     obtain⟨yA,yn,yc,yd⟩:=y
     clear hy hr e0 e1 hbel2
     simp only at g0 g1
     have X0:∀kk:BW wr,kk.val.cell? ⟨b,off+i*2,none⟩=some (.slice xA xn xc):=fun kk=>kk.cell g0
     have Y0:∀kk:BW wr,kk.val.cell? ⟨b,off+j*2,none⟩=some (.slice yA yn yc):=fun kk=>kk.cell g1
     have K1:Hid (∀kk:BW wr,Calls Tryz.prog 116 #[.slice xA xn xc,.slice yA yn yc] kk.val fun e w''=>e=.returned (.bool (sameP r.p q.p))∧∃kk:BW wr,w''=kk.val):=fun kk=>
      Calls.bw (by rw[sameP_comm r.p q.p];exact rsame12_any q.p r.p _ _ _ _ _ _ _ (HOR.out.st.step (HB2.out.step' kk.below)) (HOR2.out.st.step (HB2.out.step' kk.below)))
     have i0:(0:Int)≤(i:Int):=by omega
     have i1:(i:Int)<(n:Int):=by omega
     have j0:(0:Int)≤(j:Int):=by omega
     have j1:(j:Int)<(n:Int):=by omega
     go_upto_region 11 with fail
     clear g0 g1
     refine wp_region_bw (by kernel_rfl) (by kernel_rfl) ?_
     repeat(go_big_quiet_step ((go_at_call 116;with_reducible exact K1.out _)))
     refine wpQuiet_nil ?_
     rintro _ ⟨kw,rfl⟩
     have HK:=qD kw.below
     generalize kw.val=w5 at*
     clear X0 Y0 K1
     cases hs:sameP r.p q.p
     ·have HF:Hid ((ks.take i).any (fun e=>sameP e.p q.p)=((ks.take i).drop (j+1)).any (fun e=>sameP e.p q.p)):=by rw[Hid,HN.out,HY2.out,hs];rfl
      go_wp2_with fail
      go_roundw
      case rel=>exact⟨j+1,by omega,by go_num,HF.out,HB2.out.step' HK.out⟩
      case measure=>simp[intOf];omega
     ·have HF:Hid (ordE ks=12):=by rw[Hid,HA.out,HY.out,if_pos (by rw[HN.out,HY2.out,hs];rfl)]
      go_wp2_with fail
      go_ret
      exact⟨by rw[HF.out];rfl,HB2.out.step' HK.out⟩
    ·have HF:Hid (ordE ks=ordL (ks.take (i+1)) (ks.drop (i+1))):=by
      rw[Hid,HA.out,HY.out,if_neg]
      rw[HN.out,List.drop_of_length_le (by simp;omega)]
      simp
     clear hbel2
     go_wp2_with fail
     go_roundw
     case rel=>exact⟨i+1,by omega,by go_num,HF.out,HB2.out⟩
     case measure=>simp[intOf];omega
  ·have HF:Hid (ordE ks=0):=by rw[Hid,HA.out];exact ordL_end (by have:=hln.out;omega)
   clear hbel
   go_wp2_with fail
   go_ret
   exact⟨by rw[HF.out];rfl,HB.out⟩
abbrev BB:=ByteArray×ByteArray
theorem sameBs25_any{Ss:List (Cut→Prop)}{k k':Nat}(ls ms:List IL)(A B:Option Addr)(n m c d:Nat)(w:World)(h:BL w A n c ls)(h':BL w B m d ms)(hn:Nfs Ss k ls)(hn':Nfs Ss k' ms):
 Calls Tryz.prog 20 #[.slice A n c,.slice B m d] w fun e w'=>e=.returned (.bool true)∧Below w.heap.size w w':=by
 have hl:n=m:=by have h1:=h.sr.ln;have h2:=h'.sr.ln;have h3:=hn.ln;have h4:=hn'.ln;omega
 subst hl
 have H:=qD h
 have H':=qD h'
 have HN:=qD hn
 have HN':=qD hn'
 have hz:=h.sz
 unfold reach at hz
 clear h h' hn hn'
 have hnn:((n:Int) != (n:Int))=false:=by simp
 go_enter Tryz.func20,Tryz.ntmps20
 go_wp2_with fail
 go_loopw [13] (fun v5 wr=>∃i:Nat,i≤n∧v5=.int .i64 i∧Below w.heap.size w wr) (fun v5 _=>n-(intOf v5).toNat)
 case atStart=>exact⟨0,Nat.zero_le _,rfl,Below.refl _ _⟩
 case round=>
  obtain⟨i,hi,rfl,I⟩:=hrel
  have J:=qD I
  by_cases hlt:i<n
  ·obtain⟨b,off,p,rfl,hb,hp,hpm,hrg⟩:=H.out.sr.row hlt
   obtain⟨b',off',q,rfl,hb',hq,hqm,hrg'⟩:=H'.out.sr.row hlt
   have e0:=(I.cell (p:=⟨b,off+i*1,none⟩) hb).trans (hrg 0 _ rfl)
   have f0:=(I.cell (p:=⟨b',off'+i*1,none⟩) hb').trans (hrg' 0 _ rfl)
   rw[Nat.mul_one] at e0 f0
   have X0:∀kk:BW wr,kk.val.cell? ⟨b,off+i,none⟩=some (.slice p.A p.n p.c):=fun kk=>kk.cell e0
   have Y0:∀kk:BW wr,kk.val.cell? ⟨b',off'+i,none⟩=some (.slice q.A q.n q.c):=fun kk=>kk.cell f0
   have i0:(0:Int)≤(i:Int):=by omega
   have i1:(i:Int)<(n:Int):=by omega
   have hi2:i<Ss.length:=by have:=H.out.sr.ln;have:=HN.out.ln;omega
   have hS:=List.getElem?_eq_getElem hi2
   have hsame:=(HN.out.at_ i _ p hS hp).same (HN'.out.at_ i _ q hS hq)
   have K1:Hid (∀kk:BW wr,Calls Tryz.prog 16 #[.slice p.A p.n p.c,.slice q.A q.n q.c] kk.val fun e w''=>e=.returned (.bool true)∧∃kk:BW wr,w''=kk.val):=fun kk=>
    Calls.bw (sameIs25_any p.ys q.ys p.A q.A p.n q.n p.c q.c kk.val (((H.out.el p hpm).step I).step kk.below) (((H'.out.el q hqm).step I).step kk.below) hsame)
   clear e0 f0 hrg hrg' hp hq hpm hqm hb hb' I hi2 hS hsame
   go_upto_region 6 with fail
   refine wp_region_bw (by kernel_rfl) (by kernel_rfl) ?_
   repeat(go_big_quiet_step (with_reducible exact K1.out _))
   refine wpQuiet_nil ?_
   rintro _ ⟨kw,rfl⟩
   have J2:=qD (J.out.step' kw.below)
   clear X0 Y0 K1 i0 i1
   generalize kw.val=w2 at*
   go_wp2_with fail
   go_roundw
   case rel=>exact⟨i+1,by omega,by go_num,J2.out⟩
   case measure=>simp[intOf];omega
  ·clear I
   go_wp2_with fail
   go_ret
   exact⟨rfl,J.out⟩
def RtB(w:World)(e:Ending)(w':World):Prop:=∃b:Bool,e=.returned (.bool b)∧Below w.heap.size w w'
theorem rsame04_b{l:List ByteArray}{A:Option Addr}{n c:Nat}{w:World}(h:ST w A n c l)(h':ST w none 0 0 []):Calls Tryz.prog 181 #[.slice A n c,.slice none 0 0] w (RtB w):=
 (rsame04_any l [] A none n c 0 0 w h h').mono fun _ _ ⟨e,hb⟩=>⟨_,e,hb⟩
theorem rsame01_b{x:Val}{c:VC}{w:World}(h:RW w c x):Calls Tryz.prog 117 #[c.val,.agg #[.int .i64 0,.int .i64 0,.string ByteArray.empty,.slice none 0 0,.slice none 0 0]] w (RtB w):=
 (rsame_any x Val.zero c VC.zero w h (rw_zero w)).mono fun _ _ ⟨e,hb⟩=>⟨_,e,hb⟩
theorem rsame08_any(x:ExT)(w:World)(hw:WX w x):Calls Tryz.prog 118 #[aggEx x,.agg (eArr none)] w (RtB w):=by
 have W:=qD hw.open
 have hkz:x.kn≤764880000000:=by have:=W.out.ksz;unfold reach at this;omega
 clear hw
 have B0:Hid (Blk ((w.alloc (.cells (arrEx x) 38)).alloc (.cells (eArr none) 38)) w.heap.size 38 (arrEx x)):=(Blk.new_at rfl).alloc _
 have B1:Hid (Blk ((w.alloc (.cells (arrEx x) 38)).alloc (.cells (eArr none) 38)) (w.heap.size+1) 38 (eArr none)):=Blk.new_at (by simp)
 have BE:Hid (Below w.heap.size w ((w.alloc (.cells (arrEx x) 38)).alloc (.cells (eArr none) 38))):=((Below.refl _ _).alloc (qL) _).alloc (by simp) _
 go_enter Tryz.func118,Tryz.ntmps118
 go_upto_region 1 with fail
 change Code.wp _ _ _ _ ((w.alloc (.cells (arrEx x) 38)).alloc (.cells (eArr none) 38))
 generalize (w.alloc (.cells (arrEx x) 38)).alloc (.cells (eArr none) 38)=wa at*
 obtain⟨d0,d1,d2,d3,d9,d10⟩:=ex_cells B0.out
 have c4:=(B0.out.cell 4).trans (show _=some (Value.int .i64 x.arg.1.k) from rfl)
 have c5:=(B0.out.cell 5).trans (show _=some (Value.int .i64 x.arg.1.n) from rfl)
 have c6:=(B0.out.cell 6).trans (show _=some (Value.string x.arg.1.t) from rfl)
 have c7:=(B0.out.cell 7).trans (show _=some (Value.slice x.arg.1.LA x.arg.1.ln x.arg.1.lc) from rfl)
 have c8:=(B0.out.cell 8).trans (show _=some (Value.slice x.arg.1.DA x.arg.1.dn x.arg.1.dc) from rfl)
 have e0:=(B1.out.cell 0).trans (show _=some (Value.int .i64 0) from rfl)
 have e1:=(B1.out.cell 1).trans (show _=some (Value.slice none 0 0) from rfl)
 have e2:=(B1.out.cell 2).trans (show _=some (Value.string ByteArray.empty) from rfl)
 have e3:=(B1.out.cell 3).trans (show _=some (Value.slice none 0 0) from rfl)
 have e4:=(B1.out.cell 4).trans (show _=some (Value.int .i64 0) from rfl)
 have e5:=(B1.out.cell 5).trans (show _=some (Value.int .i64 0) from rfl)
 have e6:=(B1.out.cell 6).trans (show _=some (Value.string ByteArray.empty) from rfl)
 have e7:=(B1.out.cell 7).trans (show _=some (Value.slice none 0 0) from rfl)
 have e8:=(B1.out.cell 8).trans (show _=some (Value.slice none 0 0) from rfl)
 have e9:=(B1.out.cell 9).trans (show _=some (Value.int .i64 0) from rfl)
 have e10:=(B1.out.cell 10).trans (show _=some (Value.slice none 0 0) from rfl)
 by_cases hk:x.kn=0
 rotate_left
 ·have hkb:((x.kn:Int) != 0)=true:=by simpa using hk
  go_wp2_with (first
   | (go_at_call 181;refine(rsame04_b (by first|exact W.out.path.step BE.out|exact W.out.names.step BE.out) st_nil).mono ?_;rintro e w1 ⟨bb,rfl,hb⟩;replace B0:=qD (B0.out.step hb);replace B1:=qD (B1.out.step hb);replace BE:=qD (BE.out.step' hb);clear hb;clear d0 d1 d2 d3 d9 d10 c4 c5 c6 c7 c8 e0 e1 e2 e3 e4 e5 e6 e7 e8 e9 e10;obtain⟨d0,d1,d2,d3,d9,d10⟩:=ex_cells B0.out;have c4:=(B0.out.cell 4).trans (show _=some (Value.int .i64 x.arg.1.k) from rfl);have c5:=(B0.out.cell 5).trans (show _=some (Value.int .i64 x.arg.1.n) from rfl);have c6:=(B0.out.cell 6).trans (show _=some (Value.string x.arg.1.t) from rfl);have c7:=(B0.out.cell 7).trans (show _=some (Value.slice x.arg.1.LA x.arg.1.ln x.arg.1.lc) from rfl);have c8:=(B0.out.cell 8).trans (show _=some (Value.slice x.arg.1.DA x.arg.1.dn x.arg.1.dc) from rfl);have e0:=(B1.out.cell 0).trans (show _=some (Value.int .i64 0) from rfl);have e1:=(B1.out.cell 1).trans (show _=some (Value.slice none 0 0) from rfl);have e2:=(B1.out.cell 2).trans (show _=some (Value.string ByteArray.empty) from rfl);have e3:=(B1.out.cell 3).trans (show _=some (Value.slice none 0 0) from rfl);have e4:=(B1.out.cell 4).trans (show _=some (Value.int .i64 0) from rfl);have e5:=(B1.out.cell 5).trans (show _=some (Value.int .i64 0) from rfl);have e6:=(B1.out.cell 6).trans (show _=some (Value.string ByteArray.empty) from rfl);have e7:=(B1.out.cell 7).trans (show _=some (Value.slice none 0 0) from rfl);have e8:=(B1.out.cell 8).trans (show _=some (Value.slice none 0 0) from rfl);have e9:=(B1.out.cell 9).trans (show _=some (Value.int .i64 0) from rfl);have e10:=(B1.out.cell 10).trans (show _=some (Value.slice none 0 0) from rfl);cases bb)
   | (go_at_call 117;refine(rsame01_b (W.out.arg.step BE.out)).mono ?_;rintro e w1 ⟨bb,rfl,hb⟩;replace B0:=qD (B0.out.step hb);replace B1:=qD (B1.out.step hb);replace BE:=qD (BE.out.step' hb);clear hb;clear d0 d1 d2 d3 d9 d10 c4 c5 c6 c7 c8 e0 e1 e2 e3 e4 e5 e6 e7 e8 e9 e10;obtain⟨d0,d1,d2,d3,d9,d10⟩:=ex_cells B0.out;have c4:=(B0.out.cell 4).trans (show _=some (Value.int .i64 x.arg.1.k) from rfl);have c5:=(B0.out.cell 5).trans (show _=some (Value.int .i64 x.arg.1.n) from rfl);have c6:=(B0.out.cell 6).trans (show _=some (Value.string x.arg.1.t) from rfl);have c7:=(B0.out.cell 7).trans (show _=some (Value.slice x.arg.1.LA x.arg.1.ln x.arg.1.lc) from rfl);have c8:=(B0.out.cell 8).trans (show _=some (Value.slice x.arg.1.DA x.arg.1.dn x.arg.1.dc) from rfl);have e0:=(B1.out.cell 0).trans (show _=some (Value.int .i64 0) from rfl);have e1:=(B1.out.cell 1).trans (show _=some (Value.slice none 0 0) from rfl);have e2:=(B1.out.cell 2).trans (show _=some (Value.string ByteArray.empty) from rfl);have e3:=(B1.out.cell 3).trans (show _=some (Value.slice none 0 0) from rfl);have e4:=(B1.out.cell 4).trans (show _=some (Value.int .i64 0) from rfl);have e5:=(B1.out.cell 5).trans (show _=some (Value.int .i64 0) from rfl);have e6:=(B1.out.cell 6).trans (show _=some (Value.string ByteArray.empty) from rfl);have e7:=(B1.out.cell 7).trans (show _=some (Value.slice none 0 0) from rfl);have e8:=(B1.out.cell 8).trans (show _=some (Value.slice none 0 0) from rfl);have e9:=(B1.out.cell 9).trans (show _=some (Value.int .i64 0) from rfl);have e10:=(B1.out.cell 10).trans (show _=some (Value.slice none 0 0) from rfl);cases bb))
  all_goals (go_ret;exact⟨_,rfl,BE.out⟩)
 ·have hkb:((x.kn:Int) != 0)=false:=by simp[hk]
  go_wp2_with (first
   | (go_at_call 181;refine(rsame04_b (by first|exact W.out.path.step BE.out|exact W.out.names.step BE.out) st_nil).mono ?_;rintro e w1 ⟨bb,rfl,hb⟩;replace B0:=qD (B0.out.step hb);replace B1:=qD (B1.out.step hb);replace BE:=qD (BE.out.step' hb);clear hb;clear d0 d1 d2 d3 d9 d10 c4 c5 c6 c7 c8 e0 e1 e2 e3 e4 e5 e6 e7 e8 e9 e10;obtain⟨d0,d1,d2,d3,d9,d10⟩:=ex_cells B0.out;have c4:=(B0.out.cell 4).trans (show _=some (Value.int .i64 x.arg.1.k) from rfl);have c5:=(B0.out.cell 5).trans (show _=some (Value.int .i64 x.arg.1.n) from rfl);have c6:=(B0.out.cell 6).trans (show _=some (Value.string x.arg.1.t) from rfl);have c7:=(B0.out.cell 7).trans (show _=some (Value.slice x.arg.1.LA x.arg.1.ln x.arg.1.lc) from rfl);have c8:=(B0.out.cell 8).trans (show _=some (Value.slice x.arg.1.DA x.arg.1.dn x.arg.1.dc) from rfl);have e0:=(B1.out.cell 0).trans (show _=some (Value.int .i64 0) from rfl);have e1:=(B1.out.cell 1).trans (show _=some (Value.slice none 0 0) from rfl);have e2:=(B1.out.cell 2).trans (show _=some (Value.string ByteArray.empty) from rfl);have e3:=(B1.out.cell 3).trans (show _=some (Value.slice none 0 0) from rfl);have e4:=(B1.out.cell 4).trans (show _=some (Value.int .i64 0) from rfl);have e5:=(B1.out.cell 5).trans (show _=some (Value.int .i64 0) from rfl);have e6:=(B1.out.cell 6).trans (show _=some (Value.string ByteArray.empty) from rfl);have e7:=(B1.out.cell 7).trans (show _=some (Value.slice none 0 0) from rfl);have e8:=(B1.out.cell 8).trans (show _=some (Value.slice none 0 0) from rfl);have e9:=(B1.out.cell 9).trans (show _=some (Value.int .i64 0) from rfl);have e10:=(B1.out.cell 10).trans (show _=some (Value.slice none 0 0) from rfl);cases bb)
   | (go_at_call 117;refine(rsame01_b (W.out.arg.step BE.out)).mono ?_;rintro e w1 ⟨bb,rfl,hb⟩;replace B0:=qD (B0.out.step hb);replace B1:=qD (B1.out.step hb);replace BE:=qD (BE.out.step' hb);clear hb;clear d0 d1 d2 d3 d9 d10 c4 c5 c6 c7 c8 e0 e1 e2 e3 e4 e5 e6 e7 e8 e9 e10;obtain⟨d0,d1,d2,d3,d9,d10⟩:=ex_cells B0.out;have c4:=(B0.out.cell 4).trans (show _=some (Value.int .i64 x.arg.1.k) from rfl);have c5:=(B0.out.cell 5).trans (show _=some (Value.int .i64 x.arg.1.n) from rfl);have c6:=(B0.out.cell 6).trans (show _=some (Value.string x.arg.1.t) from rfl);have c7:=(B0.out.cell 7).trans (show _=some (Value.slice x.arg.1.LA x.arg.1.ln x.arg.1.lc) from rfl);have c8:=(B0.out.cell 8).trans (show _=some (Value.slice x.arg.1.DA x.arg.1.dn x.arg.1.dc) from rfl);have e0:=(B1.out.cell 0).trans (show _=some (Value.int .i64 0) from rfl);have e1:=(B1.out.cell 1).trans (show _=some (Value.slice none 0 0) from rfl);have e2:=(B1.out.cell 2).trans (show _=some (Value.string ByteArray.empty) from rfl);have e3:=(B1.out.cell 3).trans (show _=some (Value.slice none 0 0) from rfl);have e4:=(B1.out.cell 4).trans (show _=some (Value.int .i64 0) from rfl);have e5:=(B1.out.cell 5).trans (show _=some (Value.int .i64 0) from rfl);have e6:=(B1.out.cell 6).trans (show _=some (Value.string ByteArray.empty) from rfl);have e7:=(B1.out.cell 7).trans (show _=some (Value.slice none 0 0) from rfl);have e8:=(B1.out.cell 8).trans (show _=some (Value.slice none 0 0) from rfl);have e9:=(B1.out.cell 9).trans (show _=some (Value.int .i64 0) from rfl);have e10:=(B1.out.cell 10).trans (show _=some (Value.slice none 0 0) from rfl);cases bb))
  all_goals (try(go_ret;exact⟨_,rfl,BE.out⟩))
  rw[hk] at d10
  go_loopw [5] (fun v wr=>v=.int .i64 0∧wr=w1) (fun _ _=>0)
  case atStart=>exact⟨rfl,rfl⟩
  case round=>
   obtain⟨rfl,rfl⟩:=hrel
   go_wp2_with fail
   go_ret
   exact⟨_,rfl,BE.out⟩
theorem rzero_any(p:PrT)(w:World)(hw:WP w p):Calls Tryz.prog 61 #[aggPr p] w (RtB w):=by
 have W:=qD hw.open
 clear hw
 have B0:Hid (Blk (w.alloc (.cells (arrPr p) 41)) w.heap.size 41 (arrPr p)):=Blk.new_at rfl
 have BE:=qD ((Below.refl w.heap.size w).alloc (qL) (Obj.cells (arrPr p) 41))
 go_enter Tryz.func61,Tryz.ntmps61
 go_upto_region 1 with fail
 change Code.wp _ _ _ _ (w.alloc (.cells (arrPr p) 41))
 generalize w.alloc (.cells (arrPr p) 41)=wa at*
 obtain⟨d0,d1,_,_,d7,d8,d9,d24⟩:=pr_cells B0.out
 have c2:=(B0.out.cell 2).trans (show _=some (Value.int .i64 p.arg.1.k) from rfl)
 have c3:=(B0.out.cell 3).trans (show _=some (Value.int .i64 p.arg.1.n) from rfl)
 have c4:=(B0.out.cell 4).trans (show _=some (Value.string p.arg.1.t) from rfl)
 have c5:=(B0.out.cell 5).trans (show _=some (Value.slice p.arg.1.LA p.arg.1.ln p.arg.1.lc) from rfl)
 have c6:=(B0.out.cell 6).trans (show _=some (Value.slice p.arg.1.DA p.arg.1.dn p.arg.1.dc) from rfl)
 have c10:=(B0.out.cell 10).trans (show _=some (Value.int .i64 p.sk) from rfl)
 have c11:=(B0.out.cell 11).trans (show _=some (Value.slice p.pts.A p.pts.n p.pts.c) from rfl)
 have c12:=(B0.out.cell 12).trans (show _=some (Value.int .i64 p.sr) from rfl)
 have RX:=qD (range_pex B0.out)
 go_wp2_with (first
  | ((with_reducible show wpList _ _ _ (⟨_,.load 38 _,_,_,_,_⟩::_) _ _);refine wpList_mid_w rfl 38 _ rfl w.heap.size 13 rfl _ _ RX.out Tryz.underlying38 rfl (by kernel_rfl) ?_)
  | (go_at_call 117;refine(rsame01_b (W.out.arg.step BE.out)).mono ?_;rintro e w1 ⟨bb,rfl,hb⟩;replace B0:=qD (B0.out.step hb);replace BE:=qD (BE.out.step' hb);clear hb d0 d1 d7 d8 d9 d24 c2 c3 c4 c5 c6 c10 c11 c12 RX;obtain⟨d0,d1,_,_,d7,d8,d9,d24⟩:=pr_cells B0.out;have c2:=(B0.out.cell 2).trans (show _=some (Value.int .i64 p.arg.1.k) from rfl);have c3:=(B0.out.cell 3).trans (show _=some (Value.int .i64 p.arg.1.n) from rfl);have c4:=(B0.out.cell 4).trans (show _=some (Value.string p.arg.1.t) from rfl);have c5:=(B0.out.cell 5).trans (show _=some (Value.slice p.arg.1.LA p.arg.1.ln p.arg.1.lc) from rfl);have c6:=(B0.out.cell 6).trans (show _=some (Value.slice p.arg.1.DA p.arg.1.dn p.arg.1.dc) from rfl);have c10:=(B0.out.cell 10).trans (show _=some (Value.int .i64 p.sk) from rfl);have c11:=(B0.out.cell 11).trans (show _=some (Value.slice p.pts.A p.pts.n p.pts.c) from rfl);have c12:=(B0.out.cell 12).trans (show _=some (Value.int .i64 p.sr) from rfl);have RX:=qD (range_pex B0.out);cases bb)
  | (go_at_call 118;refine(rsame08_any p.ex _ (W.out.ex.step BE.out)).mono ?_;rintro e w1 ⟨bb,rfl,hb⟩;replace B0:=qD (B0.out.step hb);replace BE:=qD (BE.out.step' hb);clear hb d0 d1 d7 d8 d9 d24 c2 c3 c4 c5 c6 c10 c11 c12 RX;obtain⟨d0,d1,_,_,d7,d8,d9,d24⟩:=pr_cells B0.out;have c2:=(B0.out.cell 2).trans (show _=some (Value.int .i64 p.arg.1.k) from rfl);have c3:=(B0.out.cell 3).trans (show _=some (Value.int .i64 p.arg.1.n) from rfl);have c4:=(B0.out.cell 4).trans (show _=some (Value.string p.arg.1.t) from rfl);have c5:=(B0.out.cell 5).trans (show _=some (Value.slice p.arg.1.LA p.arg.1.ln p.arg.1.lc) from rfl);have c6:=(B0.out.cell 6).trans (show _=some (Value.slice p.arg.1.DA p.arg.1.dn p.arg.1.dc) from rfl);have c10:=(B0.out.cell 10).trans (show _=some (Value.int .i64 p.sk) from rfl);have c11:=(B0.out.cell 11).trans (show _=some (Value.slice p.pts.A p.pts.n p.pts.c) from rfl);have c12:=(B0.out.cell 12).trans (show _=some (Value.int .i64 p.sr) from rfl);have RX:=qD (range_pex B0.out);cases bb))
 all_goals (go_ret;exact⟨_,rfl,BE.out⟩)
def RtN(w:World)(e:Ending)(w':World):Prop:=∃n:Int,e=.returned (.int .i64 n)∧Below w.heap.size w w'
theorem rindex_any(x:IxT)(w:World)(hT:Tabs w)(hx:WIx w x):Calls Tryz.prog 17 #[aggIx x] w (RtN w):=by
 have hkz:x.kn≤4398046511104:=by obtain⟨os,h⟩:=hx.ks;have:=h.sz;unfold reach at this;omega
 have hkz':(x.kn:Int)≤4398046511104:=by omega
 have HOR:Hid (∀wr,Below w.heap.size w wr→Calls Tryz.prog 60 #[.slice x.kA x.kn x.kc] wr (RtN wr)):=qD fun wr hb=>(rorder_any x.ks _ _ _ wr (hx.ks.step hb)).mono fun _ _ ⟨e,hb⟩=>⟨_,e,hb⟩
 have HPR:Hid (∀wr,Below w.heap.size w wr→Calls Tryz.prog 7 #[aggPr x.wh] wr (RtN wr)):=qD fun wr hb=>(rpred_any x.wh wr (hx.wh.step hb) (hT.step hb)).mono fun _ _ ⟨n,e,_,hb⟩=>⟨n,e,hb⟩
 have HZR:Hid (∀wr,Below w.heap.size w wr→Calls Tryz.prog 61 #[aggPr x.wh] wr (RtB wr)):=qD fun wr hb=>rzero_any x.wh wr (hx.wh.step hb)
 have HKS:=qD hx.ks
 have B0:Hid (Blk (w.alloc (.cells (arrIx x) 57)) w.heap.size 57 (arrIx x)):=Blk.new_at rfl
 have BE:=qD ((Below.refl w.heap.size w).alloc (qL) (Obj.cells (arrIx x) 57))
 clear hT hx
 go_enter Tryz.func17,Tryz.ntmps17
 go_upto_region 1 with fail
 change Code.wp _ _ _ _ (w.alloc (.cells (arrIx x) 57))
 generalize w.alloc (.cells (arrIx x) 57)=wa at*
 obtain⟨d0,d1,d2,d3,_,d5⟩:=ix_cells B0.out
 have R6:=qD (ix_where B0.out)
 by_cases hk0:x.kn=0
 ·rw[hk0] at HOR d2
  have HK0:=qD hk0
  clear hk0
  have hb0:(((0:Nat):Int)==0)=true:=by decide
  by_cases hk1:x.kind<1
  ·have hn1:(x.kind != 1)=true:=by simp;omega
   go_wp2_with (first
    | ((with_reducible show wpList _ _ _ (⟨_,.load 41 _,_,_,_,_⟩::_) _ _);refine wpList_mid_w rfl 41 _ rfl w.heap.size 6 rfl _ _ R6.out Tryz.underlying41 rfl (by kernel_rfl) ?_)
    | (go_at_call 41;refine(rname_any x.name _).mono ?_;rintro e w1 ⟨rfl,rfl⟩;obtain⟨nb,hnb⟩:∃b,b=nameB x.name:=⟨_,rfl⟩;rw[←hnb];clear hnb;cases nb)
    | (go_at_call 60;refine(HOR.out _ BE.out).mono ?_;rintro e w1 ⟨er,rfl,hb⟩;replace B0:=qD (B0.out.step hb);replace BE:=qD (BE.out.step' hb);clear hb d0 d1 d2 d3 d5 R6;obtain⟨d0,d1,d2,d3,_,d5⟩:=ix_cells B0.out;have R6:=qD (ix_where B0.out);rw[HK0.out] at d2)
    | (go_at_call 7;refine(HPR.out _ BE.out).mono ?_;rintro e w1 ⟨er,rfl,hb⟩;replace B0:=qD (B0.out.step hb);replace BE:=qD (BE.out.step' hb);clear hb d0 d1 d2 d3 d5 R6;obtain⟨d0,d1,d2,d3,_,d5⟩:=ix_cells B0.out;have R6:=qD (ix_where B0.out);rw[HK0.out] at d2)
    | (go_at_call 61;refine(HZR.out _ BE.out).mono ?_;rintro e w1 ⟨bb,rfl,hb⟩;replace B0:=qD (B0.out.step hb);replace BE:=qD (BE.out.step' hb);clear hb d0 d1 d2 d3 d5 R6;obtain⟨d0,d1,d2,d3,_,d5⟩:=ix_cells B0.out;have R6:=qD (ix_where B0.out);rw[HK0.out] at d2;cases bb))
   all_goals (go_ret;exact⟨_,rfl,BE.out⟩)
  by_cases hk3:3<x.kind
  ·have hn1:(x.kind != 1)=true:=by simp;omega
   go_wp2_with (first
    | ((with_reducible show wpList _ _ _ (⟨_,.load 41 _,_,_,_,_⟩::_) _ _);refine wpList_mid_w rfl 41 _ rfl w.heap.size 6 rfl _ _ R6.out Tryz.underlying41 rfl (by kernel_rfl) ?_)
    | (go_at_call 41;refine(rname_any x.name _).mono ?_;rintro e w1 ⟨rfl,rfl⟩;obtain⟨nb,hnb⟩:∃b,b=nameB x.name:=⟨_,rfl⟩;rw[←hnb];clear hnb;cases nb)
    | (go_at_call 60;refine(HOR.out _ BE.out).mono ?_;rintro e w1 ⟨er,rfl,hb⟩;replace B0:=qD (B0.out.step hb);replace BE:=qD (BE.out.step' hb);clear hb d0 d1 d2 d3 d5 R6;obtain⟨d0,d1,d2,d3,_,d5⟩:=ix_cells B0.out;have R6:=qD (ix_where B0.out);rw[HK0.out] at d2)
    | (go_at_call 7;refine(HPR.out _ BE.out).mono ?_;rintro e w1 ⟨er,rfl,hb⟩;replace B0:=qD (B0.out.step hb);replace BE:=qD (BE.out.step' hb);clear hb d0 d1 d2 d3 d5 R6;obtain⟨d0,d1,d2,d3,_,d5⟩:=ix_cells B0.out;have R6:=qD (ix_where B0.out);rw[HK0.out] at d2)
    | (go_at_call 61;refine(HZR.out _ BE.out).mono ?_;rintro e w1 ⟨bb,rfl,hb⟩;replace B0:=qD (B0.out.step hb);replace BE:=qD (BE.out.step' hb);clear hb d0 d1 d2 d3 d5 R6;obtain⟨d0,d1,d2,d3,_,d5⟩:=ix_cells B0.out;have R6:=qD (ix_where B0.out);rw[HK0.out] at d2;cases bb))
   all_goals (go_ret;exact⟨_,rfl,BE.out⟩)
  by_cases hkd:x.kind=1
  ·have hn1:(x.kind != 1)=false:=by simp[hkd]
   go_wp2_with (first
    | ((with_reducible show wpList _ _ _ (⟨_,.load 41 _,_,_,_,_⟩::_) _ _);refine wpList_mid_w rfl 41 _ rfl w.heap.size 6 rfl _ _ R6.out Tryz.underlying41 rfl (by kernel_rfl) ?_)
    | (go_at_call 41;refine(rname_any x.name _).mono ?_;rintro e w1 ⟨rfl,rfl⟩;obtain⟨nb,hnb⟩:∃b,b=nameB x.name:=⟨_,rfl⟩;rw[←hnb];clear hnb;cases nb)
    | (go_at_call 60;refine(HOR.out _ BE.out).mono ?_;rintro e w1 ⟨er,rfl,hb⟩;replace B0:=qD (B0.out.step hb);replace BE:=qD (BE.out.step' hb);clear hb d0 d1 d2 d3 d5 R6;obtain⟨d0,d1,d2,d3,_,d5⟩:=ix_cells B0.out;have R6:=qD (ix_where B0.out);rw[HK0.out] at d2)
    | (go_at_call 7;refine(HPR.out _ BE.out).mono ?_;rintro e w1 ⟨er,rfl,hb⟩;replace B0:=qD (B0.out.step hb);replace BE:=qD (BE.out.step' hb);clear hb d0 d1 d2 d3 d5 R6;obtain⟨d0,d1,d2,d3,_,d5⟩:=ix_cells B0.out;have R6:=qD (ix_where B0.out);rw[HK0.out] at d2)
    | (go_at_call 61;refine(HZR.out _ BE.out).mono ?_;rintro e w1 ⟨bb,rfl,hb⟩;replace B0:=qD (B0.out.step hb);replace BE:=qD (BE.out.step' hb);clear hb d0 d1 d2 d3 d5 R6;obtain⟨d0,d1,d2,d3,_,d5⟩:=ix_cells B0.out;have R6:=qD (ix_where B0.out);rw[HK0.out] at d2;cases bb))
   all_goals (go_ret;exact⟨_,rfl,BE.out⟩)
  ·have hn1:(x.kind != 1)=true:=by simpa using hkd
   go_wp2_with (first
    | ((with_reducible show wpList _ _ _ (⟨_,.load 41 _,_,_,_,_⟩::_) _ _);refine wpList_mid_w rfl 41 _ rfl w.heap.size 6 rfl _ _ R6.out Tryz.underlying41 rfl (by kernel_rfl) ?_)
    | (go_at_call 41;refine(rname_any x.name _).mono ?_;rintro e w1 ⟨rfl,rfl⟩;obtain⟨nb,hnb⟩:∃b,b=nameB x.name:=⟨_,rfl⟩;rw[←hnb];clear hnb;cases nb)
    | (go_at_call 60;refine(HOR.out _ BE.out).mono ?_;rintro e w1 ⟨er,rfl,hb⟩;replace B0:=qD (B0.out.step hb);replace BE:=qD (BE.out.step' hb);clear hb d0 d1 d2 d3 d5 R6;obtain⟨d0,d1,d2,d3,_,d5⟩:=ix_cells B0.out;have R6:=qD (ix_where B0.out);rw[HK0.out] at d2)
    | (go_at_call 7;refine(HPR.out _ BE.out).mono ?_;rintro e w1 ⟨er,rfl,hb⟩;replace B0:=qD (B0.out.step hb);replace BE:=qD (BE.out.step' hb);clear hb d0 d1 d2 d3 d5 R6;obtain⟨d0,d1,d2,d3,_,d5⟩:=ix_cells B0.out;have R6:=qD (ix_where B0.out);rw[HK0.out] at d2)
    | (go_at_call 61;refine(HZR.out _ BE.out).mono ?_;rintro e w1 ⟨bb,rfl,hb⟩;replace B0:=qD (B0.out.step hb);replace BE:=qD (BE.out.step' hb);clear hb d0 d1 d2 d3 d5 R6;obtain⟨d0,d1,d2,d3,_,d5⟩:=ix_cells B0.out;have R6:=qD (ix_where B0.out);rw[HK0.out] at d2;cases bb))
   all_goals (go_ret;exact⟨_,rfl,BE.out⟩)
 ·obtain⟨os,hos⟩:=HKS.out
  obtain⟨kb,off,o,hA,hkb,_,_,e1⟩:=hos.sr.at2 (i:=0) (by omega)
  rw[Nat.zero_mul,Nat.add_zero] at e1
  have HE1:=qD e1
  have HKA:=qD hA
  rw[hA] at HOR d2
  have e2:=(BE.out.cell (p:=⟨kb,off+1,none⟩) hkb).trans e1
  have kpos:(0:Int)<(x.kn:Int):=by omega
  clear hos hA e1
  have hb0:((x.kn:Int)==0)=false:=by simp;omega
  by_cases hk1:x.kind<1
  ·have hn1:(x.kind != 1)=true:=by simp;omega
   go_wp2_with (first
    | ((with_reducible show wpList _ _ _ (⟨_,.load 41 _,_,_,_,_⟩::_) _ _);refine wpList_mid_w rfl 41 _ rfl w.heap.size 6 rfl _ _ R6.out Tryz.underlying41 rfl (by kernel_rfl) ?_)
    | (go_at_call 41;refine(rname_any x.name _).mono ?_;rintro e w1 ⟨rfl,rfl⟩;obtain⟨nb,hnb⟩:∃b,b=nameB x.name:=⟨_,rfl⟩;rw[←hnb];clear hnb;cases nb)
    | (go_at_call 60;refine(HOR.out _ BE.out).mono ?_;rintro e w1 ⟨er,rfl,hb⟩;replace B0:=qD (B0.out.step hb);replace BE:=qD (BE.out.step' hb);clear e2;have e2:=(BE.out.cell (p:=⟨kb,off+1,none⟩) hkb).trans HE1.out;clear hb d0 d1 d2 d3 d5 R6;obtain⟨d0,d1,d2,d3,_,d5⟩:=ix_cells B0.out;have R6:=qD (ix_where B0.out);rw[HKA.out] at d2)
    | (go_at_call 7;refine(HPR.out _ BE.out).mono ?_;rintro e w1 ⟨er,rfl,hb⟩;replace B0:=qD (B0.out.step hb);replace BE:=qD (BE.out.step' hb);clear e2;have e2:=(BE.out.cell (p:=⟨kb,off+1,none⟩) hkb).trans HE1.out;clear hb d0 d1 d2 d3 d5 R6;obtain⟨d0,d1,d2,d3,_,d5⟩:=ix_cells B0.out;have R6:=qD (ix_where B0.out);rw[HKA.out] at d2)
    | (go_at_call 61;refine(HZR.out _ BE.out).mono ?_;rintro e w1 ⟨bb,rfl,hb⟩;replace B0:=qD (B0.out.step hb);replace BE:=qD (BE.out.step' hb);clear e2;have e2:=(BE.out.cell (p:=⟨kb,off+1,none⟩) hkb).trans HE1.out;clear hb d0 d1 d2 d3 d5 R6;obtain⟨d0,d1,d2,d3,_,d5⟩:=ix_cells B0.out;have R6:=qD (ix_where B0.out);rw[HKA.out] at d2;cases bb))
   all_goals (go_ret;exact⟨_,rfl,BE.out⟩)
  by_cases hk3:3<x.kind
  ·have hn1:(x.kind != 1)=true:=by simp;omega
   go_wp2_with (first
    | ((with_reducible show wpList _ _ _ (⟨_,.load 41 _,_,_,_,_⟩::_) _ _);refine wpList_mid_w rfl 41 _ rfl w.heap.size 6 rfl _ _ R6.out Tryz.underlying41 rfl (by kernel_rfl) ?_)
    | (go_at_call 41;refine(rname_any x.name _).mono ?_;rintro e w1 ⟨rfl,rfl⟩;obtain⟨nb,hnb⟩:∃b,b=nameB x.name:=⟨_,rfl⟩;rw[←hnb];clear hnb;cases nb)
    | (go_at_call 60;refine(HOR.out _ BE.out).mono ?_;rintro e w1 ⟨er,rfl,hb⟩;replace B0:=qD (B0.out.step hb);replace BE:=qD (BE.out.step' hb);clear e2;have e2:=(BE.out.cell (p:=⟨kb,off+1,none⟩) hkb).trans HE1.out;clear hb d0 d1 d2 d3 d5 R6;obtain⟨d0,d1,d2,d3,_,d5⟩:=ix_cells B0.out;have R6:=qD (ix_where B0.out);rw[HKA.out] at d2)
    | (go_at_call 7;refine(HPR.out _ BE.out).mono ?_;rintro e w1 ⟨er,rfl,hb⟩;replace B0:=qD (B0.out.step hb);replace BE:=qD (BE.out.step' hb);clear e2;have e2:=(BE.out.cell (p:=⟨kb,off+1,none⟩) hkb).trans HE1.out;clear hb d0 d1 d2 d3 d5 R6;obtain⟨d0,d1,d2,d3,_,d5⟩:=ix_cells B0.out;have R6:=qD (ix_where B0.out);rw[HKA.out] at d2)
    | (go_at_call 61;refine(HZR.out _ BE.out).mono ?_;rintro e w1 ⟨bb,rfl,hb⟩;replace B0:=qD (B0.out.step hb);replace BE:=qD (BE.out.step' hb);clear e2;have e2:=(BE.out.cell (p:=⟨kb,off+1,none⟩) hkb).trans HE1.out;clear hb d0 d1 d2 d3 d5 R6;obtain⟨d0,d1,d2,d3,_,d5⟩:=ix_cells B0.out;have R6:=qD (ix_where B0.out);rw[HKA.out] at d2;cases bb))
   all_goals (go_ret;exact⟨_,rfl,BE.out⟩)
  by_cases hkd:x.kind=1
  ·have hn1:(x.kind != 1)=false:=by simp[hkd]
   go_wp2_with (first
    | ((with_reducible show wpList _ _ _ (⟨_,.load 41 _,_,_,_,_⟩::_) _ _);refine wpList_mid_w rfl 41 _ rfl w.heap.size 6 rfl _ _ R6.out Tryz.underlying41 rfl (by kernel_rfl) ?_)
    | (go_at_call 41;refine(rname_any x.name _).mono ?_;rintro e w1 ⟨rfl,rfl⟩;obtain⟨nb,hnb⟩:∃b,b=nameB x.name:=⟨_,rfl⟩;rw[←hnb];clear hnb;cases nb)
    | (go_at_call 60;refine(HOR.out _ BE.out).mono ?_;rintro e w1 ⟨er,rfl,hb⟩;replace B0:=qD (B0.out.step hb);replace BE:=qD (BE.out.step' hb);clear e2;have e2:=(BE.out.cell (p:=⟨kb,off+1,none⟩) hkb).trans HE1.out;clear hb d0 d1 d2 d3 d5 R6;obtain⟨d0,d1,d2,d3,_,d5⟩:=ix_cells B0.out;have R6:=qD (ix_where B0.out);rw[HKA.out] at d2)
    | (go_at_call 7;refine(HPR.out _ BE.out).mono ?_;rintro e w1 ⟨er,rfl,hb⟩;replace B0:=qD (B0.out.step hb);replace BE:=qD (BE.out.step' hb);clear e2;have e2:=(BE.out.cell (p:=⟨kb,off+1,none⟩) hkb).trans HE1.out;clear hb d0 d1 d2 d3 d5 R6;obtain⟨d0,d1,d2,d3,_,d5⟩:=ix_cells B0.out;have R6:=qD (ix_where B0.out);rw[HKA.out] at d2)
    | (go_at_call 61;refine(HZR.out _ BE.out).mono ?_;rintro e w1 ⟨bb,rfl,hb⟩;replace B0:=qD (B0.out.step hb);replace BE:=qD (BE.out.step' hb);clear e2;have e2:=(BE.out.cell (p:=⟨kb,off+1,none⟩) hkb).trans HE1.out;clear hb d0 d1 d2 d3 d5 R6;obtain⟨d0,d1,d2,d3,_,d5⟩:=ix_cells B0.out;have R6:=qD (ix_where B0.out);rw[HKA.out] at d2;cases bb))
   all_goals (go_ret;exact⟨_,rfl,BE.out⟩)
  ·have hn1:(x.kind != 1)=true:=by simpa using hkd
   go_wp2_with (first
    | ((with_reducible show wpList _ _ _ (⟨_,.load 41 _,_,_,_,_⟩::_) _ _);refine wpList_mid_w rfl 41 _ rfl w.heap.size 6 rfl _ _ R6.out Tryz.underlying41 rfl (by kernel_rfl) ?_)
    | (go_at_call 41;refine(rname_any x.name _).mono ?_;rintro e w1 ⟨rfl,rfl⟩;obtain⟨nb,hnb⟩:∃b,b=nameB x.name:=⟨_,rfl⟩;rw[←hnb];clear hnb;cases nb)
    | (go_at_call 60;refine(HOR.out _ BE.out).mono ?_;rintro e w1 ⟨er,rfl,hb⟩;replace B0:=qD (B0.out.step hb);replace BE:=qD (BE.out.step' hb);clear e2;have e2:=(BE.out.cell (p:=⟨kb,off+1,none⟩) hkb).trans HE1.out;clear hb d0 d1 d2 d3 d5 R6;obtain⟨d0,d1,d2,d3,_,d5⟩:=ix_cells B0.out;have R6:=qD (ix_where B0.out);rw[HKA.out] at d2)
    | (go_at_call 7;refine(HPR.out _ BE.out).mono ?_;rintro e w1 ⟨er,rfl,hb⟩;replace B0:=qD (B0.out.step hb);replace BE:=qD (BE.out.step' hb);clear e2;have e2:=(BE.out.cell (p:=⟨kb,off+1,none⟩) hkb).trans HE1.out;clear hb d0 d1 d2 d3 d5 R6;obtain⟨d0,d1,d2,d3,_,d5⟩:=ix_cells B0.out;have R6:=qD (ix_where B0.out);rw[HKA.out] at d2)
    | (go_at_call 61;refine(HZR.out _ BE.out).mono ?_;rintro e w1 ⟨bb,rfl,hb⟩;replace B0:=qD (B0.out.step hb);replace BE:=qD (BE.out.step' hb);clear e2;have e2:=(BE.out.cell (p:=⟨kb,off+1,none⟩) hkb).trans HE1.out;clear hb d0 d1 d2 d3 d5 R6;obtain⟨d0,d1,d2,d3,_,d5⟩:=ix_cells B0.out;have R6:=qD (ix_where B0.out);rw[HKA.out] at d2;cases bb))
   all_goals (go_ret;exact⟨_,rfl,BE.out⟩)
end Go.Proofs.YtfkdihlbaghajaaGreatDoor
