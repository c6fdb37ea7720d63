/- Parts of the proof, joined: IvRefA, PrLeaf. -/
import Derived.Test.YtfkdihlbaghajaaGreatDoorOf1
import Derived.Test.YtfkdihlbaghajaaGreatDoorOf11
import Derived.Test.YtfkdihlbaghajaaGreatDoorOf14
import Derived.Test.YtfkdihlbaghajaaGreatDoorOf15
import Derived.Test.YtfkdihlbaghajaaGreatDoorOf2
import Derived.Laws.OwnMore
set_option maxRecDepth 100000
set_option maxHeartbeats 16000000
set_option linter.unusedSimpArgs false
namespace Go.Proofs.YtfkdihlbaghajaaGreatDoor
open Go.RowKit
theorem ne_valid{p:PI}(h1:validV p.1.1.2=true)(h2:validV p.1.2.2=true):(ivP p).ne=decide (cmC (p.1.1.2,!p.2.1) (p.1.2.2,p.2.2)<0):=by
 show(validV p.1.1.2&&validV p.1.2.2&&decide (cmC (p.1.1.2,!p.2.1) (p.1.2.2,p.2.2)<0))=_
 rw[h1,h2];rfl
theorem cmC_pos{a b:Cut}(h:0<cmpV a.1 b.1):¬cmC a b<0:=by rw[cmC_ne (by omega)];omega
theorem cmC_neg{a b:Cut}(h:cmpV a.1 b.1<0):cmC a b<0:=by rw[cmC_ne (by omega)];exact h
theorem rempty_any(p:PI)(w:World)(h:okI w p):Calls Tryz.prog 120 #[aggI p] w fun e w'=>e=.returned (.bool (!(ivP p).ne))∧Below w.heap.size w w':=by
 have H:=qD h
 have A0:=qD ((Below.refl w.heap.size w).alloc (qL) (Obj.cells (arrI p) 93))
 have B0:Hid (Blk (w.alloc (.cells (arrI p) 93)) w.heap.size 93 (arrI p)):=Blk.new_at rfl
 clear h
 go_enter Tryz.func120,Tryz.ntmps120
 go_wp2_with fail
 refine(rvalid_any p.1.1.2 p.1.1.1 _ (H.out.step A0.out).1).mono ?_
 rintro e w1 ⟨rfl,hb1⟩
 have A1:=qD (A0.out.step' hb1)
 have B1:=qD (B0.out.step hb1)
 clear hb1 A0 B0
 cases h1:validV p.1.1.2
 ·have HR:=qD (ne_false1 h1)
  clear h1
  go_wp2_with fail
  go_ret
  exact⟨by rw[HR.out];rfl,A1.out⟩
 have V1:=qD h1
 clear h1
 obtain⟨_,⟨q0,q1,q2,q3,q4⟩,_,_⟩:=IAt.of_blk B1.out
 go_wp2_with fail
 refine(rvalid_any p.1.2.2 p.1.2.1 _ (H.out.step A1.out).2).mono ?_
 rintro e w2 ⟨rfl,hb2⟩
 have A2:=qD (A1.out.step' hb2)
 have B2:=qD (B1.out.step hb2)
 clear hb2 A1 B1 q0 q1 q2 q3 q4
 cases h2:validV p.1.2.2
 ·have HR:=qD (ne_false2 h2)
  clear h2
  go_wp2_with fail
  go_ret
  exact⟨by rw[HR.out];rfl,A2.out⟩
 have HR:=qD (ne_valid V1.out h2)
 clear h2
 obtain⟨⟨p0,p1,p2,p3,p4⟩,⟨q0,q1,q2,q3,q4⟩,_,_⟩:=IAt.of_blk B2.out
 go_wp2_with fail
 refine(rcmp_any p.1.1.2 p.1.2.2 p.1.1.1 p.1.2.1 _ (H.out.step A2.out).1 (H.out.step A2.out).2).mono ?_
 rintro e w3 ⟨rfl,hb3⟩
 have A3:=qD (A2.out.step' hb3)
 have B3:=qD (B2.out.step hb3)
 clear hb3 A2 B2 p0 p1 p2 p3 p4 q0 q1 q2 q3 q4
 rcases Int.lt_trichotomy (cmpV p.1.1.2 p.1.2.2) 0 with hc|hc|hc
 ·have HD:=qD (decide_eq_true (cmC_neg (a:=(p.1.1.2,!p.2.1)) (b:=(p.1.2.2,p.2.2)) hc))
  have g1:decide (0<cmpV p.1.1.2 p.1.2.2)=false:=decide_eq_false (by omega)
  have g2:(cmpV p.1.1.2 p.1.2.2==0)=false:=by simp;omega
  clear hc
  go_wp2_with fail
  go_ret
  exact⟨by rw[HR.out,HD.out];rfl,A3.out⟩
 ·have HD:=qD (cmC_zero (a:=(p.1.1.2,!p.2.1)) (b:=(p.1.2.2,p.2.2)) hc)
  rw[hc]
  clear hc
  obtain⟨_,_,r0,r1⟩:=IAt.of_blk B3.out
  cases e1:p.2.1<;>cases e2:p.2.2
  all_goals
   rw[e1] at r0
   rw[e2] at r1
   rw[e1,e2] at HD HR
   clear e1 e2
   go_wp2_with fail
   go_ret
   exact⟨by rw[HR.out,HD.out];rfl,A3.out⟩
 ·have HD:=qD (decide_eq_false (cmC_pos (a:=(p.1.1.2,!p.2.1)) (b:=(p.1.2.2,p.2.2)) hc))
  go_wp2_with fail
  go_ret
  exact⟨by rw[HR.out,HD.out];rfl,A3.out⟩
theorem rbefore_any(p q:PI)(w:World)(hp:okI w p)(hq:okI w q):Calls Tryz.prog 178 #[aggI p,aggI q] w fun e w'=>e=.returned (.int .i64 (cmC (p.1.1.2,!p.2.1) (q.1.1.2,!q.2.1)))∧Below w.heap.size w w':=by
 have HP:=qD hp
 have HQ:=qD hq
 have Z2:=qD (((Below.refl w.heap.size w).alloc (qL) (Obj.cells (arrI p) 93)).alloc (by simp) (Obj.cells (arrI q) 93))
 have B0:Hid (Blk ((w.alloc (.cells (arrI p) 93)).alloc (.cells (arrI q) 93)) w.heap.size 93 (arrI p)):=(Blk.new_at rfl).alloc _
 have B1:Hid (Blk ((w.alloc (.cells (arrI p) 93)).alloc (.cells (arrI q) 93)) (w.heap.size+1) 93 (arrI q)):=Blk.new_at (by simp)
 clear hp hq
 go_enter Tryz.func178,Tryz.ntmps178
 go_wp2_with fail
 refine(rcmp_any p.1.1.2 q.1.1.2 p.1.1.1 q.1.1.1 _ (HP.out.step Z2.out).1 (HQ.out.step Z2.out).1).mono ?_
 rintro e w1 ⟨rfl,hb1⟩
 have Z1:=qD (Z2.out.step' hb1)
 obtain⟨_,_,p10,p11⟩:=IAt.of_blk (B0.out.step hb1)
 obtain⟨_,_,q10,q11⟩:=IAt.of_blk (B1.out.step hb1)
 clear hb1
 by_cases h0:cmpV p.1.1.2 q.1.1.2=0
 ·have HC:=qD (cmC_zero (a:=(p.1.1.2,!p.2.1)) (b:=(q.1.1.2,!q.2.1)) h0)
  rw[h0]
  clear h0
  cases h1:p.2.1<;>cases h2:q.2.1
  all_goals
   rw[h1] at p10
   rw[h2] at q10
   have E1:=qD h1
   have E2:=qD h2
   clear h1 h2
   go_wp2_with fail
   go_ret
   exact⟨by rw[HC.out];show _=Ending.returned (.int .i64 (cmB (!p.2.1) (!q.2.1)));rw[E1.out,E2.out];rfl,Z1.out⟩
 ·have HC:=qD (cmC_ne (a:=(p.1.1.2,!p.2.1)) (b:=(q.1.1.2,!q.2.1)) h0)
  have h1:(cmpV p.1.1.2 q.1.1.2==0)=false:=by simpa using h0
  clear h0
  go_wp2_with fail
  go_ret
  exact⟨by rw[HC.out];rfl,Z1.out⟩
theorem rbeyond_any(p q:PI)(w:World)(hp:okI w p)(hq:okI w q):Calls Tryz.prog 179 #[aggI p,aggI q] w fun e w'=>e=.returned (.int .i64 (cmC (p.1.2.2,p.2.2) (q.1.2.2,q.2.2)))∧Below w.heap.size w w':=by
 have HP:=qD hp
 have HQ:=qD hq
 have Z2:=qD (((Below.refl w.heap.size w).alloc (qL) (Obj.cells (arrI p) 93)).alloc (by simp) (Obj.cells (arrI q) 93))
 have B0:Hid (Blk ((w.alloc (.cells (arrI p) 93)).alloc (.cells (arrI q) 93)) w.heap.size 93 (arrI p)):=(Blk.new_at rfl).alloc _
 have B1:Hid (Blk ((w.alloc (.cells (arrI p) 93)).alloc (.cells (arrI q) 93)) (w.heap.size+1) 93 (arrI q)):=Blk.new_at (by simp)
 clear hp hq
 go_enter Tryz.func179,Tryz.ntmps179
 go_wp2_with fail
 refine(rcmp_any p.1.2.2 q.1.2.2 p.1.2.1 q.1.2.1 _ (HP.out.step Z2.out).2 (HQ.out.step Z2.out).2).mono ?_
 rintro e w1 ⟨rfl,hb1⟩
 have Z1:=qD (Z2.out.step' hb1)
 obtain⟨_,_,p10,p11⟩:=IAt.of_blk (B0.out.step hb1)
 obtain⟨_,_,q10,q11⟩:=IAt.of_blk (B1.out.step hb1)
 clear hb1
 by_cases h0:cmpV p.1.2.2 q.1.2.2=0
 ·have HC:=qD (cmC_zero (a:=(p.1.2.2,p.2.2)) (b:=(q.1.2.2,q.2.2)) h0)
  rw[h0]
  clear h0
  cases h1:p.2.2<;>cases h2:q.2.2
  all_goals
   rw[h1] at p11
   rw[h2] at q11
   have E1:=qD h1
   have E2:=qD h2
   clear h1 h2
   go_wp2_with fail
   go_ret
   exact⟨by rw[HC.out];show _=Ending.returned (.int .i64 (cmB p.2.2 q.2.2));rw[E1.out,E2.out];rfl,Z1.out⟩
 ·have HC:=qD (cmC_ne (a:=(p.1.2.2,p.2.2)) (b:=(q.1.2.2,q.2.2)) h0)
  have h1:(cmpV p.1.2.2 q.1.2.2==0)=false:=by simpa using h0
  clear h0
  go_wp2_with fail
  go_ret
  exact⟨by rw[HC.out];rfl,Z1.out⟩
def lowI(p:PI):Cut:=(p.1.1.2,!p.2.1)
def uppI(p:PI):Cut:=(p.1.2.2,p.2.2)
def OrdI(S:List PI):Prop:=S.Pairwise fun p q=>cmC (lowI p) (lowI q)≤0
theorem ord_insert{S:List PI}{p:PI}{k:Nat}(h:OrdI S)(hlo:∀(q:Nat) s,S[q]?=some s→q<k→cmC (lowI s) (lowI p)≤0)(hhi:∀s,S[k]?=some s→¬cmC (lowI s) (lowI p)≤0):OrdI (S.take k++p::S.drop k):=by
 have h0:(S.take k++S.drop k).Pairwise fun p q=>cmC (lowI p) (lowI q)≤0:=by rw[List.take_append_drop];exact h
 have hp:=List.pairwise_append.1 h0
 have hlow:∀s∈S.take k,cmC (lowI s) (lowI p)≤0:=fun s hs=>by
  obtain⟨q,hq⟩:=List.getElem?_of_mem hs
  have hlt:=(List.getElem?_eq_some_iff.1 hq).1
  rw[List.length_take] at hlt
  rw[List.getElem?_take_of_lt (by omega)] at hq
  exact hlo q s hq (by omega)
 refine List.pairwise_append.2 ⟨hp.1,List.pairwise_cons.2 ⟨fun s hs=>?_,hp.2.1⟩,fun s hs z hz=>?_⟩
 ·rcases hd:S.drop k with _|⟨x,r⟩
  ·rw[hd] at hs;simp at hs
  ·have hx:S[k]?=some x:=by have:=congrArg List.head? hd;rw[List.head?_drop] at this;exact this
   have h1:=hhi x hx
   have h2:=lin_cut.anti (lowI x) (lowI p)
   rw[hd] at hs
   rcases List.mem_cons.1 hs with rfl|hs
   ·omega
   ·have h3:=hp.2.1
    rw[hd] at h3
    have h4:=List.rel_of_pairwise_cons h3 hs
    have:=lin_cut.tr (lowI p) (lowI x) (lowI s) (by omega) h4
    omega
 ·rcases List.mem_cons.1 hz with rfl|hz
  ·exact hlow s hs
  ·exact hp.2.2 s hs z hz
theorem perm_insert{α:Type}(S:List α)(p:α)(k:Nat):(S.take k++p::S.drop k).Perm (S++[p]):=by
 refine List.perm_middle.trans ?_
 rw[List.take_append_drop]
 exact(List.perm_append_singleton p S).symm
theorem own_less{w:World}{base base':Nat}{e:TypeId}{size n:Nat}{v:Value}{xs:List Value}(h:w.ownsRow base e size v n xs)(hb:base'≤base):w.ownsRow base' e size v n xs:=by
 refine⟨h.1,?_⟩
 rcases h.2 with h2|⟨g,cap,cur,hv,hg,hr⟩
 ·exact .inl h2
 ·exact .inr ⟨g,cap,cur,hv,by omega,hr⟩
structure RnV(w:World)(is:List PI)(i:Nat)(S:List PI)(v:Value)(wr:World):Prop where
 own:wr.ownsRow w.heap.size 93 12 v S.length (flat recI S)
 perm:S.Perm ((is.take i).filter fun p=>(ivP p).ne)
 ord:OrdI S
 le:S.length≤i
 ok:∀x∈S,okI w x
 bel:Below w.heap.size w wr
 z:S.length=0→v=.slice none 0 0
section
variable {w:World} {is:List PI} {i:Nat} {S:List PI} {v:Value} {wr w':World}
theorem RnV.step(h:RnV w is i S v wr)(hb:Below wr.heap.size wr w'):RnV w is i S v w':=⟨own_step h.own hb,h.perm,h.ord,h.le,h.ok,h.bel.step' hb,h.z⟩
theorem filter_snoc{α:Type}(f:α→Bool)(l:List α)(p:α):(l++[p]).filter f=if f p then l.filter f++[p] else l.filter f:=by
 rw[List.filter_append]
 cases h:f p<;>simp[h]
theorem RnV.skip{p:PI}(h:RnV w is i S v wr)(hp:is[i]?=some p)(hn:(ivP p).ne=false):RnV w is (i+1) S v wr:=
 ⟨h.own,by rw[take_snoc' hp,filter_snoc,hn];exact h.perm,h.ord,by have:=h.le;omega,h.ok,h.bel,h.z⟩
theorem RnV.at{m cb:Nat}{B:Option Addr}(h:RnV w is i S (.slice B m cb) wr){k:Nat}{s:PI}(hs:S[k]?=some s):∃g,B=some ⟨g,0,none⟩∧g<wr.heap.size∧IAt wr g (k*12) s:=by
 have hk:=(List.getElem?_eq_some_iff.1 hs).1
 rcases h.own.2 with⟨h1,h2⟩|⟨g,cap,cur,hv,_,hh,hnc,_⟩
 ·omega
 ·cases hv
  refine⟨g,rfl,own_lt h.own rfl,iat_of fun j v hj=>?_⟩
  have:=h.own.cells (g:=g) rfl (k*12+j) v (flat_get recI_length hs hj)
  rw[addr_add,Nat.zero_add] at this
  exact this
end
structure NxI(wx:World)(v:Value)(n:Nat)(xs:List PI)(wr:World):Prop where
 own:wr.ownsRow wx.heap.size 93 12 v n (flat recI xs)
 bel:Below wx.heap.size wx wr
theorem NxI.next{wx:World}{v v':Value}{n m n':Nat}{xs ys:List PI}{wr w':World}{news:List Value}(h:NxI wx v n xs wr)(hn:news=flat recI ys)(hn':n'=m)(ho:w'.ownsRow wx.heap.size 93 12 v' m (flat recI xs++news))(hg:wr.grownBy w' v.ownBlock):NxI wx v' n' (xs++ys) w':=
 ⟨by rw[flat_append,←hn,hn'];exact ho,h.bel.grown hg h.bel.size (fun q hq=>own_ge h.own q hq)⟩
theorem NxI.alloc{wx:World}{v:Value}{n:Nat}{xs:List PI}{wr:World}(h:NxI wx v n xs wr)(o:Obj):NxI wx v n xs (wr.alloc o):=⟨h.own.alloc _,h.bel.alloc h.bel.size o⟩
theorem NxI.done{w wx:World}{is:List PI}{v0 v:Value}{i m k:Nat}{S:List PI}{p:PI}{xs:List PI}{wr:World}(h:NxI wx v m xs wr)(I:RnV w is i S v0 wx)(hm:m=S.length+1)(hx:xs=S.take k++p::S.drop k)(hp:is[i]?=some p)(hn:(ivP p).ne=true)(hok:okI w p)(ho:OrdI (S.take k++p::S.drop k)):RnV w is (i+1) xs v wr:=by
 subst hx
 have hl:(S.take k++p::S.drop k).length=S.length+1:=by rw[(perm_insert S p k).length_eq];simp
 refine⟨by rw[hl,←hm];exact own_less h.own I.bel.size,?_,ho,by rw[hl];have:=I.le;omega,fun x hx=>?_,I.bel.step' h.bel,fun h=>by omega⟩
 ·refine(perm_insert S p k).trans ?_
  rw[take_snoc' hp,filter_snoc,hn]
  exact I.perm.append_right [p]
 ·rcases List.mem_append.1 ((perm_insert S p k).subset hx) with hx|hx
  ·exact I.ok x hx
  ·simp at hx;subst hx;exact hok
structure RmI(w w2:World)(S:List PI)(i:Nat)(v:Value)(cs:List PI)(wr:World):Prop where
 own:wr.ownsRow w2.heap.size 93 12 v cs.length (flat recI cs)
 eq:cs.map (fun p=>(ivP p).sp)=mergeS cmC ((S.take i).map fun p=>(ivP p).sp)
 le:cs.length≤i
 ok:∀x∈cs,okI w x
 bel:Below w2.heap.size w2 wr
theorem RmI.step{w w2:World}{S:List PI}{i:Nat}{v:Value}{cs:List PI}{wr w':World}(h:RmI w w2 S i v cs wr)(hb:Below wr.heap.size wr w'):RmI w w2 S i v cs w':=⟨own_step h.own hb,h.eq,h.le,h.ok,h.bel.step' hb⟩
theorem RmI.add{w w2:World}{S:List PI}{i m:Nat}{v v':Value}{cs:List PI}{wr w':World}{p:PI}(h:RmI w w2 S i v cs wr)(hp:S[i]?=some p)(hs:stepS cmC (cs.map fun p=>(ivP p).sp) (ivP p).sp=(cs.map fun p=>(ivP p).sp)++[(ivP p).sp])(hok:okI w p)(hg:wr.grownBy w' v.ownBlock)(hm:m=cs.length+1)(ho:w'.ownsRow w2.heap.size 93 12 v' m (flat recI cs++recI p)):RmI w w2 S (i+1) v' (cs++[p]) w':=by
 subst hm
 refine⟨?_,?_,by have:=h.le;simp;omega,fun x hx=>?_,h.bel.grown hg h.bel.size (own_ge h.own)⟩
 ·rw[flat_snoc,List.length_append];exact ho
 ·rw[take_snoc' hp,List.map_append (l₁:=S.take i),List.map_singleton,mergeS_snoc,←h.eq,hs,List.map_append]
  rfl
 ·rcases List.mem_append.1 hx with hx|hx
  ·exact h.ok x hx
  ·simp at hx;subst hx;exact hok
theorem join_iff(p l:PI):(cmpV p.1.1.2 l.1.2.2<0∨(cmpV p.1.1.2 l.1.2.2=0∧(p.2.1=true∨l.2.2=true)))↔¬cmC (uppI l) (lowI p)<0:=by
 have ha:=cmpV_anti p.1.1.2 l.1.2.2
 by_cases h0:cmpV l.1.2.2 p.1.1.2=0
 ·rw[cmC_zero (a:=uppI l) (b:=lowI p) h0]
  show _↔¬cmB l.2.2 (!p.2.1)<0
  have h1:cmpV p.1.1.2 l.1.2.2=0:=by omega
  rw[h1]
  cases p.2.1<;>cases l.2.2<;>simp[cmB]
 ·rw[cmC_ne (a:=uppI l) (b:=lowI p) h0]
  show _↔¬cmpV l.1.2.2 p.1.1.2<0
  constructor
  ·rintro(h|⟨h,_⟩)<;>omega
  ·intro h;exact .inl (by omega)
structure RmJ(w w2:World)(S:List PI)(i:Nat)(v:Value)(cs:List PI)(ga gb:Nat)(p l:PI)(wr:World):Prop where
 i:RmI w w2 S i v cs wr
 b9:Blk wr ga 93 (arrI p)
 b10:Blk wr gb 93 (arrI l)
 hga:w2.heap.size≤ga
 hgb:w2.heap.size≤gb
 hne:ga≠gb
 na:v.ownBlock≠some ga
 nb:v.ownBlock≠some gb
theorem RmJ.step{w w2:World}{S:List PI}{i:Nat}{v:Value}{cs:List PI}{ga gb:Nat}{p l:PI}{wr w':World}(h:RmJ w w2 S i v cs ga gb p l wr)(hb:Below wr.heap.size wr w'):RmJ w w2 S i v cs ga gb p l w':=
 ⟨h.i.step hb,h.b9.step hb,h.b10.step hb,h.hga,h.hgb,h.hne,h.na,h.nb⟩
theorem RmJ.up{w w2:World}{S:List PI}{i:Nat}{v:Value}{cs:List PI}{ga gb:Nat}{p l:PI}{wr:World}(h:RmJ w w2 S i v cs ga gb p l wr):
 RmJ w w2 S i v cs ga gb p ((l.1.1,p.1.2),(l.2.1,p.2.2)) ((setV wr gb 5 p.1.2.1).setCell ⟨gb,11,none⟩ (.bool p.2.2)):=by
 have hk:∀b,b≠gb→((setV wr gb 5 p.1.2.1).setCell ⟨gb,11,none⟩ (.bool p.2.2)).heap[b]?=wr.heap[b]?:=fun b hb=>by
  unfold setV
  rw[Below.heap_setCell _ _ _ b hb,Below.heap_setCell _ _ _ b hb,Below.heap_setCell _ _ _ b hb,Below.heap_setCell _ _ _ b hb,Below.heap_setCell _ _ _ b hb,Below.heap_setCell _ _ _ b hb]
 refine⟨⟨own_keep h.i.own fun g hg=>hk g (fun e=>h.nb (by rw[hg,e])),h.i.eq,h.i.le,h.i.ok,(below_setV h.i.bel h.hgb 5 _).setCell h.hgb _⟩,?_,?_,h.hga,h.hgb,h.hne,h.na,h.nb⟩
 ·exact(h.b9.farV h.hne 5 _).far h.hne _
 ·exact(((((h.b10.set_ 5 _).set_ 6 _).set_ 7 _).set_ 8 _).set_ 9 _).set_ 11 _
theorem RmJ.row{w w2:World}{S:List PI}{i g n c:Nat}{d:List PI}{ga gb:Nat}{p l q:PI}{wr:World}(h:RmJ w w2 S i (.slice (some ⟨g,0,none⟩) n c) (d++[l]) ga gb p q wr)(hn:n=d.length+1):IAt wr g ((n-1)*12) l∧∀k,wr.frozen? ⟨g,k,none⟩=false:=by
 have ho:=h.i.own
 rw[show(d++[l]).length=n by simp[hn]] at ho
 refine⟨iat_of fun q v hq=>?_,fun k=>?_⟩
 ·have hlt:=(List.getElem?_eq_some_iff.1 hq).1
  rw[recI_length] at hlt
  rw[ho.cellAt _ (by omega)]
  exact flat_get recI_length (xs:=d++[l]) (a:=l) (by rw[show n-1=d.length by omega];simp) hq
 ·rcases ho.2 with⟨h1,h2⟩|⟨g',cap,cur,hv,_,hh,_⟩
  ·omega
  ·cases hv
   exact Blk.frozen (t:=93) (cs:=cur) hh k
theorem no_join{p l:PI}(h:cmC (uppI l) (lowI p)<0):0<cmpV p.1.1.2 l.1.2.2∨(cmpV p.1.1.2 l.1.2.2=0∧p.2.1=false∧l.2.2=false):=by
 have hn:¬(cmpV p.1.1.2 l.1.2.2<0∨(cmpV p.1.1.2 l.1.2.2=0∧(p.2.1=true∨l.2.2=true))):=fun k=>(join_iff p l).1 k h
 rcases Int.lt_trichotomy (cmpV p.1.1.2 l.1.2.2) 0 with hc|hc|hc
 ·exact absurd (.inl hc) hn
 ·refine .inr ⟨hc,?_⟩
  cases h1:p.2.1<;>cases h2:l.2.2
  ·exact⟨rfl,rfl⟩
  ·exact absurd (.inr ⟨hc,.inr h2⟩) hn
  ·exact absurd (.inr ⟨hc,.inl h1⟩) hn
  ·exact absurd (.inr ⟨hc,.inl h1⟩) hn
 ·exact .inl hc
theorem yes_join{p l:PI}(h:¬cmC (uppI l) (lowI p)<0):cmpV p.1.1.2 l.1.2.2<0∨(cmpV p.1.1.2 l.1.2.2=0∧p.2.1=true)∨(cmpV p.1.1.2 l.1.2.2=0∧p.2.1=false∧l.2.2=true):=by
 rcases(join_iff p l).2 h with k|⟨k,k2⟩
 ·exact .inl k
 ·cases h1:p.2.1
  ·rw[h1] at k2
   exact .inr (.inr ⟨k,rfl,by simpa using k2⟩)
  ·exact .inr (.inl ⟨k,rfl⟩)
theorem own_setCells{base g n cap size:Nat}{t:TypeId}:∀(vs:List Value) {w:World} {xs:List Value} (o:Nat),w.ownsRow base t size (.slice (some ⟨g,0,none⟩) n cap) n xs→(w.setCells g o vs).ownsRow base t size (.slice (some ⟨g,0,none⟩) n cap) n (setList xs o vs)
 | [],_,_,_,h=>h
 | v::r,_,_,o,h=>own_setCells r (o+1) (h.stored o v).1
theorem below_setCells'{B:Nat}{a:World}{g:Nat}(vs:List Value):∀{w:World},Below B a w→B≤g→∀o,Below B a (w.setCells g o vs):=by
 induction vs with
 | nil=>intro w h _ o;exact h
 | cons v r ih=>intro w h hg o;exact ih (h.setCell hg v) hg (o+1)
theorem flat_last(d:List PI)(l q:PI):setList (flat recI (d++[l])) (d.length*12) (recI q)=flat recI (d++[q]):=by
 have e1:flat recI (d++[l])=flat recI d++recI l:=by rw[flat_snoc]
 have hl:(flat recI d).length=d.length*12:=flat_length recI_length d
 rw[setList_eq _ _ _ (by rw[e1,List.length_append,hl,recI_length,recI_length];omega),e1,←hl,List.take_left,recI_length,List.drop_of_length_le (by rw[List.length_append,recI_length];omega),List.append_nil,flat_snoc]
theorem RmI.put{w w2:World}{S:List PI}{i g n cap:Nat}{d:List PI}{l p q:PI}{wr:World}(h:RmI w w2 S i (.slice (some ⟨g,0,none⟩) n cap) (d++[l]) wr)(hp:S[i]?=some p)(hs:stepS cmC ((d++[l]).map fun p=>(ivP p).sp) (ivP p).sp=(d++[q]).map fun p=>(ivP p).sp)(hok:okI w q)(hn:n=d.length+1):RmI w w2 S (i+1) (.slice (some ⟨g,0,none⟩) n cap) (d++[q]) (wr.setCells g (d.length*12) (recI q)):=by
 have ho:=h.own
 have hl:(d++[l]).length=n:=by rw[hn];simp
 rw[hl] at ho
 refine⟨?_,?_,by have:=h.le;simp at this ⊢;omega,fun x hx=>?_,below_setCells' _ h.bel (own_ge h.own g rfl) _⟩
 ·rw[←flat_last d l q,show(d++[q]).length=n by rw[hn];simp]
  exact own_setCells _ _ ho
 ·rw[take_snoc' hp,List.map_append (l₁:=S.take i),List.map_singleton,mergeS_snoc,←h.eq,hs]
 ·rcases List.mem_append.1 hx with hx|hx
  ·exact h.ok x (by simp[hx])
  ·simp at hx;subst hx;exact hok
theorem flatI_one(xs:List PI):∀u∈flat recI xs,u.oneCell'=true:=by
 intro u hu
 obtain⟨p,_,h⟩:=List.mem_flatMap.1 hu
 exact recI_one p u h
theorem rnormal_any(is:List PI)(A:Option Addr)(n c:Nat)(w:World)(h:SI w A n c is)(hn:n≤300000000000):
 Calls Tryz.prog 111 #[.slice A n c] w (NormOk (fun a=>inS cmC a (spansL (is.map ivP))) n w):=by
 obtain⟨i0,hi0,hz0,hz1,hz2⟩:=info_parts info_interval
 have H:=qD h
 have HL:=qD h.sr.ln
 have I0:Hid (RnV w is 0 [] (.slice none 0 0) w):=qD ⟨own_nil _ _ _ _,.nil,.nil,qL,by simp,Below.refl _ _,fun _=>rfl⟩
 clear h
 go_enter Tryz.func111,Tryz.ntmps111
 go_wp2_with fail
 go_loopw [3,4] (fun v3 v4 wr=>∃(i:Nat) (S:List PI),i≤n∧v4=.int .i64 i∧RnV w is i S v3 wr) (fun _ v4 _=>n-(intOf v4).toNat)
 case atStart=>exact⟨0,[],Nat.zero_le _,rfl,I0.out⟩
 case round=>
  obtain⟨i,S,hi,rfl,I⟩:=hrel
  have J:=qD I
  by_cases hlt:i<n
  ·obtain⟨p,hp⟩:∃p,is[i]?=some p:=⟨_,List.getElem?_eq_getElem (by have:=HL.out;omega)⟩
   obtain⟨b,off,rfl,hbl,hat,hok⟩:=H.out.at hp
   have HA:=qD hat
   have HOk:=qD hok
   have HPi:=qD hp
   obtain⟨⟨p0,p1,p2,p3,p4⟩,⟨p5,p6,p7,p8,p9⟩,p10,p11⟩:=hat.keep (I.bel.block b hbl)
   clear hp hat hok I
   go_wp2_with fail
   refine(rempty_any p _ (HOk.out.step J.out.bel)).mono ?_
   rintro e w1 ⟨rfl,hb1⟩
   have J1:=qD (J.out.step hb1)
   clear hb1 p0 p1 p2 p3 p4 p5 p6 p7 p8 p9 p10 p11 J
   cases hne:(ivP p).ne
   ·have HI:=qD (J1.out.skip HPi.out hne)
    clear hne
    go_wp2_with fail
    go_roundw
    case rel=>exact⟨i+1,S,by omega,by go_num,HI.out⟩
    case measure=>simp[intOf];omega
   have HNe:=qD hne
   clear hne
   obtain⟨m,hm⟩:∃m,m=S.length:=⟨_,rfl⟩
   obtain⟨B,cb,hv3,hcb⟩:=own_slice J1.out.own
   have hle:=J1.out.le
   rw[←hm] at hv3 hcb hle
   subst hv3
   have HM:=qD hm
   clear hm
   first|go_upto_block 2 with fail|go_upto_block 3 with fail|go_upto_block 4 with fail|go_upto_block 5 with fail
   go_cut [5] (fun s5 wx=>∃k:Nat,k≤m∧s5=.int .i64 k∧(∀(q:Nat) s,S[q]?=some s→q<k→cmC (lowI s) (lowI p)≤0)∧(∀s,S[k]?=some s→¬cmC (lowI s) (lowI p)≤0)∧RnV w is i S (.slice B m cb) wx)
   case first=>
    go_wp2_with fail
    go_loopw [5] (fun v5 wr=>∃k:Nat,k≤m∧v5=.int .i64 k∧(∀(q:Nat) s,S[q]?=some s→q<k→cmC (lowI s) (lowI p)≤0)∧RnV w is i S (.slice B m cb) wr) (fun v5 _=>m-(intOf v5).toNat)
    case atStart=>exact⟨0,Nat.zero_le _,rfl,fun q s _ hq=>by omega,J1.out⟩
    case round=>
     obtain⟨k,hk,rfl,hlo,I⟩:=hrel
     have HLo:=qD hlo
     have J2:=qD I
     clear hlo
     by_cases hki:k<m
     ·obtain⟨s,hs⟩:∃s,S[k]?=some s:=⟨_,List.getElem?_eq_getElem (by have:=HM.out;omega)⟩
      obtain⟨g,rfl,hg,hsat⟩:=I.at hs
      obtain⟨⟨r0,r1,r2,r3,r4⟩,⟨r5,r6,r7,r8,r9⟩,r10,r11⟩:=hsat
      obtain⟨⟨p0,p1,p2,p3,p4⟩,⟨p5,p6,p7,p8,p9⟩,p10,p11⟩:=HA.out.keep (I.bel.block b hbl)
      have Pa0:∀kk:BW wr,kk.val.cell? ⟨b,off+i*12,none⟩=some (.int .i64 p.1.1.1.k):=fun kk=>kk.cell p0
      have Pa1:∀kk:BW wr,kk.val.cell? ⟨b,off+i*12+1,none⟩=some (.int .i64 p.1.1.1.n):=fun kk=>kk.cell p1
      have Pa2:∀kk:BW wr,kk.val.cell? ⟨b,off+i*12+2,none⟩=some (.string p.1.1.1.t):=fun kk=>kk.cell p2
      have Pa3:∀kk:BW wr,kk.val.cell? ⟨b,off+i*12+3,none⟩=some (.slice p.1.1.1.LA p.1.1.1.ln p.1.1.1.lc):=fun kk=>kk.cell p3
      have Pa4:∀kk:BW wr,kk.val.cell? ⟨b,off+i*12+4,none⟩=some (.slice p.1.1.1.DA p.1.1.1.dn p.1.1.1.dc):=fun kk=>kk.cell p4
      have Pb0:∀kk:BW wr,kk.val.cell? ⟨b,off+i*12+5,none⟩=some (.int .i64 p.1.2.1.k):=fun kk=>kk.cell p5
      have Pb1:∀kk:BW wr,kk.val.cell? ⟨b,off+i*12+5+1,none⟩=some (.int .i64 p.1.2.1.n):=fun kk=>kk.cell p6
      have Pb2:∀kk:BW wr,kk.val.cell? ⟨b,off+i*12+5+2,none⟩=some (.string p.1.2.1.t):=fun kk=>kk.cell p7
      have Pb3:∀kk:BW wr,kk.val.cell? ⟨b,off+i*12+5+3,none⟩=some (.slice p.1.2.1.LA p.1.2.1.ln p.1.2.1.lc):=fun kk=>kk.cell p8
      have Pb4:∀kk:BW wr,kk.val.cell? ⟨b,off+i*12+5+4,none⟩=some (.slice p.1.2.1.DA p.1.2.1.dn p.1.2.1.dc):=fun kk=>kk.cell p9
      have Pc0:∀kk:BW wr,kk.val.cell? ⟨b,off+i*12+10,none⟩=some (.bool p.2.1):=fun kk=>kk.cell p10
      have Pc1:∀kk:BW wr,kk.val.cell? ⟨b,off+i*12+11,none⟩=some (.bool p.2.2):=fun kk=>kk.cell p11
      have Ra0:∀kk:BW wr,kk.val.cell? ⟨g,k*12,none⟩=some (.int .i64 s.1.1.1.k):=fun kk=>kk.cell r0
      have Ra1:∀kk:BW wr,kk.val.cell? ⟨g,k*12+1,none⟩=some (.int .i64 s.1.1.1.n):=fun kk=>kk.cell r1
      have Ra2:∀kk:BW wr,kk.val.cell? ⟨g,k*12+2,none⟩=some (.string s.1.1.1.t):=fun kk=>kk.cell r2
      have Ra3:∀kk:BW wr,kk.val.cell? ⟨g,k*12+3,none⟩=some (.slice s.1.1.1.LA s.1.1.1.ln s.1.1.1.lc):=fun kk=>kk.cell r3
      have Ra4:∀kk:BW wr,kk.val.cell? ⟨g,k*12+4,none⟩=some (.slice s.1.1.1.DA s.1.1.1.dn s.1.1.1.dc):=fun kk=>kk.cell r4
      have Rb0:∀kk:BW wr,kk.val.cell? ⟨g,k*12+5,none⟩=some (.int .i64 s.1.2.1.k):=fun kk=>kk.cell r5
      have Rb1:∀kk:BW wr,kk.val.cell? ⟨g,k*12+5+1,none⟩=some (.int .i64 s.1.2.1.n):=fun kk=>kk.cell r6
      have Rb2:∀kk:BW wr,kk.val.cell? ⟨g,k*12+5+2,none⟩=some (.string s.1.2.1.t):=fun kk=>kk.cell r7
      have Rb3:∀kk:BW wr,kk.val.cell? ⟨g,k*12+5+3,none⟩=some (.slice s.1.2.1.LA s.1.2.1.ln s.1.2.1.lc):=fun kk=>kk.cell r8
      have Rb4:∀kk:BW wr,kk.val.cell? ⟨g,k*12+5+4,none⟩=some (.slice s.1.2.1.DA s.1.2.1.dn s.1.2.1.dc):=fun kk=>kk.cell r9
      have Rc0:∀kk:BW wr,kk.val.cell? ⟨g,k*12+10,none⟩=some (.bool s.2.1):=fun kk=>kk.cell r10
      have Rc1:∀kk:BW wr,kk.val.cell? ⟨g,k*12+11,none⟩=some (.bool s.2.2):=fun kk=>kk.cell r11
      have i0':(0:Int)≤(k:Int):=by omega
      have i1':(k:Int)<(m:Int):=by omega
      have i2':(0:Int)≤(i:Int):=by omega
      have i3':(i:Int)<(n:Int):=by omega
      have K1:Hid (∀q:BW wr,Calls Tryz.prog 178 #[aggI s,aggI p] q.val fun e w''=>e=.returned (.int .i64 (cmC (lowI s) (lowI p)))∧∃k:BW wr,w''=k.val):=fun q=>
       Calls.bw (rbefore_any s p q.val (((I.ok s (List.mem_of_getElem? hs)).step I.bel).step q.below) ((HOk.out.step I.bel).step q.below))
      have HS:=qD hs
      clear r0 r1 r2 r3 r4 r5 r6 r7 r8 r9 r10 r11 p0 p1 p2 p3 p4 p5 p6 p7 p8 p9 p10 p11 I hs
      go_upto_region 7 with fail
      refine wp_region_bw (by kernel_rfl) (by kernel_rfl) ?_
      repeat(go_big_quiet_step (with_reducible exact K1.out _))
      refine wpQuiet_nil ?_
      rintro _ ⟨kw,rfl⟩
      have J3:=qD (J2.out.step kw.below)
      clear Pa0 Pb0 Pa1 Pb1 Pa2 Pb2 Pa3 Pb3 Pa4 Pb4 Pc0 Pc1 Ra0 Rb0 Ra1 Rb1 Ra2 Rb2 Ra3 Rb3 Ra4 Rb4 Rc0 Rc1 K1 i0' i1' i2' i3'
      generalize kw.val=w2 at*
      by_cases hc:cmC (lowI s) (lowI p)≤0
      ·have HLo2:Hid (∀(q:Nat) s,S[q]?=some s→q<k+1→cmC (lowI s) (lowI p)≤0):=fun q z hz hq=>by
        by_cases e:q=k
        ·subst e
         rw[HS.out] at hz
         cases hz
         exact hc
        ·exact HLo.out q z hz (by omega)
       go_wp2_with fail
       go_roundw
       case rel=>exact⟨k+1,by omega,by go_num,HLo2.out,J3.out⟩
       case measure=>simp[intOf];omega
      ·have HHi:Hid (∀z,S[k]?=some z→¬cmC (lowI z) (lowI p)≤0):=fun z hz=>by
        rw[HS.out] at hz
        cases hz
        exact hc
       go_wp2_with fail
       go_meet
       exact⟨k,by omega,rfl,HLo.out,HHi.out,J3.out⟩
     ·have HHi:Hid (∀z,S[k]?=some z→¬cmC (lowI z) (lowI p)≤0):=fun z hz=>by
       have:=(List.getElem?_eq_some_iff.1 hz).1
       have:=HM.out
       omega
      have hki':decide ((k:Int)<(m:Int))=false:=decide_eq_false (by omega)
      clear I
      go_upto_region 7 with fail
      go_quiet (fail)
      go_wp2_with fail
      go_meet
      exact⟨k,by omega,rfl,HLo.out,HHi.out,J2.out.step (Below.drewN (Below.refl _ _) _)⟩
   case rest=>
    obtain⟨k,hk,rfl,hlo,hhi,I⟩:=hcut
    have HD:Hid (OrdI (S.take k++p::S.drop k)):=qD (ord_insert I.ord hlo hhi)
    have J2:=qD I
    have hown:=I.own
    rw[←HM.out] at hown
    have HRd:=qD (Reads.of_own hown)
    have HUc:=qD (HA.out.keep (I.bel.block b hbl))
    have hbw:b<wc.heap.size:=by have:=I.bel.size;omega
    have N0:Hid (NxI wc (.slice none 0 0) 0 [] wc):=qD ⟨own_nil _ _ _ _,Below.refl _ _⟩
    have R1:Hid (Reads wc wc.heap.size 12 B k (flat recI (S.take k))):=by
     have:=HRd.out.take hk
     rw[flat_take recI_length] at this
     exact this
    have R2:Hid (Reads wc wc.heap.size 12 (if cb=k then B else B.map (·.add (k*12))) (m-k) (flat recI (S.drop k))):=by
     have:=HRd.out.cut hk hcb
     rw[flat_drop recI_length] at this
     exact this
    have hB:B=none∧m=0∧cb=0∨∃g,B=some ⟨g,0,none⟩∧0<m:=by
     rcases Nat.eq_zero_or_pos m with h0|h0
     ·have:=I.z (by rw[←HM.out];exact h0)
      cases this
      exact .inl ⟨rfl,h0,rfl⟩
     ·rcases hown.2 with⟨h1,h2⟩|⟨g,cap,cur,hv,hge,hh,hnc,hr⟩
      ·omega
      ·cases hv
       exact .inr ⟨g,rfl,h0⟩
    clear hlo hhi I hown
    obtain⟨⟨p0,p1,p2,p3,p4⟩,⟨p5,p6,p7,p8,p9⟩,p10,p11⟩:=HUc.out
    have hin:(i:Int)<(n:Int):=by omega
    rcases hB with⟨rfl,rfl,rfl⟩|⟨g,rfl,h0⟩
    ·obtain rfl:k=0:=by omega
     simp only[if_true] at R2
     go_wp2_with (at_builtin;refine wpList_append_any _ rfl _ _ 51 rfl wc.heap.size 93 i0 (aggI (((VC.zero,Val.zero),(VC.zero,Val.zero)),(false,false))) 12 168 Tryz.underlying51 hi0 hz0 hz1 hz2 rfl (by decide) (.slice none 0 0) 0 (flat recI []) rfl N0.out.own _ _ 0 _ (flat recI (S.take 0)) rfl R1.out ?c1 (by unfold maxLen;omega) (by omega) (qL) ?_)
     case c1=>exact flatI_one _
     intro v1 w1 ho1 hg1 _
     have N1:Hid (NxI wc v1 0 ([]++S.take 0) w1):=qD (N0.out.next rfl (by omega) ho1 hg1)
     clear ho1 hg1 p0 p1 p2 p3 p4 p5 p6 p7 p8 p9 p10 p11
     obtain⟨⟨p0,p1,p2,p3,p4⟩,⟨p5,p6,p7,p8,p9⟩,p10,p11⟩:=HUc.out.keep (N1.out.bel.block b hbw)
     have hb1:b<w1.heap.size:=by have:=N1.out.bel.size;omega
     have hw1:=N1.out.bel.size
     go_wp2_with (at_builtin;refine wpList_append_any _ rfl _ _ 51 rfl wc.heap.size 93 i0 (aggI (((VC.zero,Val.zero),(VC.zero,Val.zero)),(false,false))) 12 168 Tryz.underlying51 hi0 hz0 hz1 hz2 rfl (by decide) v1 0 (flat recI ([]++S.take 0)) rfl (N1.out.alloc _).own _ _ 1 _ (recI p) rfl ⟨rfl,fun _=>⟨_,rfl,Nat.lt_succ_self _,news_at _ _ _⟩⟩ ?c1 (by unfold maxLen;omega) (by omega) (le_alloc hw1 _) ?_)
     case c1=>exact recI_one p
     intro v2 w2 ho2 hg2 _
     have N2:Hid (NxI wc v2 (0+1) ([]++S.take 0++[p]) w2):=qD ((N1.out.alloc _).next (by simp[flat]) (by omega) ho2 hg2)
     clear ho2 hg2 p0 p1 p2 p3 p4 p5 p6 p7 p8 p9 p10 p11
     have hw2:=N2.out.bel.size
     go_wp2_with (at_builtin;refine wpList_append_any _ rfl _ _ 51 rfl wc.heap.size 93 i0 (aggI (((VC.zero,Val.zero),(VC.zero,Val.zero)),(false,false))) 12 168 Tryz.underlying51 hi0 hz0 hz1 hz2 rfl (by decide) v2 (0+1) (flat recI ([]++S.take 0++[p])) rfl N2.out.own _ _ 0 _ (flat recI (S.drop 0)) rfl (R2.out.below N2.out.bel) ?c1 (by unfold maxLen;omega) (by omega) hw2 ?_)
     case c1=>exact flatI_one _
     intro v3 w3 ho3 hg3 _
     have N3:Hid (NxI wc v3 (0+1+0) ([]++S.take 0++[p]++S.drop 0) w3):=qD (N2.out.next rfl (by omega) ho3 hg3)
     clear ho3 hg3
     go_wp2_with fail
     go_roundw
     case rel=>exact⟨i+1,_,by omega,by go_num,N3.out.done (k:=0) J2.out (by have:=HM.out;omega) (by simp) HPi.out HNe.out HOk.out HD.out⟩
     case measure=>simp[intOf];omega
    ·have hc0:(cb=0)=False:=by simp;omega
     by_cases hck:cb=k
     ·subst hck
      simp only[if_true] at R2
      rw[show m-cb=0 by omega] at R2
      go_wp2_with (at_builtin;refine wpList_append_any _ rfl _ _ 51 rfl wc.heap.size 93 i0 (aggI (((VC.zero,Val.zero),(VC.zero,Val.zero)),(false,false))) 12 168 Tryz.underlying51 hi0 hz0 hz1 hz2 rfl (by decide) (.slice none 0 0) 0 (flat recI []) rfl N0.out.own _ _ cb _ (flat recI (S.take cb)) rfl R1.out ?c1 (by unfold maxLen;omega) (by omega) (qL) ?_)
      case c1=>exact flatI_one _
      intro v1 w1 ho1 hg1 _
      have N1:Hid (NxI wc v1 cb ([]++S.take cb) w1):=qD (N0.out.next rfl (by omega) ho1 hg1)
      clear ho1 hg1 p0 p1 p2 p3 p4 p5 p6 p7 p8 p9 p10 p11
      obtain⟨⟨p0,p1,p2,p3,p4⟩,⟨p5,p6,p7,p8,p9⟩,p10,p11⟩:=HUc.out.keep (N1.out.bel.block b hbw)
      have hb1:b<w1.heap.size:=by have:=N1.out.bel.size;omega
      have hw1:=N1.out.bel.size
      go_wp2_with (at_builtin;refine wpList_append_any _ rfl _ _ 51 rfl wc.heap.size 93 i0 (aggI (((VC.zero,Val.zero),(VC.zero,Val.zero)),(false,false))) 12 168 Tryz.underlying51 hi0 hz0 hz1 hz2 rfl (by decide) v1 cb (flat recI ([]++S.take cb)) rfl (N1.out.alloc _).own _ _ 1 _ (recI p) rfl ⟨rfl,fun _=>⟨_,rfl,Nat.lt_succ_self _,news_at _ _ _⟩⟩ ?c1 (by unfold maxLen;omega) (by omega) (le_alloc hw1 _) ?_)
      case c1=>exact recI_one p
      intro v2 w2 ho2 hg2 _
      have N2:Hid (NxI wc v2 (cb+1) ([]++S.take cb++[p]) w2):=qD ((N1.out.alloc _).next (by simp[flat]) (by omega) ho2 hg2)
      clear ho2 hg2 p0 p1 p2 p3 p4 p5 p6 p7 p8 p9 p10 p11
      have hw2:=N2.out.bel.size
      go_wp2_with (at_builtin;refine wpList_append_any _ rfl _ _ 51 rfl wc.heap.size 93 i0 (aggI (((VC.zero,Val.zero),(VC.zero,Val.zero)),(false,false))) 12 168 Tryz.underlying51 hi0 hz0 hz1 hz2 rfl (by decide) v2 (cb+1) (flat recI ([]++S.take cb++[p])) rfl N2.out.own _ _ 0 _ (flat recI (S.drop cb)) rfl (R2.out.below N2.out.bel) ?c1 (by unfold maxLen;omega) (by omega) hw2 ?_)
      case c1=>exact flatI_one _
      intro v3 w3 ho3 hg3 _
      have N3:Hid (NxI wc v3 (cb+1+0) ([]++S.take cb++[p]++S.drop cb) w3):=qD (N2.out.next rfl (by omega) ho3 hg3)
      clear ho3 hg3
      go_wp2_with fail
      go_roundw
      case rel=>exact⟨i+1,_,by omega,by go_num,N3.out.done (k:=cb) J2.out (by have:=HM.out;omega) (by simp) HPi.out HNe.out HOk.out HD.out⟩
      case measure=>simp[intOf];omega
     ·rw[if_neg hck] at R2
      simp only[Option.map_some,addr_add,Nat.zero_add] at R2
      have hck':(cb=k)=False:=by simp;omega
      go_wp2_with (at_builtin;refine wpList_append_any _ rfl _ _ 51 rfl wc.heap.size 93 i0 (aggI (((VC.zero,Val.zero),(VC.zero,Val.zero)),(false,false))) 12 168 Tryz.underlying51 hi0 hz0 hz1 hz2 rfl (by decide) (.slice none 0 0) 0 (flat recI []) rfl N0.out.own _ _ k _ (flat recI (S.take k)) rfl R1.out ?c1 (by unfold maxLen;omega) (by omega) (qL) ?_)
      case c1=>exact flatI_one _
      intro v1 w1 ho1 hg1 _
      have N1:Hid (NxI wc v1 k ([]++S.take k) w1):=qD (N0.out.next rfl (by omega) ho1 hg1)
      clear ho1 hg1 p0 p1 p2 p3 p4 p5 p6 p7 p8 p9 p10 p11
      obtain⟨⟨p0,p1,p2,p3,p4⟩,⟨p5,p6,p7,p8,p9⟩,p10,p11⟩:=HUc.out.keep (N1.out.bel.block b hbw)
      have hb1:b<w1.heap.size:=by have:=N1.out.bel.size;omega
      have hw1:=N1.out.bel.size
      go_wp2_with (at_builtin;refine wpList_append_any _ rfl _ _ 51 rfl wc.heap.size 93 i0 (aggI (((VC.zero,Val.zero),(VC.zero,Val.zero)),(false,false))) 12 168 Tryz.underlying51 hi0 hz0 hz1 hz2 rfl (by decide) v1 k (flat recI ([]++S.take k)) rfl (N1.out.alloc _).own _ _ 1 _ (recI p) rfl ⟨rfl,fun _=>⟨_,rfl,Nat.lt_succ_self _,news_at _ _ _⟩⟩ ?c1 (by unfold maxLen;omega) (by omega) (le_alloc hw1 _) ?_)
      case c1=>exact recI_one p
      intro v2 w2 ho2 hg2 _
      have N2:Hid (NxI wc v2 (k+1) ([]++S.take k++[p]) w2):=qD ((N1.out.alloc _).next (by simp[flat]) (by omega) ho2 hg2)
      clear ho2 hg2 p0 p1 p2 p3 p4 p5 p6 p7 p8 p9 p10 p11
      have hw2:=N2.out.bel.size
      go_wp2_with (at_builtin;refine wpList_append_any _ rfl _ _ 51 rfl wc.heap.size 93 i0 (aggI (((VC.zero,Val.zero),(VC.zero,Val.zero)),(false,false))) 12 168 Tryz.underlying51 hi0 hz0 hz1 hz2 rfl (by decide) v2 (k+1) (flat recI ([]++S.take k++[p])) rfl N2.out.own _ _ (m-k) _ (flat recI (S.drop k)) rfl (R2.out.below N2.out.bel) ?c1 (by unfold maxLen;omega) (by omega) hw2 ?_)
      case c1=>exact flatI_one _
      intro v3 w3 ho3 hg3 _
      have N3:Hid (NxI wc v3 (k+1+(m-k)) ([]++S.take k++[p]++S.drop k) w3):=qD (N2.out.next rfl (by omega) ho3 hg3)
      clear ho3 hg3
      go_wp2_with fail
      go_roundw
      case rel=>exact⟨i+1,_,by omega,by go_num,N3.out.done (k:=k) J2.out (by have:=HM.out;omega) (by simp) HPi.out HNe.out HOk.out HD.out⟩
      case measure=>simp[intOf];omega
  ·have hle:=I.le
   obtain⟨B,cb,hv3,hcb⟩:=own_slice I.own
   obtain⟨m,hm⟩:∃m,m=S.length:=⟨_,rfl⟩
   have hmn:m≤n:=by omega
   obtain⟨A',c',e,hsS⟩:=SI.of_own I.own rfl (by unfold reach;omega) (fun x hx=>(I.ok x hx).step I.bel)
   rw[hv3] at e
   cases e
   rw[←hm] at hv3 hcb hsS
   subst hv3
   have HS:=qD hsS
   have HM:=qD hm
   have HPm:=qD I.perm
   have HOr:=qD I.ord
   have HOkS:=qD I.ok
   have HBw:=qD I.bel
   clear I J hsS hm
   go_wp2_with fail
   obtain⟨wo,hwo⟩:∃wo:World,wo=wr:=⟨_,rfl⟩
   rw[←hwo] at HS HBw ⊢
   clear hwo
   go_loopw [7,8] (fun v7 v8 wr=>∃(j:Nat) (cs:List PI),j≤m∧v8=.int .i64 j∧RmI w wo S j v7 cs wr) (fun _ v8 _=>m-(intOf v8).toNat)
   case atStart=>exact⟨0,[],Nat.zero_le _,rfl,⟨own_nil _ _ _ _,rfl,qL,by simp,Below.refl _ _⟩⟩
   case round=>
    obtain⟨j,cs,hj,rfl,I⟩:=hrel
    have J:=qD I
    by_cases hjt:j<m
    ·obtain⟨p,hp⟩:∃p,S[j]?=some p:=⟨_,List.getElem?_eq_getElem (by have:=HM.out;omega)⟩
     obtain⟨b,off,rfl,hbl,hat,_⟩:=HS.out.at hp
     have HPj:=qD hp
     have HPk:=qD (HOkS.out p (List.mem_of_getElem? hp))
     have hbr:b<wr.heap.size:=by have:=I.bel.size;omega
     have hl7:=I.le
     obtain⟨⟨x0,x1,x2,x3,x4⟩,⟨x5,x6,x7,x8,x9⟩,x10,x11⟩:=hat.keep (I.bel.block b hbl)
     obtain⟨m7,hm7⟩:∃m,m=cs.length:=⟨_,rfl⟩
     obtain⟨B7,c7,hv7,hc7⟩:=own_slice I.own
     rw[←hm7] at hv7 hc7 hl7
     subst hv7
     have HM7:=qD hm7
     clear hp hat I hm7
     go_upto_region 18 with fail
     have KJ:=J.out.step ((Below.refl wr.heap.size wr).alloc (qL) (Obj.cells (arrI p) 93))
     have KB:Blk (wr.alloc (.cells (arrI p) 93)) wr.heap.size 93 (arrI p):=Blk.new_at rfl
     have hno:(Value.slice B7 m7 c7).ownBlock≠some wr.heap.size:=fun e=>absurd (own_lt J.out.own e) (by omega)
     change (Code.region 18 _ _).wp _ _ _ (wr.alloc (.cells (arrI p) 93))
     generalize wr.alloc (.cells (arrI p) 93)=w3 at*
     have hgaL:wo.heap.size≤wr.heap.size:=J.out.bel.size
     generalize wr.heap.size=ga at*
     have L1:=qD KJ
     have LB:=qD KB
     clear x0 x1 x2 x3 x4 x5 x6 x7 x8 x9 x10 x11 J KJ KB hbr
     rcases List.eq_nil_or_concat cs with hcs|⟨d,l,hcs⟩
     ·have hm0:¬0<m7:=by have:=HM7.out;rw[hcs] at this;simp at this;omega
      have HSt:Hid (stepS cmC (cs.map fun p=>(ivP p).sp) (ivP p).sp=(cs.map fun p=>(ivP p).sp)++[(ivP p).sp]):=qD (stepS_app (.inl (by rw[hcs];rfl)))
      clear hcs
      obtain⟨⟨x0,x1,x2,x3,x4⟩,⟨x5,x6,x7,x8,x9⟩,x10,x11⟩:=IAt.of_blk LB.out
      have hlo:wo.heap.size≤w3.heap.size:=L1.out.bel.size
      have LK:=qD (L1.out.step ((Below.refl w3.heap.size w3).alloc (qL) (Obj.cells (arrI p) 93)))
      have hown:(w3.alloc (.cells (arrI p) 93)).ownsRow wo.heap.size 93 12 (.slice B7 m7 c7) m7 (flat recI cs):=by have:=LK.out.own;rw[←HM7.out] at this;exact this
      have HOw:=qD hown
      clear hown
      go_wp2_with (at_builtin;refine wpList_append_any _ rfl _ _ 51 rfl wo.heap.size 93 i0 (aggI (((VC.zero,Val.zero),(VC.zero,Val.zero)),(false,false))) 12 168 Tryz.underlying51 hi0 hz0 hz1 hz2 rfl (by decide) (.slice B7 m7 c7) m7 (flat recI cs) rfl HOw.out _ _ 1 _ (recI p) rfl ⟨rfl,fun _=>⟨_,rfl,Nat.lt_succ_self _,news_at _ _ _⟩⟩ (recI_one _) (by unfold maxLen;omega) (by omega) (le_alloc hlo _) ?_)
      intro v' w4 hown hg _
      have HI:=qD (LK.out.add HPj.out HSt.out HPk.out hg (by rw[HM7.out]) hown)
      clear hown hg x0 x1 x2 x3 x4 x5 x6 x7 x8 x9 x10 x11
      go_wp2_with fail
      go_roundw
      case rel=>exact⟨j+1,cs++[p],by omega,by go_num,HI.out⟩
      case measure=>simp[intOf];omega
     ·rw[List.concat_eq_append] at hcs
      have hml:m7=d.length+1:=by rw[HM7.out,hcs];simp
      obtain⟨g,hB7⟩:∃g,B7=some ⟨g,0,none⟩:=by
       obtain⟨g,cap,hv,_⟩:=L1.out.own.form (by rw[hcs];simp)
       injection hv with hv
       exact⟨g,hv⟩
      subst hB7
      have hrow:IAt w3 g ((m7-1)*12) l:=by
       have ho:=L1.out.own
       rw[←HM7.out] at ho
       refine iat_of fun q v hq=>?_
       have hlt:=(List.getElem?_eq_some_iff.1 hq).1
       rw[recI_length] at hlt
       rw[ho.cellAt _ (by omega)]
       exact flat_get recI_length (xs:=cs) (a:=l) (by rw[hcs,show m7-1=d.length by omega];simp) hq
      have HOl:=qD (L1.out.ok l (by rw[hcs];simp))
      have HML:=qD hml
      have HCS:=qD hcs
      have glt:g<w3.heap.size:=own_lt L1.out.own rfl
      have hne:ga≠g:=fun e=>hno (by rw[e];rfl)
      have hm0:0<m7:=by omega
      have i0':(0:Int)≤(m7:Int)-1:=by omega
      have i1':(m7:Int)-1<(m7:Int):=by omega
      have W2':((m7:Int)-1).toNat=m7-1:=by omega
      obtain⟨⟨y0,y1,y2,y3,y4⟩,⟨y5,y6,y7,y8,y9⟩,y10,y11⟩:=hrow
      clear hcs hml
      go_upto_region 20 with fail
      have hzb:wo.heap.size≤w3.heap.size:=L1.out.bel.size
      have KJ4:RmJ w wo S j (.slice (some ⟨g,0,none⟩) m7 c7) cs ga w3.heap.size p l (w3.alloc (.cells (arrI l) 93)):=
       ⟨L1.out.step ((Below.refl w3.heap.size w3).alloc (qL) _),LB.out.alloc _,Blk.new_at rfl,hgaL,hzb,by have:=LB.out.lt;omega,hno,fun e=>absurd (own_lt L1.out.own e) (by omega)⟩
      change (Code.region 20 _ _).wp _ _ _ (w3.alloc (.cells (arrI l) 93))
      generalize w3.alloc (.cells (arrI l) 93)=w4 at*
      generalize w3.heap.size=gb at*
      have J4:=qD KJ4
      clear KJ4 L1 LB y0 y1 y2 y3 y4 y5 y6 y7 y8 y9 y10 y11 glt i0' i1' W2' hzb
      obtain⟨⟨x0,x1,x2,x3,x4⟩,_,_,_⟩:=IAt.of_blk J4.out.b9
      obtain⟨_,⟨y5,y6,y7,y8,y9⟩,_,_⟩:=IAt.of_blk J4.out.b10
      have Wb:=qD (HBw.out.step' J4.out.i.bel)
      go_wp2_with fail
      refine(rcmp_any p.1.1.2 l.1.2.2 p.1.1.1 l.1.2.1 _ (HPk.out.step Wb.out).1 (HOl.out.step Wb.out).2).mono ?_
      rintro e w5 ⟨rfl,hb5⟩
      have J5:=qD (J4.out.step hb5)
      have W5:=qD (Wb.out.step' hb5)
      clear hb5 x0 x1 x2 x3 x4 y5 y6 y7 y8 y9 J4 Wb
      have hx10:w5.cell? ⟨ga,10,none⟩=some (.bool p.2.1):=(IAt.of_blk J5.out.b9).2.2.1
      have hy11:w5.cell? ⟨gb,11,none⟩=some (.bool l.2.2):=(IAt.of_blk J5.out.b10).2.2.2
      by_cases hj2:cmC (uppI l) (lowI p)<0
      ·have HSt:Hid (stepS cmC (cs.map fun p=>(ivP p).sp) (ivP p).sp=(cs.map fun p=>(ivP p).sp)++[(ivP p).sp]):=qD (stepS_app (.inr ⟨d.map (fun p=>(ivP p).sp),(ivP l).sp,by rw[HCS.out,List.map_append];rfl,hj2⟩))
       have hnj:=no_join hj2
       clear hj2
       rcases hnj with hc|⟨hc,e1,e2⟩
       ·have d1:¬cmpV p.1.1.2 l.1.2.2<0:=by omega
        have d2:(cmpV p.1.1.2 l.1.2.2==0)=false:=by simp;omega
        clear hc
        go_upto_region 26 with fail
        clear d1 d2
        clear hx10 hy11
        obtain⟨⟨x0,x1,x2,x3,x4⟩,⟨x5,x6,x7,x8,x9⟩,x10,x11⟩:=IAt.of_blk J5.out.b9
        have hlo:wo.heap.size≤w5.heap.size:=J5.out.i.bel.size
        have LK:=qD (J5.out.i.step ((Below.refl w5.heap.size w5).alloc (qL) (Obj.cells (arrI p) 93)))
        have hown:(w5.alloc (.cells (arrI p) 93)).ownsRow wo.heap.size 93 12 (.slice (some ⟨g,0,none⟩) m7 c7) m7 (flat recI cs):=by have:=LK.out.own;rw[←HM7.out] at this;exact this
        have HOw:=qD hown
        clear hown
        go_wp2_with (at_builtin;refine wpList_append_any _ rfl _ _ 51 rfl wo.heap.size 93 i0 (aggI (((VC.zero,Val.zero),(VC.zero,Val.zero)),(false,false))) 12 168 Tryz.underlying51 hi0 hz0 hz1 hz2 rfl (by decide) (.slice (some ⟨g,0,none⟩) m7 c7) m7 (flat recI cs) rfl HOw.out _ _ 1 _ (recI p) rfl ⟨rfl,fun _=>⟨_,rfl,Nat.lt_succ_self _,news_at _ _ _⟩⟩ (recI_one _) (by unfold maxLen;omega) (by omega) (le_alloc hlo _) ?_)
        intro v' w6 hown hg _
        have HI:=qD (LK.out.add HPj.out HSt.out HPk.out hg (by rw[HM7.out]) hown)
        clear hown hg x0 x1 x2 x3 x4 x5 x6 x7 x8 x9 x10 x11
        go_wp2_with fail
        go_roundw
        case rel=>exact⟨j+1,cs++[p],by omega,by go_num,HI.out⟩
        case measure=>simp[intOf];omega
       ·rw[e1] at hx10
        rw[e2] at hy11
        rw[hc]
        clear e1 e2 hc
        go_upto_region 26 with fail
        clear hx10 hy11
        obtain⟨⟨x0,x1,x2,x3,x4⟩,⟨x5,x6,x7,x8,x9⟩,x10,x11⟩:=IAt.of_blk J5.out.b9
        have hlo:wo.heap.size≤w5.heap.size:=J5.out.i.bel.size
        have LK:=qD (J5.out.i.step ((Below.refl w5.heap.size w5).alloc (qL) (Obj.cells (arrI p) 93)))
        have hown:(w5.alloc (.cells (arrI p) 93)).ownsRow wo.heap.size 93 12 (.slice (some ⟨g,0,none⟩) m7 c7) m7 (flat recI cs):=by have:=LK.out.own;rw[←HM7.out] at this;exact this
        have HOw:=qD hown
        clear hown
        go_wp2_with (at_builtin;refine wpList_append_any _ rfl _ _ 51 rfl wo.heap.size 93 i0 (aggI (((VC.zero,Val.zero),(VC.zero,Val.zero)),(false,false))) 12 168 Tryz.underlying51 hi0 hz0 hz1 hz2 rfl (by decide) (.slice (some ⟨g,0,none⟩) m7 c7) m7 (flat recI cs) rfl HOw.out _ _ 1 _ (recI p) rfl ⟨rfl,fun _=>⟨_,rfl,Nat.lt_succ_self _,news_at _ _ _⟩⟩ (recI_one _) (by unfold maxLen;omega) (by omega) (le_alloc hlo _) ?_)
        intro v' w6 hown hg _
        have HI:=qD (LK.out.add HPj.out HSt.out HPk.out hg (by rw[HM7.out]) hown)
        clear hown hg x0 x1 x2 x3 x4 x5 x6 x7 x8 x9 x10 x11
        go_wp2_with fail
        go_roundw
        case rel=>exact⟨j+1,cs++[p],by omega,by go_num,HI.out⟩
        case measure=>simp[intOf];omega
      ·have hyj:=yes_join hj2
       have HJ2:=qD hj2
       clear hj2
       rcases hyj with hc|⟨hc,e1⟩|⟨hc,e1,e2⟩
       ·go_upto_region 22 with fail
        clear hc
        clear hx10 hy11
        obtain⟨⟨x0,x1,x2,x3,x4⟩,⟨x5,x6,x7,x8,x9⟩,x10,x11⟩:=IAt.of_blk J5.out.b9
        obtain⟨⟨y0,y1,y2,y3,y4⟩,⟨y5,y6,y7,y8,y9⟩,y10,y11⟩:=IAt.of_blk J5.out.b10
        go_wp2_with fail
        refine(rbeyond_any p l _ (HPk.out.step W5.out) (HOl.out.step W5.out)).mono ?_
        rintro e w6 ⟨rfl,hb6⟩
        have J6:=qD (J5.out.step hb6)
        clear hb6 x0 x1 x2 x3 x4 x5 x6 x7 x8 x9 x10 x11 y0 y1 y2 y3 y4 y5 y6 y7 y8 y9 y10 y11 J5 W5
        have ha:=lin_cut.anti (uppI p) (uppI l)
        by_cases hu:0<cmC (p.1.2.2,p.2.2) (l.1.2.2,l.2.2)
        ·have hlt:cmC (uppI l) (uppI p)<0:=by have hu':0<cmC (uppI p) (uppI l):=hu;omega
         have HSt:Hid (stepS cmC ((d++[l]).map fun p=>(ivP p).sp) (ivP p).sp=(d++[((l.1.1,p.1.2),(l.2.1,p.2.2))]).map fun p=>(ivP p).sp):=by
          rw[List.map_append,List.map_append]
          exact qD (stepS_up (show ¬cmC (uppI l) (lowI p)<0 by have:=HJ2.out;omega) hlt)
         have HQ:Hid (okI w ((l.1.1,p.1.2),(l.2.1,p.2.2))):=qD ⟨HOl.out.1,HPk.out.2⟩
         have J7':=J6.out.up
         rw[HCS.out] at J7'
         have zz:=J6.out.b10.frozen
         obtain⟨⟨x0,x1,x2,x3,x4⟩,⟨x5,x6,x7,x8,x9⟩,x10,x11⟩:=IAt.of_blk J6.out.b9
         obtain⟨⟨y0,y1,y2,y3,y4⟩,⟨y5,y6,y7,y8,y9⟩,y10,y11⟩:=IAt.of_blk J6.out.b10
         clear ha hlt
         go_upto_region 25 with fail
         change (Code.region 25 _ _).wp _ _ _ ((setV w6 gb 5 p.1.2.1).setCell ⟨gb,11,none⟩ (.bool p.2.2))
         generalize (setV w6 gb 5 p.1.2.1).setCell ⟨gb,11,none⟩ (.bool p.2.2)=w7 at*
         have J7:=qD J7'
         clear J7' J6 x0 x1 x2 x3 x4 x5 x6 x7 x8 x9 x10 x11 y0 y1 y2 y3 y4 y5 y6 y7 y8 y9 y10 y11 zz
         obtain⟨y12,z⟩:=J7.out.row HML.out
         obtain⟨⟨y0,y1,y2,y3,y4⟩,⟨y5,y6,y7,y8,y9⟩,y10,y11⟩:=y12
         obtain⟨⟨x0,x1,x2,x3,x4⟩,⟨x5,x6,x7,x8,x9⟩,x10,x11⟩:=IAt.of_blk J7.out.b10
         have i0':(0:Int)≤(m7:Int)-1:=by have:=HML.out;omega
         have i1':(m7:Int)-1<(m7:Int):=by omega
         have W2':((m7:Int)-1).toNat=m7-1:=by omega
         have HP2:Hid (RmI w wo S (j+1) (.slice (some ⟨g,0,none⟩) m7 c7) (d++[((l.1.1,p.1.2),(l.2.1,p.2.2))]) (w7.setCells g ((m7-1)*12) (recI ((l.1.1,p.1.2),(l.2.1,p.2.2))))):=by
          have:=J7.out.i.put HPj.out HSt.out HQ.out HML.out
          rw[show d.length=m7-1 by have:=HML.out;omega] at this
          exact qD this
         go_upto_region 16 with fail
         obtain⟨w8,hw8,HI⟩:∃w8,w7.setCells g ((m7-1)*12) (recI ((l.1.1,p.1.2),(l.2.1,p.2.2)))=w8∧Hid (RmI w wo S (j+1) (.slice (some ⟨g,0,none⟩) m7 c7) (d++[((l.1.1,p.1.2),(l.2.1,p.2.2))]) w8):=⟨_,rfl,HP2⟩
         change (Code.region 16 _ _).wp _ _ _ (w7.setCells g ((m7-1)*12) (recI ((l.1.1,p.1.2),(l.2.1,p.2.2))))
         rw[hw8]
         clear hw8 HP2 x0 x1 x2 x3 x4 x5 x6 x7 x8 x9 x10 x11 y0 y1 y2 y3 y4 y5 y6 y7 y8 y9 y10 y11 z i0' i1' W2'
         go_wp2_with fail
         go_roundw
         case rel=>exact⟨j+1,d++[((l.1.1,p.1.2),(l.2.1,p.2.2))],by omega,by go_num,HI.out⟩
         case measure=>simp[intOf];omega
        ·have hlt:¬cmC (uppI l) (uppI p)<0:=by have hu':¬0<cmC (uppI p) (uppI l):=hu;omega
         have HSt:Hid (stepS cmC ((d++[l]).map fun p=>(ivP p).sp) (ivP p).sp=(d++[l]).map fun p=>(ivP p).sp):=by
          rw[List.map_append]
          exact qD (stepS_no (show ¬cmC (uppI l) (lowI p)<0 by have:=HJ2.out;omega) hlt)
         have HQ:Hid (okI w l):=qD HOl.out
         have J7':=J6.out
         rw[HCS.out] at J7'
         have J7:=qD J7'
         clear ha hlt J7' J6
         go_upto_region 25 with fail
         obtain⟨y12,z⟩:=J7.out.row HML.out
         obtain⟨⟨y0,y1,y2,y3,y4⟩,⟨y5,y6,y7,y8,y9⟩,y10,y11⟩:=y12
         obtain⟨⟨x0,x1,x2,x3,x4⟩,⟨x5,x6,x7,x8,x9⟩,x10,x11⟩:=IAt.of_blk J7.out.b10
         have i0':(0:Int)≤(m7:Int)-1:=by have:=HML.out;omega
         have i1':(m7:Int)-1<(m7:Int):=by omega
         have W2':((m7:Int)-1).toNat=m7-1:=by omega
         have HP2:Hid (RmI w wo S (j+1) (.slice (some ⟨g,0,none⟩) m7 c7) (d++[l]) (w6.setCells g ((m7-1)*12) (recI l))):=by
          have:=J7.out.i.put HPj.out HSt.out HQ.out HML.out
          rw[show d.length=m7-1 by have:=HML.out;omega] at this
          exact qD this
         go_upto_region 16 with fail
         obtain⟨w8,hw8,HI⟩:∃w8,w6.setCells g ((m7-1)*12) (recI l)=w8∧Hid (RmI w wo S (j+1) (.slice (some ⟨g,0,none⟩) m7 c7) (d++[l]) w8):=⟨_,rfl,HP2⟩
         change (Code.region 16 _ _).wp _ _ _ (w6.setCells g ((m7-1)*12) (recI l))
         rw[hw8]
         clear hw8 HP2 x0 x1 x2 x3 x4 x5 x6 x7 x8 x9 x10 x11 y0 y1 y2 y3 y4 y5 y6 y7 y8 y9 y10 y11 z i0' i1' W2'
         go_wp2_with fail
         go_roundw
         case rel=>exact⟨j+1,d++[l],by omega,by go_num,HI.out⟩
         case measure=>simp[intOf];omega
       ·rw[e1] at hx10
        rw[hc]
        clear e1 hc
        go_upto_region 22 with fail
        clear hx10 hy11
        obtain⟨⟨x0,x1,x2,x3,x4⟩,⟨x5,x6,x7,x8,x9⟩,x10,x11⟩:=IAt.of_blk J5.out.b9
        obtain⟨⟨y0,y1,y2,y3,y4⟩,⟨y5,y6,y7,y8,y9⟩,y10,y11⟩:=IAt.of_blk J5.out.b10
        go_wp2_with fail
        refine(rbeyond_any p l _ (HPk.out.step W5.out) (HOl.out.step W5.out)).mono ?_
        rintro e w6 ⟨rfl,hb6⟩
        have J6:=qD (J5.out.step hb6)
        clear hb6 x0 x1 x2 x3 x4 x5 x6 x7 x8 x9 x10 x11 y0 y1 y2 y3 y4 y5 y6 y7 y8 y9 y10 y11 J5 W5
        have ha:=lin_cut.anti (uppI p) (uppI l)
        by_cases hu:0<cmC (p.1.2.2,p.2.2) (l.1.2.2,l.2.2)
        ·have hlt:cmC (uppI l) (uppI p)<0:=by have hu':0<cmC (uppI p) (uppI l):=hu;omega
         have HSt:Hid (stepS cmC ((d++[l]).map fun p=>(ivP p).sp) (ivP p).sp=(d++[((l.1.1,p.1.2),(l.2.1,p.2.2))]).map fun p=>(ivP p).sp):=by
          rw[List.map_append,List.map_append]
          exact qD (stepS_up (show ¬cmC (uppI l) (lowI p)<0 by have:=HJ2.out;omega) hlt)
         have HQ:Hid (okI w ((l.1.1,p.1.2),(l.2.1,p.2.2))):=qD ⟨HOl.out.1,HPk.out.2⟩
         have J7':=J6.out.up
         rw[HCS.out] at J7'
         have zz:=J6.out.b10.frozen
         obtain⟨⟨x0,x1,x2,x3,x4⟩,⟨x5,x6,x7,x8,x9⟩,x10,x11⟩:=IAt.of_blk J6.out.b9
         obtain⟨⟨y0,y1,y2,y3,y4⟩,⟨y5,y6,y7,y8,y9⟩,y10,y11⟩:=IAt.of_blk J6.out.b10
         clear ha hlt
         go_upto_region 25 with fail
         change (Code.region 25 _ _).wp _ _ _ ((setV w6 gb 5 p.1.2.1).setCell ⟨gb,11,none⟩ (.bool p.2.2))
         generalize (setV w6 gb 5 p.1.2.1).setCell ⟨gb,11,none⟩ (.bool p.2.2)=w7 at*
         have J7:=qD J7'
         clear J7' J6 x0 x1 x2 x3 x4 x5 x6 x7 x8 x9 x10 x11 y0 y1 y2 y3 y4 y5 y6 y7 y8 y9 y10 y11 zz
         obtain⟨y12,z⟩:=J7.out.row HML.out
         obtain⟨⟨y0,y1,y2,y3,y4⟩,⟨y5,y6,y7,y8,y9⟩,y10,y11⟩:=y12
         obtain⟨⟨x0,x1,x2,x3,x4⟩,⟨x5,x6,x7,x8,x9⟩,x10,x11⟩:=IAt.of_blk J7.out.b10
         have i0':(0:Int)≤(m7:Int)-1:=by have:=HML.out;omega
         have i1':(m7:Int)-1<(m7:Int):=by omega
         have W2':((m7:Int)-1).toNat=m7-1:=by omega
         have HP2:Hid (RmI w wo S (j+1) (.slice (some ⟨g,0,none⟩) m7 c7) (d++[((l.1.1,p.1.2),(l.2.1,p.2.2))]) (w7.setCells g ((m7-1)*12) (recI ((l.1.1,p.1.2),(l.2.1,p.2.2))))):=by
          have:=J7.out.i.put HPj.out HSt.out HQ.out HML.out
          rw[show d.length=m7-1 by have:=HML.out;omega] at this
          exact qD this
         go_upto_region 16 with fail
         obtain⟨w8,hw8,HI⟩:∃w8,w7.setCells g ((m7-1)*12) (recI ((l.1.1,p.1.2),(l.2.1,p.2.2)))=w8∧Hid (RmI w wo S (j+1) (.slice (some ⟨g,0,none⟩) m7 c7) (d++[((l.1.1,p.1.2),(l.2.1,p.2.2))]) w8):=⟨_,rfl,HP2⟩
         change (Code.region 16 _ _).wp _ _ _ (w7.setCells g ((m7-1)*12) (recI ((l.1.1,p.1.2),(l.2.1,p.2.2))))
         rw[hw8]
         clear hw8 HP2 x0 x1 x2 x3 x4 x5 x6 x7 x8 x9 x10 x11 y0 y1 y2 y3 y4 y5 y6 y7 y8 y9 y10 y11 z i0' i1' W2'
         go_wp2_with fail
         go_roundw
         case rel=>exact⟨j+1,d++[((l.1.1,p.1.2),(l.2.1,p.2.2))],by omega,by go_num,HI.out⟩
         case measure=>simp[intOf];omega
        ·have hlt:¬cmC (uppI l) (uppI p)<0:=by have hu':¬0<cmC (uppI p) (uppI l):=hu;omega
         have HSt:Hid (stepS cmC ((d++[l]).map fun p=>(ivP p).sp) (ivP p).sp=(d++[l]).map fun p=>(ivP p).sp):=by
          rw[List.map_append]
          exact qD (stepS_no (show ¬cmC (uppI l) (lowI p)<0 by have:=HJ2.out;omega) hlt)
         have HQ:Hid (okI w l):=qD HOl.out
         have J7':=J6.out
         rw[HCS.out] at J7'
         have J7:=qD J7'
         clear ha hlt J7' J6
         go_upto_region 25 with fail
         obtain⟨y12,z⟩:=J7.out.row HML.out
         obtain⟨⟨y0,y1,y2,y3,y4⟩,⟨y5,y6,y7,y8,y9⟩,y10,y11⟩:=y12
         obtain⟨⟨x0,x1,x2,x3,x4⟩,⟨x5,x6,x7,x8,x9⟩,x10,x11⟩:=IAt.of_blk J7.out.b10
         have i0':(0:Int)≤(m7:Int)-1:=by have:=HML.out;omega
         have i1':(m7:Int)-1<(m7:Int):=by omega
         have W2':((m7:Int)-1).toNat=m7-1:=by omega
         have HP2:Hid (RmI w wo S (j+1) (.slice (some ⟨g,0,none⟩) m7 c7) (d++[l]) (w6.setCells g ((m7-1)*12) (recI l))):=by
          have:=J7.out.i.put HPj.out HSt.out HQ.out HML.out
          rw[show d.length=m7-1 by have:=HML.out;omega] at this
          exact qD this
         go_upto_region 16 with fail
         obtain⟨w8,hw8,HI⟩:∃w8,w6.setCells g ((m7-1)*12) (recI l)=w8∧Hid (RmI w wo S (j+1) (.slice (some ⟨g,0,none⟩) m7 c7) (d++[l]) w8):=⟨_,rfl,HP2⟩
         change (Code.region 16 _ _).wp _ _ _ (w6.setCells g ((m7-1)*12) (recI l))
         rw[hw8]
         clear hw8 HP2 x0 x1 x2 x3 x4 x5 x6 x7 x8 x9 x10 x11 y0 y1 y2 y3 y4 y5 y6 y7 y8 y9 y10 y11 z i0' i1' W2'
         go_wp2_with fail
         go_roundw
         case rel=>exact⟨j+1,d++[l],by omega,by go_num,HI.out⟩
         case measure=>simp[intOf];omega
       ·rw[e1] at hx10
        rw[e2] at hy11
        rw[hc]
        clear e1 e2 hc
        go_upto_region 22 with fail
        clear hx10 hy11
        obtain⟨⟨x0,x1,x2,x3,x4⟩,⟨x5,x6,x7,x8,x9⟩,x10,x11⟩:=IAt.of_blk J5.out.b9
        obtain⟨⟨y0,y1,y2,y3,y4⟩,⟨y5,y6,y7,y8,y9⟩,y10,y11⟩:=IAt.of_blk J5.out.b10
        go_wp2_with fail
        refine(rbeyond_any p l _ (HPk.out.step W5.out) (HOl.out.step W5.out)).mono ?_
        rintro e w6 ⟨rfl,hb6⟩
        have J6:=qD (J5.out.step hb6)
        clear hb6 x0 x1 x2 x3 x4 x5 x6 x7 x8 x9 x10 x11 y0 y1 y2 y3 y4 y5 y6 y7 y8 y9 y10 y11 J5 W5
        have ha:=lin_cut.anti (uppI p) (uppI l)
        by_cases hu:0<cmC (p.1.2.2,p.2.2) (l.1.2.2,l.2.2)
        ·have hlt:cmC (uppI l) (uppI p)<0:=by have hu':0<cmC (uppI p) (uppI l):=hu;omega
         have HSt:Hid (stepS cmC ((d++[l]).map fun p=>(ivP p).sp) (ivP p).sp=(d++[((l.1.1,p.1.2),(l.2.1,p.2.2))]).map fun p=>(ivP p).sp):=by
          rw[List.map_append,List.map_append]
          exact qD (stepS_up (show ¬cmC (uppI l) (lowI p)<0 by have:=HJ2.out;omega) hlt)
         have HQ:Hid (okI w ((l.1.1,p.1.2),(l.2.1,p.2.2))):=qD ⟨HOl.out.1,HPk.out.2⟩
         have J7':=J6.out.up
         rw[HCS.out] at J7'
         have zz:=J6.out.b10.frozen
         obtain⟨⟨x0,x1,x2,x3,x4⟩,⟨x5,x6,x7,x8,x9⟩,x10,x11⟩:=IAt.of_blk J6.out.b9
         obtain⟨⟨y0,y1,y2,y3,y4⟩,⟨y5,y6,y7,y8,y9⟩,y10,y11⟩:=IAt.of_blk J6.out.b10
         clear ha hlt
         go_upto_region 25 with fail
         change (Code.region 25 _ _).wp _ _ _ ((setV w6 gb 5 p.1.2.1).setCell ⟨gb,11,none⟩ (.bool p.2.2))
         generalize (setV w6 gb 5 p.1.2.1).setCell ⟨gb,11,none⟩ (.bool p.2.2)=w7 at*
         have J7:=qD J7'
         clear J7' J6 x0 x1 x2 x3 x4 x5 x6 x7 x8 x9 x10 x11 y0 y1 y2 y3 y4 y5 y6 y7 y8 y9 y10 y11 zz
         obtain⟨y12,z⟩:=J7.out.row HML.out
         obtain⟨⟨y0,y1,y2,y3,y4⟩,⟨y5,y6,y7,y8,y9⟩,y10,y11⟩:=y12
         obtain⟨⟨x0,x1,x2,x3,x4⟩,⟨x5,x6,x7,x8,x9⟩,x10,x11⟩:=IAt.of_blk J7.out.b10
         have i0':(0:Int)≤(m7:Int)-1:=by have:=HML.out;omega
         have i1':(m7:Int)-1<(m7:Int):=by omega
         have W2':((m7:Int)-1).toNat=m7-1:=by omega
         have HP2:Hid (RmI w wo S (j+1) (.slice (some ⟨g,0,none⟩) m7 c7) (d++[((l.1.1,p.1.2),(l.2.1,p.2.2))]) (w7.setCells g ((m7-1)*12) (recI ((l.1.1,p.1.2),(l.2.1,p.2.2))))):=by
          have:=J7.out.i.put HPj.out HSt.out HQ.out HML.out
          rw[show d.length=m7-1 by have:=HML.out;omega] at this
          exact qD this
         go_upto_region 16 with fail
         obtain⟨w8,hw8,HI⟩:∃w8,w7.setCells g ((m7-1)*12) (recI ((l.1.1,p.1.2),(l.2.1,p.2.2)))=w8∧Hid (RmI w wo S (j+1) (.slice (some ⟨g,0,none⟩) m7 c7) (d++[((l.1.1,p.1.2),(l.2.1,p.2.2))]) w8):=⟨_,rfl,HP2⟩
         change (Code.region 16 _ _).wp _ _ _ (w7.setCells g ((m7-1)*12) (recI ((l.1.1,p.1.2),(l.2.1,p.2.2))))
         rw[hw8]
         clear hw8 HP2 x0 x1 x2 x3 x4 x5 x6 x7 x8 x9 x10 x11 y0 y1 y2 y3 y4 y5 y6 y7 y8 y9 y10 y11 z i0' i1' W2'
         go_wp2_with fail
         go_roundw
         case rel=>exact⟨j+1,d++[((l.1.1,p.1.2),(l.2.1,p.2.2))],by omega,by go_num,HI.out⟩
         case measure=>simp[intOf];omega
        ·have hlt:¬cmC (uppI l) (uppI p)<0:=by have hu':¬0<cmC (uppI p) (uppI l):=hu;omega
         have HSt:Hid (stepS cmC ((d++[l]).map fun p=>(ivP p).sp) (ivP p).sp=(d++[l]).map fun p=>(ivP p).sp):=by
          rw[List.map_append]
          exact qD (stepS_no (show ¬cmC (uppI l) (lowI p)<0 by have:=HJ2.out;omega) hlt)
         have HQ:Hid (okI w l):=qD HOl.out
         have J7':=J6.out
         rw[HCS.out] at J7'
         have J7:=qD J7'
         clear ha hlt J7' J6
         go_upto_region 25 with fail
         obtain⟨y12,z⟩:=J7.out.row HML.out
         obtain⟨⟨y0,y1,y2,y3,y4⟩,⟨y5,y6,y7,y8,y9⟩,y10,y11⟩:=y12
         obtain⟨⟨x0,x1,x2,x3,x4⟩,⟨x5,x6,x7,x8,x9⟩,x10,x11⟩:=IAt.of_blk J7.out.b10
         have i0':(0:Int)≤(m7:Int)-1:=by have:=HML.out;omega
         have i1':(m7:Int)-1<(m7:Int):=by omega
         have W2':((m7:Int)-1).toNat=m7-1:=by omega
         have HP2:Hid (RmI w wo S (j+1) (.slice (some ⟨g,0,none⟩) m7 c7) (d++[l]) (w6.setCells g ((m7-1)*12) (recI l))):=by
          have:=J7.out.i.put HPj.out HSt.out HQ.out HML.out
          rw[show d.length=m7-1 by have:=HML.out;omega] at this
          exact qD this
         go_upto_region 16 with fail
         obtain⟨w8,hw8,HI⟩:∃w8,w6.setCells g ((m7-1)*12) (recI l)=w8∧Hid (RmI w wo S (j+1) (.slice (some ⟨g,0,none⟩) m7 c7) (d++[l]) w8):=⟨_,rfl,HP2⟩
         change (Code.region 16 _ _).wp _ _ _ (w6.setCells g ((m7-1)*12) (recI l))
         rw[hw8]
         clear hw8 HP2 x0 x1 x2 x3 x4 x5 x6 x7 x8 x9 x10 x11 y0 y1 y2 y3 y4 y5 y6 y7 y8 y9 y10 y11 z i0' i1' W2'
         go_wp2_with fail
         go_roundw
         case rel=>exact⟨j+1,d++[l],by omega,by go_num,HI.out⟩
         case measure=>simp[intOf];omega
    ·have hne:∀s∈S.map (fun p=>(ivP p).sp),cmC s.1 s.2<0∧VC1 s.1∧VC1 s.2:=by
      intro s hs
      obtain⟨x,hx,rfl⟩:=List.mem_map.1 hs
      exact ne_sp (List.mem_filter.1 (HPm.out.subset hx)).2
     have hpw:(S.map fun p=>(ivP p).sp).Pairwise fun s t=>cmC s.1 t.1≤0:=by rw[List.pairwise_map];exact HOr.out
     have hmi:=mergeS_ok lin_cut hne hpw
     have HMi:=qD hmi
     have hll:=I.le
     have hit:is.take i=is:=List.take_of_length_le (by have:=HL.out;omega)
     have HIt:=qD hit
     clear I hne hpw hmi hit
     go_wp2_with fail
     go_ret
     have heq:=J.out.eq
     rw[List.take_of_length_le (by have:=HM.out;omega)] at heq
     obtain⟨A9,c9,e9,hs9⟩:=SI.of_own J.out.own rfl (by unfold reach;omega) (fun x hx=>(J.out.ok x hx).step (HBw.out.step' J.out.bel))
     refine⟨A9,_,c9,cs,cs.map (fun p=>(ivP p).sp),by rw[←e9];rfl,by rw[List.map_map];exact List.map_congr_left fun x _=>(ivOf_sp (ivP x)).symm,⟨by rw[heq];exact HMi.out.nf,fun a=>?_⟩,by omega,hs9,HBw.out.step' J.out.bel⟩
     rw[heq,HMi.out.mem]
     have hp2:=HPm.out.map (fun p=>(ivP p).sp)
     rw[HIt.out] at hp2
     refine(inS_perm hp2).trans ?_
     show inS cmC a ((is.filter fun p=>(ivP p).ne).map fun p=>(ivP p).sp)↔inS cmC a (((is.map ivP).filter Iv.ne).map Iv.sp)
     rw[List.filter_map,List.map_map]
     exact Iff.rfl
theorem NxI.drew{wx:World}{v:Value}{n:Nat}{xs:List PI}{wr:World}(h:NxI wx v n xs wr):NxI wx v n xs wr.drew:=⟨h.own,h.bel.drew⟩
theorem runion_any(is js:List PI)(A B:Option Addr)(n c n' c':Nat)(w:World)(h:SI w A n c is)(h':SI w B n' c' js)(hn:n≤400000000)(hn':n'≤400000000):
 Calls Tryz.prog 56 #[.slice A n c,.slice B n' c'] w (NormOk (fun a=>inS cmC a (spansL (is.map ivP))∨inS cmC a (spansL (js.map ivP))) (n+n') w):=by
 obtain⟨i0,hi0,hz0,hz1,hz2⟩:=info_parts info_interval
 have H:=qD h
 have H':=qD h'
 have R1:=qD h.reads
 have R2:=qD h'.reads
 have N0:Hid (NxI w (.slice none 0 0) 0 [] w):=qD ⟨own_nil _ _ _ _,Below.refl _ _⟩
 clear h h'
 go_enter Tryz.func56,Tryz.ntmps56
 go_wp2_with (at_builtin;refine wpList_append_any _ rfl _ _ 51 rfl w.heap.size 93 i0 (aggI (((VC.zero,Val.zero),(VC.zero,Val.zero)),(false,false))) 12 168 Tryz.underlying51 hi0 hz0 hz1 hz2 rfl (by decide) (.slice none 0 0) 0 (flat recI []) rfl N0.out.own _ _ n _ (flat recI is) rfl R1.out ?c1 (by unfold maxLen;omega) (by omega) (qL) ?_)
 case c1=>exact flatI_one _
 intro v1 w1 ho1 hg1 _
 have N1:Hid (NxI w v1 n ([]++is) w1):=qD (N0.out.next rfl (by omega) ho1 hg1)
 clear ho1 hg1
 have hw1:=N1.out.bel.size
 go_wp2_with (at_builtin;refine wpList_append_any _ rfl _ _ 51 rfl w.heap.size 93 i0 (aggI (((VC.zero,Val.zero),(VC.zero,Val.zero)),(false,false))) 12 168 Tryz.underlying51 hi0 hz0 hz1 hz2 rfl (by decide) v1 n (flat recI ([]++is)) rfl N1.out.own _ _ n' _ (flat recI js) rfl (R2.out.below N1.out.bel) ?c1 (by unfold maxLen;omega) (by omega) hw1 ?_)
 case c1=>exact flatI_one _
 intro v2 w2 ho2 hg2 _
 have N2:Hid (NxI w v2 (n+n') ([]++is++js) w2):=qD (N1.out.next rfl rfl ho2 hg2)
 clear ho2 hg2
 obtain⟨A2,c2,rfl,hs⟩:=SI.of_own (xs:=is++js) N2.out.own (by rw[List.length_append,←H.out.sr.ln,←H'.out.sr.ln]) (by unfold reach;omega) (fun x hx=>by
  rcases List.mem_append.1 hx with hx|hx
  ·exact(H.out.ok x hx).step N2.out.bel
  ·exact(H'.out.ok x hx).step N2.out.bel)
 have HS:=qD hs
 have Z2:=qD N2.out.bel
 clear hs N0 N1 N2 hw1
 go_wp2_with fail
 refine(rnormal_any (is++js) A2 (n+n') c2 _ HS.out (by omega)).mono ?_
 rintro e w3 ⟨A3,m3,c3,ys,q,rfl,he,hn3,hm3,hs3,hb3⟩
 have HE:=qD he
 have HN:Hid (IsNF (fun a=>inS cmC a (spansL (is.map ivP))∨inS cmC a (spansL (js.map ivP))) q):=⟨hn3.1,fun a=>by
  rw[hn3.2 a,List.map_append,spansL_app]
  exact inS_app⟩
 have HM:=qD hm3
 have HS3:=qD hs3
 have Z3:=qD (Z2.out.step' hb3)
 clear he hn3 hm3 hs3 hb3
 go_wp2_with fail
 go_ret
 exact⟨A3,m3,c3,ys,q,rfl,HE.out,HN.out,HM.out,HS3.out,Z3.out⟩
def ptI(p:PV):PI:=((p,p),(true,true))
section
variable {w1 w2:World} {g:Nat} {n:List (Cut×Cut)} {j:Nat} {v:Value} {gs:List PI} {f:PC} {wr w':World}
end
theorem leafS_some{op n:Int}{arg:Val}{args:List Val}{r:List Iv×Bool}(h:leafI op arg args n=some r):leafS op arg args n=(fun a=>inS cmC a (spansL r.1),r.2):=by unfold leafS;rw[h]
theorem leafS_none{op n:Int}{arg:Val}{args:List Val}(h:leafI op arg args n=none):leafS op arg args n=(allS,false):=by unfold leafS;rw[h]
theorem leafI_eq{n:Int}{arg:Val}{args:List Val}(h:arg.k≠6):leafI 2 arg args n=some ([ptIv arg],decide (arg.k≠2)):=by
 unfold leafI
 rw[if_pos rfl,if_neg h]
theorem leafI_eq6{n:Int}{arg:Val}{args:List Val}(h:arg.k=6):leafI 2 arg args n=none:=by
 unfold leafI
 rw[if_pos rfl,if_pos h]
theorem leafI_cmp{op n:Int}{arg:Val}{args:List Val}(ho:op=4∨op=5∨op=6∨op=7)(h:arg.k≠6):leafI op arg args n=some ([limI op arg],decide (arg.k≠2)):=by
 unfold leafI
 rw[if_neg (by omega),if_pos ho,if_neg h]
theorem leafI_cmp6{op n:Int}{arg:Val}{args:List Val}(ho:op=4∨op=5∨op=6∨op=7)(h:arg.k=6):leafI op arg args n=none:=by
 unfold leafI
 rw[if_neg (by omega),if_pos ho,if_pos h]
theorem leafI_in{n:Int}{arg:Val}{args:List Val}(h:¬∃x∈args,x.k=6):leafI 8 arg args n=some (args.map ptIv,decide (¬∃x∈args,x.k=2)):=by
 unfold leafI
 rw[if_neg (by omega),if_neg (by omega),if_pos rfl,if_neg h]
theorem leafI_in6{n:Int}{arg:Val}{args:List Val}(h:∃x∈args,x.k=6):leafI 8 arg args n=none:=by
 unfold leafI
 rw[if_neg (by omega),if_neg (by omega),if_pos rfl,if_pos h]
theorem leafI_pre{n:Int}{arg:Val}{args:List Val}:leafI 16 arg args n=some ([(preI arg).1],(preI arg).2):=by
 unfold leafI
 rw[if_neg (by omega),if_neg (by omega),if_neg (by omega),if_pos rfl]
theorem leafI_kind{n:Int}{arg:Val}{args:List Val}(h:n≠6):leafI 11 arg args n=some ([rangeI n],decide (n≠2)):=by
 unfold leafI
 rw[if_neg (by omega),if_neg (by omega),if_neg (by omega),if_neg (by omega),if_pos rfl,if_neg h]
theorem leafI_kind6{arg:Val}{args:List Val}:leafI 11 arg args 6=none:=by
 unfold leafI
 rw[if_neg (by omega),if_neg (by omega),if_neg (by omega),if_neg (by omega),if_pos rfl,if_pos rfl]
theorem leafI_other{op n:Int}{arg:Val}{args:List Val}(h:op≠2∧op≠4∧op≠5∧op≠6∧op≠7∧op≠8∧op≠16∧op≠11):leafI op arg args n=none:=by
 unfold leafI
 rw[if_neg (by omega),if_neg (by omega),if_neg (by omega),if_neg (by omega),if_neg (by omega)]
abbrev cLf(k n:Int)(t:ByteArray):VC:=⟨k,n,t,none,0,0,none,0,0⟩
theorem rw_leaf(w:World)(k n:Int){t:ByteArray}(h:t.size≤reach):RW w (cLf k n t) (.mk k n t [] []):=
 RVs.shut ⟨rfl,rfl,rfl,h,rfl,qL,by show 0*80≤reach;decide,fun h=>absurd h (by show ¬0<0;omega),rfl,qL,by show 0*96≤reach;decide,fun h=>absurd h (by show ¬0<0;omega)⟩
end Go.Proofs.YtfkdihlbaghajaaGreatDoor
