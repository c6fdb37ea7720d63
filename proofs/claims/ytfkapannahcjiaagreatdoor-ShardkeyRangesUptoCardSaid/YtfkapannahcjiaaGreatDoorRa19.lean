/- Parts of the proof, joined: IvMerged, IvMergedWalk, ValOpen, IvCopy. -/
import Derived.Test.YtfkapannahcjiaaGreatDoorRa1
import Derived.Test.YtfkapannahcjiaaGreatDoorRa17
import Derived.Test.YtfkapannahcjiaaGreatDoorRa18
import Derived.Test.YtfkapannahcjiaaGreatDoorRa2
import Derived.Laws.OwnMore
import Derived.Lib.SmallJoins
import Derived.ProofKit
import Derived.OpenShut
import Derived.Deep.Slices
set_option maxRecDepth 100000
set_option maxHeartbeats 16000000
set_option linter.unusedSimpArgs false
namespace Go.Proofs.YtfkapannahcjiaaGreatDoor
open Go.RowKit
theorem ordSp:Ordered (fun p q:PS=>cmC (spP p).1 (spP q).1):=⟨fun _ _=>lin_cut.anti _ _,fun _ _ _=>lin_cut.tr _ _ _⟩
theorem cloneSp_any(xs:List PS)(A:Option Addr)(n c:Nat)(w:World)(h:SS w A n c xs)(hn:n≤1000000000):
 Calls Tryz.prog 144 #[.slice A n c] w fun e w'=>∃v,e=.returned v∧w'.ownsRow w.heap.size 127 12 v n (flat recS xs)∧Below w.heap.size w w':=by
 obtain⟨j0,hj0,hy0,hy1,hy2⟩:=info_parts info_span
 have HL:=qD h.sr.ln
 cases A with
 | none=>
  have h0:n=0:=by
   rcases Nat.eq_zero_or_pos n with h0|h0
   ·exact h0
   ·obtain⟨b,off,e,_⟩:=h.sr.el h0;cases e
  subst h0
  have HX:Hid (xs=[]):=List.eq_nil_of_length_eq_zero HL.out.symm
  clear h
  have kn:=fun(w:World)=>Lib.run_eql_slice_nil (P:=Tryz.prog) w 123 127 none 0 c 0 0 Tryz.underlying123
  go_enter Tryz.func144,Tryz.ntmps144
  go_wp2_with fail
  go_ret
  exact⟨_,rfl,by rw[HX.out];exact own_nil _ _ _ _,Below.refl _ _⟩
 | some ad=>
  have hR:Reads w w.heap.size 12 (some ad) n (flat recS xs):=by
   refine⟨by rw[flat_length recS_length,HL.out],fun hp=>?_⟩
   obtain⟨b,off,e,hb,hel⟩:=h.sr.el hp
   cases e
   refine⟨_,rfl,hb,fun j u hu=>?_⟩
   have hj:=(List.getElem?_eq_some_iff.1 hu).1
   rw[flat_length recS_length] at hj
   obtain⟨a,v,g1,g2,g3⟩:=flat_at' recS_length (by omega) xs j hj
   have:=hel (j/12) a g1 (j%12) v g2
   rw[addr_add]
   rw[g3] at hu
   cases hu
   rw[show off+j=off+j/12*12+j%12 by omega]
   exact this
  have HR:=qD hR
  have hO:(w.alloc (.cells #[] 127)).ownsRow w.heap.size 127 12 (.slice (some ⟨w.heap.size,0,none⟩) 0 0) 0 []:=
   ⟨rfl,.inr ⟨w.heap.size,0,#[],rfl,qL,Blk.new_at rfl,qL,Nat.zero_le _,rfl,rfl⟩⟩
  have HO:=qD hO
  have h1:∀u∈flat recS xs,u.oneCell'=true:=by
   intro u hu
   obtain⟨p,_,hp⟩:=List.mem_flatMap.1 hu
   exact recS_one p u hp
  have H1:=qD h1
  clear h hR hO h1
  have kn:=fun(w:World)=>Lib.run_eql_slice_nil (P:=Tryz.prog) w 123 127 (some ad) n c 0 0 Tryz.underlying123
  go_enter Tryz.func144,Tryz.ntmps144
  go_wp2_with (at_builtin;refine wpList_append_any _ rfl _ _ 123 rfl w.heap.size 127 j0 (aggS (((VC.zero,Val.zero),false),((VC.zero,Val.zero),false))) 12 176 Tryz.underlying123 hj0 hy0 hy1 hy2 rfl (by decide) (.slice (some ⟨w.heap.size,0,none⟩) 0 0) 0 [] rfl HO.out w.heap.size (some ad) n c (flat recS xs) rfl (HR.out.alloc (qL) _) H1.out (by unfold maxLen;omega) (by omega) (by simp) ?_)
  intro v' w2 hown hg _
  go_wp2_with fail
  go_ret
  refine⟨v',rfl,by simpa using hown,?_⟩
  exact((Below.refl w.heap.size w).alloc (qL) _).grown hg (by simp) (fun k hk=>by simp[Value.ownBlock] at hk;omega)
theorem isortSp_nil(w:World):Calls Tryz.prog 207 #[.slice none 0 0,.int .i64 0,.int .i64 0,.func (.func 146) #[] #[]] w fun e w'=>e=.returned (.tuple #[])∧w=w':=by
 go_enter Tryz.func207,Tryz.ntmps207
 go_wp2_with fail
 go_loopw [8] (fun v8 wr=>v8=.int .i64 1∧wr=w) (fun _ _=>0)
 case atStart=>exact⟨rfl,rfl⟩
 case round=>
  obtain⟨rfl,rfl⟩:=hrel
  go_wp2_with fail
  go_end0
  exact⟨rfl,rfl⟩
theorem stableSp_nil(w:World):Calls Tryz.prog 179 #[.slice none 0 0,.int .i64 0,.func (.func 146) #[] #[]] w fun e w'=>e=.returned (.tuple #[])∧w=w':=by
 go_enter Tryz.func179,Tryz.ntmps179
 go_wp2_with fail
 go_loop [7,8] (fun v7 v8=>v7=.int .i64 0∧v8=.int .i64 20) (fun _ _=>0)
 case atStart=>exact⟨rfl,rfl⟩
 case round=>
  obtain⟨rfl,rfl⟩:=hrel
  go_wp2_with fail
  refine(isortSp_nil _).mono ?_
  rintro e w1 ⟨rfl,rfl⟩
  go_wp2_with fail
  go_loop [6] (fun v6=>v6=.int .i64 20) (fun _=>0)
  case atStart=>rfl
  case round=>
   subst hrel
   go_wp2_with fail
   go_end0
   exact⟨rfl,rfl⟩
theorem sortSp_nil(w:World):Calls Tryz.prog 145 #[.slice none 0 0,.func (.func 146) #[] #[]] w fun e w'=>e=.returned (.tuple #[])∧w=w':=by
 go_enter Tryz.func145,Tryz.ntmps145
 go_wp2_with fail
 refine(stableSp_nil _).mono ?_
 rintro e w1 ⟨rfl,rfl⟩
 go_wp2_with fail
 go_end0
 exact⟨rfl,rfl⟩
theorem sortSp_any(L:List (PS×Nat))(g n c:Nat)(w:World)(hr:SRowSp w g L)(hn:n=L.length)(hz:n*176≤reach)(ht:Tagged L)(hc:CmpOkSp g w L):
 Calls Tryz.prog 145 #[.slice (some ⟨g,0,none⟩) n c,.func (.func 146) #[] #[]] w (IsDoneSp g w [] L []):=by
 have HR:=qD hr
 have HN:=qD hn
 have HT:=qD ht
 have HC:=qD hc
 have HZ:=qD hz
 clear hr hn ht hc hz
 go_enter Tryz.func145,Tryz.ntmps145
 go_wp2_with fail
 refine(stableSp_any ordSp L g n c _ HR.out HN.out HZ.out HT.out HC.out).mono ?_
 rintro e w1 hd
 have HD:=qD hd
 obtain⟨rfl,_⟩:=hd
 go_wp2_with fail
 go_end0
 exact HD.out
def SortedBy(xs ys:List PS):Prop:=ys.Perm xs∧ys.Pairwise fun p q=>cmC (spP p).1 (spP q).1≤0
theorem SortedBy.of{xs:List PS}{S:List (PS×Nat)}(h:Sorted (fun p q:PS=>cmC (spP p).1 (spP q).1) (tagFrom 0 xs) S):SortedBy xs (S.map Prod.fst):=by
 refine⟨?_,?_⟩
 ·have:=h.perm.map Prod.fst
  rwa [tagFrom_map] at this
 ·rw[List.pairwise_map]
  refine h.ord.imp fun {a b} hab=>?_
  have hab':cmC (spP a.1).1 (spP b.1).1<0∨cmC (spP a.1).1 (spP b.1).1=0∧a.2<b.2:=hab
  omega
theorem SortedBy.merge{xs ys:List PS}(h:SortedBy xs ys)(hne:∀x∈xs,cmC (spP x).1 (spP x).2<0∧VC1 (spP x).1∧VC1 (spP x).2):
 IsNF (fun a=>inS cmC a (xs.map spP)) (mergeS cmC (ys.map spP))∧(mergeS cmC (ys.map spP)).length≤xs.length:=by
 have h1:∀s∈ys.map spP,cmC s.1 s.2<0∧VC1 s.1∧VC1 s.2:=by
  intro s hs
  obtain⟨x,hx,rfl⟩:=List.mem_map.1 hs
  exact hne x (h.1.subset hx)
 have h2:(ys.map spP).Pairwise fun s t=>cmC s.1 t.1≤0:=by rw[List.pairwise_map];exact h.2
 have hm:=mergeS_ok lin_cut h1 h2
 refine⟨⟨hm.nf,fun a=>by rw[hm.mem];exact inS_perm (h.1.map spP)⟩,?_⟩
 have:=mergeS_len (cm:=cmC) (ys.map spP)
 have hl:=h.1.length_eq
 simp only[List.length_map] at this
 omega
theorem SRowSp.of_own{w:World}{base g n cap:Nat}{xs:List PS}(h:w.ownsRow base 127 12 (.slice (some ⟨g,0,none⟩) n cap) n (flat recS xs)):SRowSp w g (tagFrom 0 xs):=by
 rcases h.2 with⟨h',_⟩|⟨g',cap',cur,h',_,hg,_,_,_,htake⟩
 ·simp at h'
 ·simp only[Value.slice.injEq,Option.some.injEq,Addr.mk.injEq,and_true,true_and] at h'
  obtain⟨rfl,rfl⟩:=h'
  have e:flat recTSp (tagFrom 0 xs)=flat recS xs:=by
   have:∀k,flat recTSp (tagFrom k xs)=flat recS xs:=by
    intro k
    clear hg htake h
    induction xs generalizing k with
    | nil=>rfl
    | cons x r ih=>
     have e1:flat recTSp (tagFrom k (x::r))=recS x++flat recTSp (tagFrom (k+1) r):=rfl
     rw[e1,ih];rfl
   exact this 0
  refine⟨cur.toList.drop (n*12),?_⟩
  show w.heap[g]?=_
  rw[hg,e,←htake,List.take_append_drop]
theorem SRowSp.reads{w:World}{g n cap:Nat}{L:List (PS×Nat)}(h:SRowSp w g L)(hn:n=L.length)(hc:n≤cap):SR 12 recS w (some ⟨g,0,none⟩) n cap (L.map Prod.fst):=by
 refine⟨by rw[List.length_map,hn],hc,fun _=>⟨g,0,rfl,h.lt,fun i a hi j v hj=>?_⟩⟩
 rw[List.getElem?_map] at hi
 obtain⟨p,hp,rfl⟩:=Option.map_eq_some_iff.1 hi
 rw[Nat.zero_add]
 exact h.cell hp j v hj
structure MgI(w w2:World)(S:List PS)(i:Nat)(v:Value)(cs:List PS)(wr:World):Prop where
 own:wr.ownsRow w2.heap.size 127 12 v cs.length (flat recS cs)
 eq:cs.map spP=mergeS cmC ((S.take i).map spP)
 le:cs.length≤i
 ok:∀x∈cs,okS w x
 pr:∀x∈cs,(∃y∈S,x.1=y.1)∧∃y∈S,x.2=y.2
 bel:Below w2.heap.size w2 wr
section
variable {w w2:World} {S:List PS} {i:Nat} {v:Value} {cs:List PS} {wr w':World}
theorem MgI.step(h:MgI w w2 S i v cs wr)(hb:Below wr.heap.size wr w'):MgI w w2 S i v cs w':=⟨own_step h.own hb,h.eq,h.le,h.ok,h.pr,h.bel.step' hb⟩
theorem stepS_app{α:Type}{cm:α→α→Int}{c:List (α×α)}{s:α×α}(h:c=[]∨∃d l,c=d++[l]∧cm l.2 s.1<0):stepS cm c s=c++[s]:=by
 rcases h with rfl|⟨d,l,rfl,h⟩
 ·rfl
 ·unfold stepS
  have e0:(d++[l]).getLast?=some l:=by simp
  rw[e0];simp only;rw[if_pos h]
theorem stepS_up{α:Type}{cm:α→α→Int}{d:List (α×α)}{l s:α×α}(h1:¬cm l.2 s.1<0)(h2:cm l.2 s.2<0):stepS cm (d++[l]) s=d++[(l.1,s.2)]:=by
 unfold stepS
 have e0:(d++[l]).getLast?=some l:=by simp
 rw[e0];simp only;rw[if_neg h1,if_pos h2,List.dropLast_concat]
theorem stepS_no{α:Type}{cm:α→α→Int}{d:List (α×α)}{l s:α×α}(h1:¬cm l.2 s.1<0)(h2:¬cm l.2 s.2<0):stepS cm (d++[l]) s=d++[l]:=by
 unfold stepS
 have e0:(d++[l]).getLast?=some l:=by simp
 rw[e0];simp only;rw[if_neg h1,if_neg h2]
theorem MgI.same(h:MgI w w2 S i v cs wr){p:PS}(hp:S[i]?=some p)(hs:stepS cmC (cs.map spP) (spP p)=cs.map spP):MgI w w2 S (i+1) v cs wr:=by
 refine⟨h.own,?_,by have:=h.le;omega,h.ok,h.pr,h.bel⟩
 rw[take_snoc' hp,List.map_append,List.map_singleton,mergeS_snoc,←h.eq,hs]
theorem MgI.add(h:MgI w w2 S i v cs wr){p:PS}(hp:S[i]?=some p)(hs:stepS cmC (cs.map spP) (spP p)=cs.map spP++[spP p])(hok:okS w p){v':Value}{m:Nat}(hg:wr.grownBy w' v.ownBlock)(hm:m=cs.length+1)(ho:w'.ownsRow w2.heap.size 127 12 v' m (flat recS cs++recS p)):MgI w w2 S (i+1) v' (cs++[p]) w':=by
 subst hm
 refine⟨?_,?_,by have:=h.le;simp;omega,fun x hx=>?_,fun x hx=>?_,h.bel.grown hg h.bel.size (own_ge h.own)⟩
 ·rw[flat_snoc,List.length_append];exact ho
 ·rw[take_snoc' hp,List.map_append (l₁:=S.take i),List.map_singleton,mergeS_snoc,←h.eq,hs,List.map_append]
  rfl
 ·rcases List.mem_append.1 hx with hx|hx
  ·exact h.ok x hx
  ·simp at hx;subst hx;exact hok
 ·rcases List.mem_append.1 hx with hx|hx
  ·exact h.pr x hx
  ·simp at hx;subst hx;exact⟨⟨x,List.mem_of_getElem? hp,rfl⟩,x,List.mem_of_getElem? hp,rfl⟩
end
abbrev setC(w:World)(g off:Nat)(q:PC):World:=(setV w g off q.1.1).setCell ⟨g,off+5,none⟩ (.bool q.2)
theorem own_setC{w:World}{base g n cap:Nat}{t:TypeId}{xs:List Value}(h:w.ownsRow base t 12 (.slice (some ⟨g,0,none⟩) n cap) n xs)(off:Nat)(q:PC):
 (setC w g off q).ownsRow base t 12 (.slice (some ⟨g,0,none⟩) n cap) n (setList xs off (recK q)):=by
 have h1:=(h.stored off (.int .i64 q.1.1.k)).1
 have h2:=(h1.stored (off+1) (.int .i64 q.1.1.n)).1
 have h3:=(h2.stored (off+2) (.string q.1.1.t)).1
 have h4:=(h3.stored (off+3) (.slice q.1.1.LA q.1.1.ln q.1.1.lc)).1
 have h5:=(h4.stored (off+4) (.slice q.1.1.DA q.1.1.dn q.1.1.dc)).1
 exact(h5.stored (off+5) (.bool q.2)).1
theorem flat_to(d:List PS)(l:PS)(q:PC):setList (flat recS (d++[l])) (d.length*12+6) (recK q)=flat recS (d++[(l.1,q)]):=by
 have e1:flat recS (d++[l])=(flat recS d++recK l.1)++recK l.2:=by rw[flat_snoc];simp[recS]
 have hl:(flat recS d++recK l.1).length=d.length*12+6:=by rw[List.length_append,flat_length recS_length,recK_length]
 rw[setList_eq _ _ _ (by rw[e1,List.length_append,hl,recK_length,recK_length];omega),e1,←hl,List.take_left,recK_length,List.drop_of_length_le (by rw[List.length_append,recK_length];omega),List.append_nil,flat_snoc]
 simp[recS]
theorem below_setC{B:Nat}{a w:World}(h:Below B a w){b:Nat}(hB:B≤b)(off:Nat)(q:PC):Below B a (setC w b off q):=(below_setV h hB off q.1.1).setCell hB _
theorem MgI.put{w w2:World}{S:List PS}{i g n cap:Nat}{d:List PS}{l p:PS}{wr:World}(h:MgI w w2 S i (.slice (some ⟨g,0,none⟩) n cap) (d++[l]) wr)(hp:S[i]?=some p)(hs:stepS cmC ((d++[l]).map spP) (spP p)=(d++[(l.1,p.2)]).map spP)(hok:okS w p)(hn:n=d.length+1):MgI w w2 S (i+1) (.slice (some ⟨g,0,none⟩) n cap) (d++[(l.1,p.2)]) (setC wr g (d.length*12+6) p.2):=by
 have ho:=h.own
 have hl:(d++[l]).length=n:=by rw[hn];simp
 rw[hl] at ho
 refine⟨?_,?_,by have:=h.le;simp at this ⊢;omega,fun x hx=>?_,fun x hx=>?_,below_setC h.bel (own_ge h.own g rfl) _ _⟩
 ·rw[←flat_to d l p.2,show(d++[(l.1,p.2)]).length=n by rw[hn];simp]
  exact own_setC ho _ _
 ·rw[take_snoc' hp,List.map_append (l₁:=S.take i),List.map_singleton,mergeS_snoc,←h.eq,hs]
 ·rcases List.mem_append.1 hx with hx|hx
  ·exact h.ok x (by simp[hx])
  ·simp at hx;subst hx;exact⟨(h.ok l (by simp)).1,hok.2⟩
 ·rcases List.mem_append.1 hx with hx|hx
  ·exact h.pr x (by simp[hx])
  ·simp at hx;subst hx;exact⟨(h.pr l (by simp)).1,p,List.mem_of_getElem? hp,rfl⟩
structure MgB(w w2:World)(S:List PS)(i:Nat)(v:Value)(cs:List PS)(g:Nat)(p:PS)(wr:World):Prop where
 i:MgI w w2 S i v cs wr
 b5:Blk wr g 127 (arrS p)
theorem MgB.step{w w2:World}{S:List PS}{i:Nat}{v:Value}{cs:List PS}{g:Nat}{p:PS}{wr w':World}(h:MgB w w2 S i v cs g p wr)(hb:Below wr.heap.size wr w'):MgB w w2 S i v cs g p w':=⟨h.i.step hb,h.b5.step hb⟩
def MgOk(xs:List PS)(w:World)(e:Ending)(w':World):Prop:=
 ∃(A:Option Addr) (m c:Nat) (ys:List PS),e=.returned (.slice A m c)∧(∃S,SortedBy xs S∧ys.map spP=mergeS cmC (S.map spP))∧(∀y∈ys,(∃x∈xs,y.1=x.1)∧∃x∈xs,y.2=x.2)∧(∀b off,A=some ⟨b,off,none⟩→w.heap.size≤b)∧SS w' A m c ys∧m≤xs.length∧Below w.heap.size w w'
theorem merged_any(xs:List PS)(A:Option Addr)(n c:Nat)(w:World)(h:SS w A n c xs)(hn:n≤1000000000):
 Calls Tryz.prog 111 #[.slice A n c] w (MgOk xs w):=by
 obtain⟨j0,hj0,hy0,hy1,hy2⟩:=info_parts info_span
 have H:=qD h
 have HL:=qD h.sr.ln
 clear h
 go_enter Tryz.func111,Tryz.ntmps111
 go_wp2_with fail
 refine(cloneSp_any xs A n c _ H.out hn).mono ?_
 rintro e w1 ⟨v1,rfl,hown,hb1⟩
 have HB1:=qD hb1
 obtain⟨A1,c1,rfl,hc1⟩:=own_slice hown
 have HO:=qD hown
 clear hown hb1
 have sorted:Hid (Calls Tryz.prog 145 #[.slice A1 n c1,.func (.func 146) #[] #[]] w1 fun e w'=>e=.returned (.tuple #[])∧∃S,SortedBy xs S∧SR 12 recS w' A1 n c1 S∧Below w.heap.size w w'):=by
  rcases HO.out.2 with⟨h',h0⟩|⟨g,cap,cur,h',hg,_⟩
  ·cases h'
   have hx:xs=[]:=List.eq_nil_of_length_eq_zero (by have:=HL.out;omega)
   refine qD ((sortSp_nil w1).mono ?_)
   rintro e w' ⟨rfl,rfl⟩
   exact⟨rfl,[],by rw[hx];exact⟨.nil,.nil⟩,SR.nil,HB1.out⟩
  ·cases h'
   refine qD ((sortSp_any (tagFrom 0 xs) g n c1 w1 (SRowSp.of_own HO.out) (by rw[tagFrom_length];exact HL.out) (by unfold reach;omega) (tagFrom_tagged _ _) ?_).mono ?_)
   ·intro x y hx hy wr hbt
    have okx:∀z∈tagFrom 0 xs,okS wr z.1:=by
     intro z hz
     have hz':z.1∈xs:=by
      have:=List.mem_map_of_mem (f:=Prod.fst) hz
      rwa [tagFrom_map] at this
     exact(H.out.ok z.1 hz').step (HB1.out.trans (hbt.below HB1.out.size hg))
    exact mcmp_any x.1 y.1 wr (okx x hx) (okx y hy)
   ·rintro e w' ⟨rfl,S,hS,hI⟩
    simp only[List.nil_append,List.append_nil] at hI
    have hl:n=S.length:=by rw[hS.perm.length_eq,tagFrom_length];exact HL.out
    exact⟨rfl,S.map Prod.fst,SortedBy.of hS,hI.row.reads hl hc1,HB1.out.trans (hI.but.below HB1.out.size hg)⟩
 go_wp2_with fail
 refine sorted.out.mono ?_
 rintro e w2 ⟨rfl,S,hS,hSR,hb2⟩
 clear sorted HO HB1 hc1
 have HS:=qD hS
 have HSR:=qD hSR
 have HB2:=qD hb2
 have HSL:Hid (n=S.length):=hSR.ln
 have hokS:∀x∈S,okS w x:=fun x hx=>H.out.ok x (hS.1.subset hx)
 have HOk:=qD hokS
 clear hS hSR hb2 hokS
 go_wp2_with fail
 go_loopw [3,13] (fun v3 v13 wr=>∃(i:Nat) (cs:List PS),i≤n∧v13=.int .i64 i∧MgI w w2 S i v3 cs wr) (fun _ v13 _=>n-(intOf v13).toNat)
 case atStart=>exact⟨0,[],Nat.zero_le _,rfl,⟨own_nil _ _ _ _,rfl,qL,by simp,by simp,Below.refl _ _⟩⟩
 case round=>
  obtain⟨i,cs,hi,rfl,I⟩:=hrel
  have J:=qD I
  by_cases hlt:i<n
  ·obtain⟨p,hp⟩:∃p,S[i]?=some p:=⟨_,List.getElem?_eq_getElem (by have:=HSL.out;omega)⟩
   obtain⟨b,off,rfl,hbl,hel⟩:=HSR.out.el (by omega)
   have hat:SAt w2 b (off+i*12) p:=sat_of fun j v hj=>hel i p hp j v hj
   have HP:=qD hp
   have HPk:=qD (HOk.out p (List.mem_of_getElem? hp))
   have hbr:b<wr.heap.size:=by have:=I.bel.size;omega
   have hle:=I.le
   obtain⟨⟨⟨p0,p1,p2,p3,p4⟩,p5⟩,⟨⟨q0,q1,q2,q3,q4⟩,q5⟩⟩:=hat.keep (I.bel.block b hbl)
   obtain⟨m,hm⟩:∃m,m=cs.length:=⟨_,rfl⟩
   obtain⟨A3,c3,hv3,hc3⟩:=own_slice I.own
   rw[←hm] at hv3 hc3 hle
   subst hv3
   have HM:=qD hm
   clear hp hat I hbl hel hm
   go_upto_region 8 with fail
   have KB:MgB w w2 S i (.slice A3 m c3) cs wr.heap.size p (wr.alloc (.cells (arrS p) 127)):=⟨J.out.step ((Below.refl wr.heap.size wr).alloc (qL) _),Blk.new_at rfl⟩
   change (Code.region 8 _ _).wp _ _ _ (wr.alloc (.cells (arrS p) 127))
   generalize wr.alloc (.cells (arrS p) 127)=wa at*
   generalize wr.heap.size=ga at*
   have LB:=qD KB
   clear p0 p1 p2 p3 p4 p5 q0 q1 q2 q3 q4 q5 J KB hbr
   rcases List.eq_nil_or_concat cs with hcs|⟨d,l,hcs⟩
   ·have hm1:decide ((m:Int)-1<0)=true:=decide_eq_true (by have:=HM.out;rw[hcs] at this;simp at this;omega)
    have HSt:Hid (stepS cmC (cs.map spP) (spP p)=cs.map spP++[spP p]):=qD (stepS_app (.inl (by rw[hcs];rfl)))
    clear hcs
    refine wp_region_bw (by kernel_rfl) (by kernel_rfl) ?_
    repeat(go_big_quiet_step (fail))
    refine wpQuiet_nil ?_
    rintro _ ⟨kw,rfl⟩
    have L1:=qD (LB.out.step kw.below)
    clear hm1 LB
    generalize kw.val=w3 at*
    obtain⟨⟨⟨p0,p1,p2,p3,p4⟩,p5⟩,⟨⟨q0,q1,q2,q3,q4⟩,q5⟩⟩:=SAt.of_blk L1.out.b5
    have hlo:w2.heap.size≤w3.heap.size:=L1.out.i.bel.size
    have LK:=qD (L1.out.i.step ((Below.refl w3.heap.size w3).alloc (qL) (Obj.cells (arrS p) 127)))
    have hown:(w3.alloc (.cells (arrS p) 127)).ownsRow w2.heap.size 127 12 (.slice A3 m c3) m (flat recS cs):=by have:=LK.out.own;rw[←HM.out] at this;exact this
    have HOw:=qD hown
    clear hown
    go_wp2_with (at_builtin;refine wpList_append_any _ rfl _ _ 123 rfl w2.heap.size 127 j0 (aggS (((VC.zero,Val.zero),false),((VC.zero,Val.zero),false))) 12 176 Tryz.underlying123 hj0 hy0 hy1 hy2 rfl (by decide) (.slice A3 m c3) m (flat recS cs) rfl HOw.out _ _ 1 _ (recS p) rfl ⟨rfl,fun _=>⟨_,rfl,Nat.lt_succ_self _,news_at _ _ _⟩⟩ (recS_one _) (by unfold maxLen;omega) (by omega) (by simp;omega) ?_)
    intro v' w4 hown hg _
    have HI:=qD (LK.out.add HP.out HSt.out HPk.out hg (by rw[HM.out]) hown)
    clear hown hg p0 p1 p2 p3 p4 p5 q0 q1 q2 q3 q4 q5
    go_wp2_with fail
    go_roundw
    case rel=>exact⟨i+1,cs++[p],by omega,by go_num,HI.out⟩
    case measure=>simp[intOf];omega
   ·rw[List.concat_eq_append] at hcs
    have hml:m=d.length+1:=by rw[HM.out,hcs];simp
    obtain⟨g,hA3⟩:∃g,A3=some ⟨g,0,none⟩:=by
     obtain⟨g,cap,hv,_⟩:=LB.out.i.own.form (by rw[hcs];simp)
     injection hv with hv
     exact⟨g,hv⟩
    subst hA3
    have hrow:CAt wa g ((m-1)*12+6) l.2:=by
     have ho:=LB.out.i.own
     rw[←HM.out] at ho
     refine cat_of fun j v hj=>?_
     have hlt:=(List.getElem?_eq_some_iff.1 hj).1
     rw[recK_length] at hlt
     rw[Nat.add_assoc,ho.cellAt _ (by omega)]
     refine flat_get recS_length (xs:=cs) (a:=l) (by rw[hcs,show m-1=d.length by omega];simp) ?_
     show(recK l.1++recK l.2)[6+j]?=some v
     rw[List.getElem?_append_right (by rw[recK_length];omega),recK_length,show 6+j-6=j by omega]
     exact hj
    have hokl:okS w l:=LB.out.i.ok l (by rw[hcs];simp)
    have HOl:=qD hokl
    have HML:=qD hml
    have HCS:=qD hcs
    have hwb:Hid (Below w.heap.size w wa):=qD (HB2.out.trans (LB.out.i.bel.mono HB2.out.size))
    obtain⟨⟨r0,r1,r2,r3,r4⟩,r5⟩:=hrow
    obtain⟨⟨⟨p0,p1,p2,p3,p4⟩,p5⟩,⟨⟨q0,q1,q2,q3,q4⟩,q5⟩⟩:=SAt.of_blk LB.out.b5
    have R0:∀k:BW wa,k.val.cell? ⟨g,(m-1)*12+6,none⟩=some (.int .i64 l.2.1.1.k):=fun k=>k.cell r0
    have R1:∀k:BW wa,k.val.cell? ⟨g,(m-1)*12+6+1,none⟩=some (.int .i64 l.2.1.1.n):=fun k=>k.cell r1
    have R2:∀k:BW wa,k.val.cell? ⟨g,(m-1)*12+6+2,none⟩=some (.string l.2.1.1.t):=fun k=>k.cell r2
    have R3:∀k:BW wa,k.val.cell? ⟨g,(m-1)*12+6+3,none⟩=some (.slice l.2.1.1.LA l.2.1.1.ln l.2.1.1.lc):=fun k=>k.cell r3
    have R4:∀k:BW wa,k.val.cell? ⟨g,(m-1)*12+6+4,none⟩=some (.slice l.2.1.1.DA l.2.1.1.dn l.2.1.1.dc):=fun k=>k.cell r4
    have R5:∀k:BW wa,k.val.cell? ⟨g,(m-1)*12+6+5,none⟩=some (.bool l.2.2):=fun k=>k.cell r5
    have P0:∀k:BW wa,k.val.cell? ⟨ga,0,none⟩=some (.int .i64 p.1.1.1.k):=fun k=>k.cell p0
    have P1:∀k:BW wa,k.val.cell? ⟨ga,1,none⟩=some (.int .i64 p.1.1.1.n):=fun k=>k.cell p1
    have P2:∀k:BW wa,k.val.cell? ⟨ga,2,none⟩=some (.string p.1.1.1.t):=fun k=>k.cell p2
    have P3:∀k:BW wa,k.val.cell? ⟨ga,3,none⟩=some (.slice p.1.1.1.LA p.1.1.1.ln p.1.1.1.lc):=fun k=>k.cell p3
    have P4:∀k:BW wa,k.val.cell? ⟨ga,4,none⟩=some (.slice p.1.1.1.DA p.1.1.1.dn p.1.1.1.dc):=fun k=>k.cell p4
    have P5:∀k:BW wa,k.val.cell? ⟨ga,5,none⟩=some (.bool p.1.2):=fun k=>k.cell p5
    have i0:(0:Int)≤(m:Int)-1:=by omega
    have i1:(m:Int)-1<(m:Int):=by omega
    have W2:((m:Int)-1).toNat=m-1:=by omega
    have hm1:decide ((m:Int)-1<0)=false:=decide_eq_false (by omega)
    have K1:Hid (∀k:BW wa,Calls Tryz.prog 147 #[aggK l.2,aggK p.1] k.val fun e w''=>e=.returned (.int .i64 (cmC (cutP l.2) (cutP p.1)))∧∃k:BW wa,w''=k.val):=fun k=>
     Calls.bw (compare_any l.2 p.1 k.val ((HOl.out.step hwb.out).2.step k.below) ((HPk.out.step hwb.out).1.step k.below))
    clear hcs hokl hml r0 r1 r2 r3 r4 r5 p0 p1 p2 p3 p4 p5 q0 q1 q2 q3 q4 q5
    refine wp_region_bw (by kernel_rfl) (by kernel_rfl) ?_
    repeat(go_big_quiet_step (with_reducible exact K1.out _))
    refine wpQuiet_nil ?_
    rintro _ ⟨kw,rfl⟩
    have L1:=qD (LB.out.step kw.below)
    clear R0 R1 R2 R3 R4 R5 P0 P1 P2 P3 P4 P5 K1 i0 i1 W2 hm1 LB hwb
    generalize kw.val=w3 at*
    by_cases hc:cmC (cutP l.2) (cutP p.1)<0
    ·have HSt:Hid (stepS cmC (cs.map spP) (spP p)=cs.map spP++[spP p]):=qD (stepS_app (.inr ⟨d.map spP,spP l,by rw[HCS.out,List.map_append];rfl,hc⟩))
     obtain⟨⟨⟨p0,p1,p2,p3,p4⟩,p5⟩,⟨⟨q0,q1,q2,q3,q4⟩,q5⟩⟩:=SAt.of_blk L1.out.b5
     have hlo:w2.heap.size≤w3.heap.size:=L1.out.i.bel.size
     have LK:=qD (L1.out.i.step ((Below.refl w3.heap.size w3).alloc (qL) (Obj.cells (arrS p) 127)))
     have hown:(w3.alloc (.cells (arrS p) 127)).ownsRow w2.heap.size 127 12 (.slice (some ⟨g,0,none⟩) m c3) m (flat recS cs):=by have:=LK.out.own;rw[←HM.out] at this;exact this
     have HOw:=qD hown
     clear hown
     go_wp2_with (at_builtin;refine wpList_append_any _ rfl _ _ 123 rfl w2.heap.size 127 j0 (aggS (((VC.zero,Val.zero),false),((VC.zero,Val.zero),false))) 12 176 Tryz.underlying123 hj0 hy0 hy1 hy2 rfl (by decide) (.slice (some ⟨g,0,none⟩) m c3) m (flat recS cs) rfl HOw.out _ _ 1 _ (recS p) rfl ⟨rfl,fun _=>⟨_,rfl,Nat.lt_succ_self _,news_at _ _ _⟩⟩ (recS_one _) (by unfold maxLen;omega) (by omega) (by simp;omega) ?_)
     intro v' w4 hown hg _
     have HI:=qD (LK.out.add HP.out HSt.out HPk.out hg (by rw[HM.out]) hown)
     clear hown hg p0 p1 p2 p3 p4 p5 q0 q1 q2 q3 q4 q5
     go_wp2_with fail
     go_roundw
     case rel=>exact⟨i+1,cs++[p],by omega,by go_num,HI.out⟩
     case measure=>simp[intOf];omega
    ·go_upto_region 10 with fail
     have hrow:CAt w3 g ((m-1)*12+6) l.2:=by
      have ho:=L1.out.i.own
      rw[←HM.out] at ho
      have hml:=HML.out
      refine cat_of fun j v hj=>?_
      have hlt:=(List.getElem?_eq_some_iff.1 hj).1
      rw[recK_length] at hlt
      rw[Nat.add_assoc,ho.cellAt _ (by omega)]
      refine flat_get recS_length (xs:=cs) (a:=l) (by rw[HCS.out,show m-1=d.length by omega];simp) ?_
      show(recK l.1++recK l.2)[6+j]?=some v
      rw[List.getElem?_append_right (by rw[recK_length];omega),recK_length,show 6+j-6=j by omega]
      exact hj
     have hwb:Hid (Below w.heap.size w w3):=qD (HB2.out.trans (L1.out.i.bel.mono HB2.out.size))
     obtain⟨⟨r0,r1,r2,r3,r4⟩,r5⟩:=hrow
     obtain⟨_,⟨⟨q0,q1,q2,q3,q4⟩,q5⟩⟩:=SAt.of_blk L1.out.b5
     have R0:∀k:BW w3,k.val.cell? ⟨g,(m-1)*12+6,none⟩=some (.int .i64 l.2.1.1.k):=fun k=>k.cell r0
     have R1:∀k:BW w3,k.val.cell? ⟨g,(m-1)*12+6+1,none⟩=some (.int .i64 l.2.1.1.n):=fun k=>k.cell r1
     have R2:∀k:BW w3,k.val.cell? ⟨g,(m-1)*12+6+2,none⟩=some (.string l.2.1.1.t):=fun k=>k.cell r2
     have R3:∀k:BW w3,k.val.cell? ⟨g,(m-1)*12+6+3,none⟩=some (.slice l.2.1.1.LA l.2.1.1.ln l.2.1.1.lc):=fun k=>k.cell r3
     have R4:∀k:BW w3,k.val.cell? ⟨g,(m-1)*12+6+4,none⟩=some (.slice l.2.1.1.DA l.2.1.1.dn l.2.1.1.dc):=fun k=>k.cell r4
     have R5:∀k:BW w3,k.val.cell? ⟨g,(m-1)*12+6+5,none⟩=some (.bool l.2.2):=fun k=>k.cell r5
     have Q0:∀k:BW w3,k.val.cell? ⟨ga,6,none⟩=some (.int .i64 p.2.1.1.k):=fun k=>k.cell q0
     have Q1:∀k:BW w3,k.val.cell? ⟨ga,7,none⟩=some (.int .i64 p.2.1.1.n):=fun k=>k.cell q1
     have Q2:∀k:BW w3,k.val.cell? ⟨ga,8,none⟩=some (.string p.2.1.1.t):=fun k=>k.cell q2
     have Q3:∀k:BW w3,k.val.cell? ⟨ga,9,none⟩=some (.slice p.2.1.1.LA p.2.1.1.ln p.2.1.1.lc):=fun k=>k.cell q3
     have Q4:∀k:BW w3,k.val.cell? ⟨ga,10,none⟩=some (.slice p.2.1.1.DA p.2.1.1.dn p.2.1.1.dc):=fun k=>k.cell q4
     have Q5:∀k:BW w3,k.val.cell? ⟨ga,11,none⟩=some (.bool p.2.2):=fun k=>k.cell q5
     have hml:=HML.out
     have i0:(0:Int)≤(m:Int)-1:=by omega
     have i1:(m:Int)-1<(m:Int):=by omega
     have W2:((m:Int)-1).toNat=m-1:=by omega
     have K1:Hid (∀k:BW w3,Calls Tryz.prog 147 #[aggK l.2,aggK p.2] k.val fun e w''=>e=.returned (.int .i64 (cmC (cutP l.2) (cutP p.2)))∧∃k:BW w3,w''=k.val):=fun k=>
      Calls.bw (compare_any l.2 p.2 k.val ((HOl.out.step hwb.out).2.step k.below) ((HPk.out.step hwb.out).2.step k.below))
     clear hml r0 r1 r2 r3 r4 r5 q0 q1 q2 q3 q4 q5
     refine wp_region_bw (by kernel_rfl) (by kernel_rfl) ?_
     repeat(go_big_quiet_step (with_reducible exact K1.out _))
     refine wpQuiet_nil ?_
     rintro _ ⟨kw,rfl⟩
     have L2:=qD (L1.out.step kw.below)
     clear R0 R1 R2 R3 R4 R5 Q0 Q1 Q2 Q3 Q4 Q5 K1 i0 i1 W2 L1 hwb
     generalize kw.val=w4 at*
     by_cases hd:cmC (cutP l.2) (cutP p.2)<0
     ·have hml:=HML.out
      have hst:stepS cmC ((d++[l]).map spP) (spP p)=(d++[(l.1,p.2)]).map spP:=by
       rw[List.map_append,List.map_append]
       exact stepS_up hc hd
      have HI:Hid (MgI w w2 S (i+1) (.slice (some ⟨g,0,none⟩) m c3) (d++[(l.1,p.2)]) (setC w4 g ((m-1)*12+6) p.2)):=by
       have h0:=L2.out.i
       rw[HCS.out] at h0
       have:=h0.put HP.out hst HPk.out hml
       rw[show d.length=m-1 by omega] at this
       exact qD this
      have ho:w4.ownsRow w2.heap.size 127 12 (.slice (some ⟨g,0,none⟩) m c3) m (flat recS cs):=by have:=L2.out.i.own;rw[←HM.out] at this;exact this
      have z:=ho.frozenAt
      have hrow:CAt w4 g ((m-1)*12+6) l.2:=by
       have ho:=L2.out.i.own
       rw[←HM.out] at ho
       have hml:=HML.out
       refine cat_of fun j v hj=>?_
       have hlt:=(List.getElem?_eq_some_iff.1 hj).1
       rw[recK_length] at hlt
       rw[Nat.add_assoc,ho.cellAt _ (by omega)]
       refine flat_get recS_length (xs:=cs) (a:=l) (by rw[HCS.out,show m-1=d.length by omega];simp) ?_
       show(recK l.1++recK l.2)[6+j]?=some v
       rw[List.getElem?_append_right (by rw[recK_length];omega),recK_length,show 6+j-6=j by omega]
       exact hj
      obtain⟨⟨r0,r1,r2,r3,r4⟩,r5⟩:=hrow
      obtain⟨_,⟨⟨q0,q1,q2,q3,q4⟩,q5⟩⟩:=SAt.of_blk L2.out.b5
      have i0:(0:Int)≤(m:Int)-1:=by omega
      have i1:(m:Int)-1<(m:Int):=by omega
      have W2:((m:Int)-1).toNat=m-1:=by omega
      clear ho hst hml
      go_upto_region 12 with fail
      clear r0 r1 r2 r3 r4 r5 q0 q1 q2 q3 q4 q5 z i0 i1 W2
      obtain⟨w5,hw5,HI5⟩:∃w5,setC w4 g ((m-1)*12+6) p.2=w5∧Hid (MgI w w2 S (i+1) (.slice (some ⟨g,0,none⟩) m c3) (d++[(l.1,p.2)]) w5):=⟨_,rfl,HI⟩
      unfold setC setV at hw5
      rw[hw5]
      clear hw5 HI
      go_wp2_with fail
      go_roundw
      case rel=>exact⟨i+1,d++[(l.1,p.2)],by omega,by go_num,HI5.out⟩
      case measure=>simp[intOf];omega
     ·have hst:stepS cmC (cs.map spP) (spP p)=cs.map spP:=by
       rw[HCS.out,List.map_append]
       exact stepS_no hc hd
      have HI:=qD (L2.out.i.same HP.out hst)
      clear hst
      go_wp2_with fail
      go_roundw
      case rel=>exact⟨i+1,cs,by omega,by go_num,HI.out⟩
      case measure=>simp[intOf];omega
  ·clear I
   go_wp2_with fail
   go_ret
   obtain⟨A',c',e,hs⟩:=SS.of_own J.out.own rfl (by have:=J.out.le;unfold reach;omega) (fun x hx=>(J.out.ok x hx).step (HB2.out.trans (J.out.bel.mono HB2.out.size)))
   refine⟨A',_,c',cs,by rw[←e];rfl,⟨S,HS.out,by rw[J.out.eq,List.take_of_length_le (by have:=HSL.out;omega)]⟩,fun y hy=>⟨by obtain⟨z,hz,e⟩:=(J.out.pr y hy).1;exact⟨z,HS.out.1.subset hz,e⟩,by obtain⟨z,hz,e⟩:=(J.out.pr y hy).2;exact⟨z,HS.out.1.subset hz,e⟩⟩,fun b off hA=>?_,hs,?_,HB2.out.trans (J.out.bel.mono HB2.out.size)⟩
   ·have h1:=J.out.own
    rw[e,hA] at h1
    have:=own_ge h1 b rfl
    have:=HB2.out.size
    omega
   ·have:=J.out.le
    have:=HL.out
    omega
open Go.ChangeShapes Go.WideShapes Go.ChangeAt Go.Joins Go.Deep
def Light{H:Type}(t:TypeId)(d:DataW H):Prop:=∀z∈d.weights Tryz.prog t,z≤reach0
theorem light_all{H:Type}{t:TypeId}{l:List (DataW H)}(h:∀z∈DataW.weightsAll Tryz.prog t l,z≤reach0):∀d∈l,Light t d:=by
 induction l with
 | nil=>intro d hd;simp at hd
 | cons x r ih=>
  intro d hd
  simp only[DataW.weightsAll,List.mem_append] at h
  rcases List.mem_cons.1 hd with rfl|hd
  ·exact fun z hz=>h z (.inl hz)
  ·exact ih (fun z hz=>h z (.inr hz)) d hd
theorem light_each{H:Type}{t:TypeId}{ts:List TypeId}{d:DataW H}{r:List (DataW H)}(h:(DataW.weightsEach Tryz.prog (t::ts) (d::r)).all (·≤reachBytes)=true):Light t d∧(DataW.weightsEach Tryz.prog ts r).all (·≤reachBytes)=true:=by
 simp only[DataW.weightsEach,List.all_append,Bool.and_eq_true] at h
 refine⟨fun z hz=>?_,h.2⟩
 have:=List.all_eq_true.1 h.1 z hz
 exact of_decide_eq_true this
theorem bytes_value:Tryz.prog.bytesOf 29=80:=by kernel_rfl
theorem bytes_field:Tryz.prog.bytesOf 59=96:=by kernel_rfl
theorem cells_value:Tryz.prog.cellsOf 29=5:=by kernel_rfl
theorem cells_field:Tryz.prog.cellsOf 59=6:=by kernel_rfl
theorem cells_int:Tryz.prog.cellsOf 3=1:=by kernel_rfl
theorem cells_string:Tryz.prog.cellsOf 9=1:=by kernel_rfl
theorem cells_list:Tryz.prog.cellsOf 26=1:=by kernel_rfl
theorem cells_doc:Tryz.prog.cellsOf 27=1:=by kernel_rfl
theorem five{α:Type}{l:List α}(h:l.length=5):∃a b c d e,l=[a,b,c,d,e]:=by
 match l,h with
 | [a,b,c,d,e],_=>exact⟨a,b,c,d,e,rfl⟩
theorem six{α:Type}{l:List α}(h:l.length=6):∃a b c d e f,l=[a,b,c,d,e,f]:=by
 match l,h with
 | [a,b,c,d,e,f],_=>exact⟨a,b,c,d,e,f,rfl⟩
theorem two{α:Type}{l:List α}(h:l.length=2):∃a b,l=[a,b]:=by
 match l,h with
 | [a,b],_=>exact⟨a,b,rfl⟩
section
variable {H:Type} {enc:TypeId×Value→H} {W:World} {base:Nat} {spare:Nat→Bool} {held:Bool}
theorem cells_at{a:Addr}{n:Nat}{cs:List Value}(h:W.cells? base a n=some cs)(hn:0<n):∃b off,a=⟨b,off,none⟩∧∀i,i<n→W.cell? ⟨b,off+i,none⟩=cs[i]?:=by
 obtain⟨_,hl,hat⟩:=World.cells?_some h
 obtain⟨b,off,spot⟩:=a
 have h0:=hat 0 hn
 rw[List.getElem?_eq_getElem (by omega)] at h0
 have hs:spot=none:=by simpa[Addr.add] using World.cell?_spot h0
 subst hs
 exact⟨b,off,rfl,fun i hi=>by rw[←addr_add];exact hat i hi⟩
def ReadsV(H:Type)(enc:TypeId×Value→H)(W:World)(base:Nat)(spare:Nat→Bool)(held:Bool)(n:Nat):Prop:=
 ∀(cs:List Value) (y:DataW H×List MemPlace),DataW.trod enc Tryz.prog W base spare held n 29 cs=some y→Light 29 y.1→∃c x,cs=c.list∧RW W c x
theorem choose_fn{α:Type}{p:Nat→α→Prop}(d:α)(len:Nat)(h:∀i,i<len→∃x,p i x):∃f:Nat→α,∀i,i<len→p i (f i):=by
 refine⟨fun i=>if h':i<len then(h i h').choose else d,fun i h'=>?_⟩
 simp only[dif_pos h']
 exact(h i h').choose_spec
theorem read_list(n:Nat){v:Value}{y:DataW H×List MemPlace}(ih:∀n',n'<n→ReadsV H enc W base spare held n')(h:DataW.trod enc Tryz.prog W base spare held n 26 [v]=some y)(hw:Light 26 y.1):
 ∃(LA:Option Addr) (ln lc:Nat) (l:List Val),v=.slice LA ln lc∧ln=l.length∧ln≤lc∧ln*80≤reach∧(0<ln→∃b off,LA=some ⟨b,off,none⟩∧∀(i:Nat) (y:Val),l[i]?=some y→∃e,VAt W b (off+i*5) e∧RW W e y):=by
 rcases DataW.trod_slice Tryz.underlying26 h with⟨hcs,_⟩|⟨a,len,cap,elems,rest,n',rfl,hcs,rfl,_,hlc,hcm,hel,hat,_,_⟩
 ·simp at hcs
  exact⟨none,0,0,[],hcs,rfl,qL,by decide,fun h=>absurd h (by omega)⟩
 ·simp at hcs
  subst hcs
  simp only[Light,DataW.weights,Tryz.underlying26,List.mem_cons,List.mem_append,bytes_value] at hw
  have hsz:len*80≤reach:=by
   have:=hw _ (.inl rfl)
   simp only[List.length_map,hel] at this
   have h2:len*80≤(len+rest.length)*80:=Nat.mul_le_mul_right _ (by omega)
   have:=le_reach
   omega
  have wl:=light_all (l:=elems.map (·.1)) (fun z hz=>hw z (.inr (.inl hz)))
  rcases Nat.eq_zero_or_pos len with h0|hp
  ·exact⟨some a,len,cap,[],rfl,h0,hlc,hsz,fun h=>absurd h (by omega)⟩
  have step:∀i,i<len→∃cs',W.cells? base (a.add (i*5)) 5=some cs'∧∃e x,cs'=VC.list e∧RW W e x:=by
   intro i hi
   have h1:=hat i hi
   rw[cells_value,List.getElem?_eq_getElem (by omega)] at h1
   obtain⟨cs',hcs',ht'⟩:=Option.bind_eq_some_iff.1 h1
   exact⟨cs',hcs',ih n' (by omega) cs' _ ht' (wl _ (List.mem_map_of_mem (List.getElem_mem _)))⟩
  obtain⟨cs0,h0,_⟩:=step 0 hp
  obtain⟨b,off,ha,_⟩:=cells_at h0 (by omega)
  have ha':a=⟨b,off,none⟩:=by simpa[Addr.add] using ha
  subst ha'
  obtain⟨f,hf⟩:=choose_fn (p:=fun i x=>∃e,VAt W b (off+i*5) e∧RW W e x) Val.zero len (fun i hi=>by
   obtain⟨cs',hcs',e,x,rfl,hx⟩:=step i hi
   rw[addr_add] at hcs'
   obtain⟨b',off',ha',hc⟩:=cells_at hcs' (by omega)
   injection ha' with e1 e2
   subst e1 e2
   exact⟨x,e,⟨hc 0 (by omega),hc 1 (by omega),hc 2 (by omega),hc 3 (by omega),hc 4 (by omega)⟩,hx⟩)
  refine⟨_,len,cap,(List.range len).map f,rfl,by simp,hlc,hsz,fun _=>⟨b,off,rfl,fun i y hi=>?_⟩⟩
  have hlt:i<len:=by have:=(List.getElem?_eq_some_iff.1 hi).1;simpa using this
  rw[List.getElem?_map,List.getElem?_range hlt] at hi
  simp only[Option.map_some,Option.some.injEq] at hi
  subst hi
  exact hf i hlt
theorem read_doc(n:Nat){v:Value}{y:DataW H×List MemPlace}(ih:∀n',n'<n→ReadsV H enc W base spare held n')(h:DataW.trod enc Tryz.prog W base spare held n 27 [v]=some y)(hw:Light 27 y.1):
 ∃(DA:Option Addr) (dn dc:Nat) (d:List Fld),v=.slice DA dn dc∧dn=d.length∧dn≤dc∧dn*96≤reach0∧(0<dn→∃b off,DA=some ⟨b,off,none⟩∧∀(i:Nat) (f:Fld),d[i]?=some f→W.cell? ⟨b,off+i*6,none⟩=some (.string f.s)∧f.s.size≤reach∧∃e,VAt W b (off+i*6+1) e∧RW W e f.v):=by
 rcases DataW.trod_slice Tryz.underlying27 h with⟨hcs,_⟩|⟨a,len,cap,elems,rest,n',rfl,hcs,rfl,_,hlc,hcm,hel,hat,_,_⟩
 ·simp at hcs
  exact⟨none,0,0,[],hcs,rfl,qL,by decide,fun h=>absurd h (by omega)⟩
 ·simp at hcs
  subst hcs
  simp only[Light,DataW.weights,Tryz.underlying27,List.mem_cons,List.mem_append,bytes_field] at hw
  have hsz:len*96≤reach0:=by
   have:=hw _ (.inl rfl)
   simp only[List.length_map,hel] at this
   have h2:len*96≤(len+rest.length)*96:=Nat.mul_le_mul_right _ (by omega)
   omega
  have wl:=light_all (l:=elems.map (·.1)) (fun z hz=>hw z (.inr (.inl hz)))
  rcases Nat.eq_zero_or_pos len with h0|hp
  ·exact⟨some a,len,cap,[],rfl,h0,hlc,hsz,fun h=>absurd h (by omega)⟩
  have step:∀i,i<len→∃cs',W.cells? base (a.add (i*6)) 6=some cs'∧∃(s:ByteArray) (e:VC) (x:Val),cs'=.string s::VC.list e∧s.size≤reach∧RW W e x:=by
   intro i hi
   have h1:=hat i hi
   rw[cells_field,List.getElem?_eq_getElem (by omega)] at h1
   obtain⟨cs',hcs',ht'⟩:=Option.bind_eq_some_iff.1 h1
   have hwi:=wl _ (List.mem_map_of_mem (List.getElem_mem (l:=elems) (n:=i) (by omega)))
   generalize elems[i]=q at*
   obtain⟨ys,n'',rfl,rfl,hcl,hyl,hf⟩:=DataW.trod_struct Tryz.underlying59 ht'
   rw[cells_field] at hcl
   obtain⟨v0,v1,v2,v3,v4,v5,rfl⟩:=six hcl
   obtain⟨y0,y1,rfl⟩:=two hyl
   have f0:DataW.trod enc Tryz.prog W base spare held n'' 9 [v0]=some y0:=by simpa[cells_string] using hf 0 _ rfl
   have f1:DataW.trod enc Tryz.prog W base spare held n'' 29 [v1,v2,v3,v4,v5]=some y1:=by simpa[cells_value] using hf 1 _ rfl
   obtain⟨s,e0,rfl,_⟩:=DataW.trod_string Tryz.underlying9 f0
   simp only[List.cons.injEq,and_true] at e0
   subst e0
   simp only[Light,DataW.weights,Tryz.underlying59,List.map,DataW.weightsEach,List.mem_append] at hwi
   obtain⟨e,x,he,hx⟩:=ih n'' (by omega) _ _ f1 (fun z hz=>hwi z (.inr (.inl hz)))
   refine⟨_,hcs',s,e,x,by rw[he],Nat.le_trans (hwi s.size (.inl (by simp))) le_reach,hx⟩
  obtain⟨cs0,h0,_⟩:=step 0 hp
  obtain⟨b,off,ha,_⟩:=cells_at h0 (by omega)
  have ha':a=⟨b,off,none⟩:=by simpa[Addr.add] using ha
  subst ha'
  obtain⟨f,hf⟩:=choose_fn (p:=fun i (f:Fld)=>W.cell? ⟨b,off+i*6,none⟩=some (.string f.s)∧f.s.size≤reach∧∃e,VAt W b (off+i*6+1) e∧RW W e f.v) (.mk ByteArray.empty Val.zero) len (fun i hi=>by
   obtain⟨cs',hcs',s,e,x,rfl,hs,hx⟩:=step i hi
   rw[addr_add] at hcs'
   obtain⟨b',off',ha',hc⟩:=cells_at hcs' (by omega)
   injection ha' with e1 e2
   subst e1 e2
   exact⟨.mk s x,hc 0 (by omega),hs,e,⟨hc 1 (by omega),hc 2 (by omega),hc 3 (by omega),hc 4 (by omega),hc 5 (by omega)⟩,hx⟩)
  refine⟨_,len,cap,(List.range len).map f,rfl,by simp,hlc,hsz,fun _=>⟨b,off,rfl,fun i y hi=>?_⟩⟩
  have hlt:i<len:=by have:=(List.getElem?_eq_some_iff.1 hi).1;simpa using this
  rw[List.getElem?_map,List.getElem?_range hlt] at hi
  simp only[Option.map_some,Option.some.injEq] at hi
  subst hi
  exact hf i hlt
theorem read_value_d:∀(fuel:Nat) (cs:List Value) (y:DataW H×List MemPlace),DataW.trod enc Tryz.prog W base spare held fuel 29 cs=some y→Light 29 y.1→∃c x,cs=c.list∧RW W c x∧c.dn*96≤reach0:=by
 intro fuel
 induction fuel using Nat.strongRecOn with
 | _ fuel ih=>
 intro cs y h hw
 obtain⟨ys,n,rfl,rfl,hcl,hyl,hf⟩:=DataW.trod_struct Tryz.underlying29 h
 rw[cells_value] at hcl
 obtain⟨v0,v1,v2,v3,v4,rfl⟩:=five hcl
 obtain⟨y0,y1,y2,y3,y4,rfl⟩:=five hyl
 have f0:DataW.trod enc Tryz.prog W base spare held n 3 [v0]=some y0:=by simpa[cells_int] using hf 0 _ rfl
 have f1:DataW.trod enc Tryz.prog W base spare held n 3 [v1]=some y1:=by simpa[cells_int] using hf 1 _ rfl
 have f2:DataW.trod enc Tryz.prog W base spare held n 9 [v2]=some y2:=by simpa[cells_string] using hf 2 _ rfl
 have f3:DataW.trod enc Tryz.prog W base spare held n 26 [v3]=some y3:=by simpa[cells_list] using hf 3 _ rfl
 have f4:DataW.trod enc Tryz.prog W base spare held n 27 [v4]=some y4:=by simpa[cells_doc] using hf 4 _ rfl
 obtain⟨k,e0,rfl,_⟩:=DataW.trod_int Tryz.underlying3 f0
 obtain⟨m,e1,rfl,_⟩:=DataW.trod_int Tryz.underlying3 f1
 obtain⟨t,e2,rfl,_⟩:=DataW.trod_string Tryz.underlying9 f2
 simp only[List.cons.injEq,and_true] at e0 e1 e2
 subst e0 e1 e2
 have hw':Light 9 (DataW.lit (H:=H) (.string t.data.toList))∧Light 26 y3.1∧Light 27 y4.1:=by
  simp only[Light,DataW.weights,Tryz.underlying29,List.map,DataW.weightsEach,List.mem_append] at hw
  refine⟨fun z hz=>hw z ?_,fun z hz=>hw z ?_,fun z hz=>hw z ?_⟩
  ·simp only[DataW.weights] at hz
   exact .inr (.inr (.inl hz))
  ·exact .inr (.inr (.inr (.inl hz)))
  ·exact .inr (.inr (.inr (.inr (.inl hz))))
 obtain⟨w2,w3,w4⟩:=hw'
 have htz:t.size≤reach:=Nat.le_trans (w2 t.size (by simp[DataW.weights])) le_reach
 have ih':∀n',n'<n+1→ReadsV H enc W base spare held n':=fun n' hn cs y h1 h2=>by
  obtain⟨c,x,e,r,_⟩:=ih n' (by omega) cs y h1 h2
  exact⟨c,x,e,r⟩
 obtain⟨LA,ln,lc,l,rfl,hl1,hl2,hl3,hl4⟩:=read_list n (fun n' hn=>ih' n' (by omega)) f3 w3
 obtain⟨DA,dn,dc,d,rfl,hd1,hd2,hd3,hd4⟩:=read_doc n (fun n' hn=>ih' n' (by omega)) f4 w4
 refine⟨⟨k,m,t,LA,ln,lc,DA,dn,dc⟩,.mk k m t l d,rfl,RVs.shut ⟨rfl,rfl,rfl,htz,hl1,hl2,hl3,fun hp=>?_,hd1,hd2,Nat.le_trans hd3 le_reach,fun hp=>?_⟩,hd3⟩
 ·obtain⟨b,off,e,h⟩:=hl4 hp
  exact⟨b,off,e,Ft.top,h⟩
 ·obtain⟨b,off,e,h⟩:=hd4 hp
  exact⟨b,off,e,Ft.top,h⟩
theorem read_value(fuel:Nat)(cs:List Value)(y:DataW H×List MemPlace)(h:DataW.trod enc Tryz.prog W base spare held fuel 29 cs=some y)(hl:Light 29 y.1):∃c x,cs=c.list∧RW W c x:=by
 obtain⟨c,x,e,r,_⟩:=read_value_d fuel cs y h hl
 exact⟨c,x,e,r⟩
end
def CopyOk(w:World)(x:Val)(e:Ending)(w':World):Prop:=∃c:VC,e=.returned c.val∧RV (fun b=>w.heap.size≤b) w' c x∧Below w.heap.size w w'
theorem rv_grown{lo:Nat}{v v':Value}{w3 w4:World}{o:Obj}{c:VC}{x:Val}(hr:RV (fun b=>lo≤b∧v.ownBlock≠some b) w3 c x)(hg:(w3.alloc o).grownBy w4 v.ownBlock)(hat:v'.ownBlock=v.ownBlock∨v'.ownBlock=some (w3.alloc o).heap.size):
 RV (fun b=>lo≤b∧v'.ownBlock≠some b) w4 c x:=hr.keepG fun b hb hl=>by
 have hl':b<(w3.alloc o).heap.size:=by simp;omega
 refine⟨⟨hb.1,fun e=>?_⟩,(hg.block b hl' (fun e=>hb.2 e.symm)).trans (Below.heap_alloc w3 o b hl)⟩
 rcases hat with h|h
 ·exact hb.2 (h▸e)
 ·rw[h] at e
  injection e with e
  omega
structure CyL(w:World)(c:VC)(l:List Val)(i:Nat)(A:Option Addr)(cap:Nat)(ps:List PV)(wr:World):Prop where
 b0:Blk wr w.heap.size 29 c.arr
 b1:Blk wr (w.heap.size+1) 29 VC.zero.arr
 b2:Blk wr (w.heap.size+1+1) 29 (VC.arr ⟨c.k,c.n,c.t,A,i,cap,none,0,0⟩)
 own:wr.ownsRow (w.heap.size+3) 29 5 (.slice A i cap) i (flat recV ps)
 eq:ps.map Prod.snd=l.take i
 el:∀p∈ps,RV (fun b=>w.heap.size+3≤b∧(Value.slice A i cap).ownBlock≠some b) wr p.1 p.2
 bel:Below w.heap.size w wr
theorem CyL.step{w:World}{c:VC}{l:List Val}{i:Nat}{A:Option Addr}{cap:Nat}{ps:List PV}{wr w':World}(h:CyL w c l i A cap ps wr)(hb:Below wr.heap.size wr w'):CyL w c l i A cap ps w':=
 ⟨h.b0.step hb,h.b1.step hb,h.b2.step hb,own_step h.own hb,h.eq,fun p hp=>(h.el p hp).step hb,h.bel.step' hb⟩
theorem CyL.next{w:World}{c u:VC}{l:List Val}{i:Nat}{A A':Option Addr}{cap cap':Nat}{ps:List PV}{w3 w4:World}{o:Obj}{y:Val}(h:CyL w c l i A cap ps w3)(hy:l[i]?=some y)(hu:RV (fun b=>w.heap.size+3≤b∧(Value.slice A i cap).ownBlock≠some b) w3 u y)(hg:(w3.alloc o).grownBy w4 (Value.slice A i cap).ownBlock)(hat:(Value.slice A' (i+1) cap').ownBlock=(Value.slice A i cap).ownBlock∨(Value.slice A' (i+1) cap').ownBlock=some (w3.alloc o).heap.size)(hown:w4.ownsRow (w.heap.size+3) 29 5 (.slice A' (i+1) cap') (i+1) (flat recV ps++recV (u,y))):
 CyL w c l (i+1) A' cap' (ps++[(u,y)]) (w4.setCell ⟨w.heap.size+1+1,3,none⟩ (.slice A' (i+1) cap')):=by
 have hne:∀b,b<w.heap.size+3→some b≠(Value.slice A i cap).ownBlock:=fun b hb e=>by have:=own_ge h.own b e.symm;omega
 have keep:∀b,b<w3.heap.size→some b≠(Value.slice A i cap).ownBlock→w4.heap[b]?=w3.heap[b]?:=fun b hb hn=>(hg.block b (by simp;omega) hn).trans (Below.heap_alloc w3 o b hb)
 have hz:=h.b2.lt
 have bl:∀{b:Nat} {cs:Array Value},Blk w3 b 29 cs→b<w.heap.size+3→Blk w4 b 29 cs:=fun hb hlt=>(keep _ hb.lt (hne _ hlt)).trans hb
 refine⟨(bl h.b0 (by omega)).far (by show w.heap.size≠w.heap.size+1+1;omega) _,(bl h.b1 (by omega)).far (by show w.heap.size+1≠w.heap.size+1+1;omega) _,(bl h.b2 (by omega)).set_ 3 _,?_,?_,fun p hp=>?_,?_⟩
 ·rw[flat_snoc]
  exact own_keep hown fun g hg=>Below.heap_setCell _ _ _ _ (by have:=own_ge hown g hg;show g≠w.heap.size+1+1;omega)
 ·rw[List.map_append,h.eq,take_snoc' hy];rfl
 ·have hr:RV (fun b=>w.heap.size+3≤b∧(Value.slice A' (i+1) cap').ownBlock≠some b) w4 p.1 p.2:=by
   rcases List.mem_append.1 hp with hp|hp
   ·exact rv_grown (h.el p hp) hg hat
   ·simp at hp;subst hp;exact rv_grown hu hg hat
  exact hr.keepG fun b hb _=>⟨hb,Below.heap_setCell _ _ _ _ (by show b≠w.heap.size+1+1;omega)⟩
 ·have h4:Below w.heap.size w w4:=(h.bel.alloc h.bel.size o).grown hg (by have:=h.bel.size;simp;omega) (fun k hk=>by have:=own_ge h.own k hk;omega)
  exact h4.setCell (by show w.heap.size≤w.heap.size+1+1;omega) _
structure CyD(w:World)(c:VC)(d:List Fld)(LA:Option Addr)(ln lc:Nat)(ps:List PV)(i:Nat)(A:Option Addr)(cap:Nat)(fs:List PF)(wr:World):Prop where
 b0:Blk wr w.heap.size 29 c.arr
 b1:Blk wr (w.heap.size+1) 29 VC.zero.arr
 b2:Blk wr (w.heap.size+1+1) 29 (VC.arr ⟨c.k,c.n,c.t,LA,ln,lc,A,i,cap⟩)
 sl:SL (fun b=>w.heap.size+3≤b∧(Value.slice A i cap).ownBlock≠some b) wr LA ln lc ps
 own:wr.ownsRow (w.heap.size+3) 59 6 (.slice A i cap) i (flat recF fs)
 eq:fs.map Prod.snd=d.take i
 sz:∀p∈fs,p.2.s.size≤reach
 el:∀p∈fs,RV (fun b=>w.heap.size+3≤b∧(Value.slice A i cap).ownBlock≠some b) wr p.1 p.2.v
 bel:Below w.heap.size w wr
theorem CyD.step{w:World}{c:VC}{d:List Fld}{LA:Option Addr}{ln lc:Nat}{ps:List PV}{i:Nat}{A:Option Addr}{cap:Nat}{fs:List PF}{wr w':World}(h:CyD w c d LA ln lc ps i A cap fs wr)(hb:Below wr.heap.size wr w'):CyD w c d LA ln lc ps i A cap fs w':=
 ⟨h.b0.step hb,h.b1.step hb,h.b2.step hb,h.sl.step hb,own_step h.own hb,h.eq,h.sz,fun p hp=>(h.el p hp).step hb,h.bel.step' hb⟩
theorem CyD.next{w:World}{c u:VC}{d:List Fld}{LA:Option Addr}{ln lc:Nat}{ps:List PV}{i:Nat}{A A':Option Addr}{cap cap':Nat}{fs:List PF}{w3 w4:World}{o:Obj}{f:Fld}(h:CyD w c d LA ln lc ps i A cap fs w3)(hy:d[i]?=some f)(hs:f.s.size≤reach)(hu:RV (fun b=>w.heap.size+3≤b∧(Value.slice A i cap).ownBlock≠some b) w3 u f.v)(hg:(w3.alloc o).grownBy w4 (Value.slice A i cap).ownBlock)(hat:(Value.slice A' (i+1) cap').ownBlock=(Value.slice A i cap).ownBlock∨(Value.slice A' (i+1) cap').ownBlock=some (w3.alloc o).heap.size)(hown:w4.ownsRow (w.heap.size+3) 59 6 (.slice A' (i+1) cap') (i+1) (flat recF fs++recF (u,f))):
 CyD w c d LA ln lc ps (i+1) A' cap' (fs++[(u,f)]) (w4.setCell ⟨w.heap.size+1+1,4,none⟩ (.slice A' (i+1) cap')):=by
 have hne:∀b,b<w.heap.size+3→some b≠(Value.slice A i cap).ownBlock:=fun b hb e=>by have:=own_ge h.own b e.symm;omega
 have keep:∀b,b<w3.heap.size→some b≠(Value.slice A i cap).ownBlock→w4.heap[b]?=w3.heap[b]?:=fun b hb hn=>(hg.block b (by simp;omega) hn).trans (Below.heap_alloc w3 o b hb)
 have hz:=h.b2.lt
 have bl:∀{b:Nat} {cs:Array Value},Blk w3 b 29 cs→b<w.heap.size+3→Blk w4 b 29 cs:=fun hb hlt=>(keep _ hb.lt (hne _ hlt)).trans hb
 refine⟨(bl h.b0 (by omega)).far (by show w.heap.size≠w.heap.size+1+1;omega) _,(bl h.b1 (by omega)).far (by show w.heap.size+1≠w.heap.size+1+1;omega) _,(bl h.b2 (by omega)).set_ 4 _,?_,?_,?_,fun p hp=>?_,fun p hp=>?_,?_⟩
 ·refine h.sl.keepG fun b hb hl=>⟨⟨hb.1,fun e=>?_⟩,?_⟩
  ·rcases hat with k|k
   ·exact hb.2 (k▸e)
   ·rw[k] at e;injection e with e;simp at e;omega
  ·rw[Below.heap_setCell _ _ _ _ (by show b≠w.heap.size+1+1;omega)]
   exact keep b hl (fun e=>hb.2 e.symm)
 ·rw[flat_snoc]
  exact own_keep hown fun g hg=>Below.heap_setCell _ _ _ _ (by have:=own_ge hown g hg;show g≠w.heap.size+1+1;omega)
 ·rw[List.map_append,h.eq,take_snoc' hy];rfl
 ·rcases List.mem_append.1 hp with hp|hp
  ·exact h.sz p hp
  ·simp at hp;subst hp;exact hs
 ·have hr:RV (fun b=>w.heap.size+3≤b∧(Value.slice A' (i+1) cap').ownBlock≠some b) w4 p.1 p.2.v:=by
   rcases List.mem_append.1 hp with hp|hp
   ·exact rv_grown (h.el p hp) hg hat
   ·simp at hp;subst hp;exact rv_grown hu hg hat
  exact hr.keepG fun b hb _=>⟨hb,Below.heap_setCell _ _ _ _ (by show b≠w.heap.size+1+1;omega)⟩
 ·have h4:Below w.heap.size w w4:=(h.bel.alloc h.bel.size o).grown hg (by have:=h.bel.size;simp;omega) (fun k hk=>by have:=own_ge h.own k hk;omega)
  exact h4.setCell (by show w.heap.size≤w.heap.size+1+1;omega) _
theorem CyD.start{w:World}{c:VC}{l:List Val}{d:List Fld}{i:Nat}{A:Option Addr}{cap:Nat}{ps:List PV}{wr:World}(h:CyL w c l i A cap ps wr)(hl:ps.length=i)(hz:i*80≤reach):CyD w c d A i cap ps 0 none 0 [] wr:=by
 have hS:=SL.of_own (F:=fun b=>w.heap.size+3≤b) h.own hl hz (fun _ hb=>hb) (fun p hp=>(h.el p hp).mono fun b hb=>hb.1)
 obtain⟨A',c',e,hs⟩:=hS
 cases e
 exact⟨h.b0,h.b1,h.b2,hs.mono fun b hb=>⟨hb,by simp[Value.ownBlock]⟩,own_nil _ _ _ _,rfl,by simp,by simp,h.bel⟩
theorem CyD.done{w:World}{c:VC}{x:Val}{LA:Option Addr}{ln lc:Nat}{ps:List PV}{i:Nat}{A:Option Addr}{cap:Nat}{fs:List PF}{wr:World}(h:CyD w c x.d LA ln lc ps i A cap fs wr)(hx:RW w c x)(hps:ps.map Prod.snd=x.l)(hi:i=x.d.length)(hz:i*96≤reach):
 CopyOk w x (.returned (VC.val ⟨c.k,c.n,c.t,LA,ln,lc,A,i,cap⟩)) (setV wr (w.heap.size+1) 0 ⟨c.k,c.n,c.t,LA,ln,lc,A,i,cap⟩):=by
 have hfl:fs.length=i:=by have:=congrArg List.length h.eq;rw[List.length_map,List.length_take] at this;omega
 obtain⟨A',c',e,hd⟩:=SD.of_own (F:=fun b=>w.heap.size+3≤b) h.own hfl hz (fun _ hb=>hb) h.sz (fun p hp=>(h.el p hp).mono fun b hb=>hb.1)
 cases e
 have ho:=hx.open
 have hr:=RV.of_slices (k:=c.k) (m:=c.n) (t:=c.t) (by rw[ho.t];exact ho.tsz) (h.sl.mono fun b hb=>hb.1) hd
 rw[hps,h.eq,List.take_of_length_le (by omega)] at hr
 have hr2:RV (fun b=>w.heap.size+3≤b) wr ⟨c.k,c.n,c.t,LA,ln,lc,A,i,cap⟩ x:=by
  have e1:x=.mk c.k c.n c.t x.l x.d:=by
   cases x
   simp only[Val.l,Val.d]
   rw[ho.k,ho.n,ho.t]
   rfl
  rw[e1]
  exact hr
 exact⟨_,rfl,hr2.keepG fun b hb _=>⟨by omega,heap_setV (by omega)⟩,below_setV h.bel (by omega) _ _⟩
end Go.Proofs.YtfkapannahcjiaaGreatDoor
