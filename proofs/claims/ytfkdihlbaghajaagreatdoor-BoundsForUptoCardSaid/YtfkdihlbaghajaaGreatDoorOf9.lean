/- Parts of the proof, joined: IvCopy. -/
import Derived.Test.YtfkdihlbaghajaaGreatDoorOf1
import Derived.Test.YtfkdihlbaghajaaGreatDoorOf8
set_option maxRecDepth 100000
set_option maxHeartbeats 16000000
set_option linter.unusedSimpArgs false
namespace Go.Proofs.YtfkdihlbaghajaaGreatDoor
open Go.RowKit
def CopyOk(w:World)(x:Val)(e:Ending)(w':World):Prop:=∃c:VC,e=.returned c.val∧RV (fun b=>w.heap.size≤b) w' c x∧Below w.heap.size w w'
theorem rv_grown{lo:Nat}{v v':Value}{w3 w4:World}{o:Obj}{c:VC}{x:Val}(hr:RV (fun b=>lo≤b∧v.ownBlock≠some b) w3 c x)(hg:(w3.alloc o).grownBy w4 v.ownBlock)(hat:v'.ownBlock=v.ownBlock∨v'.ownBlock=some (w3.alloc o).heap.size):
 RV (fun b=>lo≤b∧v'.ownBlock≠some b) w4 c x:=hr.keepG fun b hb hl=>by
 have hl':b<(w3.alloc o).heap.size:=by simp;omega
 refine⟨⟨hb.1,fun e=>?_⟩,(hg.block b hl' (fun e=>hb.2 e.symm)).trans (Below.heap_alloc w3 o b hl)⟩
 rcases hat with h|h
 ·exact hb.2 (h▸e)
 ·rw[h] at e
  injection e with e
  omega
structure CyL(w:World)(c:VC)(l:List Val)(i:Nat)(A:Option Addr)(cap:Nat)(ps:List PV)(wr:World):Prop where
 b0:Blk wr w.heap.size 32 c.arr
 b1:Blk wr (w.heap.size+1) 32 VC.zero.arr
 b2:Blk wr (w.heap.size+1+1) 32 (VC.arr ⟨c.k,c.n,c.t,A,i,cap,none,0,0⟩)
 own:wr.ownsRow (w.heap.size+3) 32 5 (.slice A i cap) i (flat recV ps)
 eq:ps.map Prod.snd=l.take i
 el:∀p∈ps,RV (fun b=>w.heap.size+3≤b∧(Value.slice A i cap).ownBlock≠some b) wr p.1 p.2
 bel:Below w.heap.size w wr
theorem CyL.step{w:World}{c:VC}{l:List Val}{i:Nat}{A:Option Addr}{cap:Nat}{ps:List PV}{wr w':World}(h:CyL w c l i A cap ps wr)(hb:Below wr.heap.size wr w'):CyL w c l i A cap ps w':=
 ⟨h.b0.step hb,h.b1.step hb,h.b2.step hb,own_step h.own hb,h.eq,fun p hp=>(h.el p hp).step hb,h.bel.step' hb⟩
theorem CyL.next{w:World}{c u:VC}{l:List Val}{i:Nat}{A A':Option Addr}{cap cap':Nat}{ps:List PV}{w3 w4:World}{o:Obj}{y:Val}(h:CyL w c l i A cap ps w3)(hy:l[i]?=some y)(hu:RV (fun b=>w.heap.size+3≤b∧(Value.slice A i cap).ownBlock≠some b) w3 u y)(hg:(w3.alloc o).grownBy w4 (Value.slice A i cap).ownBlock)(hat:(Value.slice A' (i+1) cap').ownBlock=(Value.slice A i cap).ownBlock∨(Value.slice A' (i+1) cap').ownBlock=some (w3.alloc o).heap.size)(hown:w4.ownsRow (w.heap.size+3) 32 5 (.slice A' (i+1) cap') (i+1) (flat recV ps++recV (u,y))):
 CyL w c l (i+1) A' cap' (ps++[(u,y)]) (w4.setCell ⟨w.heap.size+1+1,3,none⟩ (.slice A' (i+1) cap')):=by
 have hne:∀b,b<w.heap.size+3→some b≠(Value.slice A i cap).ownBlock:=fun b hb e=>by have:=own_ge h.own b e.symm;omega
 have keep:∀b,b<w3.heap.size→some b≠(Value.slice A i cap).ownBlock→w4.heap[b]?=w3.heap[b]?:=fun b hb hn=>(hg.block b (by simp;omega) hn).trans (Below.heap_alloc w3 o b hb)
 have hz:=h.b2.lt
 have bl:∀{b:Nat} {cs:Array Value},Blk w3 b 32 cs→b<w.heap.size+3→Blk w4 b 32 cs:=fun hb hlt=>(keep _ hb.lt (hne _ hlt)).trans hb
 refine⟨(bl h.b0 (by omega)).far (by show w.heap.size≠w.heap.size+1+1;omega) _,(bl h.b1 (by omega)).far (by show w.heap.size+1≠w.heap.size+1+1;omega) _,(bl h.b2 (by omega)).set_ 3 _,?_,?_,fun p hp=>?_,?_⟩
 ·rw[flat_snoc]
  exact own_keep hown fun g hg=>Below.heap_setCell _ _ _ _ (by have:=own_ge hown g hg;show g≠w.heap.size+1+1;omega)
 ·rw[List.map_append,h.eq,take_snoc' hy];rfl
 ·have hr:RV (fun b=>w.heap.size+3≤b∧(Value.slice A' (i+1) cap').ownBlock≠some b) w4 p.1 p.2:=by
   rcases List.mem_append.1 hp with hp|hp
   ·exact rv_grown (h.el p hp) hg hat
   ·simp at hp;subst hp;exact rv_grown hu hg hat
  exact hr.keepG fun b hb _=>⟨hb,Below.heap_setCell _ _ _ _ (by show b≠w.heap.size+1+1;omega)⟩
 ·have h4:Below w.heap.size w w4:=(h.bel.alloc h.bel.size o).grown hg (by have:=h.bel.size;simp;omega) (fun k hk=>by have:=own_ge h.own k hk;omega)
  exact h4.setCell (by show w.heap.size≤w.heap.size+1+1;omega) _
structure CyD(w:World)(c:VC)(d:List Fld)(LA:Option Addr)(ln lc:Nat)(ps:List PV)(i:Nat)(A:Option Addr)(cap:Nat)(fs:List PF)(wr:World):Prop where
 b0:Blk wr w.heap.size 32 c.arr
 b1:Blk wr (w.heap.size+1) 32 VC.zero.arr
 b2:Blk wr (w.heap.size+1+1) 32 (VC.arr ⟨c.k,c.n,c.t,LA,ln,lc,A,i,cap⟩)
 sl:SL (fun b=>w.heap.size+3≤b∧(Value.slice A i cap).ownBlock≠some b) wr LA ln lc ps
 own:wr.ownsRow (w.heap.size+3) 120 6 (.slice A i cap) i (flat recF fs)
 eq:fs.map Prod.snd=d.take i
 sz:∀p∈fs,p.2.s.size≤reach
 el:∀p∈fs,RV (fun b=>w.heap.size+3≤b∧(Value.slice A i cap).ownBlock≠some b) wr p.1 p.2.v
 bel:Below w.heap.size w wr
theorem CyD.step{w:World}{c:VC}{d:List Fld}{LA:Option Addr}{ln lc:Nat}{ps:List PV}{i:Nat}{A:Option Addr}{cap:Nat}{fs:List PF}{wr w':World}(h:CyD w c d LA ln lc ps i A cap fs wr)(hb:Below wr.heap.size wr w'):CyD w c d LA ln lc ps i A cap fs w':=
 ⟨h.b0.step hb,h.b1.step hb,h.b2.step hb,h.sl.step hb,own_step h.own hb,h.eq,h.sz,fun p hp=>(h.el p hp).step hb,h.bel.step' hb⟩
theorem CyD.next{w:World}{c u:VC}{d:List Fld}{LA:Option Addr}{ln lc:Nat}{ps:List PV}{i:Nat}{A A':Option Addr}{cap cap':Nat}{fs:List PF}{w3 w4:World}{o:Obj}{f:Fld}(h:CyD w c d LA ln lc ps i A cap fs w3)(hy:d[i]?=some f)(hs:f.s.size≤reach)(hu:RV (fun b=>w.heap.size+3≤b∧(Value.slice A i cap).ownBlock≠some b) w3 u f.v)(hg:(w3.alloc o).grownBy w4 (Value.slice A i cap).ownBlock)(hat:(Value.slice A' (i+1) cap').ownBlock=(Value.slice A i cap).ownBlock∨(Value.slice A' (i+1) cap').ownBlock=some (w3.alloc o).heap.size)(hown:w4.ownsRow (w.heap.size+3) 120 6 (.slice A' (i+1) cap') (i+1) (flat recF fs++recF (u,f))):
 CyD w c d LA ln lc ps (i+1) A' cap' (fs++[(u,f)]) (w4.setCell ⟨w.heap.size+1+1,4,none⟩ (.slice A' (i+1) cap')):=by
 have hne:∀b,b<w.heap.size+3→some b≠(Value.slice A i cap).ownBlock:=fun b hb e=>by have:=own_ge h.own b e.symm;omega
 have keep:∀b,b<w3.heap.size→some b≠(Value.slice A i cap).ownBlock→w4.heap[b]?=w3.heap[b]?:=fun b hb hn=>(hg.block b (by simp;omega) hn).trans (Below.heap_alloc w3 o b hb)
 have hz:=h.b2.lt
 have bl:∀{b:Nat} {cs:Array Value},Blk w3 b 32 cs→b<w.heap.size+3→Blk w4 b 32 cs:=fun hb hlt=>(keep _ hb.lt (hne _ hlt)).trans hb
 refine⟨(bl h.b0 (by omega)).far (by show w.heap.size≠w.heap.size+1+1;omega) _,(bl h.b1 (by omega)).far (by show w.heap.size+1≠w.heap.size+1+1;omega) _,(bl h.b2 (by omega)).set_ 4 _,?_,?_,?_,fun p hp=>?_,fun p hp=>?_,?_⟩
 ·refine h.sl.keepG fun b hb hl=>⟨⟨hb.1,fun e=>?_⟩,?_⟩
  ·rcases hat with k|k
   ·exact hb.2 (k▸e)
   ·rw[k] at e;injection e with e;simp at e;omega
  ·rw[Below.heap_setCell _ _ _ _ (by show b≠w.heap.size+1+1;omega)]
   exact keep b hl (fun e=>hb.2 e.symm)
 ·rw[flat_snoc]
  exact own_keep hown fun g hg=>Below.heap_setCell _ _ _ _ (by have:=own_ge hown g hg;show g≠w.heap.size+1+1;omega)
 ·rw[List.map_append,h.eq,take_snoc' hy];rfl
 ·rcases List.mem_append.1 hp with hp|hp
  ·exact h.sz p hp
  ·simp at hp;subst hp;exact hs
 ·have hr:RV (fun b=>w.heap.size+3≤b∧(Value.slice A' (i+1) cap').ownBlock≠some b) w4 p.1 p.2.v:=by
   rcases List.mem_append.1 hp with hp|hp
   ·exact rv_grown (h.el p hp) hg hat
   ·simp at hp;subst hp;exact rv_grown hu hg hat
  exact hr.keepG fun b hb _=>⟨hb,Below.heap_setCell _ _ _ _ (by show b≠w.heap.size+1+1;omega)⟩
 ·have h4:Below w.heap.size w w4:=(h.bel.alloc h.bel.size o).grown hg (by have:=h.bel.size;simp;omega) (fun k hk=>by have:=own_ge h.own k hk;omega)
  exact h4.setCell (by show w.heap.size≤w.heap.size+1+1;omega) _
theorem CyD.start{w:World}{c:VC}{l:List Val}{d:List Fld}{i:Nat}{A:Option Addr}{cap:Nat}{ps:List PV}{wr:World}(h:CyL w c l i A cap ps wr)(hl:ps.length=i)(hz:i*80≤reach):CyD w c d A i cap ps 0 none 0 [] wr:=by
 have hS:=SL.of_own (F:=fun b=>w.heap.size+3≤b) h.own hl hz (fun _ hb=>hb) (fun p hp=>(h.el p hp).mono fun b hb=>hb.1)
 obtain⟨A',c',e,hs⟩:=hS
 cases e
 exact⟨h.b0,h.b1,h.b2,hs.mono fun b hb=>⟨hb,by simp[Value.ownBlock]⟩,own_nil _ _ _ _,rfl,by simp,by simp,h.bel⟩
theorem CyD.done{w:World}{c:VC}{x:Val}{LA:Option Addr}{ln lc:Nat}{ps:List PV}{i:Nat}{A:Option Addr}{cap:Nat}{fs:List PF}{wr:World}(h:CyD w c x.d LA ln lc ps i A cap fs wr)(hx:RW w c x)(hps:ps.map Prod.snd=x.l)(hi:i=x.d.length)(hz:i*96≤reach):
 CopyOk w x (.returned (VC.val ⟨c.k,c.n,c.t,LA,ln,lc,A,i,cap⟩)) (setV wr (w.heap.size+1) 0 ⟨c.k,c.n,c.t,LA,ln,lc,A,i,cap⟩):=by
 have hfl:fs.length=i:=by have:=congrArg List.length h.eq;rw[List.length_map,List.length_take] at this;omega
 obtain⟨A',c',e,hd⟩:=SD.of_own (F:=fun b=>w.heap.size+3≤b) h.own hfl hz (fun _ hb=>hb) h.sz (fun p hp=>(h.el p hp).mono fun b hb=>hb.1)
 cases e
 have ho:=hx.open
 have hr:=RV.of_slices (k:=c.k) (m:=c.n) (t:=c.t) (by rw[ho.t];exact ho.tsz) (h.sl.mono fun b hb=>hb.1) hd
 rw[hps,h.eq,List.take_of_length_le (by omega)] at hr
 have hr2:RV (fun b=>w.heap.size+3≤b) wr ⟨c.k,c.n,c.t,LA,ln,lc,A,i,cap⟩ x:=by
  have e1:x=.mk c.k c.n c.t x.l x.d:=by
   cases x
   simp only[Val.l,Val.d]
   rw[ho.k,ho.n,ho.t]
   rfl
  rw[e1]
  exact hr
 exact⟨_,rfl,hr2.keepG fun b hb _=>⟨by omega,heap_setV (by omega)⟩,below_setV h.bel (by omega) _ _⟩
end Go.Proofs.YtfkdihlbaghajaaGreatDoor
