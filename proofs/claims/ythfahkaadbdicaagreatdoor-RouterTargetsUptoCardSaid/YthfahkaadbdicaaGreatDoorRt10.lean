/- Parts of the proof, joined: IvCopy. -/
import Derived.Test.YthfahkaadbdicaaGreatDoorRt1
import Derived.Test.YthfahkaadbdicaaGreatDoorRt2
import Derived.Test.YthfahkaadbdicaaGreatDoorRt9
set_option maxRecDepth 100000
set_option maxHeartbeats 16000000
set_option linter.unusedSimpArgs false
open Go.Proofs.Tryz
open ByteArray (empty)
namespace Go.Proofs.YthfahkaadbdicaaGreatDoor
open Go.RowKit
def xj(w:World)(x:aC)(e:Ending)(w':World):Prop:=∃c:VC,e=.returned c.val/\RV (fun b=>w.heap.size<=b) w' c x/\Below w.heap.size w w'
theorem jD{lo:Nat}{v v':Value}{w3 w4:World}{o:Obj}{c:VC}{x:aC}(hr:RV (fun b=>lo<=b/\v.ownBlock≠some b) w3 c x)(hg:(w3.alloc o).grownBy w4 v.ownBlock)(hat:v'.ownBlock=v.ownBlock\/v'.ownBlock=some (w3.alloc o).heap.size):
 RV (fun b=>lo<=b/\v'.ownBlock≠some b) w4 c x:=hr.Jv fun b hb hl=>by
 have hl':b<(w3.alloc o).heap.size:=by simp;omega
 refine⟨⟨hb.1,fun e=>?_⟩,(hg.block b hl' (fun e=>hb.2 e.symm)).trans (Np w3 o b hl)⟩;rcases hat with h|h
 ·exact hb.2 (h▸e)
 ·rw[h] at e;injection e with e
  omega
structure Ey(w:World)(c:VC)(l:List aC)(i:Nat)(A:Option Addr)(cap:Nat)(ps:List PV)(wr:World):Prop where
 b0:aE wr w.heap.size 29 c.arr
 b1:aE wr (w.heap.size+1) 29 VC.zero.arr
 b2:aE wr (w.heap.size+1+1) 29 (VC.arr ⟨c.k,c.n,c.t,A,i,cap,none,0,0⟩)
 own:wr.ownsRow (w.heap.size+3) 29 5 (.slice A i cap) i (aJ bv ps)
 eq:ps.map Prod.snd=l.take i
 el:∀p∈ps,RV (fun b=>w.heap.size+3<=b/\(Value.slice A i cap).ownBlock≠some b) wr p.1 p.2
 bel:Below w.heap.size w wr
theorem Ey.step{w:World}{c:VC}{l:List aC}{i:Nat}{A:Option Addr}{cap:Nat}{ps:List PV}{wr w':World}(h:Ey w c l i A cap ps wr)(hb:Below wr.heap.size wr w'):Ey w c l i A cap ps w':=
 ⟨h.b0.step hb,h.b1.step hb,h.b2.step hb,aV h.own hb,h.eq,fun p hp=>(h.el p hp).step hb,h.bel.Jp hb⟩
theorem Ey.next{w:World}{c u:VC}{l:List aC}{i:Nat}{A A':Option Addr}{cap cap':Nat}{ps:List PV}{w3 w4:World}{o:Obj}{y:aC}(h:Ey w c l i A cap ps w3)(hy:l[i]?=some y)(hu:RV (fun b=>w.heap.size+3<=b/\(Value.slice A i cap).ownBlock≠some b) w3 u y)(hg:(w3.alloc o).grownBy w4 (Value.slice A i cap).ownBlock)(hat:(Value.slice A' (i+1) cap').ownBlock=(Value.slice A i cap).ownBlock\/(Value.slice A' (i+1) cap').ownBlock=some (w3.alloc o).heap.size)(hown:w4.ownsRow (w.heap.size+3) 29 5 (.slice A' (i+1) cap') (i+1) (aJ bv ps++bv (u,y))):
 Ey w c l (i+1) A' cap' (ps++[(u,y)]) (w4.setCell ⟨w.heap.size+1+1,3,none⟩ (.slice A' (i+1) cap')):=by
 have hne:∀b,b<w.heap.size+3->some b≠(Value.slice A i cap).ownBlock:=fun b hb e=>by have:=bU h.own b e.symm;omega
 have keep:∀b,b<w3.heap.size->some b≠(Value.slice A i cap).ownBlock->w4.heap[b]?=w3.heap[b]?:=fun b hb hn=>(hg.block b (by simp;omega) hn).trans (Np w3 o b hb);have hz:=h.b2.lt;have bl:∀{b:Nat} {cs:Array Value},aE w3 b 29 cs->b<w.heap.size+3->aE w4 b 29 cs:=fun hb hlt=>(keep _ hb.lt (hne _ hlt)).trans hb;refine⟨(bl h.b0 (by omega)).Jz (by show w.heap.size≠w.heap.size+1+1;omega) _,(bl h.b1 (by omega)).Jz (by show w.heap.size+1≠w.heap.size+1+1;omega) _,(bl h.b2 (by omega)).Js 3 _,?_,?_,fun p hp=>?_,?_⟩
 ·rw[bN];exact mg hown fun g hg=>MA _ _ _ _ (by have:=bU hown g hg;show g≠w.heap.size+1+1;omega)
 ·rw[Lc,h.eq,take_snoc' hy];rfl
 ·have hr:RV (fun b=>w.heap.size+3<=b/\(Value.slice A' (i+1) cap').ownBlock≠some b) w4 p.1 p.2:=by
   rcases LY.1 hp with hp|hp
   ·exact jD (h.el p hp) hg hat
   ·simp at hp;subst hp;exact jD hu hg hat
  exact hr.Jv fun b hb _=>⟨hb,MA _ _ _ _ (by show b≠w.heap.size+1+1;omega)⟩
 ·have h4:Below w.heap.size w w4:=(h.bel.alloc h.bel.size o).grown hg (by have:=h.bel.size;simp;omega) (fun k hk=>by have:=bU h.own k hk;omega);exact h4.setCell (by show w.heap.size<=w.heap.size+1+1;omega) _
structure Aj(w:World)(c:VC)(d:List bf)(LA:Option Addr)(ln lc:Nat)(ps:List PV)(i:Nat)(A:Option Addr)(cap:Nat)(fs:List PF)(wr:World):Prop where
 b0:aE wr w.heap.size 29 c.arr
 b1:aE wr (w.heap.size+1) 29 VC.zero.arr
 b2:aE wr (w.heap.size+1+1) 29 (VC.arr ⟨c.k,c.n,c.t,LA,ln,lc,A,i,cap⟩)
 sl:SL (fun b=>w.heap.size+3<=b/\(Value.slice A i cap).ownBlock≠some b) wr LA ln lc ps
 own:wr.ownsRow (w.heap.size+3) 73 6 (.slice A i cap) i (aJ dz fs)
 eq:fs.map Prod.snd=d.take i
 sz:∀p∈fs,p.2.s.size<=aF
 el:∀p∈fs,RV (fun b=>w.heap.size+3<=b/\(Value.slice A i cap).ownBlock≠some b) wr p.1 p.2.v
 bel:Below w.heap.size w wr
theorem Aj.step{w:World}{c:VC}{d:List bf}{LA:Option Addr}{ln lc:Nat}{ps:List PV}{i:Nat}{A:Option Addr}{cap:Nat}{fs:List PF}{wr w':World}(h:Aj w c d LA ln lc ps i A cap fs wr)(hb:Below wr.heap.size wr w'):Aj w c d LA ln lc ps i A cap fs w':=
 ⟨h.b0.step hb,h.b1.step hb,h.b2.step hb,h.sl.step hb,aV h.own hb,h.eq,h.sz,fun p hp=>(h.el p hp).step hb,h.bel.Jp hb⟩
theorem Aj.next{w:World}{c u:VC}{d:List bf}{LA:Option Addr}{ln lc:Nat}{ps:List PV}{i:Nat}{A A':Option Addr}{cap cap':Nat}{fs:List PF}{w3 w4:World}{o:Obj}{f:bf}(h:Aj w c d LA ln lc ps i A cap fs w3)(hy:d[i]?=some f)(hs:f.s.size<=aF)(hu:RV (fun b=>w.heap.size+3<=b/\(Value.slice A i cap).ownBlock≠some b) w3 u f.v)(hg:(w3.alloc o).grownBy w4 (Value.slice A i cap).ownBlock)(hat:(Value.slice A' (i+1) cap').ownBlock=(Value.slice A i cap).ownBlock\/(Value.slice A' (i+1) cap').ownBlock=some (w3.alloc o).heap.size)(hown:w4.ownsRow (w.heap.size+3) 73 6 (.slice A' (i+1) cap') (i+1) (aJ dz fs++dz (u,f))):
 Aj w c d LA ln lc ps (i+1) A' cap' (fs++[(u,f)]) (w4.setCell ⟨w.heap.size+1+1,4,none⟩ (.slice A' (i+1) cap')):=by
 have hne:∀b,b<w.heap.size+3->some b≠(Value.slice A i cap).ownBlock:=fun b hb e=>by have:=bU h.own b e.symm;omega
 have keep:∀b,b<w3.heap.size->some b≠(Value.slice A i cap).ownBlock->w4.heap[b]?=w3.heap[b]?:=fun b hb hn=>(hg.block b (by simp;omega) hn).trans (Np w3 o b hb);have hz:=h.b2.lt;have bl:∀{b:Nat} {cs:Array Value},aE w3 b 29 cs->b<w.heap.size+3->aE w4 b 29 cs:=fun hb hlt=>(keep _ hb.lt (hne _ hlt)).trans hb;refine⟨(bl h.b0 (by omega)).Jz (by show w.heap.size≠w.heap.size+1+1;omega) _,(bl h.b1 (by omega)).Jz (by show w.heap.size+1≠w.heap.size+1+1;omega) _,(bl h.b2 (by omega)).Js 4 _,?_,?_,?_,fun p hp=>?_,fun p hp=>?_,?_⟩
 ·refine h.sl.Jv fun b hb hl=>⟨⟨hb.1,fun e=>?_⟩,?_⟩
  ·rcases hat with k|k
   ·exact hb.2 (k▸e)
   ·rw[k] at e;injection e with e;simp at e;omega
  ·rw[MA _ _ _ _ (by show b≠w.heap.size+1+1;omega)];exact keep b hl (fun e=>hb.2 e.symm)
 ·rw[bN];exact mg hown fun g hg=>MA _ _ _ _ (by have:=bU hown g hg;show g≠w.heap.size+1+1;omega)
 ·rw[Lc,h.eq,take_snoc' hy];rfl
 ·rcases LY.1 hp with hp|hp
  ·exact h.sz p hp
  ·simp at hp;subst hp;exact hs
 ·have hr:RV (fun b=>w.heap.size+3<=b/\(Value.slice A' (i+1) cap').ownBlock≠some b) w4 p.1 p.2.v:=by
   rcases LY.1 hp with hp|hp
   ·exact jD (h.el p hp) hg hat
   ·simp at hp;subst hp;exact jD hu hg hat
  exact hr.Jv fun b hb _=>⟨hb,MA _ _ _ _ (by show b≠w.heap.size+1+1;omega)⟩
 ·have h4:Below w.heap.size w w4:=(h.bel.alloc h.bel.size o).grown hg (by have:=h.bel.size;simp;omega) (fun k hk=>by have:=bU h.own k hk;omega);exact h4.setCell (by show w.heap.size<=w.heap.size+1+1;omega) _
theorem Aj.start{w:World}{c:VC}{l:List aC}{d:List bf}{i:Nat}{A:Option Addr}{cap:Nat}{ps:List PV}{wr:World}(h:Ey w c l i A cap ps wr)(hl:ps.length=i)(hz:i*80<=aF):Aj w c d A i cap ps 0 none 0 [] wr:=by
 have hS:=SL.Jt (F:=fun b=>w.heap.size+3<=b) h.own hl hz (fun _ hb=>hb) (fun p hp=>(h.el p hp).mono fun b hb=>hb.1);obtain⟨A',c',e,hs⟩:=hS;cases e;exact⟨h.b0,h.b1,h.b2,hs.mono fun b hb=>⟨hb,by simp[Value.ownBlock]⟩,bC _ _ _ _,rfl,by simp,by simp,h.bel⟩
theorem Aj.done{w:World}{c:VC}{x:aC}{LA:Option Addr}{ln lc:Nat}{ps:List PV}{i:Nat}{A:Option Addr}{cap:Nat}{fs:List PF}{wr:World}(h:Aj w c x.d LA ln lc ps i A cap fs wr)(hx:RW w c x)(hps:ps.map Prod.snd=x.l)(hi:i=x.d.length)(hz:i*96<=aF):
 xj w x (.returned (VC.val ⟨c.k,c.n,c.t,LA,ln,lc,A,i,cap⟩)) (cy wr (w.heap.size+1) 0 ⟨c.k,c.n,c.t,LA,ln,lc,A,i,cap⟩):=by
 have hfl:fs.length=i:=by have:=congrArg List.length h.eq;rw[Lb,Lx] at this;omega
 obtain⟨A',c',e,hd⟩:=SD.Jt (F:=fun b=>w.heap.size+3<=b) h.own hfl hz (fun _ hb=>hb) h.sz (fun p hp=>(h.el p hp).mono fun b hb=>hb.1);cases e;have ho:=hx.open;have hr:=RV.Kj (k:=c.k) (m:=c.n) (t:=c.t) (by rw[ho.t];exact ho.tsz) (h.sl.mono fun b hb=>hb.1) hd;rw[hps,h.eq,LS (by omega)] at hr
 have hr2:RV (fun b=>w.heap.size+3<=b) wr ⟨c.k,c.n,c.t,LA,ln,lc,A,i,cap⟩ x:=by
  have e1:x=.mk c.k c.n c.t x.l x.d:=by
   cases x;simp only[aC.l,aC.d];rw[ho.k,ho.n,ho.t];rfl
  rw[e1];exact hr
 exact⟨_,rfl,hr2.Jv fun b hb _=>⟨by omega,dS (by omega)⟩,cH h.bel (by omega) _ _⟩
end Go.Proofs.YthfahkaadbdicaaGreatDoor
