/- A part of the proof. -/
import Derived.Test.YtgfoliedmhgpnaaGreatDoorCn2
import Derived.Lib.SmallJoins
import Derived.ProofKit
import Derived.OpenShut
import Derived.Deep.Slices
set_option maxRecDepth 100000
set_option maxHeartbeats 16000000
open Go.Proofs.Tryz
open ByteArray (empty)
namespace Go.Proofs.YtgfoliedmhgpnaaGreatDoor
open Go.ChangeShapes Go.WideShapes Go.ChangeAt Go.RowKit Go.Joins Go.Deep
section
variable {b n o i lo c base ln dn lc off size dc:Nat} {W w3 w4:World} {e t:TypeId} {cs:Array Value} {a x y d:Int} {l r:List ByteArray} {v v':Value} {s:ByteArray} {LA DA:Option Addr}
def cN{H:Type}(t:TypeId)(d:DataW H):Prop:=∀z∈d.weights prog t,z<=lG
theorem gJ{H:Type}{l:List (DataW H)}(h:∀z∈DataW.weightsAll prog t l,z<=lG):∀d∈l,cN t d:=by
 induction l with
 | nil=>intro d hd;simp at hd
 | cons x r ih=>
  intro d hd;simp only[DataW.weightsAll,OP] at h;rcases PB.1 hd with rfl|hd
  ·exact fun z hz=>h z (.inl hz)
  ·exact ih (fun z hz=>h z (.inr hz)) d hd
theorem nG{H:Type}{ts:List TypeId}{d:DataW H}{r:List (DataW H)}(h:(DataW.weightsEach prog (t::ts) (d::r)).all (·<=reachBytes)=true):cN t d/\(DataW.weightsEach prog ts r).all (·<=reachBytes)=true:=by
 simp only[DataW.weightsEach,Rz,Ov] at h;refine⟨fun z hz=>?_,h.2⟩;have:=Qd.1 h.1 z hz;exact Qk this
theorem lT:Tryz.prog.bytesOf 29=80:=kR
theorem pN:Tryz.prog.bytesOf 77=96:=kR
theorem bN:Tryz.prog.cellsOf 29=5:=kR
theorem jI:Tryz.prog.cellsOf 77=6:=kR
theorem av:Tryz.prog.cellsOf 3=1:=kR
theorem ce:Tryz.prog.cellsOf 9=1:=kR
theorem eX:Tryz.prog.cellsOf 26=1:=kR
theorem tQ:Tryz.prog.cellsOf 27=1:=kR
theorem Hw{α:Type}{l:List α}(h:l.length=5):∃a b c d e,l=[a,b,c,d,e]:=by
 match l,h with
 | [a,b,c,d,e],_=>exact⟨a,b,c,d,e,rfl⟩
theorem Mb{α:Type}{l:List α}(h:l.length=6):∃a b c d e f,l=[a,b,c,d,e,f]:=by
 match l,h with
 | [a,b,c,d,e,f],_=>exact⟨a,b,c,d,e,f,rfl⟩
theorem JD{α:Type}{l:List α}(h:l.length=2):∃a b,l=[a,b]:=by
 match l,h with
 | [a,b],_=>exact⟨a,b,rfl⟩
section
variable {H:Type} {enc:TypeId×Value->H} {W:World} {base:Nat} {spare:Nat->Bool} {held:Bool}
theorem dX{a:Addr}{cs:List Value}(h:W.cells? base a n=some cs)(hn:0<n):∃b off,a=⟨b,off,none⟩/\∀i,i<n->W.cell? ⟨b,off+i,none⟩=cs[i]?:=by
 obtain⟨_,hl,hat⟩:=World.cells?_some h;obtain⟨b,off,spot⟩:=a;have h0:=hat 0 hn;rw[OH oM] at h0;have hs:spot=none:=by simpa[Addr.add] using World.cell?_spot h0
 subst hs;exact⟨b,off,rfl,fun i hi=>by rw[<-cW];exact hat i hi⟩
def zG(H:Type)(enc:TypeId×Value->H)(W:World)(base:Nat)(spare:Nat->Bool)(held:Bool)(n:Nat):Prop:=
 ∀(cs:List Value) (y:DataW H×List MemPlace),DataW.trod enc prog W base spare held n 29 cs=some y->cN 29 y.1->∃c x,cs=c.list/\RW W c x
theorem gK{α:Type}{p:Nat->α->Prop}(d:α)(len:Nat)(h:∀i,i<len->∃x,p i x):∃f:Nat->α,∀i,i<len->p i (f i):=by
 refine⟨fun i=>if h':i<len then(h i h').choose else d,fun i h'=>?_⟩;simp only[dif_pos h'];exact(h i h').choose_spec
theorem Cn(n:Nat){y:DataW H×List MemPlace}(ih:∀n',n'<n->zG H enc W base spare held n')(h:DataW.trod enc prog W base spare held n 26 [v]=some y)(hw:cN 26 y.1):
 ∃(LA:Option Addr) (ln lc:Nat) (l:List aC),v=.slice LA ln lc/\ln=l.length/\ln<=lc/\ln*80<=aF/\(0<ln->∃b off,LA=some ⟨b,off,none⟩/\∀(i:Nat) (y:aC),l[i]?=some y->∃e,aO W b (off+i*5) e/\RW W e y):=by
 rcases Qt PM h with⟨hcs,_⟩|⟨a,len,cap,elems,rest,n',rfl,hcs,rfl,_,hlc,hcm,hel,hat,_,_⟩
 ·simp at hcs;exact⟨none,0,0,[],hcs,rfl,qL,by decide,fun h=>absurd h oM⟩
 ·simp at hcs;subst hcs;simp only[cN,DataW.weights,PM,PB,OP,lT] at hw
  have hsz:len*80<=aF:=by
   have:=hw _ (.inl rfl);simp only[Oe,hel] at this;have h2:len*80<=(len+rest.length)*80:=Ot _ oM;have:=du;omega
  have wl:=gJ (l:=elems.map (·.1)) (fun z hz=>hw z (.inr (.inl hz)));rcases PZ len with h0|hp
  ·exact⟨some a,len,cap,[],rfl,h0,hlc,hsz,fun h=>absurd h oM⟩
  have step:∀i,i<len->∃cs',W.cells? base (a.add (i*5)) 5=some cs'/\∃e x,cs'=VC.list e/\RW W e x:=by
   intro i hi;have h1:=hat i hi;rw[bN,OH oM] at h1;obtain⟨cs',hcs',ht'⟩:=QI.1 h1;exact⟨cs',hcs',ih n' oM cs' _ ht' (wl _ (PD (Pw _)))⟩
  obtain⟨cs0,h0,_⟩:=step 0 hp;obtain⟨b,off,ha,_⟩:=dX h0 oM;have ha':a=⟨b,off,none⟩:=by simpa[Addr.add] using ha
  subst ha'
  obtain⟨f,hf⟩:=gK (p:=fun i x=>∃e,aO W b (off+i*5) e/\RW W e x) aC.zero len (fun i hi=>by
   obtain⟨cs',hcs',e,x,rfl,hx⟩:=step i hi
   rw[cW] at hcs'
   obtain⟨b',off',ha',hc⟩:=dX hcs' oM
   injection ha' with e1 e2
   subst e1 e2
   exact⟨x,e,⟨hc 0 oM,hc 1 oM,hc 2 oM,hc 3 oM,hc 4 oM⟩,hx⟩)
  refine⟨_,len,cap,(List.range len).map f,rfl,by simp,hlc,hsz,fun _=>⟨b,off,rfl,fun i y hi=>?_⟩⟩;have hlt:i<len:=by have:=(OI.1 hi).1;simpa using this
  rw[OT,QF hlt] at hi;simp only[Ps,PU] at hi;subst hi;exact hf i hlt
theorem En(n:Nat){y:DataW H×List MemPlace}(ih:∀n',n'<n->zG H enc W base spare held n')(h:DataW.trod enc prog W base spare held n 27 [v]=some y)(hw:cN 27 y.1):
 ∃(DA:Option Addr) (dn dc:Nat) (d:List bf),v=.slice DA dn dc/\dn=d.length/\dn<=dc/\dn*96<=lG/\(0<dn->∃b off,DA=some ⟨b,off,none⟩/\∀(i:Nat) (f:bf),d[i]?=some f->W.cell? ⟨b,off+i*6,none⟩=some (.string f.s)/\f.s.size<=aF/\∃e,aO W b (off+i*6+1) e/\RW W e f.v):=by
 rcases Qt QS h with⟨hcs,_⟩|⟨a,len,cap,elems,rest,n',rfl,hcs,rfl,_,hlc,hcm,hel,hat,_,_⟩
 ·simp at hcs;exact⟨none,0,0,[],hcs,rfl,qL,by decide,fun h=>absurd h oM⟩
 ·simp at hcs;subst hcs;simp only[cN,DataW.weights,QS,PB,OP,pN] at hw
  have hsz:len*96<=lG:=by
   have:=hw _ (.inl rfl);simp only[Oe,hel] at this;have h2:len*96<=(len+rest.length)*96:=Ot _ oM;omega
  have wl:=gJ (l:=elems.map (·.1)) (fun z hz=>hw z (.inr (.inl hz)));rcases PZ len with h0|hp
  ·exact⟨some a,len,cap,[],rfl,h0,hlc,hsz,fun h=>absurd h oM⟩
  have step:∀i,i<len->∃cs',W.cells? base (a.add (i*6)) 6=some cs'/\∃(s:ByteArray) (e:VC) (x:aC),cs'=.string s::VC.list e/\s.size<=aF/\RW W e x:=by
   intro i hi;have h1:=hat i hi;rw[jI,OH oM] at h1;obtain⟨cs',hcs',ht'⟩:=QI.1 h1;have hwi:=wl _ (PD (Pw (l:=elems) (n:=i) oM));generalize elems[i]=q at*;obtain⟨ys,n'',rfl,rfl,hcl,hyl,hf⟩:=QH SM ht';rw[jI] at hcl;obtain⟨v0,v1,v2,v3,v4,v5,rfl⟩:=Mb hcl;obtain⟨y0,y1,rfl⟩:=JD hyl;have f0:DataW.trod enc prog W base spare held n'' 9 [v0]=some y0:=by simpa[ce] using hf 0 _ rfl
   have f1:DataW.trod enc prog W base spare held n'' 29 [v1,v2,v3,v4,v5]=some y1:=by simpa[bN] using hf 1 _ rfl
   obtain⟨s,e0,rfl,_⟩:=Ql PY f0;simp only[Pu,Qw] at e0;subst e0;simp only[cN,DataW.weights,SM,List.map,DataW.weightsEach,OP] at hwi;obtain⟨e,x,he,hx⟩:=ih n'' oM _ _ f1 (fun z hz=>hwi z (.inr (.inl hz)));refine⟨_,hcs',s,e,x,by rw[he],OU (hwi s.size (.inl sM)) du,hx⟩
  obtain⟨cs0,h0,_⟩:=step 0 hp;obtain⟨b,off,ha,_⟩:=dX h0 oM;have ha':a=⟨b,off,none⟩:=by simpa[Addr.add] using ha
  subst ha'
  obtain⟨f,hf⟩:=gK (p:=fun i (f:bf)=>W.cell? ⟨b,off+i*6,none⟩=some (.string f.s)/\f.s.size<=aF/\∃e,aO W b (off+i*6+1) e/\RW W e f.v) (.mk empty aC.zero) len (fun i hi=>by
   obtain⟨cs',hcs',s,e,x,rfl,hs,hx⟩:=step i hi
   rw[cW] at hcs'
   obtain⟨b',off',ha',hc⟩:=dX hcs' oM
   injection ha' with e1 e2
   subst e1 e2
   exact⟨.mk s x,hc 0 oM,hs,e,⟨hc 1 oM,hc 2 oM,hc 3 oM,hc 4 oM,hc 5 oM⟩,hx⟩)
  refine⟨_,len,cap,(List.range len).map f,rfl,by simp,hlc,hsz,fun _=>⟨b,off,rfl,fun i y hi=>?_⟩⟩;have hlt:i<len:=by have:=(OI.1 hi).1;simpa using this
  rw[OT,QF hlt] at hi;simp only[Ps,PU] at hi;subst hi;exact hf i hlt
theorem uc:∀(fuel:Nat) (cs:List Value) (y:DataW H×List MemPlace),DataW.trod enc prog W base spare held fuel 29 cs=some y->cN 29 y.1->∃c x,cs=c.list/\RW W c x/\c.dn*96<=lG:=by
 intro fuel
 induction fuel using Nat.strongRecOn with
 | _ fuel ih=>
 intro cs y h hw;obtain⟨ys,n,rfl,rfl,hcl,hyl,hf⟩:=QH Pj h;rw[bN] at hcl;obtain⟨v0,v1,v2,v3,v4,rfl⟩:=Hw hcl;obtain⟨y0,y1,y2,y3,y4,rfl⟩:=Hw hyl;have f0:DataW.trod enc prog W base spare held n 3 [v0]=some y0:=by simpa[av] using hf 0 _ rfl
 have f1:DataW.trod enc prog W base spare held n 3 [v1]=some y1:=by simpa[av] using hf 1 _ rfl
 have f2:DataW.trod enc prog W base spare held n 9 [v2]=some y2:=by simpa[ce] using hf 2 _ rfl
 have f3:DataW.trod enc prog W base spare held n 26 [v3]=some y3:=by simpa[eX] using hf 3 _ rfl
 have f4:DataW.trod enc prog W base spare held n 27 [v4]=some y4:=by simpa[tQ] using hf 4 _ rfl
 obtain⟨k,e0,rfl,_⟩:=QC Pq f0;obtain⟨m,e1,rfl,_⟩:=QC Pq f1;obtain⟨t,e2,rfl,_⟩:=Ql PY f2;simp only[Pu,Qw] at e0 e1 e2;subst e0 e1 e2
 have hw':cN 9 (DataW.lit (H:=H) (.string t.data.toList))/\cN 26 y3.1/\cN 27 y4.1:=by
  simp only[cN,DataW.weights,Pj,List.map,DataW.weightsEach,OP] at hw;refine⟨fun z hz=>hw z ?_,fun z hz=>hw z ?_,fun z hz=>hw z ?_⟩
  ·simp only[DataW.weights] at hz;exact .inr (.inr (.inl hz))
  ·exact .inr (.inr (.inr (.inl hz)))
  ·exact .inr (.inr (.inr (.inr (.inl hz))))
 obtain⟨w2,w3,w4⟩:=hw';have htz:t.size<=aF:=OU (w2 t.size (by simp[DataW.weights])) du
 have ih':∀n',n'<n+1->zG H enc W base spare held n':=fun n' hn cs y h1 h2=>by
  obtain⟨c,x,e,r,_⟩:=ih n' oM cs y h1 h2;exact⟨c,x,e,r⟩
 obtain⟨LA,ln,lc,l,rfl,hl1,hl2,hl3,hl4⟩:=Cn n (fun n' hn=>ih' n' oM) f3 w3;obtain⟨DA,dn,dc,d,rfl,hd1,hd2,hd3,hd4⟩:=En n (fun n' hn=>ih' n' oM) f4 w4;refine⟨⟨k,m,t,LA,ln,lc,DA,dn,dc⟩,.mk k m t l d,rfl,pw.shut ⟨rfl,rfl,rfl,htz,hl1,hl2,hl3,fun hp=>?_,hd1,hd2,OU hd3 du,fun hp=>?_⟩,hd3⟩
 ·obtain⟨b,off,e,h⟩:=hl4 hp;exact⟨b,off,e,Ft.Nd,h⟩
 ·obtain⟨b,off,e,h⟩:=hd4 hp;exact⟨b,off,e,Ft.Nd,h⟩
theorem zH(fuel:Nat)(cs:List Value)(y:DataW H×List MemPlace)(h:DataW.trod enc prog W base spare held fuel 29 cs=some y)(hl:cN 29 y.1):∃c x,cs=c.list/\RW W c x:=by
 obtain⟨c,x,e,r,_⟩:=uc fuel cs y h hl;exact⟨c,x,e,r⟩
end
def Eo(w:World)(x:aC)(e:Ending)(w':World):Prop:=∃c:VC,e=.returned c.val/\RV (fun b=>w.heap.size<=b) w' c x/\Bl w w'
theorem jr{o:Obj}{c:VC}{x:aC}(hr:RV (fun b=>lo<=b/\v.ownBlock≠some b) w3 c x)(hg:(w3.alloc o).grownBy w4 v.ownBlock)(hat:v'.ownBlock=v.ownBlock\/v'.ownBlock=some (w3.alloc o).heap.size):
 RV (fun b=>lo<=b/\v'.ownBlock≠some b) w4 c x:=hr.Mr fun b hb hl=>by
 have hl':b<(w3.alloc o).heap.size:=by simp;omega
 refine⟨⟨hb.1,fun e=>?_⟩,(hg.block b hl' (fun e=>hb.2 e.symm)).trans (Qs w3 o b hl)⟩;rcases hat with h|h
 ·exact hb.2 (h▸e)
 ·rw[h] at e;injection e with e
  omega
end
structure Hy(w:World)(c:VC)(l:List aC)(i:Nat)(A:Option Addr)(cap:Nat)(ps:List PV)(wr:World):Prop where
 b0:aG wr w.heap.size 29 c.arr
 b1:aG wr (w.heap.size+1) 29 VC.zero.arr
 b2:aG wr (w.heap.size+1+1) 29 (VC.arr ⟨c.k,c.n,c.t,A,i,cap,none,0,0⟩)
 own:wr.ownsRow (w.heap.size+3) 29 5 (.slice A i cap) i (aN bD ps)
 eq:ps.map Prod.snd=l.take i
 el:∀p∈ps,RV (fun b=>w.heap.size+3<=b/\(Value.slice A i cap).ownBlock≠some b) wr p.1 p.2
 bel:Bl w wr
section
variable {b o i c cap size:Nat} {w w' wr w3 w4:World} {y:Int} {l:List ByteArray} {A A':Option Addr}
theorem Hy.step{c:VC}{l:List aC}{ps:List PV}(h:Hy w c l i A cap ps wr)(hb:Bl wr w'):Hy w c l i A cap ps w':=
 ⟨h.b0.step hb,h.b1.step hb,h.b2.step hb,af h.own hb,h.eq,fun p hp=>(h.el p hp).step hb,h.bel.Ml hb⟩
theorem Hy.next{c u:VC}{l:List aC}{cap':Nat}{ps:List PV}{o:Obj}{y:aC}(h:Hy w c l i A cap ps w3)(hy:l[i]?=some y)(hu:RV (fun b=>w.heap.size+3<=b/\(Value.slice A i cap).ownBlock≠some b) w3 u y)(hg:(w3.alloc o).grownBy w4 (Value.slice A i cap).ownBlock)(hat:(Value.slice A' (i+1) cap').ownBlock=(Value.slice A i cap).ownBlock\/(Value.slice A' (i+1) cap').ownBlock=some (w3.alloc o).heap.size)(hown:w4.ownsRow (w.heap.size+3) 29 5 (.slice A' (i+1) cap') (i+1) (aN bD ps++bD (u,y))):
  Hy w c l (i+1) A' cap' (ps++[(u,y)]) (w4.setCell ⟨w.heap.size+1+1,3,none⟩ (.slice A' (i+1) cap')):=by
  have hne:∀b,b<w.heap.size+3->some b≠(Value.slice A i cap).ownBlock:=fun b hb e=>by have:=ak h.own b e.symm;omega
  have keep:∀b,b<w3.heap.size->some b≠(Value.slice A i cap).ownBlock->w4.heap[b]?=w3.heap[b]?:=fun b hb hn=>(hg.block b sO hn).trans (Qs w3 o b hb);have hz:=h.b2.lt;have bl:∀{b:Nat} {cs:Array Value},aG w3 b 29 cs->b<w.heap.size+3->aG w4 b 29 cs:=fun hb hlt=>(keep _ hb.lt (hne _ hlt)).trans hb;refine⟨(bl h.b0 oM).Mu (by show w.heap.size≠w.heap.size+1+1;omega) _,(bl h.b1 oM).Mu (by show w.heap.size+1≠w.heap.size+1+1;omega) _,(bl h.b2 oM).Mo 3 _,?_,?_,fun p hp=>?_,?_⟩
  ·rw[cS];exact jt hown fun g hg=>PQ _ _ _ _ (by have:=ak hown g hg;show g≠w.heap.size+1+1;omega)
  ·rw[Oo,h.eq,take_snoc' hy];rfl
  ·have hr:RV (fun b=>w.heap.size+3<=b/\(Value.slice A' (i+1) cap').ownBlock≠some b) w4 p.1 p.2:=by
    rcases OP.1 hp with hp|hp
    ·exact jr (h.el p hp) hg hat
    ·simp at hp;subst hp;exact jr hu hg hat
   exact hr.Mr fun b hb _=>⟨hb,PQ _ _ _ _ (by show b≠w.heap.size+1+1;omega)⟩
  ·have h4:Bl w w4:=(h.bel.alloc h.bel.size o).grown hg (by have:=h.bel.size;simp;omega) (fun k hk=>by have:=ak h.own k hk;omega);exact h4.setCell (by show w.heap.size<=w.heap.size+1+1;omega) _
end
structure Co(w:World)(c:VC)(d:List bf)(LA:Option Addr)(ln lc:Nat)(ps:List PV)(i:Nat)(A:Option Addr)(cap:Nat)(fs:List PF)(wr:World):Prop where
 b0:aG wr w.heap.size 29 c.arr
 b1:aG wr (w.heap.size+1) 29 VC.zero.arr
 b2:aG wr (w.heap.size+1+1) 29 (VC.arr ⟨c.k,c.n,c.t,LA,ln,lc,A,i,cap⟩)
 sl:SL (fun b=>w.heap.size+3<=b/\(Value.slice A i cap).ownBlock≠some b) wr LA ln lc ps
 own:wr.ownsRow (w.heap.size+3) 77 6 (.slice A i cap) i (aN cw fs)
 eq:fs.map Prod.snd=d.take i
 sz:∀p∈fs,p.2.s.size<=aF
 el:∀p∈fs,RV (fun b=>w.heap.size+3<=b/\(Value.slice A i cap).ownBlock≠some b) wr p.1 p.2.v
 bel:Bl w wr
section
variable {k b n o i c ln cap lc size:Nat} {w w' wr w3 w4:World} {t:TypeId} {x d:Int} {l:List ByteArray} {v:Value} {s:ByteArray} {A A' LA:Option Addr}
theorem Co.step{c:VC}{d:List bf}{ps:List PV}{fs:List PF}(h:Co w c d LA ln lc ps i A cap fs wr)(hb:Bl wr w'):Co w c d LA ln lc ps i A cap fs w':=
 ⟨h.b0.step hb,h.b1.step hb,h.b2.step hb,h.sl.step hb,af h.own hb,h.eq,h.sz,fun p hp=>(h.el p hp).step hb,h.bel.Ml hb⟩
theorem Co.next{c u:VC}{d:List bf}{ps:List PV}{cap':Nat}{fs:List PF}{o:Obj}{f:bf}(h:Co w c d LA ln lc ps i A cap fs w3)(hy:d[i]?=some f)(hs:f.s.size<=aF)(hu:RV (fun b=>w.heap.size+3<=b/\(Value.slice A i cap).ownBlock≠some b) w3 u f.v)(hg:(w3.alloc o).grownBy w4 (Value.slice A i cap).ownBlock)(hat:(Value.slice A' (i+1) cap').ownBlock=(Value.slice A i cap).ownBlock\/(Value.slice A' (i+1) cap').ownBlock=some (w3.alloc o).heap.size)(hown:w4.ownsRow (w.heap.size+3) 77 6 (.slice A' (i+1) cap') (i+1) (aN cw fs++cw (u,f))):
  Co w c d LA ln lc ps (i+1) A' cap' (fs++[(u,f)]) (w4.setCell ⟨w.heap.size+1+1,4,none⟩ (.slice A' (i+1) cap')):=by
  have hne:∀b,b<w.heap.size+3->some b≠(Value.slice A i cap).ownBlock:=fun b hb e=>by have:=ak h.own b e.symm;omega
  have keep:∀b,b<w3.heap.size->some b≠(Value.slice A i cap).ownBlock->w4.heap[b]?=w3.heap[b]?:=fun b hb hn=>(hg.block b sO hn).trans (Qs w3 o b hb);have hz:=h.b2.lt;have bl:∀{b:Nat} {cs:Array Value},aG w3 b 29 cs->b<w.heap.size+3->aG w4 b 29 cs:=fun hb hlt=>(keep _ hb.lt (hne _ hlt)).trans hb;refine⟨(bl h.b0 oM).Mu (by show w.heap.size≠w.heap.size+1+1;omega) _,(bl h.b1 oM).Mu (by show w.heap.size+1≠w.heap.size+1+1;omega) _,(bl h.b2 oM).Mo 4 _,?_,?_,?_,fun p hp=>?_,fun p hp=>?_,?_⟩
  ·refine h.sl.Mr fun b hb hl=>⟨⟨hb.1,fun e=>?_⟩,?_⟩
   ·rcases hat with k|k
    ·exact hb.2 (k▸e)
    ·rw[k] at e;injection e with e;simp at e;omega
   ·rw[PQ _ _ _ _ (by show b≠w.heap.size+1+1;omega)];exact keep b hl (fun e=>hb.2 e.symm)
  ·rw[cS];exact jt hown fun g hg=>PQ _ _ _ _ (by have:=ak hown g hg;show g≠w.heap.size+1+1;omega)
  ·rw[Oo,h.eq,take_snoc' hy];rfl
  ·rcases OP.1 hp with hp|hp
   ·exact h.sz p hp
   ·simp at hp;subst hp;exact hs
  ·have hr:RV (fun b=>w.heap.size+3<=b/\(Value.slice A' (i+1) cap').ownBlock≠some b) w4 p.1 p.2.v:=by
    rcases OP.1 hp with hp|hp
    ·exact jr (h.el p hp) hg hat
    ·simp at hp;subst hp;exact jr hu hg hat
   exact hr.Mr fun b hb _=>⟨hb,PQ _ _ _ _ (by show b≠w.heap.size+1+1;omega)⟩
  ·have h4:Bl w w4:=(h.bel.alloc h.bel.size o).grown hg (by have:=h.bel.size;simp;omega) (fun k hk=>by have:=ak h.own k hk;omega);exact h4.setCell (by show w.heap.size<=w.heap.size+1+1;omega) _
theorem Co.start{c:VC}{l:List aC}{d:List bf}{ps:List PV}(h:Hy w c l i A cap ps wr)(hl:ps.length=i)(hz:i*80<=aF):Co w c d A i cap ps 0 none 0 [] wr:=by
 have hS:=SL.Mq (F:=fun b=>w.heap.size+3<=b) h.own hl hz (fun _ hb=>hb) (fun p hp=>(h.el p hp).mono fun b hb=>hb.1);obtain⟨A',c',e,hs⟩:=hS;cases e;exact⟨h.b0,h.b1,h.b2,hs.mono fun b hb=>⟨hb,by simp[Value.ownBlock]⟩,bP _ _ _ _,rfl,by simp,by simp,h.bel⟩
theorem Co.done{c:VC}{x:aC}{ps:List PV}{fs:List PF}(h:Co w c x.d LA ln lc ps i A cap fs wr)(hx:RW w c x)(hps:ps.map Prod.snd=x.l)(hi:i=x.d.length)(hz:i*96<=aF):
 Eo w x (.returned (VC.val ⟨c.k,c.n,c.t,LA,ln,lc,A,i,cap⟩)) (bM wr (w.heap.size+1) 0 ⟨c.k,c.n,c.t,LA,ln,lc,A,i,cap⟩):=by
 have hfl:fs.length=i:=by have:=congrArg List.length h.eq;rw[Oe,Ow] at this;omega
 obtain⟨A',c',e,hd⟩:=SD.Mq (F:=fun b=>w.heap.size+3<=b) h.own hfl hz (fun _ hb=>hb) h.sz (fun p hp=>(h.el p hp).mono fun b hb=>hb.1);cases e;have ho:=hx.open;have hr:=RV.NC (k:=c.k) (m:=c.n) (t:=c.t) (by rw[ho.t];exact ho.tsz) (h.sl.mono fun b hb=>hb.1) hd;rw[hps,h.eq,OS oM] at hr
 have hr2:RV (fun b=>w.heap.size+3<=b) wr ⟨c.k,c.n,c.t,LA,ln,lc,A,i,cap⟩ x:=by
  have e1:x=.mk c.k c.n c.t x.l x.d:=by
   cases x;simp only[aC.l,aC.d];rw[ho.k,ho.n,ho.t];rfl
  rw[e1];exact hr
 exact⟨_,rfl,hr2.Mr fun b hb _=>⟨by omega,bC oM⟩,aW h.bel oM _ _⟩
end
end Go.Proofs.YtgfoliedmhgpnaaGreatDoor
