/- Parts of the proof, joined: MrShort, Kit, Kit2, Val, ValPure, Kit3, Kit4, Kit5, ValMem, ValList, ValRows, ValEach, ValName. -/
import Derived.Test.YtfkdihlbaghajaaGreatDoorRows
import Derived.Deep.RegionHeld3
import Derived.Maps.RangeWalk
import Derived.Lib.Hide
import Derived.WalkKit
import Derived.WalkSpells
import Derived.WalkLawsBesides
import Derived.Deep.QuietTactic
import Derived.BigQuiet
import Derived.Deep.DeepCutAuto
import Derived.Deep.CutBlock
import Derived.Laws.Rows
import Derived.Laws.ResultCell
import Derived.RegionTactic
import Derived.BigRegion
import Derived.Maps.AppendAt
import Derived.Deep.AppendLies
import Derived.OwnWalk
import Derived.Deep.RegionLaw
import Derived.StillTail
import Derived.IntWalk
import Derived.Shelf.Abstract
set_option maxRecDepth 100000
set_option maxHeartbeats 16000000
set_option linter.unusedSimpArgs false
namespace Go
theorem qD {p:Prop} (h:p) : RowKit.Hid p := h
theorem qL {n:Nat} : n≤n := Nat.le_refl n
theorem rO {l r : List Oper} {i : Nat} {o : Oper} (h : l.drop i = o :: r) : l.toArray[i]? = some o := by
 have := congrArg List.head? h
 rw [List.head?_drop] at this
 simpa using this
section
variable {P:Program} {l r:List Oper} {Q:Exit→Act→World→Prop} {md:Region.Mode} {S:World→Prop} {o:Oper} {v:Value} {fuel:Nat} {listed:Array Bool} {a:Act} {w:World} {rs:List Nat}
theorem rT (i:Nat) (hi:l.drop i=o::r) (hy:∀w,S w→Sem.run P (execOp a.eval o) w=Result.ok (Next.value v) w) (h:wpAnyH P md l.toArray Q S fuel (listed.setIfInBounds i true) (a.put o.dst v) w) (h1:Region.noSelect l.toArray=true:=by kernel_rfl) (h2:Region.free md l.toArray listed i=true:=by kernel_rfl) (h3:(Region.ready md l.toArray listed).contains i=true:=by kernel_rfl) (h4:∀(c:List PanicEntry) (a:Act) (w:World),Q (Exit.panic c) (a.put o.dst v) w→Q (Exit.panic c) a w:=by exact fun _ _ _ h=>h) (h5:Region.wanted o (yielded l.toArray a.tmps)=true:=by rfl) (hS:S w:=by assumption):wpAnyH P md l.toArray Q S (fuel+1) listed a w:=wpAnyH_take (rO hi) h1 h2 h3 h4 (Or.inl ⟨h5,hy⟩) hS h
theorem rU (i:Nat) (hi:l.drop i=o::r) (h:wpAnyH P md l.toArray Q S fuel (listed.setIfInBounds i true) (a.put o.dst v) w) (h1:Region.noSelect l.toArray=true:=by kernel_rfl) (h2:Region.free md l.toArray listed i=true:=by kernel_rfl) (h3:(Region.ready md l.toArray listed).contains i=true:=by kernel_rfl) (h4:∀(c:List PanicEntry) (a:Act) (w:World),Q (Exit.panic c) (a.put o.dst v) w→Q (Exit.panic c) a w:=by exact fun _ _ _ h=>h) (h5:Region.wanted o (yielded l.toArray a.tmps)=true:=by rfl) (hy:∀w,S w→Sem.run P (execOp a.eval o) w=Result.ok (Next.value v) w:=by intro w' hSw;(try dsimp only at hSw);go_simp;(try with_reducible rfl)) (hS:S w:=by assumption):wpAnyH P md l.toArray Q S (fuel+1) listed a w:=wpAnyH_take (rO hi) h1 h2 h3 h4 (Or.inl ⟨h5,hy⟩) hS h
theorem rR (rs:List Nat) (h:AllReadyH P md l.toArray Q S fuel listed a w rs) (hr:Region.ready md l.toArray listed=rs:=by kernel_rfl) (hn:rs≠[]:=by simp):wpAnyH P md l.toArray Q S (fuel+1) listed a w:=wpAnyH_ready hr hn h
theorem rC {i:Nat} (h:∀K':Act→World→Prop,Shut (∀(a:Act) (w:World),S w→(S w→wpAnyH P md l.toArray Q S fuel (listed.setIfInBounds i true) a w)→K' a w)→if Region.wanted o (yielded l.toArray a.tmps)=true then Oper.wp P o a w K' Q else K' (a.put o.dst undef) w) (h2:AllReadyH P md l.toArray Q S fuel listed a w rs) (hi:l.drop i=o::r:=by rfl):AllReadyH P md l.toArray Q S fuel listed a w (i::rs):=AllReadyH.cons (rO hi) h h2
theorem rN:AllReadyH P md l.toArray Q S fuel listed a w []:=AllReadyH.nil
theorem rY (i:Nat) (hi:l.drop i=o::r) (h:∀K':Act→World→Prop,Shut (∀(a:Act) (w:World),S w→(S w→wpAnyH P md l.toArray Q S fuel (listed.setIfInBounds i true) a w)→K' a w)→if Region.wanted o (yielded l.toArray a.tmps)=true then Oper.wp P o a w K' Q else K' (a.put o.dst undef) w) (hr:Region.ready md l.toArray listed=[i]:=by kernel_rfl):wpAnyH P md l.toArray Q S (fuel+1) listed a w:=wpAnyH_ready hr (by simp) (AllReadyH.cons (rO hi) h AllReadyH.nil)
theorem rD (h:Q Exit.normal a w) (f:Nat) (hr:Region.ready md l.toArray listed=[]:=by kernel_rfl):wpAnyH P md l.toArray Q S f listed a w:=wpAnyH_done hr h f
end
end Go
namespace Go.Proofs.YtfkdihlbaghajaaGreatDoor
open Go.RowKit
end Go.Proofs.YtfkdihlbaghajaaGreatDoor
namespace Go.RowKit
theorem Below.step{W w1 w2:World}(h:Below W.heap.size W w1)(k:Below w1.heap.size w1 w2):Below W.heap.size W w2:=h.trans (k.mono h.size)
end Go.RowKit
namespace Go.Proofs.YtfkdihlbaghajaaGreatDoor
open Go.RowKit
end Go.Proofs.YtfkdihlbaghajaaGreatDoor
namespace Go.RowKit
theorem Below.drewN{B:Nat}{a w:World}(h:Below B a w)(n:Nat):Below B a (w.drewN n):=⟨h.os,h.tape,h.output,h.size,h.block⟩
end Go.RowKit
namespace Go.Proofs.YtfkdihlbaghajaaGreatDoor
open Go.RowKit
structure BW(w:World) where
 val:World
 below:Below w.heap.size w val
instance (w:World):Nonempty (BW w):=⟨⟨w,Below.refl _ _⟩⟩
theorem BW.cell{w:World}(k:BW w){a:Addr}{v:Value}(h:w.cell? a=some v):k.val.cell? a=some v:=
 (k.below.cell (World.block_lt_of_cell? w a h)).trans h
theorem wp_region_bw{P:Program}{id:Nat}{Q:Exit→Act→World→Prop}{a:Act}{w:World}{l:List Oper}(hm:P.follows .mixedOrders=true)(hB:Region.lexB .any l.toArray=true)(h:wpQuiet P l.toArray (fun w'=>∃k:BW w,w'=k.val) (fun a'=>∀w',(∃k:BW w,w'=k.val)→Q .normal a' w') l a):(Code.region id l.toArray true).wp P Q a w:=
 wp_region_quiet (C:=fun w'=>∃k:BW w,w'=k.val) hm hB ⟨⟨w.drew,(Below.refl _ _).drew⟩,rfl⟩ (by simpa using h)
theorem Calls.bw{P:Program}{f:FuncId}{args:Array Value}{w:World}{k:BW w}{v:Value}(h:Calls P f args k.val fun e w'=>e=.returned v∧Below k.val.heap.size k.val w'):Calls P f args k.val fun e w''=>e=.returned v∧∃k:BW w,w''=k.val:=
 h.mono fun _ _ ⟨he,hb⟩=>⟨he,⟨_,k.below.step hb⟩,rfl⟩
def Blk(w:World)(g:Nat)(t:TypeId)(cs:Array Value):Prop:=w.heap[g]?=some (.cells cs t (0,0))
section
variable {w w':World} {g:Nat} {t:TypeId} {cs:Array Value}
theorem Blk.lt(h:Blk w g t cs):g<w.heap.size:=by
 rcases Nat.lt_or_ge g w.heap.size with hlt|hge
 ·exact hlt
 ·unfold Blk at h;rw[Array.getElem?_eq_none hge] at h;cases h
theorem Blk.cell(h:Blk w g t cs)(i:Nat):w.cell? ⟨g,i,none⟩=cs[i]?:=cell_of_row w g i cs t (0,0) h
theorem Blk.frozen(h:Blk w g t cs)(i:Nat):w.frozen? ⟨g,i,none⟩=false:=by
 unfold Blk at h
 simp[World.frozen?,h]
theorem Blk.new(w:World)(t:TypeId)(cs:Array Value):Blk (w.alloc (.cells cs t)) w.heap.size t cs:=heap_alloc_new w _
theorem Blk.new_at{w:World}{g:Nat}{t:TypeId}{cs:Array Value}(h:g=w.heap.size):Blk (w.alloc (.cells cs t)) g t cs:=by rw[h];exact Blk.new w t cs
theorem Blk.drew(h:Blk w g t cs):Blk w.drew g t cs:=h
theorem Blk.alloc(h:Blk w g t cs)(o:Obj):Blk (w.alloc o) g t cs:=(Below.heap_alloc w o g h.lt).trans h
theorem Blk.set_(h:Blk w g t cs)(i:Nat)(u:Value):Blk (w.setCell ⟨g,i,none⟩ u) g t (cs.setIfInBounds i u):=by
 unfold Blk at h ⊢
 simp[World.setCell,Array.getElem?_modify,h]
theorem Blk.far(h:Blk w g t cs){p:Addr}(hp:g≠p.block)(u:Value):Blk (w.setCell p u) g t cs:=(Below.heap_setCell w p u g hp).trans h
theorem Blk.below{B:Nat}(h:Blk w g t cs)(hb:Below B w w')(hg:g<B):Blk w' g t cs:=(hb.block g hg).trans h
theorem Blk.grown{row:Option Nat}(h:Blk w g t cs)(hb:w.grownBy w' row)(hg:some g≠row):Blk w' g t cs:=(hb.block g h.lt hg).trans h
end
theorem Blk.step{w w':World}{g:Nat}{t:TypeId}{cs:Array Value}(h:Blk w g t cs)(hb:Below w.heap.size w w'):Blk w' g t cs:=h.below hb h.lt
structure VC where
 k:Int
 n:Int
 t:ByteArray
 LA:Option Addr
 ln:Nat
 lc:Nat
 DA:Option Addr
 dn:Nat
 dc:Nat
abbrev VC.val(v:VC):Value:=.agg #[.int .i64 v.k,.int .i64 v.n,.string v.t,.slice v.LA v.ln v.lc,.slice v.DA v.dn v.dc]
abbrev VC.arr(v:VC):Array Value:=#[.int .i64 v.k,.int .i64 v.n,.string v.t,.slice v.LA v.ln v.lc,.slice v.DA v.dn v.dc]
def VC.list(c:VC):List Value:=[.int .i64 c.k,.int .i64 c.n,.string c.t,.slice c.LA c.ln c.lc,.slice c.DA c.dn c.dc]
def VC.zero:VC:=⟨0,0,ByteArray.empty,none,0,0,none,0,0⟩
def VAt(w:World)(b off:Nat)(v:VC):Prop:=
 w.cell? ⟨b,off,none⟩=some (.int .i64 v.k)∧w.cell? ⟨b,off+1,none⟩=some (.int .i64 v.n)∧w.cell? ⟨b,off+2,none⟩=some (.string v.t)∧
 w.cell? ⟨b,off+3,none⟩=some (.slice v.LA v.ln v.lc)∧w.cell? ⟨b,off+4,none⟩=some (.slice v.DA v.dn v.dc)
theorem VAt.lt{w:World}{b off:Nat}{v:VC}(h:VAt w b off v):b<w.heap.size:=World.block_lt_of_cell? w ⟨b,off,none⟩ h.1
theorem VAt.keep{w w':World}{b off:Nat}{v:VC}(h:VAt w b off v)(hb:w'.heap[b]?=w.heap[b]?):VAt w' b off v:=by
 have e:∀o,w'.cell? ⟨b,o,none⟩=w.cell? ⟨b,o,none⟩:=fun o=>World.cell?_of_block (w:=w) (a:=⟨b,o,none⟩) hb
 exact⟨(e _).trans h.1,(e _).trans h.2.1,(e _).trans h.2.2.1,(e _).trans h.2.2.2.1,(e _).trans h.2.2.2.2⟩
theorem VAt.of_blk{w:World}{b:Nat}{t:TypeId}{v:VC}(h:Blk w b t v.arr):VAt w b 0 v:=by
 refine⟨?_,?_,?_,?_,?_⟩<;>rw[h.cell]<;>rfl
abbrev setV(w:World)(b off:Nat)(v:VC):World:=
 ((((w.setCell ⟨b,off,none⟩ (.int .i64 v.k)).setCell ⟨b,off+1,none⟩ (.int .i64 v.n)).setCell ⟨b,off+2,none⟩ (.string v.t)).setCell ⟨b,off+3,none⟩ (.slice v.LA v.ln v.lc)).setCell ⟨b,off+4,none⟩ (.slice v.DA v.dn v.dc)
theorem Blk.putV{w:World}{g:Nat}{t:TypeId}{u:VC}(h:Blk w g t u.arr)(v:VC):Blk (setV w g 0 v) g t v.arr:=
 ((((h.set_ 0 _).set_ 1 _).set_ 2 _).set_ 3 _).set_ 4 _
theorem Blk.farV{w:World}{g:Nat}{t:TypeId}{cs:Array Value}(h:Blk w g t cs){b:Nat}(hne:g≠b)(off:Nat)(v:VC):Blk (setV w b off v) g t cs:=
 ((((h.far hne _).far hne _).far hne _).far hne _).far hne _
theorem below_setV{B:Nat}{a w:World}(h:Below B a w){b:Nat}(hB:B≤b)(off:Nat)(v:VC):Below B a (setV w b off v):=
 ((((h.setCell hB _).setCell hB _).setCell hB _).setCell hB _).setCell hB _
theorem drop_of{α:Type}{l:List α}{i:Nat}{a:α}(h:l[i]?=some a):l.drop i=a::l.drop (i+1):=by
 rw[List.drop_eq_getElem?_toList_append,h];rfl
end Go.Proofs.YtfkdihlbaghajaaGreatDoor
namespace Go.RowKit
theorem Below.step'{B:Nat}{W w1 w2:World}(h:Below B W w1)(k:Below w1.heap.size w1 w2)(hB:B≤W.heap.size:=by exact qL):Below B W w2:=h.trans (k.mono (Nat.le_trans hB h.size))
end Go.RowKit
namespace Go.Proofs.YtfkdihlbaghajaaGreatDoor
open Go.RowKit
theorem addr_add(g off j:Nat):(⟨g,off,none⟩:Addr).add j=⟨g,off+j,none⟩:=by
 unfold Addr.add
 split
 ·rename_i h;subst h;rfl
 ·rfl
theorem news_at(w:World)(t:TypeId)(l:List Value):∀j u,l[j]?=some u→(w.alloc (.cells l.toArray t)).cell? ((⟨w.heap.size,0,none⟩:Addr).add j)=some u:=by
 intro j u h
 rw[addr_add,Nat.zero_add,World.cell?_alloc_new]
 simpa using h
mutual
inductive Val where
 | mk (k n:Int) (t:ByteArray) (l:List Val) (d:List Fld)
inductive Fld where
 | mk (s:ByteArray) (v:Val)
end
def Val.k:Val→Int | .mk k _ _ _ _=>k
def Val.n:Val→Int | .mk _ n _ _ _=>n
def Val.t:Val→ByteArray | .mk _ _ t _ _=>t
def Val.l:Val→List Val | .mk _ _ _ l _=>l
def Val.d:Val→List Fld | .mk _ _ _ _ d=>d
def Fld.s:Fld→ByteArray | .mk s _=>s
def Fld.v:Fld→Val | .mk _ v=>v
def Val.zero:Val:=.mk 0 0 ByteArray.empty [] []
theorem Val.ind{p:Val→Prop}(h:∀k n t l d,(∀v∈l,p v)→(∀f∈d,p f.v)→p (.mk k n t l d)):∀v,p v:=by
 intro v
 refine Val.rec (motive_1:=p) (motive_2:=fun f=>p f.v) (motive_3:=fun l=>∀v∈l,p v) (motive_4:=fun d=>∀f∈d,p f.v) ?_ ?_ ?_ ?_ ?_ ?_ v
 ·intro k n t l d hl hd
  exact h k n t l d hl hd
 ·intro s v hv
  exact hv
 ·intro v hv;simp at hv
 ·intro x r hx hr v hv
  rcases List.mem_cons.1 hv with rfl|hv
  ·exact hx
  ·exact hr v hv
 ·intro v hv;simp at hv
 ·intro x r hx hr v hv
  rcases List.mem_cons.1 hv with rfl|hv
  ·exact hx
  ·exact hr v hv
def reach0:Nat:=140737488351232
def reach:Nat:=140737488355328
theorem le_reach:reach0≤reach:=by decide
def Unf(w:World)(b:Nat):Prop:=∀i,w.frozen? ⟨b,i,none⟩=false
def Ft(F:Nat→Prop)(w:World)(b:Nat):Prop:=F b∧(¬F 0→Unf w b)
theorem Ft.top{w:World}{b:Nat}:Ft (fun _=>True) w b:=⟨trivial,fun h=>absurd trivial h⟩
theorem Ft.keepG{F G:Nat→Prop}{w w':World}{b:Nat}(h:Ft F w b)(hb:b<w.heap.size)(hk:∀b,F b→b<w.heap.size→G b∧w'.heap[b]?=w.heap[b]?):Ft G w' b:=
 ⟨(hk b h.1 hb).1,fun hG i=>(World.frozen?_of_block (w:=w) (a:=⟨b,i,none⟩) (hk b h.1 hb).2).trans (h.2 (fun h0=>hG (hk 0 h0 (by omega)).1) i)⟩
mutual
def RV(F:Nat→Prop)(w:World):VC→Val→Prop
 | c,.mk k n t l d=>c.k=k∧c.n=n∧c.t=t∧t.size≤reach∧
  c.ln=l.length∧c.ln≤c.lc∧c.ln*80≤reach∧(0<c.ln→∃b off,c.LA=some ⟨b,off,none⟩∧Ft F w b∧RLs F w b off l)∧
  c.dn=d.length∧c.dn≤c.dc∧c.dn*96≤reach∧(0<c.dn→∃b off,c.DA=some ⟨b,off,none⟩∧Ft F w b∧RDs F w b off d)
def RLs(F:Nat→Prop)(w:World):Nat→Nat→List Val→Prop
 | _,_,[]=>True
 | b,off,x::r=>(∃c,VAt w b off c∧RV F w c x)∧RLs F w b (off+5) r
def RDs(F:Nat→Prop)(w:World):Nat→Nat→List Fld→Prop
 | _,_,[]=>True
 | b,off,f::r=>RF F w b off f∧RDs F w b (off+6) r
def RF(F:Nat→Prop)(w:World):Nat→Nat→Fld→Prop
 | b,off,.mk s x=>w.cell? ⟨b,off,none⟩=some (.string s)∧s.size≤reach∧∃c,VAt w b (off+1) c∧RV F w c x
end
section
variable {F G:Nat→Prop} {w w':World}
theorem RLs.at{l:List Val}:∀{b off:Nat},RLs F w b off l→∀(i:Nat) (x:Val),l[i]?=some x→∃c,VAt w b (off+i*5) c∧RV F w c x:=by
 induction l with
 | nil=>intro b off _ i x hi;simp at hi
 | cons y r ih=>
  intro b off h i x hi
  simp only[RLs] at h
  cases i with
  | zero=>
   simp at hi
   subst hi
   simpa using h.1
  | succ i=>
   obtain⟨c,hc,hx⟩:=ih h.2 i x (by simpa using hi)
   exact⟨c,by rw[show off+(i+1)*5=off+5+i*5 from by omega];exact hc,hx⟩
theorem RLs.mk{l:List Val}:∀{b off:Nat},(∀(i:Nat) (x:Val),l[i]?=some x→∃c,VAt w b (off+i*5) c∧RV F w c x)→RLs F w b off l:=by
 induction l with
 | nil=>intro b off _;simp only[RLs]
 | cons y r ih=>
  intro b off h
  simp only[RLs]
  refine⟨by simpa using h 0 y rfl,ih fun i x hi=>?_⟩
  obtain⟨c,hc,hx⟩:=h (i+1) x (by simpa using hi)
  exact⟨c,by rw[show off+5+i*5=off+(i+1)*5 from by omega];exact hc,hx⟩
theorem RF.parts{b off:Nat}{f:Fld}(h:RF F w b off f):w.cell? ⟨b,off,none⟩=some (.string f.s)∧f.s.size≤reach∧∃c,VAt w b (off+1) c∧RV F w c f.v:=by
 cases f
 simp only[RF] at h
 exact h
theorem RF.mk{b off:Nat}{f:Fld}(h1:w.cell? ⟨b,off,none⟩=some (.string f.s))(h2:f.s.size≤reach)(h3:∃c,VAt w b (off+1) c∧RV F w c f.v):RF F w b off f:=by
 cases f
 simp only[RF]
 exact⟨h1,h2,h3⟩
theorem RDs.at{l:List Fld}:∀{b off:Nat},RDs F w b off l→∀(i:Nat) (x:Fld),l[i]?=some x→RF F w b (off+i*6) x:=by
 induction l with
 | nil=>intro b off _ i x hi;simp at hi
 | cons y r ih=>
  intro b off h i x hi
  simp only[RDs] at h
  cases i with
  | zero=>
   simp at hi
   subst hi
   simpa using h.1
  | succ i=>
   have:=ih h.2 i x (by simpa using hi)
   rw[show off+(i+1)*6=off+6+i*6 from by omega]
   exact this
theorem RDs.mk{l:List Fld}:∀{b off:Nat},(∀(i:Nat) (x:Fld),l[i]?=some x→RF F w b (off+i*6) x)→RDs F w b off l:=by
 induction l with
 | nil=>intro b off _;simp only[RDs]
 | cons y r ih=>
  intro b off h
  simp only[RDs]
  refine⟨by simpa using h 0 y rfl,ih fun i x hi=>?_⟩
  have:=h (i+1) x (by simpa using hi)
  rw[show off+6+i*6=off+(i+1)*6 from by omega]
  exact this
structure RVs(F:Nat→Prop)(w:World)(c:VC)(x:Val):Prop where
 k:c.k=x.k
 n:c.n=x.n
 t:c.t=x.t
 tsz:x.t.size≤reach
 ln:c.ln=x.l.length
 lc:c.ln≤c.lc
 lsz:c.ln*80≤reach
 la:0<c.ln→∃b off,c.LA=some ⟨b,off,none⟩∧Ft F w b∧∀(i:Nat) (y:Val),x.l[i]?=some y→∃e,VAt w b (off+i*5) e∧RV F w e y
 dn:c.dn=x.d.length
 dc:c.dn≤c.dc
 dsz:c.dn*96≤reach
 da:0<c.dn→∃b off,c.DA=some ⟨b,off,none⟩∧Ft F w b∧∀(i:Nat) (f:Fld),x.d[i]?=some f→w.cell? ⟨b,off+i*6,none⟩=some (.string f.s)∧f.s.size≤reach∧∃e,VAt w b (off+i*6+1) e∧RV F w e f.v
theorem RV.open{c:VC}{x:Val}(h:RV F w c x):RVs F w c x:=by
 cases x with
 | mk k n t l d=>
  simp only[RV] at h
  obtain⟨h1,h2,h3,h4,h5,h6,h7,h8,h9,h10,h11,h12⟩:=h
  refine⟨h1,h2,h3,h4,h5,h6,h7,fun h=>?_,h9,h10,h11,fun h=>?_⟩
  ·obtain⟨b,off,e,hF,hl⟩:=h8 h
   exact⟨b,off,e,hF,fun i y hi=>hl.at i y hi⟩
  ·obtain⟨b,off,e,hF,hl⟩:=h12 h
   exact⟨b,off,e,hF,fun i f hi=>(hl.at i f hi).parts⟩
theorem RVs.shut{c:VC}{x:Val}(h:RVs F w c x):RV F w c x:=by
 cases x with
 | mk k n t l d=>
  simp only[RV]
  refine⟨h.k,h.n,h.t,h.tsz,h.ln,h.lc,h.lsz,fun h'=>?_,h.dn,h.dc,h.dsz,fun h'=>?_⟩
  ·obtain⟨b,off,e,hF,hl⟩:=h.la h'
   exact⟨b,off,e,hF,RLs.mk hl⟩
  ·obtain⟨b,off,e,hF,hl⟩:=h.da h'
   exact⟨b,off,e,hF,RDs.mk fun i f hi=>RF.mk (hl i f hi).1 (hl i f hi).2.1 (hl i f hi).2.2⟩
theorem RV.keepG{x:Val}:∀{c:VC},RV F w c x→(∀b,F b→b<w.heap.size→G b∧w'.heap[b]?=w.heap[b]?)→RV G w' c x:=by
 induction x using Val.ind with
 | h k n t l d ihl ihd=>
  intro c h hk
  have ho:=h.open
  refine RVs.shut ⟨ho.k,ho.n,ho.t,ho.tsz,ho.ln,ho.lc,ho.lsz,fun h'=>?_,ho.dn,ho.dc,ho.dsz,fun h'=>?_⟩
  ·obtain⟨b,off,e,hF,hl⟩:=ho.la h'
   have hb:b<w.heap.size:=by
    obtain⟨y,hy⟩:∃y,l[0]?=some y:=⟨_,List.getElem?_eq_getElem (by have:=ho.ln;simp only[Val.l] at this;omega)⟩
    obtain⟨e',he',_⟩:=hl 0 y hy
    exact he'.lt
   refine⟨b,off,e,hF.keepG hb hk,fun i y hi=>?_⟩
   obtain⟨e',he',hr⟩:=hl i y hi
   exact⟨e',he'.keep (hk b hF.1 hb).2,ihl y (List.mem_of_getElem? hi) hr hk⟩
  ·obtain⟨b,off,e,hF,hl⟩:=ho.da h'
   have hb:b<w.heap.size:=by
    obtain⟨y,hy⟩:∃y,d[0]?=some y:=⟨_,List.getElem?_eq_getElem (by have:=ho.dn;simp only[Val.d] at this;omega)⟩
    obtain⟨_,_,e',he',_⟩:=hl 0 y hy
    exact he'.lt
   refine⟨b,off,e,hF.keepG hb hk,fun i f hi=>?_⟩
   obtain⟨hs,hz,e',he',hr⟩:=hl i f hi
   exact⟨(World.cell?_of_block (w:=w) (a:=⟨b,off+i*6,none⟩) (hk b hF.1 hb).2).trans hs,hz,e',he'.keep (hk b hF.1 hb).2,ihd f (List.mem_of_getElem? hi) hr hk⟩
theorem RV.mono{c:VC}{x:Val}(h:RV F w c x)(hk:∀b,F b→G b):RV G w c x:=h.keepG fun b hb _=>⟨hk b hb,rfl⟩
theorem RV.keep{c:VC}{x:Val}(h:RV F w c x)(hk:∀b,F b→w'.heap[b]?=w.heap[b]?):RV F w' c x:=h.keepG fun b hb _=>⟨hb,hk b hb⟩
theorem RV.lt{c:VC}{x:Val}(h:RV F w c x):RV (fun b=>F b∧b<w.heap.size) w c x:=h.keepG fun _ hb hl=>⟨⟨hb,hl⟩,rfl⟩
theorem RV.step{c:VC}{x:Val}(h:RV F w c x)(hb:Below w.heap.size w w'):RV F w' c x:=h.keepG fun b hF hl=>⟨hF,hb.block b hl⟩
theorem RV.alloc{c:VC}{x:Val}(h:RV F w c x)(o:Obj):RV F (w.alloc o) c x:=h.step ((Below.refl _ _).alloc (qL) o)
theorem RV.drewN{c:VC}{x:Val}(h:RV F w c x)(n:Nat):RV F (w.drewN n) c x:=h.keep fun _ _=>rfl
end
abbrev RW(w:World)(c:VC)(x:Val):Prop:=RV (fun _=>True) w c x
def Val.parts(x:Val):List Val:=if x.k=6 then x.l else if x.k=5 then x.d.map Fld.v else []
mutual
def Val.size:Val→Nat
 | .mk k _ _ l d=>1+if k=6 then sizeL l else if k=5 then sizeD d else 0
def sizeL:List Val→Nat
 | []=>0
 | x::r=>x.size+sizeL r
def sizeD:List Fld→Nat
 | []=>0
 | f::r=>sizeF f+sizeD r
def sizeF:Fld→Nat
 | .mk _ v=>v.size
end
mutual
def Val.height:Val→Nat
 | .mk k _ _ l d=>1+if k=6 then heightL l else if k=5 then heightD d else 0
def heightL:List Val→Nat
 | []=>0
 | x::r=>max x.height (heightL r)
def heightD:List Fld→Nat
 | []=>0
 | f::r=>max (heightF f) (heightD r)
def heightF:Fld→Nat
 | .mk _ v=>v.height
end
theorem sizeF_eq(f:Fld):sizeF f=f.v.size:=by cases f;simp[sizeF,Fld.v]
theorem heightF_eq(f:Fld):heightF f=f.v.height:=by cases f;simp[heightF,Fld.v]
theorem sizeD_eq(d:List Fld):sizeD d=sizeL (d.map Fld.v):=by
 induction d with
 | nil=>simp[sizeD,sizeL]
 | cons f r ih=>simp[sizeD,sizeL,ih,sizeF_eq]
theorem heightD_eq(d:List Fld):heightD d=heightL (d.map Fld.v):=by
 induction d with
 | nil=>simp[heightD,heightL]
 | cons f r ih=>simp[heightD,heightL,ih,heightF_eq]
theorem size_parts(x:Val):x.size=1+sizeL x.parts:=by
 cases x with
 | mk k n t l d=>
  show Val.size (.mk k n t l d)=1+sizeL (if k=6 then l else if k=5 then d.map Fld.v else [])
  rw[Val.size]
  by_cases h6:k=6
  ·rw[if_pos h6,if_pos h6]
  ·rw[if_neg h6,if_neg h6]
   by_cases h5:k=5
   ·rw[if_pos h5,if_pos h5,sizeD_eq]
   ·rw[if_neg h5,if_neg h5,sizeL]
theorem height_parts(x:Val):x.height=1+heightL x.parts:=by
 cases x with
 | mk k n t l d=>
  show Val.height (.mk k n t l d)=1+heightL (if k=6 then l else if k=5 then d.map Fld.v else [])
  rw[Val.height]
  by_cases h6:k=6
  ·rw[if_pos h6,if_pos h6]
  ·rw[if_neg h6,if_neg h6]
   by_cases h5:k=5
   ·rw[if_pos h5,if_pos h5,heightD_eq]
   ·rw[if_neg h5,if_neg h5,heightL]
theorem size_pos(x:Val):1≤x.size:=by rw[size_parts];omega
theorem height_pos(x:Val):1≤x.height:=by rw[height_parts];omega
theorem sizeL_append(l m:List Val):sizeL (l++m)=sizeL l+sizeL m:=by
 induction l with
 | nil=>simp[sizeL]
 | cons x r ih=>simp[sizeL,ih];omega
theorem heightL_append(l m:List Val):heightL (l++m)=max (heightL l) (heightL m):=by
 induction l with
 | nil=>simp[heightL]
 | cons x r ih=>simp only[List.cons_append,heightL,ih];omega
theorem take_snoc'{α:Type}{l:List α}{i:Nat}{y:α}(h:l[i]?=some y):l.take (i+1)=l.take i++[y]:=by
 rw[List.take_add_one,h];rfl
theorem sizeL_snoc{l:List Val}{i:Nat}{y:Val}(h:l[i]?=some y):sizeL (l.take (i+1))=sizeL (l.take i)+y.size:=by
 rw[take_snoc' h,sizeL_append];simp[sizeL]
theorem heightL_snoc{l:List Val}{i:Nat}{y:Val}(h:l[i]?=some y):heightL (l.take (i+1))=max (heightL (l.take i)) y.height:=by
 rw[take_snoc' h,heightL_append];simp[heightL]
theorem sizeL_take(l:List Val)(i:Nat):sizeL (l.take i)≤sizeL l:=by
 conv=>rhs;rw[←List.take_append_drop i l,sizeL_append]
 omega
theorem heightL_take(l:List Val)(i:Nat):heightL (l.take i)≤heightL l:=by
 conv=>rhs;rw[←List.take_append_drop i l,heightL_append]
 omega
def nodesI(x:Val)(most:Int):Int:=min (x.size:Int) most
def depthI(x:Val)(most:Int):Int:=min (x.height:Int) most
theorem block_of_add(a:Addr)(n:Nat):(a.add n).block=a.block:=by unfold Addr.add;split<;>rfl
theorem add_of_add(a:Addr)(i j:Nat):(a.add i).add j=a.add (i+j):=by
 unfold Addr.add
 by_cases hi:i=0<;>by_cases hj:j=0<;>simp[hi,hj,Nat.add_assoc]
def Reads(w:World)(B size:Nat)(A:Option Addr)(n:Nat)(xs:List Value):Prop:=
 xs.length=n*size∧(0<n→∃ad,A=some ad∧ad.block<B∧∀j u,xs[j]?=some u→w.cell? (ad.add j)=some u)
section
variable {w w':World} {B B' size n:Nat} {A:Option Addr} {xs:List Value}
theorem Reads.keep(h:Reads w B size A n xs)(hk:∀p:Addr,p.block<B→w'.cell? p=w.cell? p):Reads w' B size A n xs:=
 ⟨h.1,fun hn=>by
  obtain⟨ad,e,hb,hc⟩:=h.2 hn
  exact⟨ad,e,hb,fun j u hu=>(hk _ (by rw[block_of_add];exact hb)).trans (hc j u hu)⟩⟩
theorem Reads.below(h:Reads w B size A n xs)(hb:Below B w w'):Reads w' B size A n xs:=h.keep fun _ hp=>hb.cell hp
theorem Reads.alloc(h:Reads w B size A n xs)(hB:B≤w.heap.size)(o:Obj):Reads (w.alloc o) B size A n xs:=h.keep fun p hp=>World.cell?_alloc_lt w o p (by omega)
theorem Reads.cut(h:Reads w B size A n xs){k cap:Nat}(hk:k≤n)(hc:n≤cap):
 Reads w B size (if cap=k then A else A.map (·.add (k*size))) (n-k) (xs.drop (k*size)):=by
 refine⟨by rw[List.length_drop,h.1,Nat.sub_mul],fun hn=>?_⟩
 obtain⟨ad,rfl,hb,hcell⟩:=h.2 (by omega)
 rw[if_neg (by omega)]
 refine⟨ad.add (k*size),rfl,by rw[block_of_add];exact hb,fun j u hu=>?_⟩
 rw[add_of_add]
 exact hcell _ u (by rw[←hu,List.getElem?_drop])
theorem Reads.of_own{base:Nat}{e:TypeId}{c:Nat}(h:w.ownsRow base e size (.slice A n c) n xs):Reads w w.heap.size size A n xs:=by
 refine⟨h.1,fun hn=>?_⟩
 obtain⟨g,cap,hv,_,hlt⟩:=h.form hn
 have hA:A=some ⟨g,0,none⟩:=by injection hv
 subst hA
 exact⟨_,rfl,hlt,h.cells (g:=g) rfl⟩
end
section
variable {P:Program} (w:World)
theorem run_append_of_nil(base:Nat)(t ty e:TypeId)(i:TypeInfo)(size:Nat)(ht:P.underlying t=some (.slice e))(hi:P.info? e=some i)(v:Value)(n:Nat)(xs:List Value)(hown:w.ownsRow base e size v n xs)(c:Nat):(Builtin.append_ #[t,t] ty #[v,.slice none 0 c]).run P w=.ok v w:=by
 rcases hown.2 with⟨rfl,rfl⟩|⟨g,cap,cur,rfl,_,_,hnc,_⟩
 ·simp[Builtin.append_,run_underlying ht,sizeOf,typeInfo,hi,Builtin.lenOf,Builtin.firstCells]
 ·simp[Builtin.append_,run_underlying ht,sizeOf,typeInfo,hi,Builtin.lenOf,Builtin.firstCells,hnc,storeCells]
theorem run_append_any(base:Nat)(t ty e:TypeId)(i:TypeInfo)(z:Value)(size bytes:Nat)(ht:P.underlying t=some (.slice e))(hi:P.info? e=some i)(hz:i.zero=some z)(hsize:i.size=size)(hby:i.bytes=bytes)(hzs:z.cells.size=size)(hsz:0<size)(v:Value)(n:Nat)(xs:List Value)(hown:w.ownsRow base e size v n xs)(B:Nat)(A:Option Addr)(m c:Nat)(news:List Value)(hr:Reads w B size A m news)(h1:∀u∈news,u.oneCell'=true)(h63:n+m≤maxLen)(hbytes:(n+m)*bytes≤140737488355328)(hbase:base≤w.heap.size):
 ∃v' w',(Builtin.append_ #[t,t] ty #[v,.slice A m c]).run P w=.ok v' w'∧w'.ownsRow base e size v' (n+m) (xs++news)∧w.grownBy w' v.ownBlock∧
  (v'.ownBlock=v.ownBlock∨v'.ownBlock=some w.heap.size):=by
 rcases A with _|ad
 ·have hm:m=0:=by
   rcases Nat.eq_zero_or_pos m with h0|h0
   ·exact h0
   ·obtain⟨ad,h,_⟩:=hr.2 h0
    cases h
  subst hm
  have hn:news=[]:=List.eq_nil_of_length_eq_zero (by simpa using hr.1)
  subst hn
  exact⟨v,w,run_append_of_nil w base t ty e i size ht hi v n xs hown c,by simpa using hown,World.grownBy.refl w _,.inl rfl⟩
 ·have hcells:∀j u,news[j]?=some u→w.cell? (ad.add j)=some u:=by
   intro j u hu
   rcases Nat.eq_zero_or_pos m with h0|h0
   ·subst h0
    have hn:news=[]:=List.eq_nil_of_length_eq_zero (by simpa using hr.1)
    subst hn
    simp at hu
   ·obtain⟨ad',h,_,hc⟩:=hr.2 h0
    injection h with h
    subst h
    exact hc j u hu
  obtain⟨v',w',hrun,h2,h3,_,h5⟩:=run_append_own_at (P:=P) w base t ty e i z size bytes ht hi hz hsize hby hzs hsz v n xs hown ad m c news hr.1 hcells h1 h63 hbytes hbase
  exact⟨v',w',hrun,h2,h3,h5⟩
theorem wp_append_any{o:Oper}{a:Act}{K:Act→World→Prop}{Q:Exit→Act→World→Prop}(s x:Operand)(t:TypeId)(ho:o.op=.call {callee:=.builtin .append,args:=#[s,x],argTypes:=#[t,t]})(base:Nat)(e:TypeId)(i:TypeInfo)(z:Value)(size bytes:Nat)(ht:P.underlying t=some (.slice e))(hi:P.info? e=some i)(hz:i.zero=some z)(hsize:i.size=size)(hby:i.bytes=bytes)(hzs:z.cells.size=size)(hsz:0<size)(v:Value)(n:Nat)(xs:List Value)(hs:a.eval s=v)(hown:w.ownsRow base e size v n xs)(B:Nat)(A:Option Addr)(m c:Nat)(news:List Value)(hx:a.eval x=.slice A m c)(hr:Reads w B size A m news)(h1:∀u∈news,u.oneCell'=true)(h63:n+m≤maxLen)(hbytes:(n+m)*bytes≤140737488355328)(hbase:base≤w.heap.size)(h:∀v' w',w'.ownsRow base e size v' (n+m) (xs++news)→w.grownBy w' v.ownBlock→(v'.ownBlock=v.ownBlock∨v'.ownBlock=some w.heap.size)→K (a.put o.dst v') w'):o.wp P a w K Q:=by
 obtain⟨v',w',hrun,h2,h3,h4⟩:=run_append_any (P:=P) w base t o.type e i z size bytes ht hi hz hsize hby hzs hsz v n xs hown B A m c news hr h1 h63 hbytes hbase
 unfold Oper.wp execOp
 simp only[ho,resolve,invoke,builtin,Sem.run_bind,Sem.run_pure,Result.andThen_ok,List.map_toArray,List.map_cons,List.map_nil,hs,hx,hrun]
 exact h v' w' h2 h3 h4
theorem wpList_append_any{ops:Array Oper}{rest:List Oper}{o:Oper}{a:Act}{Q:Exit→Act→World→Prop}(hgd:o.guard=none)(s x:Operand)(t:TypeId)(ho:o.op=.call {callee:=.builtin .append,args:=#[s,x],argTypes:=#[t,t]})(base:Nat)(e:TypeId)(i:TypeInfo)(z:Value)(size bytes:Nat)(ht:P.underlying t=some (.slice e))(hi:P.info? e=some i)(hz:i.zero=some z)(hsize:i.size=size)(hby:i.bytes=bytes)(hzs:z.cells.size=size)(hsz:0<size)(v:Value)(n:Nat)(xs:List Value)(hs:a.eval s=v)(hown:w.ownsRow base e size v n xs)(B:Nat)(A:Option Addr)(m c:Nat)(news:List Value)(hx:a.eval x=.slice A m c)(hr:Reads w B size A m news)(h1:∀u∈news,u.oneCell'=true)(h63:n+m≤maxLen)(hbytes:(n+m)*bytes≤140737488355328)(hbase:base≤w.heap.size)(h:∀v' w',w'.ownsRow base e size v' (n+m) (xs++news)→w.grownBy w' v.ownBlock→(v'.ownBlock=v.ownBlock∨v'.ownBlock=some w.heap.size)→wpList P ops Q rest (a.put o.dst v') w'):wpList P ops Q (o::rest) a w:=
 wpList_plain hgd fun _ hK=>wp_append_any w s x t ho base e i z size bytes ht hi hz hsize hby hzs hsz v n xs hs hown B A m c news hx hr h1 h63 hbytes hbase fun v' w' h2 h3 h4=>hK _ _ (h v' w' h2 h3 h4)
theorem step_append_any{ops:Array Oper}{o:Oper}{a:Act}{K:Act→World→Prop}{Q:Exit→Act→World→Prop}{E:Prop}(hgd:o.guard=none)(s x:Operand)(t:TypeId)(ho:o.op=.call {callee:=.builtin .append,args:=#[s,x],argTypes:=#[t,t]})(base:Nat)(e:TypeId)(i:TypeInfo)(z:Value)(size bytes:Nat)(ht:P.underlying t=some (.slice e))(hi:P.info? e=some i)(hz:i.zero=some z)(hsize:i.size=size)(hby:i.bytes=bytes)(hzs:z.cells.size=size)(hsz:0<size)(v:Value)(n:Nat)(xs:List Value)(hs:a.eval s=v)(hown:w.ownsRow base e size v n xs)(B:Nat)(A:Option Addr)(m c:Nat)(news:List Value)(hx:a.eval x=.slice A m c)(hr:Reads w B size A m news)(h1:∀u∈news,u.oneCell'=true)(h63:n+m≤maxLen)(hbytes:(n+m)*bytes≤140737488355328)(hbase:base≤w.heap.size)(h:∀v' w',w'.ownsRow base e size v' (n+m) (xs++news)→w.grownBy w' v.ownBlock→(v'.ownBlock=v.ownBlock∨v'.ownBlock=some w.heap.size)→K (a.put o.dst v') w'):
 if Region.wanted o (yielded ops a.tmps)=true then Oper.wp P o a w K Q else E:=by
 have hw:Region.wanted o (yielded ops a.tmps)=true:=by simp[Region.wanted,hgd]
 rw[if_pos hw]
 exact wp_append_any w s x t ho base e i z size bytes ht hi hz hsize hby hzs hsz v n xs hs hown B A m c news hx hr h1 h63 hbytes hbase h
end
end Go.Proofs.YtfkdihlbaghajaaGreatDoor
namespace Go
section
variable {P:Program} {ops:Array Oper} {md:Region.Mode} {C:World→Prop}
def wpAnyQL(P:Program)(md:Region.Mode)(ops:Array Oper)(C:World→Prop)(n:Nat)(L:Array Bool→Act→Prop):Nat→Array Bool→Act→Prop
 | 0,listed,a=>L listed a
 | f+1,listed,a=>
  Region.ready md ops listed≠[]∧∀i∈Region.ready md ops listed,i<n∧qOp P ops C i (wpAnyQL P md ops C n L f (listed.setIfInBounds i true)) a
theorem wpAny_of_headQ{n g:Nat}{L:Array Bool→Act→Prop}{Q':Exit→Act→World→Prop}(hL:∀listed a w,C w→L listed a→wpAny P md ops Q' g listed a w):
 ∀(f:Nat) (listed:Array Bool) (a:Act) (w:World),C w→wpAnyQL P md ops C n L f listed a→wpAny P md ops Q' (f+g) listed a w
 | 0,listed,a,w,hw,h=>by rw[Nat.zero_add];exact hL _ _ _ hw h
 | f+1,listed,a,w,hw,h=>by
  rw[show f+1+g=(f+g)+1 by omega]
  exact⟨fun h0=>absurd h0 h.1,fun i hi=>wpOp_of_qOp hw (fun a' w' hw' h'=>wpAny_of_headQ hL f _ a' w' hw' h') (h.2 i hi).2⟩
theorem wpAnyQL_first{n i:Nat}{oi:Oper}{v:Value}{L:Array Bool→Act→Prop}(hi:ops[i]?=some oi)(hsel:∀(j:Nat) (o:Oper) cs b,ops[j]?=some o→o.op≠.select cs b)(hs:Region.sinkB md ops n=true)(hc:Region.chainB md ops n=true)(hn:n<ops.size)(hin:i<n)(hdone:∀listed a,L listed a→∀j∈Region.ready md ops listed,n≤j):
 ∀(f:Nat) (listed:Array Bool) (a:Act),HeadInv md ops n listed→
  (∀j oj,ops[j]?=some oj→j≠i→listed.getD j true=false→(∀e∈oj.after,Region.binds md e=true→e.on≠i)→oi.apart ops oj=true)→
  i∈Region.ready md ops listed→YieldsIn P ops C oi v a→
  wpAnyQL P md ops C n L f (listed.setIfInBounds i true) (a.put oi.dst v)→wpAnyQL P md ops C n L (f+1) listed a:=by
 intro f
 induction f with
 | zero=>
  intro listed a inv _ hr hy H
  have hun:=(mem_ready.1 hr).1
  refine⟨fun h=>(by rw[h] at hr;cases hr),fun j hj=>?_⟩
  have hjn:j<n:=by
   rcases Nat.lt_or_ge j n with h|h
   ·exact h
   ·exact absurd hj (tail_waits hs hc hn inv _ i rfl hin hun j h)
  refine⟨hjn,?_⟩
  by_cases hji:j=i
  ·subst hji;exact hy.qOp hi H
  ·have:=hdone _ _ H j (ready_mono hj hji)
   omega
 | succ f ih=>
  intro listed a inv hfree hr hy H
  have hun:=(mem_ready.1 hr).1
  refine⟨fun h=>(by rw[h] at hr;cases hr),fun j hj=>?_⟩
  have hjn:j<n:=by
   rcases Nat.lt_or_ge j n with h|h
   ·exact h
   ·exact absurd hj (tail_waits hs hc hn inv _ i rfl hin hun j h)
  refine⟨hjn,?_⟩
  by_cases hji:j=i
  ·subst hji;exact hy.qOp hi H
  ·have h1:=(H.2 j (ready_mono hj hji)).2
   obtain⟨hjun,oj,hoj,hall⟩:=mem_ready.1 hj
   have hnot:∀e∈oj.after,Region.binds md e=true→e.on≠i:=fun e he hb heq=>by
    have h1:=hall e he hb
    rw[heq,getD_both hun] at h1
    cases h1
   have h2:=qOp_put hoj (hfree j oj hoj hji hjun hnot) (fun cs b=>hsel i oi cs b hi) (fun cs b=>hsel j oj cs b hoj) hy h1
   have hfree':∀k ok,ops[k]?=some ok→k≠i→(listed.setIfInBounds j true).getD k true=false→
    (∀e∈ok.after,Region.binds md e=true→e.on≠i)→oi.apart ops ok=true:=fun k ok hk hki hun hno=>by
    refine hfree k ok hk hki ?_ hno
    by_cases hjk:j=k
    ·subst hjk;exact hjun
    ·rw[getD_set_ne true hjk] at hun;exact hun
   refine qOp_mono (fun a' h3=>ih (listed.setIfInBounds j true) a' (inv.set hj hjn) hfree' (ready_mono hr (Ne.symm hji)) h3.1 ?_) h2
   rw[Array.setIfInBounds_comm _ _ hji]
   exact h3.2
theorem wpAnyQL_lex{n g:Nat}{Lq:Act→Prop}(hsel:Region.noSelect ops=true)(hs:Region.sinkB md ops n=true)(hc:Region.chainB md ops n=true)(hn:n<ops.size):
 ∀(l:List Oper) (k:Nat) (listed:Array Bool) (a:Act),(∀j,j<l.length→l[j]?=ops[k+j]?)→k+l.length=n→HeadInv md ops n listed→
 Region.lexHead md ops g l.length k listed=true→wpQuiet P ops C Lq l a→
 wpAnyQL P md ops C n (fun listed' a'=>Region.seqB md ops g n listed'=true∧Lq a') l.length listed a
 | [],k,listed,a,_,hk,_,hB,h=>by
  have:k=n:=by simpa using hk
  subst this
  exact⟨by simpa[Region.lexHead] using hB,h⟩
 | o::l,k,listed,a,hl,hk,inv,hB,h=>by
  have h0:ops[k]?=some o:=by simpa using (hl 0 (by simp)).symm
  simp only[List.length_cons,Region.lexHead,Bool.and_eq_true] at hB
  obtain⟨⟨hr,hf⟩,hB'⟩:=hB
  have hkn:k<n:=by simp only[List.length_cons] at hk;omega
  have hr':k∈Region.ready md ops listed:=by simpa using hr
  have hst:qOp P ops C k (wpQuiet P ops C Lq l) a:=by unfold qOp;simp only[h0];exact h
  obtain⟨v,hy,hK⟩:=yieldsIn_of_qOp h0 hst
  exact wpAnyQL_first h0 (Region.noSelect_spec hsel) hs hc hn hkn (fun listed' a' hL=>seqB_ready hL.1) l.length listed a inv (Region.free_spec h0 hf) hr' hy
   (wpAnyQL_lex hsel hs hc hn l (k+1) _ _ (fun j hj=>by have:=hl (j+1) (by simp;omega);simpa[Nat.add_assoc,Nat.add_comm 1 j] using this) (by simp only[List.length_cons] at hk;omega) (inv.set hr' hkn) hB' hK)
theorem wp_region_quiet_tail{id:Nat}{Q:Exit→Act→World→Prop}{a:Act}{w:World}{l:List Oper}(n:Nat)(hm:P.follows .mixedOrders=true)(hB:Region.lexTailB .any l.toArray n=true)(hC:C {w with drawn:=w.drawn+1})(h:wpQuiet P l.toArray C (fun a'=>∀w',C w'→wpList P l.toArray Q (l.drop n) a' w') (l.take n) a):(Code.region id l.toArray true).wp P Q a w:=by
 simp only[Region.lexTailB,Bool.and_eq_true,decide_eq_true_eq] at hB
 obtain⟨⟨⟨⟨hsel,hn⟩,hs⟩,hc⟩,hlex⟩:=hB
 have hn':n<l.length:=by simpa using hn
 have htl:(l.take n).length=n:=by simp;omega
 have hdl:(l.drop n).length=l.toArray.size-n:=by simp
 have inv0:HeadInv .any l.toArray n (Array.replicate l.toArray.size false):=
  ⟨by simp,fun j oj _ hl=>(by rw[getD_replicate_false] at hl;cases hl),fun t _ ht=>getD_in (by simpa using ht) (getD_replicate_false _ _)⟩
 have H:=wpAnyQL_lex (md:=.any) (g:=l.toArray.size-n) hsel hs hc hn (l.take n) 0 _ a (fun j hj=>by
  have hj':j<n:=by rw[htl] at hj;exact hj
  simp[hj']) (by simpa using htl) inv0 (by rw[htl];exact hlex) h
 refine wp_region_any hm ?_
 have:=wpAny_of_headQ (Q':=Q) (g:=l.toArray.size-n) (fun listed a' w' hw' hL=>by
  have:=wpAny_of_seq (md:=.any) (Q':=Q) (l.drop n) n listed a' w' (fun j=>by simp[List.getElem?_drop]) (by rw[hdl];exact hL.1) (hL.2 w' hw')
  rwa [hdl] at this) _ _ _ _ hC H
 rw[htl,show n+(l.toArray.size-n)=l.toArray.size by omega] at this
 exact this
end
end Go
namespace Go.Proofs.YtfkdihlbaghajaaGreatDoor
open Go.RowKit
theorem wp_region_bw_tail{P:Program}{id:Nat}{Q:Exit→Act→World→Prop}{a:Act}{w:World}{l:List Oper}(n:Nat)(hm:P.follows .mixedOrders=true)(hB:Region.lexTailB .any l.toArray n=true)(h:wpQuiet P l.toArray (fun w'=>∃k:BW w,w'=k.val) (fun a'=>∀w',(∃k:BW w,w'=k.val)→wpList P l.toArray Q (l.drop n) a' w') (l.take n) a):(Code.region id l.toArray true).wp P Q a w:=
 wp_region_quiet_tail (C:=fun w'=>∃k:BW w,w'=k.val) n hm hB ⟨⟨w.drew,(Below.refl _ _).drew⟩,rfl⟩ h
structure But(g:Nat)(w w':World):Prop where
 os:w'.os=w.os
 tape:w'.tape=w.tape
 output:w'.output=w.output
 size:w.heap.size≤w'.heap.size
 block:∀k,k<w.heap.size→k≠g→w'.heap[k]?=w.heap[k]?
section
variable {g:Nat} {w w1 w2:World}
theorem But.refl:But g w w:=⟨rfl,rfl,rfl,qL,fun _ _ _=>rfl⟩
theorem But.trans(h:But g w w1)(k:But g w1 w2):But g w w2:=
 ⟨k.os.trans h.os,k.tape.trans h.tape,k.output.trans h.output,Nat.le_trans h.size k.size,fun i hi hg=>(k.block i (Nat.lt_of_lt_of_le hi h.size) hg).trans (h.block i hi hg)⟩
theorem But.of_below(h:Below w.heap.size w w1):But g w w1:=⟨h.os,h.tape,h.output,h.size,fun k hk _=>h.block k hk⟩
theorem But.step(h:But g w w1)(k:Below w1.heap.size w1 w2):But g w w2:=h.trans (.of_below k)
theorem But.set(h:But g w w1){p:Addr}(hp:p.block=g)(u:Value):But g w (w1.setCell p u):=
 ⟨h.os,h.tape,h.output,by simpa[World.setCell] using h.size,fun k hk hg=>(Below.heap_setCell w1 p u k (by rw[hp];exact hg)).trans (h.block k hk hg)⟩
theorem But.below(h:But g w w1){B:Nat}(hB:B≤w.heap.size)(hg:B≤g):Below B w w1:=⟨h.os,h.tape,h.output,h.size,fun k hk=>h.block k (by omega) (by omega)⟩
theorem But.cell(h:But g w w1){p:Addr}(hp:p.block<w.heap.size)(hg:p.block≠g):w1.cell? p=w.cell? p:=World.cell?_of_block (h.block _ hp hg)
theorem Blk.but{b:Nat}{t:TypeId}{cs:Array Value}(h:Blk w b t cs)(k:But g w w1)(hg:b≠g):Blk w1 b t cs:=(k.block b h.lt hg).trans h
end
section
variable {α:Type} {rec:α→List Value} {s:Nat}
def flat(rec:α→List Value)(xs:List α):List Value:=xs.flatMap rec
theorem flat_append(rec:α→List Value)(xs ys:List α):flat rec (xs++ys)=flat rec xs++flat rec ys:=by simp[flat]
theorem flat_snoc(rec:α→List Value)(xs:List α)(a:α):flat rec (xs++[a])=flat rec xs++rec a:=by simp[flat]
theorem flat_length(hs:∀a,(rec a).length=s)(xs:List α):(flat rec xs).length=xs.length*s:=by
 induction xs with
 | nil=>simp[flat]
 | cons a l ih=>
  have:flat rec (a::l)=rec a++flat rec l:=rfl
  rw[this,List.length_append,ih,hs,List.length_cons,Nat.add_mul]
  omega
theorem flat_get(hs:∀a,(rec a).length=s):∀{xs:List α} {i j:Nat} {a:α} {v:Value},xs[i]?=some a→(rec a)[j]?=some v→(flat rec xs)[i*s+j]?=some v:=by
 intro xs
 induction xs with
 | nil=>intro i j a v h;simp at h
 | cons b l ih=>
  intro i j a v h1 h2
  have e:flat rec (b::l)=rec b++flat rec l:=rfl
  rw[e]
  cases i with
  | zero=>
   simp at h1
   subst h1
   have hj:j<(rec b).length:=(List.getElem?_eq_some_iff.1 h2).1
   rw[Nat.zero_mul,Nat.zero_add,List.getElem?_append_left hj]
   exact h2
  | succ i=>
   have hb:=hs b
   rw[List.getElem?_append_right (by rw[hb,Nat.add_mul];omega),hb,show(i+1)*s+j-s=i*s+j by rw[Nat.add_mul];omega]
   exact ih (by simpa using h1) h2
structure SR(s:Nat)(rec:α→List Value)(w:World)(A:Option Addr)(n c:Nat)(xs:List α):Prop where
 ln:n=xs.length
 lc:n≤c
 el:0<n→∃b off,A=some ⟨b,off,none⟩∧b<w.heap.size∧∀(i:Nat) (a:α),xs[i]?=some a→∀(j:Nat) (v:Value),(rec a)[j]?=some v→w.cell? ⟨b,off+i*s+j,none⟩=some v
theorem SR.step{w w':World}{A:Option Addr}{n c:Nat}{xs:List α}(h:SR s rec w A n c xs)(hb:Below w.heap.size w w'):SR s rec w' A n c xs:=by
 refine⟨h.ln,h.lc,fun hn=>?_⟩
 obtain⟨b,off,h1,h2,h3⟩:=h.el hn
 exact⟨b,off,h1,Nat.lt_of_lt_of_le h2 hb.size,fun i a hi j v hj=>(hb.cell (p:=⟨b,off+i*s+j,none⟩) h2).trans (h3 i a hi j v hj)⟩
theorem SR.nil{w:World}{A:Option Addr}{c:Nat}:SR s rec w A 0 c ([]:List α):=⟨rfl,Nat.zero_le _,fun h=>absurd h (Nat.lt_irrefl 0)⟩
theorem own_lt{w:World}{base:Nat}{e:TypeId}{size n:Nat}{v:Value}{xs:List Value}(h:w.ownsRow base e size v n xs){g:Nat}(hg:v.ownBlock=some g):g<w.heap.size:=by
 rcases h.2 with⟨rfl,_⟩|⟨g',cap,cur,rfl,_,hh,_⟩
 ·simp[Value.ownBlock] at hg
 ·simp[Value.ownBlock] at hg
  subst hg
  rcases Nat.lt_or_ge g' w.heap.size with hlt|hge
  ·exact hlt
  ·rw[Array.getElem?_eq_none hge] at hh;cases hh
theorem own_ne{w:World}{base:Nat}{e:TypeId}{size n:Nat}{v:Value}{xs:List Value}(h:w.ownsRow base e size v n xs){g:Nat}(hg:g<base):v.ownBlock≠some g:=by
 rcases h.2 with⟨rfl,_⟩|⟨g',cap,cur,rfl,hge,_⟩
 ·simp[Value.ownBlock]
 ·simp[Value.ownBlock]
  omega
theorem own_ge{w:World}{base:Nat}{e:TypeId}{size n:Nat}{v:Value}{xs:List Value}(h:w.ownsRow base e size v n xs):∀g,v.ownBlock=some g→base≤g:=by
 rcases h.2 with⟨rfl,_⟩|⟨g',cap,cur,rfl,hge,_⟩
 ·intro g hg;simp[Value.ownBlock] at hg
 ·intro g hg
  simp[Value.ownBlock] at hg
  omega
theorem own_slice{w:World}{base:Nat}{e:TypeId}{size n:Nat}{v:Value}{xs:List Value}(h:w.ownsRow base e size v n xs):∃A c,v=.slice A n c∧n≤c:=by
 rcases h.2 with⟨rfl,rfl⟩|⟨g,cap,cur,hv,_,_,hnc,_⟩
 ·exact⟨none,0,rfl,qL⟩
 ·exact⟨_,_,hv,hnc⟩
theorem own_step{w w':World}{base:Nat}{e:TypeId}{size n:Nat}{v:Value}{xs:List Value}(h:w.ownsRow base e size v n xs)(hb:Below w.heap.size w w'):w'.ownsRow base e size v n xs:=by
 refine⟨h.1,?_⟩
 rcases h.2 with h2|⟨g,cap,cur,hv,hg,hh,hr⟩
 ·exact .inl h2
 ·refine .inr ⟨g,cap,cur,hv,hg,?_,hr⟩
  have hlt:g<w.heap.size:=by
   rcases Nat.lt_or_ge g w.heap.size with hlt|hge
   ·exact hlt
   ·rw[Array.getElem?_eq_none hge] at hh;cases hh
  rw[hb.block g hlt]
  exact hh
theorem SR.of_own{w:World}{base:Nat}{t:TypeId}{v:Value}{n:Nat}{xs:List α}(hs:∀a,(rec a).length=s)(h:w.ownsRow base t s v n (flat rec xs))(hl:xs.length=n):∃A c,v=.slice A n c∧SR s rec w A n c xs:=by
 rcases h.2 with⟨rfl,rfl⟩|⟨g,cap,cur,rfl,_,hh,hnc,_⟩
 ·exact⟨none,0,rfl,hl.symm,qL,fun h=>absurd h (by omega)⟩
 ·refine⟨_,_,rfl,hl.symm,hnc,fun _=>⟨g,0,rfl,own_lt h rfl,fun i a hi j u hj=>?_⟩⟩
  have:=h.cells (g:=g) rfl (i*s+j) u (flat_get hs hi hj)
  rw[addr_add] at this
  rw[Nat.zero_add] at this ⊢
  exact this
theorem own_nil(w:World)(base:Nat)(e:TypeId)(size:Nat):w.ownsRow base e size (.slice none 0 0) 0 []:=⟨by simp,.inl ⟨rfl,rfl⟩⟩
end
def Row(w:World)(g:Nat)(t:TypeId)(n:Nat):Prop:=∃cs,Blk w g t cs∧cs.size=n
section
variable {w w':World} {g:Nat} {t:TypeId} {n:Nat}
end
theorem heap_setV{w:World}{b off:Nat}{v:VC}{g:Nat}(h:g≠b):(setV w b off v).heap[g]?=w.heap[g]?:=by
 unfold setV
 rw[Below.heap_setCell _ _ _ _ h,Below.heap_setCell _ _ _ _ h,Below.heap_setCell _ _ _ _ h,Below.heap_setCell _ _ _ _ h,Below.heap_setCell _ _ _ _ h]
structure Cl(lo mid:Nat)(w:World)(c:VC)(x:Val):Prop where
 k:c.k=x.k
 n:c.n=x.n
 t:c.t=x.t
 tsz:x.t.size≤reach
 ln:c.ln=x.l.length
 lc:c.lc=c.ln
 lsz:c.ln*80≤reach
 l0:c.ln=0→c.LA=none
 la:0<c.ln→∃g,c.LA=some ⟨g,0,none⟩∧lo≤g∧g<mid∧Row w g 32 (c.ln*5)∧∀(i:Nat) (y:Val),x.l[i]?=some y→∃e,VAt w g (i*5) e∧RV (fun b=>g<b∧b<mid) w e y
 hmid:lo≤mid
 dn:c.dn=x.d.length
 dc:c.dc=c.dn
 dsz:c.dn*96≤reach
 d0:c.dn=0→c.DA=none
 da:0<c.dn→∃g,c.DA=some ⟨g,0,none⟩∧mid≤g∧Row w g 120 (c.dn*6)∧∀(i:Nat) (f:Fld),x.d[i]?=some f→w.cell? ⟨g,i*6,none⟩=some (.string f.s)∧f.s.size≤reach∧∃e,VAt w g (i*6+1) e∧RV (fun b=>g<b) w e f.v
theorem info_value:(Tryz.prog.info? 32).map (fun i=>(i.zero,i.size,i.bytes))=some (some VC.zero.val,5,80):=by kernel_rfl
theorem info_field:(Tryz.prog.info? 120).map (fun i=>(i.zero,i.size,i.bytes))=some (some (.agg (#[.string ByteArray.empty]++VC.zero.arr)),6,96):=by kernel_rfl
theorem run_make_rowN{P:Program}(t e:TypeId)(i:TypeInfo)(z:Value)(ht:P.underlying t=some (.slice e))(hi:P.info? e=some i)(hz:i.zero=some z)(n:Nat)(hbytes:i.bytes*n≤281474976710656)(h63:n≤9223372036854775807)(w:World):
 (Instr.makeSlice t (.int .i64 (n:Int)) (.int .i64 (n:Int))).run P w=.ok (.slice (some ⟨w.heap.size,0,none⟩) n n) (w.alloc (.cells (madeCells z.cells (n*i.size)) e)):=by
 have hb:(i.bytes:Int)*(n:Int)≤281474976710656:=by
  have h:((i.bytes*n:Nat):Int)≤281474976710656:=by omega
  rwa [Int.natCast_mul] at h
 have hr:=run_make (P:=P) w t e i z ht hi hz .i64 .i64 n n (by omega) (by omega) hb (by omega)
 simp only[Int.toNat_natCast] at hr
 exact hr
end Go.Proofs.YtfkdihlbaghajaaGreatDoor
namespace Go.RowKit
theorem Below.undrewN{B n:Nat}{a w:World}(h:Below B (a.drewN n) w):Below B a w:=⟨h.os,h.tape,h.output,h.size,h.block⟩
end Go.RowKit
namespace Go.Proofs.YtfkdihlbaghajaaGreatDoor
open Go.RowKit
structure CE(w:World)(x:Val)(r:VC)(mid:Nat)(wx:World):Prop where
 b1:Blk wx (w.heap.size+1) 32 VC.zero.arr
 b2:Blk wx (w.heap.size+2) 32 r.arr
 cl:Cl (w.heap.size+3) mid wx r x
 bel:Below w.heap.size w wx
theorem results_val{fn:Func}{p:Tmp}(h:fn.results=#[.cell p 32])(tmps:Array Value)(g1 off:Nat)(h1:tmps[p]?.getD undef=.pointer (some ⟨g1,off,none⟩))(W:World)(v:VC)(q:VAt W g1 off v):
 (results fn tmps).run Tryz.prog W=.ok v.val W:=by
 obtain⟨q0,q1,q2,q3,q4⟩:=q
 simp[results,h,h1,asAddr,go_sem,q0,q1,q2,q3,q4]
abbrev PV:=VC×Val
abbrev PF:=VC×Fld
def recV(p:PV):List Value:=p.1.list
def recF(p:PF):List Value:=.string p.2.s::p.1.list
theorem recV_length(p:PV):(recV p).length=5:=rfl
theorem recF_length(p:PF):(recF p).length=6:=rfl
theorem recV_one(p:PV):∀u∈recV p,u.oneCell'=true:=by simp[recV,VC.list,Value.oneCell']
theorem recF_one(p:PF):∀u∈recF p,u.oneCell'=true:=by simp[recF,VC.list,Value.oneCell']
structure SL(F:Nat→Prop)(w:World)(A:Option Addr)(n c:Nat)(ps:List PV):Prop where
 sr:SR 5 recV w A n c ps
 sz:n*80≤reach
 blk:0<n→∃b off,A=some ⟨b,off,none⟩∧Ft F w b
 rv:∀p∈ps,RV F w p.1 p.2
structure SD(F:Nat→Prop)(w:World)(A:Option Addr)(n c:Nat)(ps:List PF):Prop where
 sr:SR 6 recF w A n c ps
 sz:n*96≤reach
 blk:0<n→∃b off,A=some ⟨b,off,none⟩∧Ft F w b
 ns:∀p∈ps,p.2.s.size≤reach
 rv:∀p∈ps,RV F w p.1 p.2.v
section
variable {F G:Nat→Prop} {w w':World} {A:Option Addr} {n c:Nat}
theorem vat_of{b off:Nat}{u:VC}(h:∀(j:Nat) (v:Value),u.list[j]?=some v→w.cell? ⟨b,off+j,none⟩=some v):VAt w b off u:=
 ⟨h 0 _ rfl,h 1 _ rfl,h 2 _ rfl,h 3 _ rfl,h 4 _ rfl⟩
theorem vat_cell{b off:Nat}{u:VC}(h:VAt w b off u):∀(j:Nat) (v:Value),u.list[j]?=some v→w.cell? ⟨b,off+j,none⟩=some v:=by
 obtain⟨h0,h1,h2,h3,h4⟩:=h
 intro j v hj
 match j,hj with
 | 0,hj=>simp[VC.list] at hj;subst hj;exact h0
 | 1,hj=>simp[VC.list] at hj;subst hj;exact h1
 | 2,hj=>simp[VC.list] at hj;subst hj;exact h2
 | 3,hj=>simp[VC.list] at hj;subst hj;exact h3
 | 4,hj=>simp[VC.list] at hj;subst hj;exact h4
 | j+5,hj=>simp[VC.list] at hj
theorem choose_list{α β:Type}{p:Nat→β→α→Prop}:∀{l:List β},(∀i y,l[i]?=some y→∃u,p i y u)→∃ps:List (α×β),ps.map Prod.snd=l∧∀i q,ps[i]?=some q→p i q.2 q.1:=by
 intro l
 induction l generalizing p with
 | nil=>intro _;exact⟨[],rfl,fun i q h=>by simp at h⟩
 | cons y r ih=>
  intro h
  obtain⟨u,hu⟩:=h 0 y rfl
  obtain⟨ps,h1,h2⟩:=ih (p:=fun i=>p (i+1)) (fun i y hy=>h (i+1) y (by simpa using hy))
  refine⟨(u,y)::ps,by simp[h1],fun i q hq=>?_⟩
  cases i with
  | zero=>simp at hq;subst hq;exact hu
  | succ i=>exact h2 i q (by simpa using hq)
theorem RV.sl{u:VC}{x:Val}(h:RV F w u x):∃ps:List PV,ps.map Prod.snd=x.l∧SL F w u.LA u.ln u.lc ps:=by
 have ho:=h.open
 by_cases hn:0<u.ln
 ·obtain⟨b,off,e,hF,hl⟩:=ho.la hn
  obtain⟨ps,h1,h2⟩:=choose_list hl
  have hlen:u.ln=ps.length:=by rw[ho.ln,←h1];simp
  refine⟨ps,h1,⟨hlen,ho.lc,fun _=>⟨b,off,e,?_,fun i a hi j v hj=>vat_cell (h2 i a hi).1 j v hj⟩⟩,ho.lsz,fun _=>⟨b,off,e,hF⟩,fun p hp=>?_⟩
  ·obtain⟨q,hq⟩:∃q,ps[0]?=some q:=⟨_,List.getElem?_eq_getElem (by omega)⟩
   exact(h2 0 q hq).1.lt
  ·obtain⟨i,hi⟩:=List.getElem?_of_mem hp
   exact(h2 i p hi).2
 ·have h0:u.ln=0:=by omega
  have hx:x.l=[]:=List.eq_nil_of_length_eq_zero (by rw[←ho.ln];exact h0)
  exact⟨[],by rw[hx];rfl,⟨by rw[h0];rfl,ho.lc,fun h=>absurd h hn⟩,ho.lsz,fun h=>absurd h hn,fun p hp=>by simp at hp⟩
theorem RV.sd{u:VC}{x:Val}(h:RV F w u x):∃ps:List PF,ps.map Prod.snd=x.d∧SD F w u.DA u.dn u.dc ps:=by
 have ho:=h.open
 by_cases hn:0<u.dn
 ·obtain⟨b,off,e,hF,hl⟩:=ho.da hn
  obtain⟨ps,h1,h2⟩:=choose_list (p:=fun i (f:Fld) (v:VC)=>w.cell? ⟨b,off+i*6,none⟩=some (.string f.s)∧f.s.size≤reach∧VAt w b (off+i*6+1) v∧RV F w v f.v) (fun i f hf=>by
   obtain⟨h1,h2,v,h3,h4⟩:=hl i f hf
   exact⟨v,h1,h2,h3,h4⟩)
  have hlen:u.dn=ps.length:=by rw[ho.dn,←h1];simp
  refine⟨ps,h1,⟨hlen,ho.dc,fun _=>⟨b,off,e,?_,fun i a hi j v hj=>?_⟩⟩,ho.dsz,fun _=>⟨b,off,e,hF⟩,fun p hp=>?_,fun p hp=>?_⟩
  ·obtain⟨q,hq⟩:∃q,ps[0]?=some q:=⟨_,List.getElem?_eq_getElem (by omega)⟩
   exact(h2 0 q hq).2.2.1.lt
  ·obtain⟨k0,_,k1,_⟩:=h2 i a hi
   cases j with
   | zero=>simp[recF] at hj;subst hj;exact k0
   | succ j=>
    have:=vat_cell k1 j v (by simpa[recF] using hj)
    rw[show off+i*6+(j+1)=off+i*6+1+j by omega]
    exact this
  ·obtain⟨i,hi⟩:=List.getElem?_of_mem hp
   exact(h2 i p hi).2.1
  ·obtain⟨i,hi⟩:=List.getElem?_of_mem hp
   exact(h2 i p hi).2.2.2
 ·have h0:u.dn=0:=by omega
  have hx:x.d=[]:=List.eq_nil_of_length_eq_zero (by rw[←ho.dn];exact h0)
  exact⟨[],by rw[hx];rfl,⟨by rw[h0];rfl,ho.dc,fun h=>absurd h hn⟩,ho.dsz,fun h=>absurd h hn,fun p hp=>by simp at hp,fun p hp=>by simp at hp⟩
theorem RV.of_slices{k m:Int}{t:ByteArray}{LA DA:Option Addr}{ln lc dn dc:Nat}{ps:List PV}{fs:List PF}(ht:t.size≤reach)(hl:SL F w LA ln lc ps)(hd:SD F w DA dn dc fs):
 RV F w ⟨k,m,t,LA,ln,lc,DA,dn,dc⟩ (.mk k m t (ps.map Prod.snd) (fs.map Prod.snd)):=by
 refine RVs.shut ⟨rfl,rfl,rfl,ht,by simp[Val.l,hl.sr.ln],hl.sr.lc,hl.sz,fun hn=>?_,by simp[Val.d,hd.sr.ln],hd.sr.lc,hd.sz,fun hn=>?_⟩
 ·obtain⟨b,off,e,_,hel⟩:=hl.sr.el hn
  obtain⟨b',off',e',hF⟩:=hl.blk hn
  rw[e] at e'
  cases e'
  refine⟨b,off,e,hF,fun i y hi=>?_⟩
  simp only[Val.l,List.getElem?_map] at hi
  obtain⟨p,hp,rfl⟩:=Option.map_eq_some_iff.1 hi
  exact⟨p.1,vat_of fun j v hj=>hel i p hp j v hj,hl.rv p (List.mem_of_getElem? hp)⟩
 ·obtain⟨b,off,e,_,hel⟩:=hd.sr.el hn
  obtain⟨b',off',e',hF⟩:=hd.blk hn
  rw[e] at e'
  cases e'
  refine⟨b,off,e,hF,fun i y hi=>?_⟩
  simp only[Val.d,List.getElem?_map] at hi
  obtain⟨p,hp,rfl⟩:=Option.map_eq_some_iff.1 hi
  refine⟨hel i p hp 0 _ rfl,hd.ns p (List.mem_of_getElem? hp),p.1,vat_of fun j v hj=>?_,hd.rv p (List.mem_of_getElem? hp)⟩
  have:=hel i p hp (j+1) v (by simpa[recF] using hj)
  rw[show off+i*6+1+j=off+i*6+(j+1) by omega]
  exact this
theorem SL.vat{ps:List PV}(h:SL F w A n c ps){i:Nat}{p:PV}(hi:ps[i]?=some p):∃b off,A=some ⟨b,off,none⟩∧F b∧VAt w b (off+i*5) p.1∧RV F w p.1 p.2:=by
 have hn:0<n:=by have:=(List.getElem?_eq_some_iff.1 hi).1;have:=h.sr.ln;omega
 obtain⟨b,off,e,_,hel⟩:=h.sr.el hn
 obtain⟨b',off',e',hF⟩:=h.blk hn
 rw[e] at e'
 cases e'
 exact⟨b,off,e,hF.1,vat_of fun j v hj=>hel i p hi j v hj,h.rv p (List.mem_of_getElem? hi)⟩
theorem SD.vat{ps:List PF}(h:SD F w A n c ps){i:Nat}{p:PF}(hi:ps[i]?=some p):∃b off,A=some ⟨b,off,none⟩∧F b∧w.cell? ⟨b,off+i*6,none⟩=some (.string p.2.s)∧VAt w b (off+i*6+1) p.1∧RV F w p.1 p.2.v:=by
 have hn:0<n:=by have:=(List.getElem?_eq_some_iff.1 hi).1;have:=h.sr.ln;omega
 obtain⟨b,off,e,_,hel⟩:=h.sr.el hn
 obtain⟨b',off',e',hF⟩:=h.blk hn
 rw[e] at e'
 cases e'
 refine⟨b,off,e,hF.1,hel i p hi 0 _ rfl,vat_of fun j v hj=>?_,h.rv p (List.mem_of_getElem? hi)⟩
 have:=hel i p hi (j+1) v (by simpa[recF] using hj)
 rw[show off+i*6+1+j=off+i*6+(j+1) by omega]
 exact this
theorem SL.step{ps:List PV}(h:SL F w A n c ps)(hb:Below w.heap.size w w'):SL F w' A n c ps:=⟨h.sr.step hb,h.sz,fun hn=>by
 obtain⟨b,off,e,hF⟩:=h.blk hn
 obtain⟨b',off',e',hl,_⟩:=h.sr.el hn
 rw[e] at e'
 cases e'
 exact⟨b,off,e,hF.keepG hl fun q hq hql=>⟨hq,hb.block q hql⟩⟩,fun p hp=>(h.rv p hp).step hb⟩
theorem SD.step{ps:List PF}(h:SD F w A n c ps)(hb:Below w.heap.size w w'):SD F w' A n c ps:=⟨h.sr.step hb,h.sz,fun hn=>by
 obtain⟨b,off,e,hF⟩:=h.blk hn
 obtain⟨b',off',e',hl,_⟩:=h.sr.el hn
 rw[e] at e'
 cases e'
 exact⟨b,off,e,hF.keepG hl fun q hq hql=>⟨hq,hb.block q hql⟩⟩,h.ns,fun p hp=>(h.rv p hp).step hb⟩
theorem SL.mono{ps:List PV}(h:SL F w A n c ps)(hk:∀b,F b→G b):SL G w A n c ps:=⟨h.sr,h.sz,fun hn=>by obtain⟨b,off,e,hF⟩:=h.blk hn;exact⟨b,off,e,hk b hF.1,fun hG=>hF.2 fun h0=>hG (hk 0 h0)⟩,fun p hp=>(h.rv p hp).mono hk⟩
theorem SL.of_own{base:Nat}{t:TypeId}{v:Value}{ps:List PV}(h:w.ownsRow base t 5 v n (flat recV ps))(hl:ps.length=n)(hz:n*80≤reach)(hF:∀b,base≤b→F b)(hr:∀p∈ps,RV F w p.1 p.2):∃A c,v=.slice A n c∧SL F w A n c ps:=by
 obtain⟨A,c,rfl,hs⟩:=SR.of_own recV_length h hl
 refine⟨A,c,rfl,hs,hz,fun hn=>?_,hr⟩
 obtain⟨b,off,rfl,_⟩:=hs.el hn
 rcases h.2 with⟨h',_⟩|⟨g,cap,cur,hv,hg,hbl,_⟩
 ·cases h'
 ·cases hv
  exact⟨b,0,rfl,hF b hg,fun _ i=>Blk.frozen (t:=t) (cs:=cur) hbl i⟩
theorem SD.of_own{base:Nat}{t:TypeId}{v:Value}{ps:List PF}(h:w.ownsRow base t 6 v n (flat recF ps))(hl:ps.length=n)(hz:n*96≤reach)(hF:∀b,base≤b→F b)(hs:∀p∈ps,p.2.s.size≤reach)(hr:∀p∈ps,RV F w p.1 p.2.v):∃A c,v=.slice A n c∧SD F w A n c ps:=by
 obtain⟨A,c,rfl,hsr⟩:=SR.of_own recF_length h hl
 refine⟨A,c,rfl,hsr,hz,fun hn=>?_,hs,hr⟩
 obtain⟨b,off,rfl,_⟩:=hsr.el hn
 rcases h.2 with⟨h',_⟩|⟨g,cap,cur,hv,hg,hbl,_⟩
 ·cases h'
 ·cases hv
  exact⟨b,0,rfl,hF b hg,fun _ i=>Blk.frozen (t:=t) (cs:=cur) hbl i⟩
end
theorem flat_at'{α:Type}{rec:α→List Value}{s:Nat}(hs:∀a,(rec a).length=s)(hp:0<s)(xs:List α)(k:Nat)(hk:k<xs.length*s):∃a v,xs[k/s]?=some a∧(rec a)[k%s]?=some v∧(flat rec xs)[k]?=some v:=by
 have h1:k/s<xs.length:=Nat.div_lt_of_lt_mul (by rw[Nat.mul_comm];exact hk)
 have h2:k%s<s:=Nat.mod_lt _ hp
 refine ⟨xs[k / s], (rec xs[k / s])[k % s]'(by rw [hs]; exact h2), List.getElem?_eq_getElem h1, List.getElem?_eq_getElem (by rw [hs]; exact h2), ?_⟩
 have:=flat_get hs (List.getElem?_eq_getElem h1) (List.getElem?_eq_getElem (l:=rec xs[k/s]) (i:=k%s) (by rw[hs];exact h2))
 rw[show k/s*s+k%s=k by rw[Nat.mul_comm];exact Nat.div_add_mod k s] at this
 exact this
theorem gr_cell{w3 w4:World}{o:Obj}{row:Option Nat}(hg:(w3.alloc o).grownBy w4 row){p:Addr}{v:Value}(h:w3.cell? p=some v)(hne:row≠some p.block):w4.cell? p=some v:=by
 have hlt:=World.block_lt_of_cell? w3 p h
 rw[World.cell?_of_block (w:=w3.alloc o) (hg.block p.block (by simp;omega) (fun e=>hne e.symm)),World.cell?_alloc_lt w3 o p hlt]
 exact h
theorem gr_frozen{w3 w4:World}{o:Obj}{row:Option Nat}(hg:(w3.alloc o).grownBy w4 row){p:Addr}(hlt:p.block<w3.heap.size)(hne:row≠some p.block):w4.frozen? p=w3.frozen? p:=by
 rw[World.frozen?_of_block (w:=w3.alloc o) (hg.block p.block (by simp;omega) (fun e=>hne e.symm)),World.frozen?_of_block (w:=w3) (Below.heap_alloc w3 o p.block hlt)]
theorem SL.keepG{F G:Nat→Prop}{w w':World}{A:Option Addr}{n c:Nat}{ps:List PV}(h:SL F w A n c ps)(hk:∀b,F b→b<w.heap.size→G b∧w'.heap[b]?=w.heap[b]?):SL G w' A n c ps:=by
 refine⟨⟨h.sr.ln,h.sr.lc,fun hn=>?_⟩,h.sz,fun hn=>?_,fun p hp=>(h.rv p hp).keepG hk⟩
 ·obtain⟨b,off,h1,h2,h3⟩:=h.sr.el hn
  obtain⟨b',off',h1',hF⟩:=h.blk hn
  rw[h1] at h1'
  cases h1'
  have he:=(hk b hF.1 h2).2
  refine⟨b,off,h1,?_,fun i a hi j v hj=>(World.cell?_of_block (w:=w) (a:=⟨b,off+i*5+j,none⟩) he).trans (h3 i a hi j v hj)⟩
  rcases Nat.lt_or_ge b w'.heap.size with hlt|hge
  ·exact hlt
  ·rw[Array.getElem?_eq_none hge,Array.getElem?_eq_getElem h2] at he
   cases he
 ·obtain⟨b,off,h1,h2,h3⟩:=h.sr.el hn
  obtain⟨b',off',h1',hF⟩:=h.blk hn
  rw[h1] at h1'
  cases h1'
  exact⟨b,off,h1,hF.keepG h2 hk⟩
theorem own_keep{w w':World}{base:Nat}{e:TypeId}{size n:Nat}{v:Value}{xs:List Value}(h:w.ownsRow base e size v n xs)(hk:∀g,v.ownBlock=some g→w'.heap[g]?=w.heap[g]?):w'.ownsRow base e size v n xs:=by
 refine⟨h.1,?_⟩
 rcases h.2 with h2|⟨g,cap,cur,rfl,hg,hh,hr⟩
 ·exact .inl h2
 ·exact .inr ⟨g,cap,cur,rfl,hg,(hk g rfl).trans hh,hr⟩
def EachStep(g:Nat)(Inv:Nat→World→Prop)(Fin:World→Prop)(i:Nat)(wr:World)(e:Ending)(w':World):Prop:=
 ∃b,e=.returned (.bool b)∧But g wr w'∧(b=true→Inv (i+1) w')∧(b=false→Fin w')
def EachEnd(g:Nat)(Fin:World→Prop)(w:World)(e:Ending)(w':World):Prop:=e=.returned (.tuple #[])∧But g w w'∧Fin w'
theorem each_any(f:FuncId)(g m:Nat)(x:Val)(c:VC)(w:World)(h:RV (fun b=>b≠g) w c x)(Inv:Nat→World→Prop)(Fin:World→Prop)(hent:∀args w,(callFunc f args).run Tryz.prog w=.ok (.enter f args) w)(h0:Inv 0 w)(hst:∀i w1 w2,Inv i w1→Below w1.heap.size w1 w2→Inv i w2)(hs:∀(i:Nat) (y:Val) (u:VC) (wr:World),x.parts[i]?=some y→Inv i wr→But g w wr→RW wr u y→Calls Tryz.prog f #[u.val,.pointer (some ⟨g,0,none⟩),.pointer (some ⟨m,0,none⟩)] wr (EachStep g Inv Fin i wr))(he:∀wr,Inv x.parts.length wr→Fin wr):
 Calls Tryz.prog 254 #[c.val,.func (.func f) #[] #[.pointer (some ⟨g,0,none⟩),.pointer (some ⟨m,0,none⟩)]] w (EachEnd g Fin w):=by
 obtain⟨ck,cn,ct,LA,ln,lc,DA,dn,dc⟩:=c
 have ho:=h.open
 have hln:ln≤140737488355328:=by have:=ho.lsz;unfold reach at this;simp only at this;omega
 have hdn:dn≤140737488355328:=by have:=ho.dsz;unfold reach at this;simp only at this;omega
 have HO:=qD ho
 have HS:=qD hs
 have HE:=qD he
 have H0:=qD (hst 0 w _ h0 ((Below.refl _ _).alloc (qL) (Obj.cells #[.int .i64 ck,.int .i64 cn,.string ct,.slice LA ln lc,.slice DA dn dc] 32)))
 have HT:=qD hst
 clear ho h hs he h0 hst
 cases h6:(ck==6)
 ·cases h5:(ck==5)
  ·have HP:Hid (x.parts.length=0):=by
    have:=HO.out.k
    simp only at this
    simp at h6 h5
    simp[Hid,Val.parts,←this,h6,h5]
   go_enter Tryz.func254,Tryz.ntmps254
   go_wp2_with fail
   go_end0
   exact⟨rfl,But.of_below ((Below.refl _ _).alloc (qL) _),HE.out _ (by rw[HP.out];exact H0.out)⟩
  ·have HP:Hid (x.parts=x.d.map Fld.v):=by
    have:=HO.out.k
    simp only at this
    simp at h5
    simp[Hid,Val.parts,←this,h5]
   go_enter Tryz.func254,Tryz.ntmps254
   go_wp2_with fail
   go_loopw [29] (fun v29 wr=>∃i:Nat,i≤dn∧v29=.int .i64 i∧Inv i wr∧But g w wr) (fun v29 _=>dn-(intOf v29).toNat)
   case atStart=>exact⟨0,Nat.zero_le _,rfl,H0.out,But.of_below ((Below.refl _ _).alloc (qL) _)⟩
   case round=>
    obtain⟨i,hi,rfl,I1,I2⟩:=hrel
    have J1:=qD I1
    have J2:=qD I2
    by_cases hlt:i<dn
    ·obtain⟨b,off,hDA,hbg,hel⟩:=HO.out.da (by show 0<dn;omega)
     obtain⟨y,hy⟩:∃y,x.d[i]?=some y:=⟨_,List.getElem?_eq_getElem (by have:=HO.out.dn;simp only at this;omega)⟩
     obtain⟨s0,hsz,u,hu,hr⟩:=hel i y hy
     simp only at hDA
     subst hDA
     obtain⟨u0,u1,u2,u3,u4⟩:=hu.keep (I2.block b hu.lt hbg.1)
     have t0:=(I2.cell (p:=⟨b,off+i*6,none⟩) hu.lt hbg.1).trans s0
     have hb:b<wr.heap.size:=by have:=hu.lt;have:=I2.size;omega
     have HR:=qD ((hr.keepG (G:=fun _=>True) fun q hq hl=>⟨trivial,I2.block q hl hq⟩).alloc (.cells #[.string y.s,.int .i64 u.k,.int .i64 u.n,.string u.t,.slice u.LA u.ln u.lc,.slice u.DA u.dn u.dc] 120))
     have HI:=qD (HT.out i wr _ I1 ((Below.refl _ _).alloc (qL) (Obj.cells #[.string y.s,.int .i64 u.k,.int .i64 u.n,.string u.t,.slice u.LA u.ln u.lc,.slice u.DA u.dn u.dc] 120)))
     have HB:=qD (I2.step ((Below.refl _ _).alloc (qL) (Obj.cells #[.string y.s,.int .i64 u.k,.int .i64 u.n,.string u.t,.slice u.LA u.ln u.lc,.slice u.DA u.dn u.dc] 120)))
     have HY:Hid (x.parts[i]?=some y.v):=by rw[Hid,HP.out,List.getElem?_map,hy];rfl
     clear hel hr hu hy I1 I2 s0 hsz
     go_wp2_with fail
     refine(HS.out i y.v u _ HY.out HI.out HB.out HR.out).mono ?_
     rintro e w1 ⟨b1,rfl,hb1,ht,hf⟩
     cases b1
     ·have HF:=qD (hf rfl)
      have HB1:=qD (HB.out.trans hb1)
      clear ht hf hb1
      go_wp2_with fail
      go_end0
      exact⟨rfl,HB1.out,HF.out⟩
     ·have HF:=qD (ht rfl)
      have HB1:=qD (HB.out.trans hb1)
      clear ht hf hb1
      go_wp2_with fail
      go_roundw
      case rel=>exact⟨i+1,by omega,by go_num,HF.out,HB1.out⟩
      case measure=>simp[intOf];omega
    ·obtain rfl:i=dn:=by omega
     go_wp2_with fail
     go_end0
     exact⟨rfl,J2.out,HE.out _ (by rw[HP.out,List.length_map];have:=HO.out.dn;simp only at this;rw[←this];exact J1.out)⟩
 ·have HP:Hid (x.parts=x.l):=by
   have:=HO.out.k
   simp only at this
   simp at h6
   simp[Hid,Val.parts,←this,h6]
  go_enter Tryz.func254,Tryz.ntmps254
  go_wp2_with fail
  go_loopw [15] (fun v15 wr=>∃i:Nat,i≤ln∧v15=.int .i64 i∧Inv i wr∧But g w wr) (fun v15 _=>ln-(intOf v15).toNat)
  case atStart=>exact⟨0,Nat.zero_le _,rfl,H0.out,But.of_below ((Below.refl _ _).alloc (qL) _)⟩
  case round=>
   obtain⟨i,hi,rfl,I1,I2⟩:=hrel
   have J1:=qD I1
   have J2:=qD I2
   by_cases hlt:i<ln
   ·obtain⟨b,off,hLA,hbg,hel⟩:=HO.out.la (by show 0<ln;omega)
    obtain⟨y,hy⟩:∃y,x.l[i]?=some y:=⟨_,List.getElem?_eq_getElem (by have:=HO.out.ln;simp only at this;omega)⟩
    obtain⟨u,hu,hr⟩:=hel i y hy
    simp only at hLA
    subst hLA
    obtain⟨u0,u1,u2,u3,u4⟩:=hu.keep (I2.block b hu.lt hbg.1)
    have hb:b<wr.heap.size:=by have:=hu.lt;have:=I2.size;omega
    have HR:=qD ((hr.keepG (G:=fun _=>True) fun q hq hl=>⟨trivial,I2.block q hl hq⟩).alloc (.cells u.arr 32))
    have HI:=qD (HT.out i wr _ I1 ((Below.refl _ _).alloc (qL) (Obj.cells u.arr 32)))
    have HB:=qD (I2.step ((Below.refl _ _).alloc (qL) (Obj.cells u.arr 32)))
    have HY:Hid (x.parts[i]?=some y):=by rw[Hid,HP.out];exact hy
    clear hel hr hu hy I1 I2
    go_wp2_with fail
    refine(HS.out i y u _ HY.out HI.out HB.out HR.out).mono ?_
    rintro e w1 ⟨b1,rfl,hb1,ht,hf⟩
    cases b1
    ·have HF:=qD (hf rfl)
     have HB1:=qD (HB.out.trans hb1)
     clear ht hf hb1
     go_wp2_with fail
     go_end0
     exact⟨rfl,HB1.out,HF.out⟩
    ·have HF:=qD (ht rfl)
     have HB1:=qD (HB.out.trans hb1)
     clear ht hf hb1
     go_wp2_with fail
     go_roundw
     case rel=>exact⟨i+1,by omega,by go_num,HF.out,HB1.out⟩
     case measure=>simp[intOf];omega
   ·obtain rfl:i=ln:=by omega
    go_wp2_with fail
    go_end0
    exact⟨rfl,J2.out,HE.out _ (by rw[HP.out];have:=HO.out.ln;simp only at this;rw[←this];exact J1.out)⟩
theorem wrap_i64{a:Int}(h1:-9223372036854775808≤a)(h2:a≤9223372036854775807):IntKind.i64.wrap a=a:=IntWalk.i64_in _ ⟨h1,h2⟩
def NodesAt(x:Val):Prop:=∀(c:VC) (most:Int) (w:World),RW w c x→1≤most→most≤1025→
 Calls Tryz.prog 224 #[c.val,.int .i64 most] w fun e w'=>e=.returned (.int .i64 (nodesI x most))∧Below w.heap.size w w'
theorem nodes1_any(y:Val)(ih:NodesAt y)(u:VC)(g m:Nat)(n most:Int)(w:World)(h:RW w u y)(hg:Blk w g 3 #[.int .i64 n])(hm:Blk w m 3 #[.int .i64 most])(hne:m≠g)(h1:1≤n)(h2:n<most)(h3:most≤1025):
 Calls Tryz.prog 255 #[u.val,.pointer (some ⟨g,0,none⟩),.pointer (some ⟨m,0,none⟩)] w fun e w'=>e=.returned (.bool (decide (n+nodesI y (most-n)<most)))∧But g w w'∧Blk w' g 3 #[.int .i64 (n+nodesI y (most-n))]:=by
 have HG:=qD (hg.alloc (.cells u.arr 32))
 have HM:=qD (hm.alloc (.cells u.arr 32))
 have HU:Hid (Blk (w.alloc (.cells u.arr 32)) w.heap.size 32 u.arr):=Blk.new_at rfl
 have H:=qD (h.alloc (.cells u.arr 32))
 have HB:=qD ((Below.refl w.heap.size w).alloc (qL) (Obj.cells u.arr 32))
 have IH:=qD ih
 have hgl:=hg.lt
 have hml:=hm.lt
 have r1:1≤nodesI y (most-n)∧nodesI y (most-n)≤most-n:=by
  have:=size_pos y
  unfold nodesI
  omega
 clear h hg hm ih
 go_enter Tryz.func255,Tryz.ntmps255
 go_wp2_with fail
 generalize w.alloc (.cells u.arr 32)=w1 at*
 have E0:∀q:BW w1,q.val.cell? ⟨g,0,none⟩=some (.int .i64 n):=fun q=>q.cell (HG.out.cell 0)
 have E1:∀q:BW w1,q.val.cell? ⟨m,0,none⟩=some (.int .i64 most):=fun q=>q.cell (HM.out.cell 0)
 have E2:∀q:BW w1,q.val.cell? ⟨w.heap.size,0,none⟩=some (.int .i64 u.k):=fun q=>q.cell (HU.out.cell 0)
 have E3:∀q:BW w1,q.val.cell? ⟨w.heap.size,1,none⟩=some (.int .i64 u.n):=fun q=>q.cell (HU.out.cell 1)
 have E4:∀q:BW w1,q.val.cell? ⟨w.heap.size,2,none⟩=some (.string u.t):=fun q=>q.cell (HU.out.cell 2)
 have E5:∀q:BW w1,q.val.cell? ⟨w.heap.size,3,none⟩=some (.slice u.LA u.ln u.lc):=fun q=>q.cell (HU.out.cell 3)
 have E6:∀q:BW w1,q.val.cell? ⟨w.heap.size,4,none⟩=some (.slice u.DA u.dn u.dc):=fun q=>q.cell (HU.out.cell 4)
 have W1:IntKind.i64.wrap (most-n)=most-n:=wrap_i64 (by omega) (by omega)
 have W2:IntKind.i64.wrap (n+nodesI y (most-n))=n+nodesI y (most-n):=wrap_i64 (by omega) (by omega)
 have K1:Hid (∀q:BW w1,Calls Tryz.prog 224 #[u.val,.int .i64 (most-n)] q.val fun e w''=>e=.returned (.int .i64 (nodesI y (most-n)))∧∃q:BW w1,w''=q.val):=fun q=>
  Calls.bw (IH.out u (most-n) q.val (H.out.step q.below) (by omega) (by omega))
 refine wp_region_bw_tail 7 (by kernel_rfl) (by kernel_rfl) ?_
 simp only[List.take_succ_cons,List.take_zero,List.drop_succ_cons,List.drop_zero]
 repeat(go_big_quiet_step (with_reducible exact K1.out _))
 refine wpQuiet_nil ?_
 rintro _ ⟨kw,rfl⟩
 have F0:=(HG.out.step kw.below).frozen 0
 have JG:=qD ((HG.out.step kw.below).set_ 0 (.int .i64 (n+nodesI y (most-n))))
 have JB:=qD ((But.of_below (g:=g) (HB.out.step' kw.below)).set (p:=⟨g,0,none⟩) rfl (.int .i64 (n+nodesI y (most-n))))
 have e0:=E0 kw
 have e1:=E1 kw
 have hnm:g≠m:=fun e=>hne e.symm
 clear E0 E1 E2 E3 E4 E5 E6 K1 W1 W2 HG HM HU H HB IH
 generalize kw.val=w2 at*
 go_wp2_with fail
 go_ret
 exact⟨rfl,JB.out,JG.out⟩
def DepthAt(x:Val):Prop:=∀(c:VC) (most:Int) (w:World),RW w c x→1≤most→most≤17→
 Calls Tryz.prog 225 #[c.val,.int .i64 most] w fun e w'=>e=.returned (.int .i64 (depthI x most))∧Below w.heap.size w w'
theorem depth1_any(y:Val)(ih:DepthAt y)(u:VC)(g m:Nat)(n most:Int)(w:World)(h:RW w u y)(hg:Blk w g 3 #[.int .i64 n])(hm:Blk w m 3 #[.int .i64 most])(hne:m≠g)(h1:0≤n)(h2:n<most-1)(h3:most≤17):
 Calls Tryz.prog 256 #[u.val,.pointer (some ⟨g,0,none⟩),.pointer (some ⟨m,0,none⟩)] w fun e w'=>e=.returned (.bool (decide (max n (depthI y (most-1))<most-1)))∧But g w w'∧Blk w' g 3 #[.int .i64 (max n (depthI y (most-1)))]:=by
 have HG:=qD (hg.alloc (.cells u.arr 32))
 have HM:=qD (hm.alloc (.cells u.arr 32))
 have HU:Hid (Blk (w.alloc (.cells u.arr 32)) w.heap.size 32 u.arr):=Blk.new_at rfl
 have H:=qD (h.alloc (.cells u.arr 32))
 have HB:=qD ((Below.refl w.heap.size w).alloc (qL) (Obj.cells u.arr 32))
 have IH:=qD ih
 have hgl:=hg.lt
 have hml:=hm.lt
 have r1:1≤depthI y (most-1)∧depthI y (most-1)≤most-1:=by
  have:=height_pos y
  unfold depthI
  omega
 clear h hg hm ih
 by_cases hle:n<depthI y (most-1)
 ·have HX:Hid (max n (depthI y (most-1))=depthI y (most-1)):=by unfold Hid;omega
  go_enter Tryz.func256,Tryz.ntmps256
  go_wp2_with fail
  generalize w.alloc (.cells u.arr 32)=w1 at*
  have E0:∀q:BW w1,q.val.cell? ⟨g,0,none⟩=some (.int .i64 n):=fun q=>q.cell (HG.out.cell 0)
  have E1:∀q:BW w1,q.val.cell? ⟨m,0,none⟩=some (.int .i64 most):=fun q=>q.cell (HM.out.cell 0)
  have E2:∀q:BW w1,q.val.cell? ⟨w.heap.size,0,none⟩=some (.int .i64 u.k):=fun q=>q.cell (HU.out.cell 0)
  have E3:∀q:BW w1,q.val.cell? ⟨w.heap.size,1,none⟩=some (.int .i64 u.n):=fun q=>q.cell (HU.out.cell 1)
  have E4:∀q:BW w1,q.val.cell? ⟨w.heap.size,2,none⟩=some (.string u.t):=fun q=>q.cell (HU.out.cell 2)
  have E5:∀q:BW w1,q.val.cell? ⟨w.heap.size,3,none⟩=some (.slice u.LA u.ln u.lc):=fun q=>q.cell (HU.out.cell 3)
  have E6:∀q:BW w1,q.val.cell? ⟨w.heap.size,4,none⟩=some (.slice u.DA u.dn u.dc):=fun q=>q.cell (HU.out.cell 4)
  have W1:IntKind.i64.wrap (most-1)=most-1:=wrap_i64 (by omega) (by omega)
  have K1:Hid (∀q:BW w1,Calls Tryz.prog 225 #[u.val,.int .i64 (most-1)] q.val fun e w''=>e=.returned (.int .i64 (depthI y (most-1)))∧∃q:BW w1,w''=q.val):=fun q=>
   Calls.bw (IH.out u (most-1) q.val (H.out.step q.below) (by omega) (by omega))
  refine wp_region_bw_tail 6 (by kernel_rfl) (by kernel_rfl) ?_
  simp only[List.take_succ_cons,List.take_zero,List.drop_succ_cons,List.drop_zero]
  repeat(go_big_quiet_step (with_reducible exact K1.out _))
  refine wpQuiet_nil ?_
  rintro _ ⟨kw,rfl⟩
  have F0:=(HG.out.step kw.below).frozen 0
  have JG:=qD ((HG.out.step kw.below).set_ 0 (.int .i64 (depthI y (most-1))))
  have JB:=qD ((But.of_below (g:=g) (HB.out.step' kw.below)).set (p:=⟨g,0,none⟩) rfl (.int .i64 (depthI y (most-1))))
  have e0:=E0 kw
  have e1:=E1 kw
  have hnm:g≠m:=fun e=>hne e.symm
  clear E0 E1 E2 E3 E4 E5 E6 K1 W1 HG HM HU H HB IH
  generalize kw.val=w2 at*
  go_wp2_with fail
  go_ret
  exact⟨by rw[HX.out];first|rfl|(rw[decide_eq_true h2];rfl),JB.out,by rw[HX.out];exact JG.out⟩
 ·have HX:Hid (max n (depthI y (most-1))=n):=by unfold Hid;omega
  go_enter Tryz.func256,Tryz.ntmps256
  go_wp2_with fail
  generalize w.alloc (.cells u.arr 32)=w1 at*
  have E0:∀q:BW w1,q.val.cell? ⟨g,0,none⟩=some (.int .i64 n):=fun q=>q.cell (HG.out.cell 0)
  have E1:∀q:BW w1,q.val.cell? ⟨m,0,none⟩=some (.int .i64 most):=fun q=>q.cell (HM.out.cell 0)
  have E2:∀q:BW w1,q.val.cell? ⟨w.heap.size,0,none⟩=some (.int .i64 u.k):=fun q=>q.cell (HU.out.cell 0)
  have E3:∀q:BW w1,q.val.cell? ⟨w.heap.size,1,none⟩=some (.int .i64 u.n):=fun q=>q.cell (HU.out.cell 1)
  have E4:∀q:BW w1,q.val.cell? ⟨w.heap.size,2,none⟩=some (.string u.t):=fun q=>q.cell (HU.out.cell 2)
  have E5:∀q:BW w1,q.val.cell? ⟨w.heap.size,3,none⟩=some (.slice u.LA u.ln u.lc):=fun q=>q.cell (HU.out.cell 3)
  have E6:∀q:BW w1,q.val.cell? ⟨w.heap.size,4,none⟩=some (.slice u.DA u.dn u.dc):=fun q=>q.cell (HU.out.cell 4)
  have W1:IntKind.i64.wrap (most-1)=most-1:=wrap_i64 (by omega) (by omega)
  have K1:Hid (∀q:BW w1,Calls Tryz.prog 225 #[u.val,.int .i64 (most-1)] q.val fun e w''=>e=.returned (.int .i64 (depthI y (most-1)))∧∃q:BW w1,w''=q.val):=fun q=>
   Calls.bw (IH.out u (most-1) q.val (H.out.step q.below) (by omega) (by omega))
  refine wp_region_bw_tail 6 (by kernel_rfl) (by kernel_rfl) ?_
  simp only[List.take_succ_cons,List.take_zero,List.drop_succ_cons,List.drop_zero]
  repeat(go_big_quiet_step (with_reducible exact K1.out _))
  refine wpQuiet_nil ?_
  rintro _ ⟨kw,rfl⟩
  have F0:=(HG.out.step kw.below).frozen 0
  have JG:=qD ((HG.out.step kw.below).set_ 0 (.int .i64 n))
  have JB:=qD ((But.of_below (g:=g) (HB.out.step' kw.below)).set (p:=⟨g,0,none⟩) rfl (.int .i64 n))
  have e0:=E0 kw
  have e1:=E1 kw
  have hnm:g≠m:=fun e=>hne e.symm
  clear E0 E1 E2 E3 E4 E5 E6 K1 W1 HG HM HU H HB IH
  generalize kw.val=w2 at*
  go_wp2_with fail
  go_ret
  exact⟨by rw[HX.out];first|rfl|(rw[decide_eq_true h2];rfl),JB.out,by rw[HX.out];exact JG.out⟩
theorem Val.indP{p:Val→Prop}(h:∀x,(∀y∈x.parts,p y)→p x):∀x,p x:=by
 intro x
 induction x using Val.ind with
 | h k n t l d ihl ihd=>
  refine h _ fun y hy=>?_
  unfold Val.parts at hy
  split at hy
  ·exact ihl y hy
  ·split at hy
   ·obtain⟨f,hf,rfl⟩:=List.mem_map.1 hy
    exact ihd f hf
   ·simp at hy
def NInv(x:Val)(most:Int)(g m:Nat)(i:Nat)(wr:World):Prop:=
 1+(sizeL (x.parts.take i):Int)<most∧Blk wr g 3 #[.int .i64 (1+(sizeL (x.parts.take i):Int))]∧Blk wr m 3 #[.int .i64 most]
theorem nodes_step{x y:Val}{i:Nat}{most:Int}(hy:x.parts[i]?=some y):
 (decide (1+(sizeL (x.parts.take i):Int)+nodesI y (most-(1+(sizeL (x.parts.take i):Int)))<most)=true→
   1+(sizeL (x.parts.take (i+1)):Int)<most∧1+(sizeL (x.parts.take i):Int)+nodesI y (most-(1+(sizeL (x.parts.take i):Int)))=1+(sizeL (x.parts.take (i+1)):Int))∧
 (decide (1+(sizeL (x.parts.take i):Int)+nodesI y (most-(1+(sizeL (x.parts.take i):Int)))<most)=false→
   1+(sizeL (x.parts.take i):Int)+nodesI y (most-(1+(sizeL (x.parts.take i):Int)))=nodesI x most):=by
 have h1:=sizeL_snoc hy
 have h2:=sizeL_take x.parts (i+1)
 have h3:=size_parts x
 unfold nodesI
 constructor
 ·intro hd
  simp at hd
  omega
 ·intro hd
  simp at hd
  omega
open Go.Shelf in
theorem nodes_any:∀x,NodesAt x:=by
 refine Val.indP fun x ih=>?_
 intro c most w h h1 h2
 have hx:=size_pos x
 cases hm:((1:Int)==most)
 ·have hm':1<most:=by simp at hm;omega
  have H:=qD h
  have IH:=qD ih
  clear h ih
  go_enter Tryz.func224,Tryz.ntmps224
  go_wp2_with fail
  have B1:Blk (((w.alloc (.cells c.arr 32)).alloc (.cells #[.int .i64 most] 3)).alloc (.cells #[.int .i64 1] 3)) (w.heap.size+1) 3 #[.int .i64 most]:=(Blk.new_at (by simp)).alloc _
  have B2:Blk (((w.alloc (.cells c.arr 32)).alloc (.cells #[.int .i64 most] 3)).alloc (.cells #[.int .i64 1] 3)) (w.heap.size+1+1) 3 #[.int .i64 1]:=Blk.new_at (by simp)
  have B3:Below w.heap.size w (((w.alloc (.cells c.arr 32)).alloc (.cells #[.int .i64 most] 3)).alloc (.cells #[.int .i64 1] 3)):=(((Below.refl _ _).alloc (qL) _).alloc (by simp) _).alloc (by simp;omega) _
  have B4:=H.out.lt.keepG (G:=fun b=>b≠w.heap.size+1+1) (w':=(((w.alloc (.cells c.arr 32)).alloc (.cells #[.int .i64 most] 3)).alloc (.cells #[.int .i64 1] 3))) fun b hb _=>⟨by omega,B3.block b hb.2⟩
  have hsz:(((w.alloc (.cells c.arr 32)).alloc (.cells #[.int .i64 most] 3)).alloc (.cells #[.int .i64 1] 3)).heap.size=w.heap.size+3:=by simp
  refine(each_any 255 (w.heap.size+1+1) (w.heap.size+1) x c _ B4 (NInv x most (w.heap.size+1+1) (w.heap.size+1)) (fun wr=>Blk wr (w.heap.size+1+1) 3 #[.int .i64 (nodesI x most)]) (enters_of Tryz.func255 (by kernel_rfl) rfl) ⟨by simpa[sizeL] using hm',by simpa[sizeL] using B2,B1⟩ ?_ ?_ ?_).mono ?_
  ·rintro i w1 w2 ⟨a,b,d⟩ hb
   exact⟨a,b.step hb,d.step hb⟩
  ·rintro i y u wr hy ⟨a,b,d⟩ hb hr
   obtain⟨n1,n2⟩:=nodes_step (most:=most) hy
   refine(nodes1_any y (IH.out y (List.mem_of_getElem? hy)) u _ _ _ most wr hr b d (by omega) (by omega) a h2).mono ?_
   rintro e w' ⟨rfl,k1,k2⟩
   refine⟨_,rfl,k1,fun hd=>?_,fun hd=>?_⟩
   ·obtain⟨n3,n4⟩:=n1 hd
    rw[n4] at k2
    exact⟨n3,k2,d.but k1 (by omega)⟩
   ·rw[n2 hd] at k2
    exact k2
  ·rintro wr ⟨a,b,d⟩
   rw[List.take_length] at a b
   have e:1+(sizeL x.parts:Int)=nodesI x most:=by
    have:=size_parts x
    unfold nodesI
    omega
   rw[e] at b
   exact b
  ·rintro e w' ⟨rfl,hb,hf⟩
   have q:=hf.cell 0
   simp at q
   have HB:=qD (B3.trans (hb.below (by omega) (by omega)))
   clear B1 B2 B3 B4 hb hf H IH
   go_wp2_with fail
   go_ret
   exact⟨rfl,HB.out⟩
 ·obtain rfl:most=1:=by simp at hm;omega
  clear h ih
  go_enter Tryz.func224,Tryz.ntmps224
  go_wp2_with fail
  go_ret
  refine⟨?_,((((Below.refl _ _).alloc (qL) _).alloc (by simp) _).alloc (by simp;omega) _)⟩
  have e:nodesI x 1=1:=by unfold nodesI;omega
  rw[e]
  rfl
theorem ret_int{k:IntKind}{a b:Int}(h:a=b):Ending.returned (.int k a)=.returned (.int k b):=by rw[h]
def DInv(x:Val)(most:Int)(g m:Nat)(i:Nat)(wr:World):Prop:=
 (heightL (x.parts.take i):Int)<most-1∧Blk wr g 3 #[.int .i64 (heightL (x.parts.take i):Int)]∧Blk wr m 3 #[.int .i64 most]
theorem depth_step{x y:Val}{i:Nat}{most:Int}(hy:x.parts[i]?=some y):
 (decide (max (heightL (x.parts.take i):Int) (depthI y (most-1))<most-1)=true→
   (heightL (x.parts.take (i+1)):Int)<most-1∧max (heightL (x.parts.take i):Int) (depthI y (most-1))=(heightL (x.parts.take (i+1)):Int))∧
 (decide (max (heightL (x.parts.take i):Int) (depthI y (most-1))<most-1)=false→(heightL (x.parts.take i):Int)<most-1→
   max (heightL (x.parts.take i):Int) (depthI y (most-1))=depthI x most-1):=by
 have h1:=heightL_snoc hy
 have h2:=heightL_take x.parts (i+1)
 have h3:=height_parts x
 unfold depthI
 constructor
 ·intro hd
  simp at hd
  omega
 ·intro hd _
  simp at hd
  omega
open Go.Shelf in
theorem depth_any:∀x,DepthAt x:=by
 refine Val.indP fun x ih=>?_
 intro c most w h h1 h2
 have hx:=height_pos x
 cases hm:(most==1)
 ·have hm':1<most:=by simp at hm;omega
  have H:=qD h
  have IH:=qD ih
  clear h ih
  go_enter Tryz.func225,Tryz.ntmps225
  go_wp2_with fail
  have B1:Blk (((w.alloc (.cells c.arr 32)).alloc (.cells #[.int .i64 most] 3)).alloc (.cells #[.int .i64 0] 3)) (w.heap.size+1) 3 #[.int .i64 most]:=(Blk.new_at (by simp)).alloc _
  have B2:Blk (((w.alloc (.cells c.arr 32)).alloc (.cells #[.int .i64 most] 3)).alloc (.cells #[.int .i64 0] 3)) (w.heap.size+1+1) 3 #[.int .i64 0]:=Blk.new_at (by simp)
  have B3:Below w.heap.size w (((w.alloc (.cells c.arr 32)).alloc (.cells #[.int .i64 most] 3)).alloc (.cells #[.int .i64 0] 3)):=(((Below.refl _ _).alloc (qL) _).alloc (by simp) _).alloc (by simp;omega) _
  have B4:=H.out.lt.keepG (G:=fun b=>b≠w.heap.size+1+1) (w':=(((w.alloc (.cells c.arr 32)).alloc (.cells #[.int .i64 most] 3)).alloc (.cells #[.int .i64 0] 3))) fun b hb _=>⟨by omega,B3.block b hb.2⟩
  have hsz:(((w.alloc (.cells c.arr 32)).alloc (.cells #[.int .i64 most] 3)).alloc (.cells #[.int .i64 0] 3)).heap.size=w.heap.size+3:=by simp
  refine(each_any 256 (w.heap.size+1+1) (w.heap.size+1) x c _ B4 (DInv x most (w.heap.size+1+1) (w.heap.size+1)) (fun wr=>Blk wr (w.heap.size+1+1) 3 #[.int .i64 (depthI x most-1)]) (enters_of Tryz.func256 (by kernel_rfl) rfl) ⟨by simp[heightL];omega,by simpa[heightL] using B2,B1⟩ ?_ ?_ ?_).mono ?_
  ·rintro i w1 w2 ⟨a,b,d⟩ hb
   exact⟨a,b.step hb,d.step hb⟩
  ·rintro i y u wr hy ⟨a,b,d⟩ hb hr
   obtain⟨n1,n2⟩:=depth_step (most:=most) hy
   refine(depth1_any y (IH.out y (List.mem_of_getElem? hy)) u _ _ _ most wr hr b d (by omega) (by omega) a h2).mono ?_
   rintro e w' ⟨rfl,k1,k2⟩
   refine⟨_,rfl,k1,fun hd=>?_,fun hd=>?_⟩
   ·obtain⟨n3,n4⟩:=n1 hd
    rw[n4] at k2
    exact⟨n3,k2,d.but k1 (by omega)⟩
   ·rw[n2 hd a] at k2
    exact k2
  ·rintro wr ⟨a,b,d⟩
   rw[List.take_length] at a b
   have e:(heightL x.parts:Int)=depthI x most-1:=by
    have:=height_parts x
    unfold depthI
    omega
   rw[e] at b
   exact b
  ·rintro e w' ⟨rfl,hb,hf⟩
   have q:=hf.cell 0
   simp at q
   have HB:=qD (B3.trans (hb.below (by omega) (by omega)))
   clear B1 B2 B3 B4 hb hf H IH
   have r1:1≤depthI x most∧depthI x most≤17:=by unfold depthI;omega
   go_wp2_with fail
   go_ret
   exact⟨ret_int (by omega),HB.out⟩
 ·obtain rfl:most=1:=by simp at hm;omega
  clear h ih
  go_enter Tryz.func225,Tryz.ntmps225
  go_wp2_with fail
  go_ret
  refine⟨?_,(((Below.refl _ _).alloc (qL) _).alloc (by simp) _)⟩
  have e:depthI x 1=1:=by unfold depthI;omega
  rw[e]
  rfl
def okB(b:UInt8):Bool:=decide (33≤b.toNat)&&decide (b.toNat≤126)&&!(b.toNat==46)
def okW(b:UInt8):Bool:=decide (32≤b.toNat)&&decide (b.toNat≤126)
def nameB(s:ByteArray):Bool:=decide (1≤s.size)&&decide (s.size≤32)&&!(s.data.toList.head?.map UInt8.toNat==some 36)&&s.data.toList.all okB
def wideB(s:ByteArray):Bool:=decide (1≤s.size)&&decide (s.size≤128)&&s.data.toList.all okW
theorem bytes_at(s:ByteArray)(i:Nat)(h:i<s.size):s.data.toList[i]?=some s[i]:=by
 rw[List.getElem?_eq_getElem (by simpa using h)]
 rfl
theorem all_next{p:UInt8→Bool}{s:ByteArray}{i:Nat}(h:i<s.size)(ha:(s.data.toList.take i).all p=true)(hp:p s[i]=true):(s.data.toList.take (i+1)).all p=true:=by
 rw[take_snoc' (bytes_at s i h),List.all_append,ha]
 simp[hp]
theorem all_not{p:UInt8→Bool}{s:ByteArray}{i:Nat}(h:i<s.size)(hp:p s[i]=false):s.data.toList.all p=false:=by
 rw[List.all_eq_false]
 exact⟨s[i],List.mem_of_getElem? (bytes_at s i h),by simp[hp]⟩
theorem all_end{p:UInt8→Bool}{s:ByteArray}{i:Nat}(h:s.size≤i)(ha:(s.data.toList.take i).all p=true):s.data.toList.all p=true:=by
 rwa [List.take_of_length_le (by simpa using h)] at ha
theorem head_of(s:ByteArray)(h:0<s.size):s.data.toList.head?.map UInt8.toNat=some s[0].toNat:=by
 rw[List.head?_eq_getElem?,bytes_at s 0 h]
 rfl
theorem all_zero{p:UInt8→Bool}{l:List UInt8}:(l.take 0).all p=true:=by simp
theorem isName_any(s:ByteArray)(w:World):Calls Tryz.prog 258 #[.string s] w fun e w'=>e=.returned (.bool (nameB s))∧w'=w:=by
 by_cases h1:s.size<1
 ·have HV:Hid (nameB s=false):=by unfold Hid nameB;rw[decide_eq_false (by omega)];rfl
  go_enter Tryz.func258,Tryz.ntmps258
  go_wp2_with fail
  go_ret
  exact⟨by rw[HV.out];rfl,rfl⟩
 by_cases h2:32<s.size
 ·have HV:Hid (nameB s=false):=by unfold Hid nameB;rw[decide_eq_true (by omega),decide_eq_false (by omega)];rfl
  go_enter Tryz.func258,Tryz.ntmps258
  go_wp2_with fail
  go_ret
  exact⟨by rw[HV.out];rfl,rfl⟩
 cases h3:((s[0].toNat:Int)==36)
 rotate_left
 ·have HV:Hid (nameB s=false):=by
   have:s[0].toNat=36:=by simp at h3;omega
   unfold Hid nameB
   rw[decide_eq_true (by omega),decide_eq_true (by omega),head_of s (by omega),this]
   rfl
  go_enter Tryz.func258,Tryz.ntmps258
  go_wp2_with fail
  go_ret
  exact⟨by rw[HV.out];rfl,rfl⟩
 have HA:Hid (nameB s=s.data.toList.all okB):=by
  have:¬s[0].toNat=36:=by simp at h3;omega
  unfold Hid nameB
  rw[decide_eq_true (by omega),decide_eq_true (by omega),head_of s (by omega)]
  simp[this]
 go_enter Tryz.func258,Tryz.ntmps258
 go_wp2_with fail
 go_loopw [19] (fun v wr=>∃i:Nat,i≤s.size∧v=.int .i64 i∧(s.data.toList.take i).all okB=true∧wr=w) (fun v _=>s.size-(intOf v).toNat)
 case atStart=>exact⟨0,Nat.zero_le _,rfl,all_zero,rfl⟩
 case round=>
  obtain⟨i,hi,rfl,ha,rfl⟩:=hrel
  have HL:=qD ha
  clear ha
  by_cases hlt:i<s.size
  ·have hx:=s[i].toNat_lt
   by_cases hb:(s[i].toNat:Int)<33
   ·have HV:Hid (nameB s=false):=by rw[Hid,HA.out];exact all_not hlt (by unfold okB;rw[decide_eq_false (by omega)];rfl)
    go_wp2_with fail
    go_ret
    exact⟨by rw[HV.out];rfl,rfl⟩
   by_cases hc:126<(s[i].toNat:Int)
   ·have HV:Hid (nameB s=false):=by rw[Hid,HA.out];exact all_not hlt (by unfold okB;rw[decide_eq_true (by omega),decide_eq_false (by omega)];rfl)
    go_wp2_with fail
    go_ret
    exact⟨by rw[HV.out];rfl,rfl⟩
   cases hd:((s[i].toNat:Int)==46)
   rotate_left
   ·have HV:Hid (nameB s=false):=by
     have:s[i].toNat=46:=by simp at hd;omega
     rw[Hid,HA.out]
     exact all_not hlt (by unfold okB;rw[this];rfl)
    go_wp2_with fail
    go_ret
    exact⟨by rw[HV.out];rfl,rfl⟩
   have HN:Hid ((s.data.toList.take (i+1)).all okB=true):=by
    have:¬s[i].toNat=46:=by simp at hd;omega
    exact all_next hlt HL.out (by unfold okB;rw[decide_eq_true (by omega),decide_eq_true (by omega)];simp[this])
   go_wp2_with fail
   go_roundw
   case rel=>exact⟨i+1,by omega,by go_num,HN.out,trivial⟩
   case measure=>simp[intOf];omega
  ·have HV:Hid (nameB s=true):=by rw[Hid,HA.out];exact all_end (by omega) HL.out
   go_wp2_with fail
   go_ret
   exact⟨by rw[HV.out];rfl,rfl⟩
theorem rname_any(s:ByteArray)(w:World):Calls Tryz.prog 41 #[.string s] w fun e w'=>e=.returned (.bool (nameB s))∧w'=w:=by
 by_cases h1:s.size<1
 ·have HV:Hid (nameB s=false):=by unfold Hid nameB;rw[decide_eq_false (by omega)];rfl
  go_enter Tryz.func41,Tryz.ntmps41
  go_wp2_with fail
  go_ret
  exact⟨by rw[HV.out];rfl,rfl⟩
 by_cases h2:32<s.size
 ·have HV:Hid (nameB s=false):=by unfold Hid nameB;rw[decide_eq_true (by omega),decide_eq_false (by omega)];rfl
  go_enter Tryz.func41,Tryz.ntmps41
  go_wp2_with fail
  go_ret
  exact⟨by rw[HV.out];rfl,rfl⟩
 cases h3:((s[0].toNat:Int)==36)
 rotate_left
 ·have HV:Hid (nameB s=false):=by
   have:s[0].toNat=36:=by simp at h3;omega
   unfold Hid nameB
   rw[decide_eq_true (by omega),decide_eq_true (by omega),head_of s (by omega),this]
   rfl
  go_enter Tryz.func41,Tryz.ntmps41
  go_wp2_with fail
  go_ret
  exact⟨by rw[HV.out];rfl,rfl⟩
 have HA:Hid (nameB s=s.data.toList.all okB):=by
  have:¬s[0].toNat=36:=by simp at h3;omega
  unfold Hid nameB
  rw[decide_eq_true (by omega),decide_eq_true (by omega),head_of s (by omega)]
  simp[this]
 go_enter Tryz.func41,Tryz.ntmps41
 go_wp2_with fail
 go_loopw [3] (fun v wr=>∃i:Nat,i≤s.size∧v=.int .i64 i∧(s.data.toList.take i).all okB=true∧wr=w) (fun v _=>s.size-(intOf v).toNat)
 case atStart=>exact⟨0,Nat.zero_le _,rfl,all_zero,rfl⟩
 case round=>
  obtain⟨i,hi,rfl,ha,rfl⟩:=hrel
  have HL:=qD ha
  clear ha
  by_cases hlt:i<s.size
  ·have hx:=s[i].toNat_lt
   by_cases hb:(s[i].toNat:Int)<33
   ·have HV:Hid (nameB s=false):=by rw[Hid,HA.out];exact all_not hlt (by unfold okB;rw[decide_eq_false (by omega)];rfl)
    go_wp2_with fail
    go_ret
    exact⟨by rw[HV.out];rfl,rfl⟩
   by_cases hc:126<(s[i].toNat:Int)
   ·have HV:Hid (nameB s=false):=by rw[Hid,HA.out];exact all_not hlt (by unfold okB;rw[decide_eq_true (by omega),decide_eq_false (by omega)];rfl)
    go_wp2_with fail
    go_ret
    exact⟨by rw[HV.out];rfl,rfl⟩
   cases hd:((s[i].toNat:Int)==46)
   rotate_left
   ·have HV:Hid (nameB s=false):=by
     have:s[i].toNat=46:=by simp at hd;omega
     rw[Hid,HA.out]
     exact all_not hlt (by unfold okB;rw[this];rfl)
    go_wp2_with fail
    go_ret
    exact⟨by rw[HV.out];rfl,rfl⟩
   have HN:Hid ((s.data.toList.take (i+1)).all okB=true):=by
    have:¬s[i].toNat=46:=by simp at hd;omega
    exact all_next hlt HL.out (by unfold okB;rw[decide_eq_true (by omega),decide_eq_true (by omega)];simp[this])
   go_wp2_with fail
   go_roundw
   case rel=>exact⟨i+1,by omega,by go_num,HN.out,trivial⟩
   case measure=>simp[intOf];omega
  ·have HV:Hid (nameB s=true):=by rw[Hid,HA.out];exact all_end (by omega) HL.out
   go_wp2_with fail
   go_ret
   exact⟨by rw[HV.out];rfl,rfl⟩
end Go.Proofs.YtfkdihlbaghajaaGreatDoor
