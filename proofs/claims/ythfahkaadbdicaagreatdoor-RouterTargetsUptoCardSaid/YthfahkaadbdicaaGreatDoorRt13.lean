/- Parts of the proof, joined: PrAt, PrLeaf, Kit6, BoKind, BoSame, RgAfter, BoLim, BoIn, BoPre, BoAnd. -/
import Derived.Test.YthfahkaadbdicaaGreatDoorRt1
import Derived.Test.YthfahkaadbdicaaGreatDoorRt12
import Derived.Test.YthfahkaadbdicaaGreatDoorRt6
import Derived.Test.YthfahkaadbdicaaGreatDoorRt2
import Derived.Test.YthfahkaadbdicaaGreatDoorRt7
import Derived.Laws.IdiomCopy
import Derived.Lib.SliceRun
import Derived.Laws.ResultCell
import Derived.Laws.BytesArg
import Derived.Laws.Concat
set_option maxRecDepth 100000
set_option maxHeartbeats 16000000
set_option linter.unusedSimpArgs false
open Go.Proofs.Tryz
open ByteArray (empty)
namespace Go.Proofs.YthfahkaadbdicaaGreatDoor
open Go.RowKit
structure Jk(w:World)(g:Nat)(p:ao):Prop where
 d0:w.cell? ⟨g,0,none⟩=some (.int .i64 p.op)
 d1:w.cell? ⟨g,1,none⟩=some (.slice p.path.A p.path.n p.path.c)
 d2:w.cell? ⟨g,2,none⟩=some (.int .i64 p.arg.1.k)
 d4:w.cell? ⟨g,4,none⟩=some (.string p.arg.1.t)
 d7:w.cell? ⟨g,7,none⟩=some (.slice p.args.A p.args.n p.args.c)
 d8:w.cell? ⟨g,8,none⟩=some (.int .i64 p.n)
 d9:w.cell? ⟨g,9,none⟩=some (.int .i64 p.m)
 d24:w.cell? ⟨g,24,none⟩=some (.slice p.kA p.kn p.kc)
theorem aS{w:World}{g:Nat}{p:ao}(h:aE w g 38 (aH p)):Jk w g p:=
 ⟨(h.cell 0).trans rfl,(h.cell 1).trans rfl,(h.cell 2).trans rfl,(h.cell 4).trans rfl,(h.cell 7).trans rfl,(h.cell 8).trans rfl,(h.cell 9).trans rfl,(h.cell 24).trans rfl⟩
theorem dy{w:World}{g:Nat}{p:ao}(h:aE w g 38 (aH p)):w.rangeAt g 0 (iG p):=
 aj h _ _ fun j v hj=>by
  rw[LL];show(iG p).toArray[j]?=some v;rw[Mx];exact hj
structure Jl(w:World)(g:Nat)(x:fu):Prop where
 d0:w.cell? ⟨g,0,none⟩=some (.int .i64 x.op)
 d1:w.cell? ⟨g,1,none⟩=some (.slice x.path.A x.path.n x.path.c)
 d2:w.cell? ⟨g,2,none⟩=some (.string x.name)
 d3:w.cell? ⟨g,3,none⟩=some (.slice x.names.A x.names.n x.names.c)
 d9:w.cell? ⟨g,9,none⟩=some (.int .i64 x.n)
 d10:w.cell? ⟨g,10,none⟩=some (.slice x.kA x.kn x.kc)
theorem jG{w:World}{g:Nat}{x:fu}(h:aE w g 35 (dk x)):Jl w g x:=
 ⟨(h.cell 0).trans rfl,(h.cell 1).trans rfl,(h.cell 2).trans rfl,(h.cell 3).trans rfl,(h.cell 9).trans rfl,(h.cell 10).trans rfl⟩
theorem zq{w:World}{g:Nat}{x:fu}(h:aE w g 35 (dk x)):w.rangeAt g 0 (mY x):=
 aj h _ _ fun j v hj=>by
  rw[LL];show(mY x).toArray[j]?=some v;rw[Mx];exact hj
theorem SR.row{α:Type}{rec:α->List Value}{s:Nat}{w:World}{A:Option Addr}{n c:Nat}{xs:List α}(h:SR s rec w A n c xs){i:Nat}(hi:i<n):
 ∃b off x,A=some ⟨b,off,none⟩/\b<w.heap.size/\xs[i]?=some x/\x∈xs/\w.rangeAt b (off+i*s) (rec x):=by
 obtain⟨b,off,e,hb,hc⟩:=h.el (by omega);have hl:i<xs.length:=by have:=h.ln;omega
 have h1:=LI hl;exact⟨b,off,xs[i],e,hb,h1,LP h1,hc i _ h1⟩
theorem bi{w w':World}{b o:Nat}{l:List Value}(h:w.rangeAt b o l)(hb:Below w.heap.size w w')(hl:b<w.heap.size):w'.rangeAt b o l:=fun j v hj=>(hb.cell (p:=⟨b,o+j,none⟩) hl).trans (h j v hj)
theorem cI{op n:Int}{arg:aC}{args:List aC}{r:List Iv×Bool}(h:dv op arg args n=some r):bZ op arg args n=(fun a=>dj ae a (aT r.1),r.2):=by unfold bZ;rw[h]
theorem dH{op n:Int}{arg:aC}{args:List aC}(h:dv op arg args n=none):bZ op arg args n=(dV,false):=by unfold bZ;rw[h]
theorem ui{n:Int}{arg:aC}{args:List aC}(h:arg.k≠6):dv 2 arg args n=some ([eM arg],decide (arg.k≠2)):=by
 unfold dv;rw[LZ rfl,LU h]
theorem rP{n:Int}{arg:aC}{args:List aC}(h:arg.k=6):dv 2 arg args n=none:=by
 unfold dv;rw[LZ rfl,LZ h]
theorem rQ{op n:Int}{arg:aC}{args:List aC}(ho:op=4\/op=5\/op=6\/op=7)(h:arg.k≠6):dv op arg args n=some ([ud op arg],decide (arg.k≠2)):=by
 unfold dv;rw[LU (by omega),LZ ho,LU h]
theorem pI{op n:Int}{arg:aC}{args:List aC}(ho:op=4\/op=5\/op=6\/op=7)(h:arg.k=6):dv op arg args n=none:=by
 unfold dv;rw[LU (by omega),LZ ho,LZ h]
theorem Cv{n:Int}{arg:aC}{args:List aC}(h:¬∃x∈args,x.k=6):dv 8 arg args n=some (args.map eM,decide (¬∃x∈args,x.k=2)):=by
 unfold dv;rw[LU (by omega),LU (by omega),LZ rfl,LU h]
theorem rS{n:Int}{arg:aC}{args:List aC}(h:∃x∈args,x.k=6):dv 8 arg args n=none:=by
 unfold dv;rw[LU (by omega),LU (by omega),LZ rfl,LZ h]
theorem gm{n:Int}{arg:aC}{args:List aC}:dv 16 arg args n=some ([(mZ arg).1],(mZ arg).2):=by
 unfold dv;rw[LU (by omega),LU (by omega),LU (by omega),LZ rfl]
theorem pJ{n:Int}{arg:aC}{args:List aC}(h:n≠6):dv 11 arg args n=some ([cd n],decide (n≠2)):=by
 unfold dv;rw[LU (by omega),LU (by omega),LU (by omega),LU (by omega),LZ rfl,LU h]
theorem np{arg:aC}{args:List aC}:dv 11 arg args 6=none:=by
 unfold dv;rw[LU (by omega),LU (by omega),LU (by omega),LU (by omega),LZ rfl,LZ rfl]
theorem kH{op n:Int}{arg:aC}{args:List aC}(h:op≠2/\op≠4/\op≠5/\op≠6/\op≠7/\op≠8/\op≠16/\op≠11):dv op arg args n=none:=by
 unfold dv;rw[LU (by omega),LU (by omega),LU (by omega),LU (by omega),LU (by omega)]
abbrev cu(k n:Int)(t:ByteArray):VC:=⟨k,n,t,none,0,0,none,0,0⟩
theorem kp(w:World)(k n:Int){t:ByteArray}(h:t.size<=aF):RW w (cu k n t) (.mk k n t [] []):=
 mK.shut ⟨rfl,rfl,rfl,h,rfl,qL,by show 0*80<=aF;decide,fun h=>absurd h (by show ¬0<0;omega),rfl,qL,by show 0*96<=aF;decide,fun h=>absurd h (by show ¬0<0;omega)⟩
theorem jH{α:Type}{rec:α->List Value}{s:Nat}(hs:∀a,(rec a).length=s):∀(xs:List α) (k:Nat),(aJ rec xs).take (k*s)=aJ rec (xs.take k):=by
 intro xs
 induction xs with
 | nil=>intro k;simp[aJ]
 | cons a l ih=>
  intro k;cases k with
  | zero=>simp[aJ]
  | succ k=>
   have e:∀(y:α) (t:List α),aJ rec (y::t)=rec y++aJ rec t:=fun _ _=>rfl;rw[NX,e,e,<-ih k,show(k+1)*s=(rec a).length+k*s by rw[hs,Nn];omega,Pe]
theorem gn{α:Type}{rec:α->List Value}{s:Nat}(hs:∀a,(rec a).length=s):∀(xs:List α) (k:Nat),(aJ rec xs).drop (k*s)=aJ rec (xs.drop k):=by
 intro xs
 induction xs with
 | nil=>intro k;simp[aJ]
 | cons a l ih=>
  intro k;cases k with
  | zero=>simp[aJ]
  | succ k=>
   have e:∀(y:α) (t:List α),aJ rec (y::t)=rec y++aJ rec t:=fun _ _=>rfl;rw[OX,e,<-ih k,show(k+1)*s=(rec a).length+k*s by rw[hs,Nn];omega,OM]
theorem cP.take{w:World}{B size n:Nat}{A:Option Addr}{xs:List Value}(h:cP w B size A n xs){k:Nat}(hk:k<=n):cP w B size A k (xs.take (k*size)):=by
 refine⟨by rw[Lx,h.1];exact Nat.min_eq_left (MU _ hk),fun hn=>?_⟩;obtain⟨ad,rfl,hb,hc⟩:=h.2 (by omega);refine⟨ad,rfl,hb,fun j u hu=>hc j u ?_⟩;rw[Nd] at hu;split at hu
 ·exact hu
 ·cases hu
theorem aE.setCells{g:Nat}{t:TypeId}:∀(vs:List Value) {l:List Value} (o:Nat) {w:World},aE w g t l.toArray->aE (w.setCells g o vs) g t (cF l o vs).toArray
 | [],_,_,_,h=>h
 | v::r,l,o,w,h=>by
  have h1:=h.Js o v;rw[show l.toArray.setIfInBounds o v=(l.set o v).toArray by simp] at h1;exact aE.setCells r (o+1) h1
theorem lR(g:Nat):∀(vs:List Value) (o:Nat) (w:World) (b:Nat),b≠g->(w.setCells g o vs).heap[b]?=w.heap[b]?
 | [],_,_,_,_=>rfl
 | v::r,o,w,b,h=>by
  rw[World.setCells,lR g r (o+1) _ b h];exact MA w ⟨g,o,none⟩ v b h
theorem ey.setCells{g:Nat}{w:World}:∀(vs:List Value) (o:Nat) {w1:World},ey g w w1->ey g w (w1.setCells g o vs)
 | [],_,_,h=>h
 | v::r,o,_,h=>ey.setCells r (o+1) (h.set (p:=⟨g,o,none⟩) rfl v)
theorem aE.Jw{w:World}{g:Nat}{t:TypeId}{cs:Array Value}(h:∃c,aE w g t c/\c=cs):aE w g t cs:=by obtain⟨c,h,rfl⟩:=h;exact h
theorem bY{P:Program}{ops:Array Oper}{Q:Exit->Act->World->Prop}{l:List Oper}{a:Act}{w:World}(h:∀w',w'=w->wpList P ops Q l a w'):wpList P ops Q l a w:=h w rfl
theorem kJ{w:World}{g:Nat}{t:TypeId}{cs:Array Value}(h:aE w g t cs){o n:Nat}(hz:o+n<=cs.size):w.there g o n:=fun j hj=>by
 refine⟨?_,h.frozen _⟩;rw[h.cell,NY (by omega)];rfl
theorem GM{w:World}{g:Nat}{p:PI}(h:aE w g 84 (aM p))(c:VC)(x:aC):aE (w.setCells g 0 c.arr.toList) g 84 (aM (((c,x),p.1.2),p.2)):=aE.setCells c.list 0 (l:=ax p) h
theorem Cw{w:World}{g:Nat}{p:PI}(h:aE w g 84 (aM p))(c:VC)(x:aC):aE (w.setCells g 5 c.arr.toList) g 84 (aM ((p.1.1,(c,x)),p.2)):=aE.setCells c.list 5 (l:=ax p) h
theorem iI{w:World}{g b:Nat}{t:TypeId}{cs:Array Value}(h:aE w b t cs)(hne:b≠g)(vs:List Value)(o:Nat):aE (w.setCells g o vs) b t cs:=(lR g vs o w b hne).trans h
theorem iJ{B:Nat}{a w:World}(h:Below B a w){g:Nat}(hg:B<=g)(vs:List Value)(o:Nat):Below B a (w.setCells g o vs):=by
 induction vs generalizing w o with
 | nil=>exact h
 | cons v r ih=>exact ih (MR (p:=⟨g,o,none⟩) h hg v) (o+1)
theorem kq{ops:Array Oper}{rest:List Oper}{o:Oper}{a:Act}{w W:World}{Q:Exit->Act->World->Prop}{B g g0 g2:Nat}{p:PI}{c:VC}{cs0 cs2:Array Value}(hgd:o.guard=none)(x y:Operand)(ho:o.op=.store 29 x y)(hx:a.eval x=.pointer (some ⟨g,5,none⟩))(hy:a.eval y=.agg c.arr)(h1:aE w g 84 (aM p))(h0:aE w g0 84 cs0)(h2:aE w g2 29 cs2)(hb:Below B W w)(n0:g0≠g)(n2:g2≠g)(hB:B<=g)(v:aC)(h:∀w6,aE w6 g 84 (aM ((p.1.1,(c,v)),p.2))->aE w6 g0 84 cs0->aE w6 g2 29 cs2->Below B W w6->wpList prog ops Q rest (a.put o.dst undef) w6):wpList prog ops Q (o::rest) a w:=
 OV hgd 29 x y ho g 5 c.arr hx hy (kJ h1 (by simp)) (by kernel_rfl) (by simp[Value.oneCell']) (h _ (Cw h1 c v) (iI h0 n0 _ _) (iI h2 n2 _ _) (iJ hb hB _ _))
theorem Ap{ops:Array Oper}{rest:List Oper}{o:Oper}{a:Act}{w W:World}{Q:Exit->Act->World->Prop}{B g g0 g2:Nat}{p:PI}{c:VC}{cs0 cs2:Array Value}(hgd:o.guard=none)(x y:Operand)(ho:o.op=.store 29 x y)(hx:a.eval x=.pointer (some ⟨g,0,none⟩))(hy:a.eval y=.agg c.arr)(h1:aE w g 84 (aM p))(h0:aE w g0 84 cs0)(h2:aE w g2 29 cs2)(hb:Below B W w)(n0:g0≠g)(n2:g2≠g)(hB:B<=g)(v:aC)(h:∀w6,aE w6 g 84 (aM (((c,v),p.1.2),p.2))->aE w6 g0 84 cs0->aE w6 g2 29 cs2->Below B W w6->wpList prog ops Q rest (a.put o.dst undef) w6):wpList prog ops Q (o::rest) a w:=
 OV hgd 29 x y ho g 0 c.arr hx hy (kJ h1 (by simp)) (by kernel_rfl) (by simp[Value.oneCell']) (h _ (GM h1 c v) (iI h0 n0 _ _) (iI h2 n2 _ _) (iJ hb hB _ _))
theorem oe{P:Program}{C:Code}{Q:Exit->Act->World->Prop}{a:Act}{w:World}(h:∀w',w'=w->Code.wp P C Q a w'):Code.wp P C Q a w:=h w rfl
theorem bq{w:World}{g:Nat}{t:TypeId}{old:Array Value}(h:aE w g t old)(cs:Array Value):aE (w.setRow g cs) g t cs:=setRow_heap w g old cs t (0,0) h
theorem br{B:Nat}{a w:World}(h:Below B a w){g:Nat}(hg:B<=g)(cs:Array Value):Below B a (w.setRow g cs):=
 ⟨h.os,h.tape,h.output,by rw[setRow_size];exact h.size,fun k hk=>(setRow_other w g k cs (by omega)).trans (h.block k hk)⟩
theorem tM{w:World}{g:Nat}{cs:Array Value}(h:aE w g 84 cs)(hz:cs.size=12):(loadVar 84 ⟨g,0,none⟩).run prog w=.ok (.agg cs) w:=
 QJ w g _ _ cs _ _ h Lu rfl (by rw[hz];kernel_rfl)
theorem cf{fn:Func}{p u:Tmp}(h:fn.results=#[.cell p 84,.tmp u])(tmps:Array Value)(g:Nat)(h1:tmps.getD p undef=.pointer (some ⟨g,0,none⟩))(e:Value)(h2:tmps.getD u undef=e)(W:World)(R:Array Value)(hz:R.size=12)(q:aE W g 84 R):(results fn tmps).run prog W=.ok (.tuple #[.agg R,e]) W:=by
 rw[QE h,h1,h2];simp[asAddr,tM q hz]
def ay(k:Int):PI:=
 if k=3 then(((cu 3 (-9223372036854775808) empty,.mk 3 (-9223372036854775808) empty [] []),(cu 3 9223372036854775807 empty,.mk 3 9223372036854775807 empty [] [])),(true,true))
 else if k=4 then(((cu 4 0 empty,iZ 4),(cu 5 0 empty,iZ 5)),(true,false))
 else if k=5 then(((cu 5 0 empty,iZ 5),(cu 6 0 empty,iZ 6)),(true,false))
 else if k=7 then(((cu 7 0 empty,iZ 7),(cu 8 0 cZ,.mk 8 0 cZ [] [])),(true,false))
 else if k=8 then(((cu 8 0 cZ,.mk 8 0 cZ [] []),(cu 9 0 empty,iZ 9)),(true,false))
 else if k=9 then(((cu 9 0 empty,iZ 9),(cu 9 1 empty,.mk 9 1 empty [] [])),(true,true))
 else if k=10 then(((cu 10 0 empty,iZ 10),(cu 10 9223372036854775807 empty,.mk 10 9223372036854775807 empty [] [])),(true,true))
 else(((cu k 0 empty,iZ k),(cu k 0 empty,iZ k)),(true,true))
theorem gX(k:Int)(w:World):iY w (ay k):=by
 have e0:(empty).size<=aF:=by decide
 have e1:cZ.size<=aF:=by decide
 unfold ay
 repeat' split
 all_goals exact⟨kp _ _ _ (by assumption),kp _ _ _ (by assumption)⟩
theorem og{k:Int}(h:1<=k/\k<=11)(h6:k≠6):ar (ay k)=cd k:=by
 have:k=1\/k=2\/k=3\/k=4\/k=5\/k=7\/k=8\/k=9\/k=10\/k=11:=by omega
 rcases this with rfl|rfl|rfl|rfl|rfl|rfl|rfl|rfl|rfl|rfl<;>rfl
abbrev zI:PI:=(((VC.zero,aC.zero),(VC.zero,aC.zero)),(false,false))
def Gh(k:Int)(w:World)(e:Ending)(w':World):Prop:=e=.returned (.tuple #[cR (ay k),.bool true])/\Below w.heap.size w w'
theorem Cx:(Tryz.prog.info? 5).map (fun i=>(i.zero,i.size,i.bytes))=some (some (.int .u8 0),1,1):=by kernel_rfl
abbrev di:Array Value:=#[.int .u8 0,.int .u8 0,.int .u8 0,.int .u8 0,.int .u8 0,.int .u8 0,.int .u8 0,.int .u8 0,.int .u8 0,.int .u8 0,.int .u8 0,.int .u8 0]
theorem Cy(w:World):(Instr.makeSlice 116 (.int .i64 12) (.int .i64 12)).run prog w=.ok (.slice (some ⟨w.heap.size,0,none⟩) 12 12) (w.alloc (.cells di 5)):=by
 obtain⟨j0,hj0,hz0,hz1,hz2⟩:=Mc Cx;have:=gI (P:=prog) 116 5 j0 (.int .u8 0) MM hj0 hz0 12 (by rw[hz2];omega) (by omega) w;rw[hz1,show((12:Nat):Int)=12 from rfl,show madeCells (Value.int .u8 0).cells (12*1)=di from by kernel_rfl] at this;exact this
theorem xq:strOfNums [0,0,0,0,0,0,0,0,0,0,0,0]=cZ:=by
 apply Mw;apply Mq.1;rw[OA];rfl
theorem Cz(w:World):(convert 116 9 (.slice (some ⟨w.heap.size,0,none⟩) 12 12)).run prog (w.alloc (.cells di 5))=.ok (.string cZ) (w.alloc (.cells di 5)):=by
 have hb:aE (w.alloc (.cells di 5)) w.heap.size 5 di:=aE.Jq rfl;rw[NP (P:=prog) _ 116 5 MM NC w.heap.size 0 12 12 [0,0,0,0,0,0,0,0,0,0,0,0] rfl (fun i hi=>?_) 9 MB,xq];rw[LL,hb.cell];have:i=0\/i=1\/i=2\/i=3\/i=4\/i=5\/i=6\/i=7\/i=8\/i=9\/i=10\/i=11:=by omega
 rcases this with rfl|rfl|rfl|rfl|rfl|rfl|rfl|rfl|rfl|rfl|rfl|rfl<;>rfl
theorem iw(k:Int)(w:World)(h:1<=k/\k<=11)(h6:k≠6):Calls prog 95 #[.int .i64 k] w (Gh k w):=by
 have hk:k=1\/k=2\/k=3\/k=4\/k=5\/k=7\/k=8\/k=9\/k=10\/k=11:=by omega
 clear h h6;have HK:=qD hk;clear hk;go_enter func95,ntmps95;obtain⟨z0,hz0⟩:∃z:PI,z=(((cu k 0 empty,iZ k),(cu k 0 empty,iZ k)),(true,true)):=⟨_,rfl⟩;have B0:Hid (aE ((w.alloc (.cells (aM zI) 84)).alloc (.cells (aM (((cu k 0 empty,iZ k),(cu k 0 empty,iZ k)),(true,true))) 84)) w.heap.size 84 (aM zI)):=(aE.Jq rfl).alloc _;have B1:Hid (aE ((w.alloc (.cells (aM zI) 84)).alloc (.cells (aM (((cu k 0 empty,iZ k),(cu k 0 empty,iZ k)),(true,true))) 84)) (w.heap.size+1) 84 (aM (((cu k 0 empty,iZ k),(cu k 0 empty,iZ k)),(true,true)))):=aE.Jq (by simp);have BE:Hid (Below w.heap.size w ((w.alloc (.cells (aM zI) 84)).alloc (.cells (aM (((cu k 0 empty,iZ k),(cu k 0 empty,iZ k)),(true,true))) 84))):=((LH _ _).alloc (qL) _).alloc (by simp) _;go_upto_region 2 with fail
 change Code.wp _ _ _ _ ((w.alloc (.cells (aM zI) 84)).alloc (.cells (aM (((cu k 0 empty,iZ k),(cu k 0 empty,iZ k)),(true,true))) 84));have hsz:((w.alloc (.cells (aM zI) 84)).alloc (.cells (aM (((cu k 0 empty,iZ k),(cu k 0 empty,iZ k)),(true,true))) 84)).heap.size=w.heap.size+2:=by simp
 generalize ((w.alloc (.cells (aM zI) 84)).alloc (.cells (aM (((cu k 0 empty,iZ k),(cu k 0 empty,iZ k)),(true,true))) 84))=wa at*;have HSZ:=qD hsz;clear hsz;have hmk:=Cy wa;have hcv:=Cz wa;go_upto_region 3 with fail
 change Code.wp _ _ _ _ ((wa.alloc (.cells di 5)).alloc (.cells (cu 8 0 cZ).arr 29));have B2:Hid (aE ((wa.alloc (.cells di 5)).alloc (.cells (cu 8 0 cZ).arr 29)) (wa.heap.size+1) 29 (cu 8 0 cZ).arr):=aE.Jq (by simp);replace B0:=qD ((B0.out.alloc (.cells di 5)).alloc (.cells (cu 8 0 cZ).arr 29));replace B1:=qD ((B1.out.alloc (.cells di 5)).alloc (.cells (cu 8 0 cZ).arr 29));replace BE:=qD ((BE.out.alloc BE.out.size (.cells di 5)).alloc (by have:=BE.out.size;simp;omega) (Obj.cells (cu 8 0 cZ).arr 29));have HNE:Hid (wa.heap.size+1≠w.heap.size+1):=by rw[Hid,HSZ.out];omega
 clear hmk hcv;generalize ((wa.alloc (.cells di 5)).alloc (.cells (cu 8 0 cZ).arr 29))=wb at*;clear hz0 z0;obtain⟨R,hR⟩:∃R:Array Value,R=aM (ay k):=⟨_,rfl⟩;have HR:Hid (cR (ay k)=.agg R):=by rw[hR];exact qD rfl
 have hRK:R.size=12:=by rw[hR];rfl
 have HRK:=qD hRK;have HALL:Hid (R.all (·.oneCell')=true):=by rw[Hid,hR];simp[Value.oneCell']
 have HR2:=qD hR;have z1:=B1.out.frozen;clear hR hRK;have hk:=HK.out;clear HK;rcases hk with rfl|rfl|rfl|rfl|rfl|rfl|rfl|rfl|rfl|rfl
 ·obtain⟨e0,e1,e2,e3,e4⟩:=bS.Jr B2.out;simp only[LL] at e0 e1 e2 e3 e4;obtain⟨⟨a0,a1,a2,a3,a4⟩,⟨b0,b1,b2,b3,b4⟩,b5,b6⟩:=cw.Jr B1.out;simp only[LL] at a0 a1 a2 a3 a4 b0 b1 b2 b3 b4 b5 b6
  go_wp2_with (first
   | ((with_reducible show wpList _ _ _ (⟨_,.load 84 _,_,_,_,_⟩::_) _ _);refine bY ?_;intro w5 hw5;have C1:Hid (aE w5 (w.heap.size+1) 84 R):=(by rw[Hid,hw5];refine aE.Jw (cs:=R) ?_;first|exact⟨_,B1.out,by rw[HR2.out];rfl⟩|exact⟨_,(aE.Js B1.out _ _),by rw[HR2.out];rfl⟩|exact⟨_,(aE.Js (aE.Js B1.out _ _) _ _),by rw[HR2.out];rfl⟩);have C0:Hid (aE w5 w.heap.size 84 (aM zI)):=(by rw[Hid,hw5];(repeat' refine aE.Jz ?_ (by show w.heap.size≠w.heap.size+1;omega) _);exact B0.out);have CE:Hid (Below w.heap.size w w5):=(by rw[Hid,hw5];(repeat' refine MR ?_ (by show w.heap.size<=w.heap.size+1;omega) _);exact BE.out);have RG:Hid (w5.rangeAt (w.heap.size+1) 0 R.toList):=aj C1.out _ _ fun j v hj=>(by rw[LL,<-hj,Lk]);clear hw5 e0 e1 e2 e3 e4 a0 a1 a2 a3 a4 b0 b1 b2 b3 b4 b5 b6 B0 B1 B2 BE z1;refine aG rfl 84 _ rfl (w.heap.size+1) 0 rfl _ _ RG.out Lu rfl (by rw[Lv,HRK.out];kernel_rfl) ?_)
   | ((with_reducible show wpList _ _ _ (⟨_,.store 84 _ _,_,_,_,_⟩::_) _ _);refine MF rfl 84 _ _ rfl w.heap.size R rfl rfl 84 _ C0.out (by rw[HRK.out];kernel_rfl) (by rw[HRK.out];rfl) HALL.out ?_))
  exact Lp (cf rfl _ _ rfl _ rfl _ R HRK.out (bq C0.out R)) rfl ⟨by rw[HR.out];rfl,br CE.out (qL) _⟩
 ·obtain⟨e0,e1,e2,e3,e4⟩:=bS.Jr B2.out;simp only[LL] at e0 e1 e2 e3 e4;obtain⟨⟨a0,a1,a2,a3,a4⟩,⟨b0,b1,b2,b3,b4⟩,b5,b6⟩:=cw.Jr B1.out;simp only[LL] at a0 a1 a2 a3 a4 b0 b1 b2 b3 b4 b5 b6
  go_wp2_with (first
   | ((with_reducible show wpList _ _ _ (⟨_,.load 84 _,_,_,_,_⟩::_) _ _);refine bY ?_;intro w5 hw5;have C1:Hid (aE w5 (w.heap.size+1) 84 R):=(by rw[Hid,hw5];refine aE.Jw (cs:=R) ?_;first|exact⟨_,B1.out,by rw[HR2.out];rfl⟩|exact⟨_,(aE.Js B1.out _ _),by rw[HR2.out];rfl⟩|exact⟨_,(aE.Js (aE.Js B1.out _ _) _ _),by rw[HR2.out];rfl⟩);have C0:Hid (aE w5 w.heap.size 84 (aM zI)):=(by rw[Hid,hw5];(repeat' refine aE.Jz ?_ (by show w.heap.size≠w.heap.size+1;omega) _);exact B0.out);have CE:Hid (Below w.heap.size w w5):=(by rw[Hid,hw5];(repeat' refine MR ?_ (by show w.heap.size<=w.heap.size+1;omega) _);exact BE.out);have RG:Hid (w5.rangeAt (w.heap.size+1) 0 R.toList):=aj C1.out _ _ fun j v hj=>(by rw[LL,<-hj,Lk]);clear hw5 e0 e1 e2 e3 e4 a0 a1 a2 a3 a4 b0 b1 b2 b3 b4 b5 b6 B0 B1 B2 BE z1;refine aG rfl 84 _ rfl (w.heap.size+1) 0 rfl _ _ RG.out Lu rfl (by rw[Lv,HRK.out];kernel_rfl) ?_)
   | ((with_reducible show wpList _ _ _ (⟨_,.store 84 _ _,_,_,_,_⟩::_) _ _);refine MF rfl 84 _ _ rfl w.heap.size R rfl rfl 84 _ C0.out (by rw[HRK.out];kernel_rfl) (by rw[HRK.out];rfl) HALL.out ?_))
  exact Lp (cf rfl _ _ rfl _ rfl _ R HRK.out (bq C0.out R)) rfl ⟨by rw[HR.out];rfl,br CE.out (qL) _⟩
 ·obtain⟨e0,e1,e2,e3,e4⟩:=bS.Jr B2.out;simp only[LL] at e0 e1 e2 e3 e4;obtain⟨⟨a0,a1,a2,a3,a4⟩,⟨b0,b1,b2,b3,b4⟩,b5,b6⟩:=cw.Jr B1.out;simp only[LL] at a0 a1 a2 a3 a4 b0 b1 b2 b3 b4 b5 b6
  go_wp2_with (first
   | ((with_reducible show wpList _ _ _ (⟨_,.load 84 _,_,_,_,_⟩::_) _ _);refine bY ?_;intro w5 hw5;have C1:Hid (aE w5 (w.heap.size+1) 84 R):=(by rw[Hid,hw5];refine aE.Jw (cs:=R) ?_;first|exact⟨_,B1.out,by rw[HR2.out];rfl⟩|exact⟨_,(aE.Js B1.out _ _),by rw[HR2.out];rfl⟩|exact⟨_,(aE.Js (aE.Js B1.out _ _) _ _),by rw[HR2.out];rfl⟩);have C0:Hid (aE w5 w.heap.size 84 (aM zI)):=(by rw[Hid,hw5];(repeat' refine aE.Jz ?_ (by show w.heap.size≠w.heap.size+1;omega) _);exact B0.out);have CE:Hid (Below w.heap.size w w5):=(by rw[Hid,hw5];(repeat' refine MR ?_ (by show w.heap.size<=w.heap.size+1;omega) _);exact BE.out);have RG:Hid (w5.rangeAt (w.heap.size+1) 0 R.toList):=aj C1.out _ _ fun j v hj=>(by rw[LL,<-hj,Lk]);clear hw5 e0 e1 e2 e3 e4 a0 a1 a2 a3 a4 b0 b1 b2 b3 b4 b5 b6 B0 B1 B2 BE z1;refine aG rfl 84 _ rfl (w.heap.size+1) 0 rfl _ _ RG.out Lu rfl (by rw[Lv,HRK.out];kernel_rfl) ?_)
   | ((with_reducible show wpList _ _ _ (⟨_,.store 84 _ _,_,_,_,_⟩::_) _ _);refine MF rfl 84 _ _ rfl w.heap.size R rfl rfl 84 _ C0.out (by rw[HRK.out];kernel_rfl) (by rw[HRK.out];rfl) HALL.out ?_))
  exact Lp (cf rfl _ _ rfl _ rfl _ R HRK.out (bq C0.out R)) rfl ⟨by rw[HR.out];rfl,br CE.out (qL) _⟩
 ·obtain⟨e0,e1,e2,e3,e4⟩:=bS.Jr B2.out;simp only[LL] at e0 e1 e2 e3 e4;obtain⟨⟨a0,a1,a2,a3,a4⟩,⟨b0,b1,b2,b3,b4⟩,b5,b6⟩:=cw.Jr B1.out;simp only[LL] at a0 a1 a2 a3 a4 b0 b1 b2 b3 b4 b5 b6
  go_wp2_with (first
   | ((with_reducible show wpList _ _ _ (⟨_,.store 29 _ _,_,_,_,_⟩::_) _ _);refine kq (c:=(cu 5 0 empty)) rfl _ _ rfl rfl rfl B1.out B0.out B2.out BE.out (by omega) HNE.out (by omega) (iZ 5) ?_;intro w6 hB1 hB0 hB2 hBE;clear B0 B1 B2 BE e0 e1 e2 e3 e4 a0 a1 a2 a3 a4 b0 b1 b2 b3 b4 b5 b6 z1;have B0:=qD hB0;have B1:=qD hB1;have B2:=qD hB2;have BE:=qD hBE;clear hB0 hB1 hB2 hBE;have z1:=B1.out.frozen;obtain⟨e0,e1,e2,e3,e4⟩:=bS.Jr B2.out;simp only[LL] at e0 e1 e2 e3 e4;obtain⟨⟨a0,a1,a2,a3,a4⟩,⟨b0,b1,b2,b3,b4⟩,b5,b6⟩:=cw.Jr B1.out;simp only[LL] at a0 a1 a2 a3 a4 b0 b1 b2 b3 b4 b5 b6)
   | ((with_reducible show wpList _ _ _ (⟨_,.load 84 _,_,_,_,_⟩::_) _ _);refine bY ?_;intro w5 hw5;have C1:Hid (aE w5 (w.heap.size+1) 84 R):=(by rw[Hid,hw5];refine aE.Jw (cs:=R) ?_;first|exact⟨_,B1.out,by rw[HR2.out];rfl⟩|exact⟨_,(aE.Js B1.out _ _),by rw[HR2.out];rfl⟩|exact⟨_,(aE.Js (aE.Js B1.out _ _) _ _),by rw[HR2.out];rfl⟩);have C0:Hid (aE w5 w.heap.size 84 (aM zI)):=(by rw[Hid,hw5];(repeat' refine aE.Jz ?_ (by show w.heap.size≠w.heap.size+1;omega) _);exact B0.out);have CE:Hid (Below w.heap.size w w5):=(by rw[Hid,hw5];(repeat' refine MR ?_ (by show w.heap.size<=w.heap.size+1;omega) _);exact BE.out);have RG:Hid (w5.rangeAt (w.heap.size+1) 0 R.toList):=aj C1.out _ _ fun j v hj=>(by rw[LL,<-hj,Lk]);clear hw5 e0 e1 e2 e3 e4 a0 a1 a2 a3 a4 b0 b1 b2 b3 b4 b5 b6 B0 B1 B2 BE z1;refine aG rfl 84 _ rfl (w.heap.size+1) 0 rfl _ _ RG.out Lu rfl (by rw[Lv,HRK.out];kernel_rfl) ?_)
   | ((with_reducible show wpList _ _ _ (⟨_,.store 84 _ _,_,_,_,_⟩::_) _ _);refine MF rfl 84 _ _ rfl w.heap.size R rfl rfl 84 _ C0.out (by rw[HRK.out];kernel_rfl) (by rw[HRK.out];rfl) HALL.out ?_))
  exact Lp (cf rfl _ _ rfl _ rfl _ R HRK.out (bq C0.out R)) rfl ⟨by rw[HR.out];rfl,br CE.out (qL) _⟩
 ·obtain⟨e0,e1,e2,e3,e4⟩:=bS.Jr B2.out;simp only[LL] at e0 e1 e2 e3 e4;obtain⟨⟨a0,a1,a2,a3,a4⟩,⟨b0,b1,b2,b3,b4⟩,b5,b6⟩:=cw.Jr B1.out;simp only[LL] at a0 a1 a2 a3 a4 b0 b1 b2 b3 b4 b5 b6
  go_wp2_with (first
   | ((with_reducible show wpList _ _ _ (⟨_,.store 29 _ _,_,_,_,_⟩::_) _ _);refine kq (c:=(cu 6 0 empty)) rfl _ _ rfl rfl rfl B1.out B0.out B2.out BE.out (by omega) HNE.out (by omega) (iZ 6) ?_;intro w6 hB1 hB0 hB2 hBE;clear B0 B1 B2 BE e0 e1 e2 e3 e4 a0 a1 a2 a3 a4 b0 b1 b2 b3 b4 b5 b6 z1;have B0:=qD hB0;have B1:=qD hB1;have B2:=qD hB2;have BE:=qD hBE;clear hB0 hB1 hB2 hBE;have z1:=B1.out.frozen;obtain⟨e0,e1,e2,e3,e4⟩:=bS.Jr B2.out;simp only[LL] at e0 e1 e2 e3 e4;obtain⟨⟨a0,a1,a2,a3,a4⟩,⟨b0,b1,b2,b3,b4⟩,b5,b6⟩:=cw.Jr B1.out;simp only[LL] at a0 a1 a2 a3 a4 b0 b1 b2 b3 b4 b5 b6)
   | ((with_reducible show wpList _ _ _ (⟨_,.load 84 _,_,_,_,_⟩::_) _ _);refine bY ?_;intro w5 hw5;have C1:Hid (aE w5 (w.heap.size+1) 84 R):=(by rw[Hid,hw5];refine aE.Jw (cs:=R) ?_;first|exact⟨_,B1.out,by rw[HR2.out];rfl⟩|exact⟨_,(aE.Js B1.out _ _),by rw[HR2.out];rfl⟩|exact⟨_,(aE.Js (aE.Js B1.out _ _) _ _),by rw[HR2.out];rfl⟩);have C0:Hid (aE w5 w.heap.size 84 (aM zI)):=(by rw[Hid,hw5];(repeat' refine aE.Jz ?_ (by show w.heap.size≠w.heap.size+1;omega) _);exact B0.out);have CE:Hid (Below w.heap.size w w5):=(by rw[Hid,hw5];(repeat' refine MR ?_ (by show w.heap.size<=w.heap.size+1;omega) _);exact BE.out);have RG:Hid (w5.rangeAt (w.heap.size+1) 0 R.toList):=aj C1.out _ _ fun j v hj=>(by rw[LL,<-hj,Lk]);clear hw5 e0 e1 e2 e3 e4 a0 a1 a2 a3 a4 b0 b1 b2 b3 b4 b5 b6 B0 B1 B2 BE z1;refine aG rfl 84 _ rfl (w.heap.size+1) 0 rfl _ _ RG.out Lu rfl (by rw[Lv,HRK.out];kernel_rfl) ?_)
   | ((with_reducible show wpList _ _ _ (⟨_,.store 84 _ _,_,_,_,_⟩::_) _ _);refine MF rfl 84 _ _ rfl w.heap.size R rfl rfl 84 _ C0.out (by rw[HRK.out];kernel_rfl) (by rw[HRK.out];rfl) HALL.out ?_))
  exact Lp (cf rfl _ _ rfl _ rfl _ R HRK.out (bq C0.out R)) rfl ⟨by rw[HR.out];rfl,br CE.out (qL) _⟩
 ·obtain⟨e0,e1,e2,e3,e4⟩:=bS.Jr B2.out;simp only[LL] at e0 e1 e2 e3 e4;obtain⟨⟨a0,a1,a2,a3,a4⟩,⟨b0,b1,b2,b3,b4⟩,b5,b6⟩:=cw.Jr B1.out;simp only[LL] at a0 a1 a2 a3 a4 b0 b1 b2 b3 b4 b5 b6
  go_wp2_with (first
   | ((with_reducible show wpList _ _ _ (⟨_,.store 29 _ _,_,_,_,_⟩::_) _ _);refine kq (c:=(cu 8 0 cZ)) rfl _ _ rfl rfl rfl B1.out B0.out B2.out BE.out (by omega) HNE.out (by omega) (.mk 8 0 cZ [] []) ?_;intro w6 hB1 hB0 hB2 hBE;clear B0 B1 B2 BE e0 e1 e2 e3 e4 a0 a1 a2 a3 a4 b0 b1 b2 b3 b4 b5 b6 z1;have B0:=qD hB0;have B1:=qD hB1;have B2:=qD hB2;have BE:=qD hBE;clear hB0 hB1 hB2 hBE;have z1:=B1.out.frozen;obtain⟨e0,e1,e2,e3,e4⟩:=bS.Jr B2.out;simp only[LL] at e0 e1 e2 e3 e4;obtain⟨⟨a0,a1,a2,a3,a4⟩,⟨b0,b1,b2,b3,b4⟩,b5,b6⟩:=cw.Jr B1.out;simp only[LL] at a0 a1 a2 a3 a4 b0 b1 b2 b3 b4 b5 b6)
   | ((with_reducible show wpList _ _ _ (⟨_,.load 84 _,_,_,_,_⟩::_) _ _);refine bY ?_;intro w5 hw5;have C1:Hid (aE w5 (w.heap.size+1) 84 R):=(by rw[Hid,hw5];refine aE.Jw (cs:=R) ?_;first|exact⟨_,B1.out,by rw[HR2.out];rfl⟩|exact⟨_,(aE.Js B1.out _ _),by rw[HR2.out];rfl⟩|exact⟨_,(aE.Js (aE.Js B1.out _ _) _ _),by rw[HR2.out];rfl⟩);have C0:Hid (aE w5 w.heap.size 84 (aM zI)):=(by rw[Hid,hw5];(repeat' refine aE.Jz ?_ (by show w.heap.size≠w.heap.size+1;omega) _);exact B0.out);have CE:Hid (Below w.heap.size w w5):=(by rw[Hid,hw5];(repeat' refine MR ?_ (by show w.heap.size<=w.heap.size+1;omega) _);exact BE.out);have RG:Hid (w5.rangeAt (w.heap.size+1) 0 R.toList):=aj C1.out _ _ fun j v hj=>(by rw[LL,<-hj,Lk]);clear hw5 e0 e1 e2 e3 e4 a0 a1 a2 a3 a4 b0 b1 b2 b3 b4 b5 b6 B0 B1 B2 BE z1;refine aG rfl 84 _ rfl (w.heap.size+1) 0 rfl _ _ RG.out Lu rfl (by rw[Lv,HRK.out];kernel_rfl) ?_)
   | ((with_reducible show wpList _ _ _ (⟨_,.store 84 _ _,_,_,_,_⟩::_) _ _);refine MF rfl 84 _ _ rfl w.heap.size R rfl rfl 84 _ C0.out (by rw[HRK.out];kernel_rfl) (by rw[HRK.out];rfl) HALL.out ?_))
  exact Lp (cf rfl _ _ rfl _ rfl _ R HRK.out (bq C0.out R)) rfl ⟨by rw[HR.out];rfl,br CE.out (qL) _⟩
 ·obtain⟨e0,e1,e2,e3,e4⟩:=bS.Jr B2.out;simp only[LL] at e0 e1 e2 e3 e4;obtain⟨⟨a0,a1,a2,a3,a4⟩,⟨b0,b1,b2,b3,b4⟩,b5,b6⟩:=cw.Jr B1.out;simp only[LL] at a0 a1 a2 a3 a4 b0 b1 b2 b3 b4 b5 b6
  go_wp2_with (first
   | ((with_reducible show wpList _ _ _ (⟨_,.store 29 _ _,_,_,_,_⟩::_) _ _);refine Ap (c:=(cu 8 0 cZ)) rfl _ _ rfl rfl rfl B1.out B0.out B2.out BE.out (by omega) HNE.out (by omega) (.mk 8 0 cZ [] []) ?_;intro w6 hB1 hB0 hB2 hBE;clear B0 B1 B2 BE e0 e1 e2 e3 e4 a0 a1 a2 a3 a4 b0 b1 b2 b3 b4 b5 b6 z1;have B0:=qD hB0;have B1:=qD hB1;have B2:=qD hB2;have BE:=qD hBE;clear hB0 hB1 hB2 hBE;have z1:=B1.out.frozen;obtain⟨e0,e1,e2,e3,e4⟩:=bS.Jr B2.out;simp only[LL] at e0 e1 e2 e3 e4;obtain⟨⟨a0,a1,a2,a3,a4⟩,⟨b0,b1,b2,b3,b4⟩,b5,b6⟩:=cw.Jr B1.out;simp only[LL] at a0 a1 a2 a3 a4 b0 b1 b2 b3 b4 b5 b6)
   | ((with_reducible show wpList _ _ _ (⟨_,.store 29 _ _,_,_,_,_⟩::_) _ _);refine kq (c:=(cu 9 0 empty)) rfl _ _ rfl rfl rfl B1.out B0.out B2.out BE.out (by omega) HNE.out (by omega) (iZ 9) ?_;intro w6 hB1 hB0 hB2 hBE;clear B0 B1 B2 BE e0 e1 e2 e3 e4 a0 a1 a2 a3 a4 b0 b1 b2 b3 b4 b5 b6 z1;have B0:=qD hB0;have B1:=qD hB1;have B2:=qD hB2;have BE:=qD hBE;clear hB0 hB1 hB2 hBE;have z1:=B1.out.frozen;obtain⟨e0,e1,e2,e3,e4⟩:=bS.Jr B2.out;simp only[LL] at e0 e1 e2 e3 e4;obtain⟨⟨a0,a1,a2,a3,a4⟩,⟨b0,b1,b2,b3,b4⟩,b5,b6⟩:=cw.Jr B1.out;simp only[LL] at a0 a1 a2 a3 a4 b0 b1 b2 b3 b4 b5 b6)
   | ((with_reducible show wpList _ _ _ (⟨_,.load 84 _,_,_,_,_⟩::_) _ _);refine bY ?_;intro w5 hw5;have C1:Hid (aE w5 (w.heap.size+1) 84 R):=(by rw[Hid,hw5];refine aE.Jw (cs:=R) ?_;first|exact⟨_,B1.out,by rw[HR2.out];rfl⟩|exact⟨_,(aE.Js B1.out _ _),by rw[HR2.out];rfl⟩|exact⟨_,(aE.Js (aE.Js B1.out _ _) _ _),by rw[HR2.out];rfl⟩);have C0:Hid (aE w5 w.heap.size 84 (aM zI)):=(by rw[Hid,hw5];(repeat' refine aE.Jz ?_ (by show w.heap.size≠w.heap.size+1;omega) _);exact B0.out);have CE:Hid (Below w.heap.size w w5):=(by rw[Hid,hw5];(repeat' refine MR ?_ (by show w.heap.size<=w.heap.size+1;omega) _);exact BE.out);have RG:Hid (w5.rangeAt (w.heap.size+1) 0 R.toList):=aj C1.out _ _ fun j v hj=>(by rw[LL,<-hj,Lk]);clear hw5 e0 e1 e2 e3 e4 a0 a1 a2 a3 a4 b0 b1 b2 b3 b4 b5 b6 B0 B1 B2 BE z1;refine aG rfl 84 _ rfl (w.heap.size+1) 0 rfl _ _ RG.out Lu rfl (by rw[Lv,HRK.out];kernel_rfl) ?_)
   | ((with_reducible show wpList _ _ _ (⟨_,.store 84 _ _,_,_,_,_⟩::_) _ _);refine MF rfl 84 _ _ rfl w.heap.size R rfl rfl 84 _ C0.out (by rw[HRK.out];kernel_rfl) (by rw[HRK.out];rfl) HALL.out ?_))
  exact Lp (cf rfl _ _ rfl _ rfl _ R HRK.out (bq C0.out R)) rfl ⟨by rw[HR.out];rfl,br CE.out (qL) _⟩
 ·obtain⟨e0,e1,e2,e3,e4⟩:=bS.Jr B2.out;simp only[LL] at e0 e1 e2 e3 e4;obtain⟨⟨a0,a1,a2,a3,a4⟩,⟨b0,b1,b2,b3,b4⟩,b5,b6⟩:=cw.Jr B1.out;simp only[LL] at a0 a1 a2 a3 a4 b0 b1 b2 b3 b4 b5 b6
  go_wp2_with (first
   | ((with_reducible show wpList _ _ _ (⟨_,.load 84 _,_,_,_,_⟩::_) _ _);refine bY ?_;intro w5 hw5;have C1:Hid (aE w5 (w.heap.size+1) 84 R):=(by rw[Hid,hw5];refine aE.Jw (cs:=R) ?_;first|exact⟨_,B1.out,by rw[HR2.out];rfl⟩|exact⟨_,(aE.Js B1.out _ _),by rw[HR2.out];rfl⟩|exact⟨_,(aE.Js (aE.Js B1.out _ _) _ _),by rw[HR2.out];rfl⟩);have C0:Hid (aE w5 w.heap.size 84 (aM zI)):=(by rw[Hid,hw5];(repeat' refine aE.Jz ?_ (by show w.heap.size≠w.heap.size+1;omega) _);exact B0.out);have CE:Hid (Below w.heap.size w w5):=(by rw[Hid,hw5];(repeat' refine MR ?_ (by show w.heap.size<=w.heap.size+1;omega) _);exact BE.out);have RG:Hid (w5.rangeAt (w.heap.size+1) 0 R.toList):=aj C1.out _ _ fun j v hj=>(by rw[LL,<-hj,Lk]);clear hw5 e0 e1 e2 e3 e4 a0 a1 a2 a3 a4 b0 b1 b2 b3 b4 b5 b6 B0 B1 B2 BE z1;refine aG rfl 84 _ rfl (w.heap.size+1) 0 rfl _ _ RG.out Lu rfl (by rw[Lv,HRK.out];kernel_rfl) ?_)
   | ((with_reducible show wpList _ _ _ (⟨_,.store 84 _ _,_,_,_,_⟩::_) _ _);refine MF rfl 84 _ _ rfl w.heap.size R rfl rfl 84 _ C0.out (by rw[HRK.out];kernel_rfl) (by rw[HRK.out];rfl) HALL.out ?_))
  exact Lp (cf rfl _ _ rfl _ rfl _ R HRK.out (bq C0.out R)) rfl ⟨by rw[HR.out];rfl,br CE.out (qL) _⟩
 ·obtain⟨e0,e1,e2,e3,e4⟩:=bS.Jr B2.out;simp only[LL] at e0 e1 e2 e3 e4;obtain⟨⟨a0,a1,a2,a3,a4⟩,⟨b0,b1,b2,b3,b4⟩,b5,b6⟩:=cw.Jr B1.out;simp only[LL] at a0 a1 a2 a3 a4 b0 b1 b2 b3 b4 b5 b6
  go_wp2_with (first
   | ((with_reducible show wpList _ _ _ (⟨_,.load 84 _,_,_,_,_⟩::_) _ _);refine bY ?_;intro w5 hw5;have C1:Hid (aE w5 (w.heap.size+1) 84 R):=(by rw[Hid,hw5];refine aE.Jw (cs:=R) ?_;first|exact⟨_,B1.out,by rw[HR2.out];rfl⟩|exact⟨_,(aE.Js B1.out _ _),by rw[HR2.out];rfl⟩|exact⟨_,(aE.Js (aE.Js B1.out _ _) _ _),by rw[HR2.out];rfl⟩);have C0:Hid (aE w5 w.heap.size 84 (aM zI)):=(by rw[Hid,hw5];(repeat' refine aE.Jz ?_ (by show w.heap.size≠w.heap.size+1;omega) _);exact B0.out);have CE:Hid (Below w.heap.size w w5):=(by rw[Hid,hw5];(repeat' refine MR ?_ (by show w.heap.size<=w.heap.size+1;omega) _);exact BE.out);have RG:Hid (w5.rangeAt (w.heap.size+1) 0 R.toList):=aj C1.out _ _ fun j v hj=>(by rw[LL,<-hj,Lk]);clear hw5 e0 e1 e2 e3 e4 a0 a1 a2 a3 a4 b0 b1 b2 b3 b4 b5 b6 B0 B1 B2 BE z1;refine aG rfl 84 _ rfl (w.heap.size+1) 0 rfl _ _ RG.out Lu rfl (by rw[Lv,HRK.out];kernel_rfl) ?_)
   | ((with_reducible show wpList _ _ _ (⟨_,.store 84 _ _,_,_,_,_⟩::_) _ _);refine MF rfl 84 _ _ rfl w.heap.size R rfl rfl 84 _ C0.out (by rw[HRK.out];kernel_rfl) (by rw[HRK.out];rfl) HALL.out ?_))
  exact Lp (cf rfl _ _ rfl _ rfl _ R HRK.out (bq C0.out R)) rfl ⟨by rw[HR.out];rfl,br CE.out (qL) _⟩
 ·obtain⟨e0,e1,e2,e3,e4⟩:=bS.Jr B2.out;simp only[LL] at e0 e1 e2 e3 e4;obtain⟨⟨a0,a1,a2,a3,a4⟩,⟨b0,b1,b2,b3,b4⟩,b5,b6⟩:=cw.Jr B1.out;simp only[LL] at a0 a1 a2 a3 a4 b0 b1 b2 b3 b4 b5 b6
  go_wp2_with (first
   | ((with_reducible show wpList _ _ _ (⟨_,.load 84 _,_,_,_,_⟩::_) _ _);refine bY ?_;intro w5 hw5;have C1:Hid (aE w5 (w.heap.size+1) 84 R):=(by rw[Hid,hw5];refine aE.Jw (cs:=R) ?_;first|exact⟨_,B1.out,by rw[HR2.out];rfl⟩|exact⟨_,(aE.Js B1.out _ _),by rw[HR2.out];rfl⟩|exact⟨_,(aE.Js (aE.Js B1.out _ _) _ _),by rw[HR2.out];rfl⟩);have C0:Hid (aE w5 w.heap.size 84 (aM zI)):=(by rw[Hid,hw5];(repeat' refine aE.Jz ?_ (by show w.heap.size≠w.heap.size+1;omega) _);exact B0.out);have CE:Hid (Below w.heap.size w w5):=(by rw[Hid,hw5];(repeat' refine MR ?_ (by show w.heap.size<=w.heap.size+1;omega) _);exact BE.out);have RG:Hid (w5.rangeAt (w.heap.size+1) 0 R.toList):=aj C1.out _ _ fun j v hj=>(by rw[LL,<-hj,Lk]);clear hw5 e0 e1 e2 e3 e4 a0 a1 a2 a3 a4 b0 b1 b2 b3 b4 b5 b6 B0 B1 B2 BE z1;refine aG rfl 84 _ rfl (w.heap.size+1) 0 rfl _ _ RG.out Lu rfl (by rw[Lv,HRK.out];kernel_rfl) ?_)
   | ((with_reducible show wpList _ _ _ (⟨_,.store 84 _ _,_,_,_,_⟩::_) _ _);refine MF rfl 84 _ _ rfl w.heap.size R rfl rfl 84 _ C0.out (by rw[HRK.out];kernel_rfl) (by rw[HRK.out];rfl) HALL.out ?_))
  exact Lp (cf rfl _ _ rfl _ rfl _ R HRK.out (bq C0.out R)) rfl ⟨by rw[HR.out];rfl,br CE.out (qL) _⟩
theorem lk(x y:aC)(c d:VC)(w:World)(h:RW w c x)(h':RW w d y):Calls prog 37 #[c.val,d.val] w fun e w'=>e=.returned (.bool (aU x y==0))/\Below w.heap.size w w':=by
 have H:=qD h;have H':=qD h';clear h h';go_enter func37,ntmps37;go_wp2_with fail;refine(AZ x y c d _ ((H.out.alloc _).alloc _) ((H'.out.alloc _).alloc _)).mono ?_;rintro e w1 ⟨rfl,hb⟩;go_wp2_with fail;go_ret;exact⟨rfl,(((LH _ _).alloc (qL) _).alloc (by simp) _).Jp hb⟩
def ix(x y:Iv):Bool:=(x.li==y.li)&&((x.hin==y.hin)&&((aU x.lo y.lo==0)&&(aU x.hi y.hi==0)))
def bX:List Iv->List Iv->Bool
 | [],[]=>true
 | x::r,y::s=>ix x y&&bX r s
 | _,_=>false
theorem kK:∀{l m:List Iv},l.length≠m.length->bX l m=false
 | [],[],h=>absurd rfl h
 | [],_::_,_=>rfl
 | _::_,[],_=>rfl
 | x::r,y::s,h=>by rw[bX,kK (by simpa using h),OO]
theorem pK{l m:List Iv}{i:Nat}{x y:Iv}(hx:l[i]?=some x)(hy:m[i]?=some y):bX (l.drop i) (m.drop i)=(ix x y&&bX (l.drop (i+1)) (m.drop (i+1))):=by rw[bM hx,bM hy,bX]
theorem nr{l m:List Iv}{i:Nat}(h1:l.length<=i)(h2:m.length<=i):bX (l.drop i) (m.drop i)=true:=by rw[La h1,La h2];rfl
theorem xr{s t:cA×cA}(hs:iy s.1/\iy s.2)(ht:iy t.1/\iy t.2):ix (dr s) (dr t)=true↔s=t:=by
 obtain⟨⟨a,b⟩,⟨c,d⟩⟩:=s;obtain⟨⟨a',b'⟩,⟨c',d'⟩⟩:=t;unfold ix dr;simp only[ME,Ns];constructor
 ·rintro⟨h1,h2,h3,h4⟩;have e1:a=a':=congrArg Prod.fst (cO.eq (a,false) (a',false) hs.1 ht.1 ((fC h3).trans rfl));have e2:c=c':=congrArg Prod.fst (cO.eq (c,false) (c',false) hs.2 ht.2 ((fC h4).trans rfl));have e3:b=b':=by cases b<;>cases b'<;>simp at h1 ⊢
  rw[e1,e2,e3,h2]
 ·intro e;simp only[OL] at e;obtain⟨⟨rfl,rfl⟩,⟨rfl,rfl⟩⟩:=e;have z:∀v:aC,aU v v=0:=fun v=>by have:=lG v v;omega
  exact⟨rfl,rfl,z _,z _⟩
theorem kL:∀{n m:List (cA×cA)},(∀s∈n,iy s.1/\iy s.2)->(∀s∈m,iy s.1/\iy s.2)->(bX (n.map dr) (m.map dr)=true↔n=m)
 | [],[],_,_=>by simp[bX]
 | [],_::_,_,_=>by simp[bX]
 | _::_,[],_,_=>by simp[bX]
 | s::r,t::q,h1,h2=>by
  simp only[Mb,bX,ME];rw[xr (h1 s (by simp)) (h2 t (by simp)),kL (fun x hx=>h1 x (by simp[hx])) (fun x hx=>h2 x (by simp[hx])),Ml]
theorem uj(p q:PI)(w:World)(hp:iY w p)(hq:iY w q):Calls prog 248 #[cR p,cR q] w fun e w'=>e=.returned (.bool (ix (ar p) (ar q)))/\Below w.heap.size w w':=by
 have HK1:Hid (∀wr,Below w.heap.size w wr->Calls prog 37 #[p.1.1.1.val,q.1.1.1.val] wr fun e w'=>e=.returned (.bool (aU p.1.1.2 q.1.1.2==0))/\Below wr.heap.size wr w'):=qD fun wr hb=>lk _ _ _ _ wr (hp.1.step hb) (hq.1.step hb);have HK2:Hid (∀wr,Below w.heap.size w wr->Calls prog 37 #[p.1.2.1.val,q.1.2.1.val] wr fun e w'=>e=.returned (.bool (aU p.1.2.2 q.1.2.2==0))/\Below wr.heap.size wr w'):=qD fun wr hb=>lk _ _ _ _ wr (hp.2.step hb) (hq.2.step hb);have HS:Hid (ix (ar p) (ar q)=((p.2.1==q.2.1)&&((p.2.2==q.2.2)&&((aU p.1.1.2 q.1.1.2==0)&&(aU p.1.2.2 q.1.2.2==0))))):=qD rfl;obtain⟨z1,hz1⟩:∃z,z=(aU p.1.1.2 q.1.1.2==0):=⟨_,rfl⟩;obtain⟨z2,hz2⟩:∃z,z=(aU p.1.2.2 q.1.2.2==0):=⟨_,rfl⟩;rw[<-hz1] at HK1 HS;rw[<-hz2] at HK2 HS;clear hz1 hz2 hp hq;obtain⟨⟨⟨c1,x1⟩,⟨c2,x2⟩⟩,⟨f1,f2⟩⟩:=p;obtain⟨⟨⟨e1,y1⟩,⟨e2,y2⟩⟩,⟨g1,g2⟩⟩:=q;have B0:Hid (aE ((w.alloc (.cells (aM (((c1,x1),(c2,x2)),(f1,f2))) 84)).alloc (.cells (aM (((e1,y1),(e2,y2)),(g1,g2))) 84)) w.heap.size 84 (aM (((c1,x1),(c2,x2)),(f1,f2)))):=(aE.Jq rfl).alloc _;have B1:Hid (aE ((w.alloc (.cells (aM (((c1,x1),(c2,x2)),(f1,f2))) 84)).alloc (.cells (aM (((e1,y1),(e2,y2)),(g1,g2))) 84)) (w.heap.size+1) 84 (aM (((e1,y1),(e2,y2)),(g1,g2)))):=aE.Jq (by simp);have BE:Hid (Below w.heap.size w ((w.alloc (.cells (aM (((c1,x1),(c2,x2)),(f1,f2))) 84)).alloc (.cells (aM (((e1,y1),(e2,y2)),(g1,g2))) 84))):=((LH _ _).alloc (qL) _).alloc (by simp) _;go_enter func248,ntmps248;go_upto_region 1 with fail
 change Code.wp _ _ _ _ ((w.alloc (.cells (aM (((c1,x1),(c2,x2)),(f1,f2))) 84)).alloc (.cells (aM (((e1,y1),(e2,y2)),(g1,g2))) 84));generalize ((w.alloc (.cells (aM (((c1,x1),(c2,x2)),(f1,f2))) 84)).alloc (.cells (aM (((e1,y1),(e2,y2)),(g1,g2))) 84))=wa at*;obtain⟨⟨a0,a1,a2,a3,a4⟩,⟨b0,b1,b2,b3,b4⟩,b5,b6⟩:=cw.Jr B0.out;obtain⟨⟨c0,c3,c4,c5,c6⟩,⟨d0,d1,d2,d3,d4⟩,d5,d6⟩:=cw.Jr B1.out;simp only[LL] at a0 a1 a2 a3 a4 b0 b1 b2 b3 b4 b5 b6 c0 c3 c4 c5 c6 d0 d1 d2 d3 d4 d5 d6;obtain⟨u1,hu1⟩:∃u,u=(f1==g1):=⟨_,rfl⟩;obtain⟨u2,hu2⟩:∃u,u=(f2==g2):=⟨_,rfl⟩;simp only at HS;rw[<-hu1,<-hu2] at HS;replace hu1:=hu1.symm;replace hu2:=hu2.symm;cases u1
 ·go_wp2_with fail;go_ret;exact⟨by rw[HS.out];rfl,BE.out⟩
 cases u2
 ·go_wp2_with fail;go_ret;exact⟨by rw[HS.out];rfl,BE.out⟩
 go_wp2_with (fail);refine(HK1.out _ BE.out).mono ?_;rintro e w1 ⟨rfl,hb⟩;replace B0:=qD (B0.out.step hb);replace B1:=qD (B1.out.step hb);replace BE:=qD (BE.out.Jp hb);clear hb a0 a1 a2 a3 a4 b0 b1 b2 b3 b4 b5 b6 c0 c3 c4 c5 c6 d0 d1 d2 d3 d4 d5 d6;obtain⟨⟨a0,a1,a2,a3,a4⟩,⟨b0,b1,b2,b3,b4⟩,b5,b6⟩:=cw.Jr B0.out;obtain⟨⟨c0,c3,c4,c5,c6⟩,⟨d0,d1,d2,d3,d4⟩,d5,d6⟩:=cw.Jr B1.out;simp only[LL] at a0 a1 a2 a3 a4 b0 b1 b2 b3 b4 b5 b6 c0 c3 c4 c5 c6 d0 d1 d2 d3 d4 d5 d6;cases z1
 ·go_wp2_with fail;go_ret;exact⟨by rw[HS.out];rfl,BE.out⟩
 go_wp2_with (fail);refine(HK2.out _ BE.out).mono ?_;rintro e w1 ⟨rfl,hb⟩;replace BE:=qD (BE.out.Jp hb);clear hb a0 a1 a2 a3 a4 b0 b1 b2 b3 b4 b5 b6 c0 c3 c4 c5 c6 d0 d1 d2 d3 d4 d5 d6;go_wp2_with fail;go_ret;exact⟨by rw[HS.out];rfl,BE.out⟩
theorem Aq(xs ys:List PI)(A B:Option Addr)(n c m d:Nat)(w:World)(h:SI w A n c xs)(h':SI w B m d ys):
 Calls prog 247 #[.slice A n c,.slice B m d,.func (.func 248) #[] #[]] w fun e w'=>e=.returned (.bool (bX (xs.map ar) (ys.map ar)))/\Below w.heap.size w w':=by
 have hz:n<=140737488355328:=by have:=h.sz;unfold aF at this;omega
 have hk:m<=140737488355328:=by have:=h'.sz;unfold aF at this;omega
 have H:=qD h;have H':=qD h';clear h h';by_cases hnk:n=m
 ·subst hnk;go_enter func247,ntmps247;go_upto_region 4 with fail
  go_loopw [17] (fun v wr=>∃i:Nat,i<=n/\v=.int .i64 i/\bX (xs.map ar) (ys.map ar)=bX ((xs.map ar).drop i) ((ys.map ar).drop i)/\Below w.heap.size w wr) (fun v _=>n-(intOf v).toNat)
  ·exact⟨0,LQ _,rfl,rfl,LH _ _⟩
  case round=>
   obtain⟨i,hi,rfl,ha,hbel⟩:=hrel;have HA:=qD ha;have HB:=qD hbel;clear ha hbel;by_cases hlt:i<n
   ·obtain⟨p,hp⟩:∃p,xs[i]?=some p:=⟨_,LI (by have:=H.out.sr.ln;omega)⟩;obtain⟨q,hq⟩:∃q,ys[i]?=some q:=⟨_,LI (by have:=H'.out.sr.ln;omega)⟩;obtain⟨b,off,rfl,hb,hat,hok⟩:=H.out.at hp;obtain⟨b',off',rfl,hb',hat',hok'⟩:=H'.out.at hq;have HX:=qD (pK (l:=xs.map ar) (m:=ys.map ar) (i:=i) (x:=ar p) (y:=ar q) (by rw[LV,hp];rfl) (by rw[LV,hq];rfl));have HC:=qD fun wz (hz:Below w.heap.size w wz)=>uj p q wz (hok.step hz) (hok'.step hz);obtain⟨⟨a0,a1,a2,a3,a4⟩,⟨b0,b1,b2,b3,b4⟩,b5,b6⟩:=hat.keep (HB.out.block b hb);go_upto_region 6 with fail
    change Code.wp _ _ _ _ (wr.alloc (.cells (aM p) 84));have B0:Hid (aE (wr.alloc (.cells (aM p) 84)) wr.heap.size 84 (aM p)):=aE.Jq rfl;have BE:Hid (Below w.heap.size w (wr.alloc (.cells (aM p) 84))):=HB.out.alloc HB.out.size _;have hat2:=hat'.keep (w':=wr.alloc (.cells (aM p) 84)) (BE.out.block b' hb');generalize hwz:wr.alloc (.cells (aM p) 84)=wz at*;clear hwz a0 a1 a2 a3 a4 b0 b1 b2 b3 b4 b5 b6;obtain⟨⟨c0,c3,c4,c5,c6⟩,⟨d0,d1,d2,d3,d4⟩,d5,d6⟩:=hat2;clear hat hat' hok hok' hp hq;generalize wr.heap.size=gz at*;go_upto_region 7 with fail
    change Code.wp _ _ _ _ (wz.alloc (.cells (aM q) 84));have B1:Hid (aE (wz.alloc (.cells (aM q) 84)) wz.heap.size 84 (aM q)):=aE.Jq rfl;replace B0:=qD (B0.out.alloc (.cells (aM q) 84));replace BE:=qD (BE.out.alloc BE.out.size (Obj.cells (aM q) 84));generalize wz.alloc (.cells (aM q) 84)=wa at*;clear c0 c3 c4 c5 c6 d0 d1 d2 d3 d4 d5 d6;obtain⟨⟨a0,a1,a2,a3,a4⟩,⟨b0,b1,b2,b3,b4⟩,b5,b6⟩:=cw.Jr B0.out;obtain⟨⟨c0,c3,c4,c5,c6⟩,⟨d0,d1,d2,d3,d4⟩,d5,d6⟩:=cw.Jr B1.out;simp only[LL] at a0 a1 a2 a3 a4 b0 b1 b2 b3 b4 b5 b6 c0 c3 c4 c5 c6 d0 d1 d2 d3 d4 d5 d6;generalize wz.heap.size=gy at*;go_wp2_with fail;refine(HC.out _ BE.out).mono ?_;rintro e w1 ⟨rfl,hb1⟩;have CE:=qD (BE.out.Jp hb1);clear hb1 a0 a1 a2 a3 a4 b0 b1 b2 b3 b4 b5 b6 c0 c3 c4 c5 c6 d0 d1 d2 d3 d4 d5 d6;obtain⟨z,hz'⟩:∃z,z=ix (ar p) (ar q):=⟨_,rfl⟩;rw[<-hz'] at HX ⊢;clear hz';cases z
    ·have HF:Hid (bX (xs.map ar) (ys.map ar)=false):=by rw[Hid,HA.out,HX.out];rfl
     go_wp2_with fail;go_ret;exact⟨by rw[HF.out];rfl,CE.out⟩
    ·have HF:Hid (bX (xs.map ar) (ys.map ar)=bX ((xs.map ar).drop (i+1)) ((ys.map ar).drop (i+1))):=by rw[Hid,HA.out,HX.out];rfl
     go_wp2_with fail;go_roundw
     ·exact⟨i+1,by omega,by go_num,HF.out,CE.out⟩
     ·simp[intOf];omega
   ·have HF:Hid (bX (xs.map ar) (ys.map ar)=true):=by rw[Hid,HA.out];exact nr (by have:=H.out.sr.ln;simp;omega) (by have:=H'.out.sr.ln;simp;omega)
    go_wp2_with fail;go_ret;exact⟨by rw[HF.out];rfl,HB.out⟩
 ·have HF:Hid (bX (xs.map ar) (ys.map ar)=false):=kK (by have:=H.out.sr.ln;have:=H'.out.sr.ln;simp;omega);have hnk':((n:Int) != (m:Int))=true:=by simp;omega
  go_enter func247,ntmps247;go_wp2_with fail;go_ret;exact⟨by rw[HF.out];rfl,LH _ _⟩
theorem uk(xs ys:List PI)(A B:Option Addr)(n c m d:Nat)(w:World)(h:SI w A n c xs)(h':SI w B m d ys):
 Calls prog 199 #[.slice A n c,.slice B m d] w fun e w'=>e=.returned (.bool (bX (xs.map ar) (ys.map ar)))/\Below w.heap.size w w':=by
 have H:=qD (Aq xs ys A B n c m d w h h');clear h h';go_enter func199,ntmps199;go_wp2_with fail;refine H.out.mono ?_;rintro e w1 ⟨rfl,hb⟩;have HB:=qD hb;clear hb;go_wp2_with fail;go_ret;exact⟨rfl,HB.out⟩
theorem rV{S:cA->Prop}{nf:List (cA×cA)}(xs:List PI)(A:Option Addr)(n c:Nat)(w:World)(h:SI w A n c xs)(hx:xs.map ar=nf.map dr)(hn:fg S nf):
 Calls prog 150 #[.slice A n c] w fun e w'=>e=.returned (.bool (dd S))/\Below w.heap.size w w':=by
 have H:=qD h;have HX:=qD hx;have HN:=qD hn;clear h hx hn;go_enter func150,ntmps150;go_wp2_with fail;refine(zk w).mono ?_;rintro e w1 ⟨A1,m1,c1,ys,n1,rfl,hy,hn1,_,hsi,hb⟩;have HB:=qD hb
 have HS:Hid (bX (xs.map ar) (ys.map ar)=dd S):=by
  have e1:n1=[((eL,false),(ff,true))]:=hn1.unique mH fun _ _=>Iff.rfl;rw[Hid,HX.out,hy,Lg,kL (fun s hs=>(HN.out.1.ne s hs).2) (fun s hs=>(hn1.1.ne s hs).2),e1];exact uf HN.out
 have HC:=qD (uk xs ys A A1 n c m1 c1 w1 (H.out.step hb) hsi);rw[HS.out] at HC;clear hb hy hn1 hsi HS;go_wp2_with fail;refine HC.out.mono ?_;rintro e w2 ⟨rfl,hb⟩;have CE:=qD (HB.out.Jp hb);clear hb;go_wp2_with fail;go_ret;exact⟨rfl,CE.out⟩
noncomputable def eu(s:ByteArray):Ending:=.returned (.tuple #[.string ((fa s).getD empty),.bool (fa s).isSome])
theorem nv{s:ByteArray}(h:cY s s.size=0):eu s=.returned (.tuple #[.string empty,.bool false]):=by
 unfold eu fa;rw[h];rfl
theorem nw{s:ByteArray}{n:Nat}(h:cY s s.size=n+1):eu s=.returned (.tuple #[.string (s.extract 0 n++⟨#[s.data[n]?.getD 0+1]⟩),.bool true]):=by
 unfold eu fa;rw[h];rfl
theorem rW{s : ByteArray}{m : Nat}(hm : m < s.size)(h : (s[m]'hm).toNat = 255) : cY s (m + 1) = cY s m := by
 have e:s.data[m]?=some 255:=by
  rw[Nt];exact⟨hm,Mr.1 h⟩
 conv=>lhs;unfold cY
 rw[LZ e]
theorem ul{s : ByteArray}{m : Nat}(hm : m < s.size)(h : (s[m]'hm).toNat ≠ 255) : cY s (m + 1) = m + 1 := by
 have e:¬s.data[m]?=some 255:=by
  rw[Nt];rintro⟨_,k⟩;exact h (congrArg UInt8.toNat k)
 conv=>lhs;unfold cY
 rw[LU e]
theorem jI(s:ByteArray)(w:World)(hz:s.size<=aF):Calls prog 102 #[.string s] w fun e w'=>e=eu s/\Below w.heap.size w w':=by
 have HZ:Hid (s.size<=aF):=qD hz;clear hz;go_enter func102,ntmps102;go_upto_region 2 with fail
 go_loopw [4] (fun v wr=>∃n:Nat,v=.int .i64 n/\n<=s.size/\cY s n=cY s s.size/\wr=w) (fun v _=>match v with | .int _ n=>n.toNat|_=>0)
 ·exact⟨s.size,rfl,qL,rfl,rfl⟩
 case round=>
  obtain⟨n,rfl,hn,hs,rfl⟩:=hrel;have HS:=qD hs;clear hs;cases n with
  | zero=>
   go_wp2_with fail;go_ret2;exact⟨(nv (by rw[<-HS.out];rfl)).symm,LH _ _⟩
  | succ m=>
   have HM:Hid (m<s.size):=qD hn;have HW:Hid (wrap64 (m:Int)=(m:Int)):=by have:=HZ.out;unfold aF at this;exact qD (by unfold wrap64;omega)
   obtain ⟨x, hx⟩ : ∃ x : Int, ((s[m]'HM.out).toNat : Int) = x := ⟨_, rfl⟩;by_cases h255:x=255
   ·subst h255;have HX:=qD (rW HM.out (by omega));have hw:=HW.out;go_wp2_with fail;refine⟨⟨m,by rw[hw],by omega,by rw[<-HX.out];exact HS.out,trivial⟩,?_⟩;rw[hw];show(m:Int).toNat<((m+1:Nat):Int).toNat;omega
   ·have HX:=qD (ul HM.out (by omega));have h1:(x==255)=false:=by simpa using h255
    clear h255;have hw:=HW.out;go_wp2_with fail;obtain⟨z,hz⟩:∃z:Int,z=(x+1)%256:=⟨_,rfl⟩
    have hcv:(convert 116 9 (.slice (some ⟨wr.heap.size,0,none⟩) 1 1)).run prog ((wr.alloc (.cells #[.int .u8 ((x+1)%256)] 5)).drew)=.ok (.string (strOfNums [z])) ((wr.alloc (.cells #[.int .u8 ((x+1)%256)] 5)).drew):=by
     rw[<-hz];refine NP (P:=prog) _ 116 5 MM NC wr.heap.size 0 1 1 [z] rfl (fun i hi=>?_) 9 MB;obtain rfl:i=0:=by omega
     exact(aE.new wr 5 #[.int .u8 z]).drew.cell 0
    obtain⟨Z,hZ⟩:∃Z,Z=strOfNums [z]:=⟨_,rfl⟩;rw[<-hZ] at hcv;have hZs:Z.size=1:=by rw[hZ,MQ];rfl
    have hcat:∀w2:World,(Op.stringOp .add (s.extract 0 m) Z).run prog w2=.ok (.string (s.extract 0 m++Z)) w2:=fun w2=>run_string_add_sum _ _ _ (by
     have h1:=HZ.out
     have h2:=HM.out
     unfold aF at h1
     rw[hZs,Ow]
     omega)
    clear hZs;have HZ2:=qD hZ;have HZZ:=qD hz;clear hz hZ;have HX1:=qD hx
    go_region
    all_goals
     go_wp2_with fail;go_ret2;refine⟨?_,((LH _ _).alloc (qL) _).drew⟩;have hb := (s[m]'HM.out).toNat_lt;have hx1:=HX1.out
     have hat : s.data[m]?.getD 0 = s[m]'HM.out := by
      rw[NY (show m<s.data.size from HM.out)];rfl
     rw[nw (show cY s s.size=m+1 by rw[<-HS.out];exact HX.out),hat,HZ2.out,HZZ.out];have hne:x≠255:=by simpa using h1
     have e : strOfNums [(x + 1) % 256] = ⟨#[s[m]'HM.out + 1]⟩ := by
      apply Mw;apply Mq.1;rw[OA];simp only[Mb,NR]
      have : UInt8.ofNat ((x + 1) % 256).toNat = s[m]'HM.out + 1 := by
       apply Mr.1;rw[Of,QK];have:(1:UInt8).toNat=1:=rfl;rw[this];omega
      rw[this]
     rw[e];rfl
def kM(op:Int)(q:PI)(a:PV):PI:=if op=4\/op=5 then((a,q.1.2),(decide (op=5),q.2.2)) else((q.1.1,a),(q.2.1,decide (op=7)))
theorem zr{op:Int}{x:aC}{c:VC}{q:PI}(hq:ar q=cd x.k):ar (kM op q (c,x))=ud op x:=by
 unfold kM ud;split
 ·rw[<-hq];rfl
 ·rw[<-hq];rfl
theorem cN{fn:Func}{p:Tmp}(h:fn.results=#[.cell p 84])(tmps:Array Value)(g:Nat)(h1:tmps[p]?.getD undef=.pointer (some ⟨g,0,none⟩))(W:World)(R:Array Value)(hz:R.size=12)(q:aE W g 84 R):(results fn tmps).run prog W=.ok (.agg R) W:=by
 simp[results,h,h1,asAddr,tM q hz]
theorem pL(v:PI):(aM v).all (·.oneCell')=true:=by simp[Value.oneCell']
theorem um(q:PI)(p:ao)(w:World)(ho:p.op=4\/p.op=5\/p.op=6\/p.op=7):
 Calls prog 97 #[cR q,am p] w fun e w'=>e=.returned (cR (kM p.op q p.arg))/\Below w.heap.size w w':=by
 have B0:Hid (aE (((w.alloc (.cells (aM q) 84)).alloc (.cells (aH p) 38)).alloc (.cells (aM zI) 84)) w.heap.size 84 (aM q)):=((aE.Jq rfl).alloc _).alloc _;have B1:Hid (aE (((w.alloc (.cells (aM q) 84)).alloc (.cells (aH p) 38)).alloc (.cells (aM zI) 84)) (w.heap.size+1) 38 (aH p)):=(aE.Jq (by simp)).alloc _;have B2:Hid (aE (((w.alloc (.cells (aM q) 84)).alloc (.cells (aH p) 38)).alloc (.cells (aM zI) 84)) (w.heap.size+2) 84 (aM zI)):=aE.Jq (by simp);have BE:Hid (Below w.heap.size w (((w.alloc (.cells (aM q) 84)).alloc (.cells (aH p) 38)).alloc (.cells (aM zI) 84))):=(((LH _ _).alloc (qL) _).alloc (by simp) _).alloc (by simp;omega) _;go_enter func97,ntmps97;go_upto_region 1 with fail
 change Code.wp _ _ _ _ (((w.alloc (.cells (aM q) 84)).alloc (.cells (aH p) 38)).alloc (.cells (aM zI) 84));generalize (((w.alloc (.cells (aM q) 84)).alloc (.cells (aH p) 38)).alloc (.cells (aM zI) 84))=wa at*;obtain⟨d0,_,_,_,_,_,_,_⟩:=aS B1.out;have f2:=(aX B1.out) 0 _ rfl;have f3:=(aX B1.out) 1 _ rfl;have f4:=(aX B1.out) 2 _ rfl;have f5:=(aX B1.out) 3 _ rfl;have f6:=(aX B1.out) 4 _ rfl;simp only[Nat.reduceAdd] at f2 f3 f4 f5 f6;obtain⟨⟨a0,a1,a2,a3,a4⟩,⟨b0,b1,b2,b3,b4⟩,b5,b6⟩:=cw.Jr B0.out;simp only[LL] at a0 a1 a2 a3 a4 b0 b1 b2 b3 b4 b5 b6;have z0:=B0.out.frozen;obtain⟨op,hop⟩:∃op,op=p.op:=⟨_,rfl⟩;rw[<-hop] at d0 ho;have HOP:=qD hop;clear hop;obtain⟨R,hR⟩:∃R:Array Value,R=aM (kM op q p.arg):=⟨_,rfl⟩;have HR2:=qD hR;have HRK:Hid (R.size=12):=by rw[hR];exact qD rfl
 have HALL:Hid (R.all (·.oneCell')=true):=by rw[Hid,hR];exact pL _
 have HAG:Hid (cR (kM op q p.arg)=.agg R):=by rw[hR];exact qD rfl
 clear hR;rcases ho with rfl|rfl|rfl|rfl
 all_goals
  first|go_upto_region 4 with fail|go_upto_region 7 with fail
  go_region
  all_goals
   go_upto_region 8 with fail
   refine oe ?_;intro w5 hw5
   have C0:Hid (aE w5 w.heap.size 84 R):=by
    rw[Hid,hw5];refine aE.Jw (cs:=R) ?_;exact⟨_,aE.drew (aE.Js (aE.Js (aE.Js (aE.Js (aE.Js (aE.Js B0.out _ _) _ _) _ _) _ _) _ _) _ _),by rw[HR2.out];rfl⟩
   have C2:Hid (aE w5 (w.heap.size+2) 84 (aM zI)):=by
    rw[Hid,hw5];refine aE.drew ?_
    repeat' refine aE.Jz ?_ (by show w.heap.size+2≠w.heap.size;omega) _
    exact B2.out
   have CE:Hid (Below w.heap.size w w5):=by
    rw[Hid,hw5];refine Below.drew ?_
    repeat' refine MR ?_ (by show w.heap.size<=w.heap.size;omega) _
    exact BE.out
   have RG:Hid (w5.rangeAt w.heap.size 0 R.toList):=aj C0.out _ _ fun j v hj=>by rw[LL,<-hj,Lk]
   clear hw5 a0 a1 a2 a3 a4 b0 b1 b2 b3 b4 b5 b6 B0 B1 B2 BE z0 f2 f3 f4 f5 f6 d0
   go_wp2_with (first
    | ((with_reducible show wpList _ _ _ (⟨_,.load 84 _,_,_,_,_⟩::_) _ _);refine aG rfl 84 _ rfl w.heap.size 0 rfl _ _ RG.out Lu rfl (by rw[Lv,HRK.out];kernel_rfl) ?_)
    | ((with_reducible show wpList _ _ _ (⟨_,.store 84 _ _,_,_,_,_⟩::_) _ _);refine MF rfl 84 _ _ rfl (w.heap.size+2) R rfl rfl 84 _ C2.out (by rw[HRK.out];kernel_rfl) (by rw[HRK.out];rfl) HALL.out ?_))
   exact Lp (cN rfl _ _ rfl _ R HRK.out (bq C2.out R)) rfl ⟨by rw[<-HOP.out,HAG.out],br CE.out (by omega) _⟩
def dO(r:iH)(k:Nat)(w:World)(e:Ending)(w':World):Prop:=
 ∃(A:Option Addr) (m c:Nat) (ys:List PI) (nf:List (cA×cA)),e=.returned (.tuple #[.slice A m c,.bool r.2])/\ys.map ar=nf.map dr/\fg r.1 nf/\m<=k/\SI w' A m c ys/\Below w.heap.size w w'/\∀y∈ys,Fr w.heap.size w' y
theorem dO.up{r:iH}{k k':Nat}{w0 w w':World}{e:Ending}(h:dO r k w e w')(hb:Below w0.heap.size w0 w)(hk:k<=k'):dO r k' w0 e w':=by
 obtain⟨A,m,c,ys,nf,h1,h2,h3,h4,h5,h6,h7⟩:=h;exact⟨A,m,c,ys,nf,h1,h2,h3,Lt h4 hk,h5,hb.Jp h6,fun y hy=>(h7 y hy).low hb.size⟩
theorem un{xs:List PV}{b:Bool}(h6:∀x∈xs,x.2.k≠6)(hb:b=true↔∀x∈xs,x.2.k≠2){arg:aC}{n:Int}:dv 8 arg (xs.map Prod.snd) n=some ((xs.map Prod.snd).map eM,b):=by
 rw[Cv (by rintro⟨v,hv,hk⟩;obtain⟨x,hx,rfl⟩:=MS.1 hv;exact h6 x hx hk)]
 congr 2
 rw[Lg,NJ,hb];constructor
 ·intro h x hx hk;exact h ⟨x.2,MT hx,hk⟩
 ·rintro h ⟨v,hv,hk⟩;obtain⟨x,hx,rfl⟩:=MS.1 hv;exact h x hx hk
theorem DB(p:ao)(w:World)(hw:WP w p)(hT:cg w):Calls prog 98 #[am p] w (dO (bZ 8 p.arg.2 (p.args.xs.map Prod.snd) p.n) (p.args.n+1) w):=by
 have HT:=qD hT;have W:=qD hw.open;have haz:p.args.n<=1048576:=W.out.few;clear hw hT;have B0:Hid (aE (w.alloc (.cells (aH p) 38)) w.heap.size 38 (aH p)):=aE.Jq rfl;have BE:=qD ((LH w.heap.size w).alloc (qL) (Obj.cells (aH p) 38));go_enter func98,ntmps98;go_upto_region 1 with fail
 change Code.wp _ _ _ _ (w.alloc (.cells (aH p) 38));generalize w.alloc (.cells (aH p) 38)=wa at*;obtain⟨_,_,_,_,d7,_,_,_⟩:=aS B0.out;go_upto_region 3 with fail
 go_loopw [4,6,10] (fun v4 _ v10 wr=>∃(i:Nat) (b:Bool),i<=p.args.n/\v10=.int .i64 i/\v4=.bool b/\(∀x∈p.args.xs.take i,x.2.k≠6)/\(b=true↔∀x∈p.args.xs.take i,x.2.k≠2)/\aE wr w.heap.size 38 (aH p)/\Below w.heap.size w wr) (fun _ _ v10 _=>p.args.n-(intOf v10).toNat)
 ·exact⟨0,true,LQ _,rfl,rfl,by simp,by simp,B0.out,BE.out⟩
 case round=>
  obtain⟨i,bx,hi,rfl,rfl,h6,h2,hB0,hBE⟩:=hrel;clear B0 BE d7;have B0:=qD hB0;have BE:=qD hBE;have H6:=qD h6;have H2:=qD h2;obtain⟨_,_,_,_,d7,_,_,_⟩:=aS B0.out;clear hB0 hBE h6 h2;by_cases hlt:i<p.args.n
  ·obtain⟨b,off,x,hA,hb,hx,hm,hrg⟩:=W.out.args.sr.row hlt;have HX:=qD hx;have RG:=qD (bi hrg BE.out hb);have HM:=qD hm;have HK:Hid (x.1.k=x.2.k):=qD (W.out.args.rv x hm).open.k;have i0:(0:Int)<=(i:Int):=by omega
   have i1:(i:Int)<(p.args.n:Int):=by omega
   clear hrg hx hm;have q0:=RG.out 0 _ rfl;have q1:=RG.out 1 _ rfl;have q2:=RG.out 2 _ rfl;have q3:=RG.out 3 _ rfl;have q4:=RG.out 4 _ rfl;simp only[Ms] at q0;have HA:=qD hA;rw[hA];clear hA d7;go_upto_region 5 with fail
   change Code.wp _ _ _ _ (wr.alloc (.cells x.1.arr 29));have JB:Hid (aE (wr.alloc (.cells x.1.arr 29)) wr.heap.size 29 x.1.arr):=aE.Jq rfl;replace B0:=qD (B0.out.alloc (.cells x.1.arr 29));replace BE:=qD (BE.out.alloc BE.out.size (Obj.cells x.1.arr 29));generalize wr.alloc (.cells x.1.arr 29)=wb at*;generalize wr.heap.size=ga at*;clear q0 q1 q2 q3 q4 RG;have q0:=JB.out.cell 0;simp at q0;obtain⟨kk,hkk⟩:∃k,k=x.1.k:=⟨_,rfl⟩;rw[<-hkk] at q0 HK;have HKK:=qD hkk;clear hkk;cases h6:(kk==6)
   ·have n6:x.2.k≠6:=by rw[<-HK.out];simpa using h6
    have N6:=qD n6;clear n6;have tk:p.args.xs.take (i+1)=p.args.xs.take i++[x]:=by rw[MW,HX.out];rfl
    have TK:=qD tk;clear tk;cases bx
    ·go_wp2_with fail;go_roundw
     case rel=>
      refine⟨i+1,false,by omega,by go_num,rfl,fun y hy=>?_,?_,B0.out,BE.out⟩
      ·rw[TK.out] at hy;rcases LY.1 hy with hy|hy
       ·exact H6.out y hy
       ·obtain rfl:y=x:=by simpa using hy
        exact N6.out
      ·rw[TK.out];refine⟨fun h=>by simp at h,fun h=>?_⟩;exact H2.out.2 fun y hy=>h y (by simp[hy])
     case measure=>simp[intOf];omega
    ·go_wp2_with fail;go_roundw
     case rel=>
      refine⟨i+1,(kk != 2),by omega,by go_num,rfl,fun y hy=>?_,?_,B0.out,BE.out⟩
      ·rw[TK.out] at hy;rcases LY.1 hy with hy|hy
       ·exact H6.out y hy
       ·obtain rfl:y=x:=by simpa using hy
        exact N6.out
      ·rw[TK.out];have e:(kk != 2)=true↔x.2.k≠2:=by rw[<-HK.out];simp
       rw[e];refine⟨fun h y hy=>?_,fun h=>h x (by simp)⟩;rcases LY.1 hy with hy|hy
       ·exact H2.out.1 rfl y hy
       ·obtain rfl:y=x:=by simpa using hy
        exact h
     case measure=>simp[intOf];omega
   ·have e6:x.2.k=6:=by rw[<-HK.out];simpa using h6
    have E6:=qD e6;clear e6;have HL:Hid (bZ 8 p.arg.2 (p.args.xs.map Prod.snd) p.n=(dV,false)):=qD (dH (rS ⟨x.2,MT HM.out,E6.out⟩));go_wp2_with fail;refine(fZ wb).mono ?_;rintro e w3 ⟨A3,m3,c3,ys,nf,rfl,hy,hnf,hmk,hsi,hb3,hfr⟩;have HNO:=qD (show dO (dV,false) 1 wb (.returned (.tuple #[.slice A3 m3 c3,.bool false])) w3 from⟨A3,m3,c3,ys,nf,rfl,hy,hnf,hmk,hsi,hb3,hfr⟩);clear hy hnf hmk hsi hb3 hfr;go_wp2_with fail;go_ret2;rw[HL.out];exact HNO.out.up BE.out (by omega)
  ·obtain rfl:i=p.args.n:=by omega
   have htk:p.args.xs.take p.args.n=p.args.xs:=LS (by have:=W.out.args.sr.ln;omega)
   have HL:Hid (bZ 8 p.arg.2 (p.args.xs.map Prod.snd) p.n=(fun a=>dj ae a (aT (p.args.xs.map fun q=>eM q.2)),bx)):=by
    have h6:=H6.out;have h2:=H2.out;rw[htk] at h6 h2;rw[Hid,cI (un h6 h2),NU];rfl
   go_wp2_with fail;refine(kD p.args.xs _ _ _ wr (HT.out.step BE.out) (W.out.args.step BE.out) (by omega)).mono ?_;rintro e w3 ⟨A3,m3,c3,ys,nf,rfl,hy,hnf,hmk,hsi,hb3,hfr⟩;have HNO:=qD (show dO ((fun a=>dj ae a (aT (p.args.xs.map fun q=>eM q.2))),bx) _ wr (.returned (.tuple #[.slice A3 m3 c3,.bool bx])) w3 from⟨A3,m3,c3,ys,nf,rfl,hy,hnf,hmk,hsi,hb3,hfr⟩);clear hy hnf hmk hsi hb3 hfr htk;go_wp2_with fail;go_ret2;rw[HL.out];exact HNO.out.up BE.out (by omega)
theorem jJ{w:World}{g:Nat}{v:PI}(h:aE w g 84 (aM v)):w.rangeAt g 0 (aM v).toList:=
 aj h _ _ fun j x hj=>by rw[LL,<-hj,Lk]
theorem kN{t s:ByteArray}(h:fa t=some s):s.size<=t.size:=by
 have hl:=rM t t.size;unfold fa at h;cases hn:cY t t.size with
 | zero=>rw[hn] at h;simp at h
 | succ n=>
  rw[hn] at h hl;simp only[MP] at h;subst h;rw[PK,Ow];show min n t.size-0+1<=t.size;omega
theorem uo{x:aC}{s:ByteArray}(h:fa x.t=some s)(hv:aO (.mk 4 0 s [] [])=true):mZ x=(⟨x,.mk 4 0 s [] [],true,false⟩,true):=by
 unfold mZ;rw[h];simp only[hv,Ou]
theorem zt{x:aC}{s:ByteArray}(h:fa x.t=some s)(hv:aO (.mk 4 0 s [] [])=false):mZ x=(⟨x,iZ 5,true,false⟩,decide (x.t=empty)):=by
 unfold mZ;rw[h];simp[hv]
theorem uq{x:aC}(h:fa x.t=none):mZ x=(⟨x,iZ 5,true,false⟩,decide (x.t=empty)):=by
 unfold mZ;rw[h]
theorem ur{ops:Array Oper}{rest:List Oper}{o:Oper}{a:Act}{w W:World}{Q:Exit->Act->World->Prop}{B g:Nat}{p:PI}{c:VC}(hgd:o.guard=none)(x y:Operand)(ho:o.op=.store 29 x y)(hx:a.eval x=.pointer (some ⟨g,0,none⟩))(hy:a.eval y=.agg c.arr)(h1:aE w g 84 (aM p))(hb:Below B W w)(hB:B<=g)(v:aC)(h:∀w6,aE w6 g 84 (aM (((c,v),p.1.2),p.2))->(∀(b:Nat) (t:TypeId) (cs:Array Value),b≠g->aE w b t cs->aE w6 b t cs)->Below B W w6->wpList prog ops Q rest (a.put o.dst undef) w6):wpList prog ops Q (o::rest) a w:=
 OV hgd 29 x y ho g 0 c.arr hx hy (kJ h1 (by simp)) (by kernel_rfl) (by simp[Value.oneCell']) (h _ (GM h1 c v) (fun _ _ _ hne k=>iI k hne _ _) (iJ hb hB _ _))
theorem ut{ops:Array Oper}{rest:List Oper}{o:Oper}{a:Act}{w W:World}{Q:Exit->Act->World->Prop}{B g:Nat}{p:PI}{c:VC}(hgd:o.guard=none)(x y:Operand)(ho:o.op=.store 29 x y)(hx:a.eval x=.pointer (some ⟨g,5,none⟩))(hy:a.eval y=.agg c.arr)(h1:aE w g 84 (aM p))(hb:Below B W w)(hB:B<=g)(v:aC)(h:∀w6,aE w6 g 84 (aM ((p.1.1,(c,v)),p.2))->(∀(b:Nat) (t:TypeId) (cs:Array Value),b≠g->aE w b t cs->aE w6 b t cs)->Below B W w6->wpList prog ops Q rest (a.put o.dst undef) w6):wpList prog ops Q (o::rest) a w:=
 OV hgd 29 x y ho g 5 c.arr hx hy (kJ h1 (by simp)) (by kernel_rfl) (by simp[Value.oneCell']) (h _ (Cw h1 c v) (fun _ _ _ hne k=>iI k hne _ _) (iJ hb hB _ _))
theorem tN(p:ao)(w:World)(hw:WP w p)(hT:cg w):Calls prog 99 #[am p] w (dO (bZ 16 p.arg.2 (p.args.xs.map Prod.snd) p.n) 1 w):=by
 have HT:=qD hT;have W:=qD hw.open;have HKT:Hid (p.arg.1.t=p.arg.2.t):=qD hw.open.arg.open.t;have HTZ:Hid (p.arg.1.t.size<=aF):=by have:=hw.open.arg.open.tsz;exact qD (by rw[hw.open.arg.open.t];exact this)
 clear hw hT;have B0:Hid (aE (w.alloc (.cells (aH p) 38)) w.heap.size 38 (aH p)):=aE.Jq rfl;have BE:=qD ((LH w.heap.size w).alloc (qL) (Obj.cells (aH p) 38));go_enter func99,ntmps99;go_upto_region 1 with fail
 change Code.wp _ _ _ _ (w.alloc (.cells (aH p) 38));generalize w.alloc (.cells (aH p) 38)=wa at*;go_wp2_with fail;refine(iw 4 wa (by omega) (by omega)).mono ?_;rintro e w1 ⟨rfl,hb⟩;replace B0:=qD (B0.out.step hb);replace BE:=qD (BE.out.Jp hb);clear hb;go_upto_region 2 with fail
 change Code.wp _ _ _ _ (w1.alloc (.cells (aM (ay 4)) 84));have J:Hid (aE (w1.alloc (.cells (aM (ay 4)) 84)) w1.heap.size 84 (aM (ay 4))):=aE.Jq rfl;have HGJ:Hid (w.heap.size<w1.heap.size):=qD B0.out.lt;replace B0:=qD (B0.out.alloc (.cells (aM (ay 4)) 84));replace BE:=qD (BE.out.alloc BE.out.size (Obj.cells (aM (ay 4)) 84));generalize w1.alloc (.cells (aM (ay 4)) 84)=w2 at*;generalize w1.heap.size=gj at*;have RA:=qD (aX B0.out);have gle:=HGJ.out
 go_upto_region 3 with(first
  | ((with_reducible show wpList _ _ _ (⟨_,.load 29 _,_,_,_,_⟩::_) _ _);refine aG rfl 29 _ rfl w.heap.size 2 rfl _ _ RA.out Mt rfl (by kernel_rfl) ?_)
  | ((with_reducible show wpList _ _ _ (⟨_,.store 29 _ _,_,_,_,_⟩::_) _ _);refine ur (c:=p.arg.1) rfl _ _ rfl rfl rfl J.out BE.out (by omega) p.arg.2 ?_;intro w6 hJ hfar hBE;have B6:=qD (hfar _ _ _ (by omega) B0.out);clear J BE B0 RA hfar;have J:=qD hJ;have BE:=qD hBE;have B0:=qD B6.out;clear hJ hBE B6))
 obtain⟨_,_,_,d4,_,_,_,_⟩:=aS B0.out;obtain⟨tx,htx⟩:∃t,t=p.arg.1.t:=⟨_,rfl⟩;rw[<-htx] at d4 HKT HTZ;have HTX:=qD htx;clear htx;have HAR:Hid (RW w p.arg.1 p.arg.2):=W.out.arg
 have hEd:decide (p.arg.2.t=empty)=tx.toList.isEmpty:=by
  rw[<-HKT.out,Lg,NJ,Nq,MD];constructor
  ·rintro rfl;rfl
  ·intro h;exact Mw (Mq.1 h)
 have HED:=qD hEd;clear hEd;have e0:cZ.size<=aF:=by decide
 cases hA:fa tx with
 | none=>
  have hq:mZ p.arg.2=(⟨p.arg.2,iZ 5,true,false⟩,decide (p.arg.2.t=empty)):=uq (by rw[<-HKT.out];exact hA);have hE:eu tx=.returned (.tuple #[.string empty,.bool false]):=by unfold eu;rw[hA];rfl
  have hAf:=jI tx w6 HTZ.out;rw[hE] at hAf;have HAF:=qD hAf;have HPQ:=qD hq;clear hAf hE hq hA;go_wp2_with fail;refine HAF.out.mono ?_;rintro e w3 ⟨rfl,hb⟩;replace J:=qD (J.out.step hb);replace B0:=qD (B0.out.step hb);replace BE:=qD (BE.out.Jp hb);clear hb d4 HAF;go_upto_region 5 with fail
  change Code.wp _ _ _ _ (w3.alloc (.cells (cu 4 0 empty).arr 29));replace J:=qD (J.out.alloc (.cells (cu 4 0 empty).arr 29));replace B0:=qD (B0.out.alloc (.cells (cu 4 0 empty).arr 29));replace BE:=qD (BE.out.alloc BE.out.size (Obj.cells (cu 4 0 empty).arr 29));generalize w3.alloc (.cells (cu 4 0 empty).arr 29)=w4 at*;generalize w3.heap.size=gv at*;obtain⟨_,_,_,d4,_,_,_,_⟩:=aS B0.out;rw[<-HTX.out] at d4;have okQ:Hid (∀wr,Below w.heap.size w wr->iY wr ((p.arg,(ay 4).1.2),(ay 4).2)):=qD fun wr hb=>⟨HAR.out.step hb,(gX 4 wr).2⟩;obtain⟨be,hbe⟩:∃b,b=tx.toList.isEmpty:=⟨_,rfl⟩
  have HL:Hid (bZ 16 p.arg.2 (p.args.xs.map Prod.snd) p.n=((fun a=>dj ae a (aT ([((p.arg,(ay 4).1.2),(ay 4).2)].map ar))),be)):=by
   rw[Hid,cI gm,HPQ.out,HED.out,hbe];rfl
  replace hbe:=hbe.symm;cases be
  ·have RGJ:=qD (jJ J.out);go_wp2_with ((with_reducible show wpList _ _ _ (⟨_,.load 84 _,_,_,_,_⟩::_) _ _);refine aG rfl 84 _ rfl gj 0 rfl _ _ RGJ.out Lu rfl (by kernel_rfl) ?_);refine(dt [((p.arg,(ay 4).1.2),(ay 4).2)] _ 1 1 _ (HT.out.step (BE.out.alloc BE.out.size _)) (fI (aE.Jq rfl) ((okQ.out _ (BE.out.alloc BE.out.size _)))) (by omega)).mono ?_;rintro e w9 ⟨A3,m3,c3,ys,nf,rfl,hy,hnf,hmk,hsi,hb3,hfr⟩;have HNO:=qD (show dO ((fun a=>dj ae a (aT ([((p.arg,(ay 4).1.2),(ay 4).2)].map ar))),false) 1 _ (.returned (.tuple #[.slice A3 m3 c3,.bool (false)])) w9 from⟨A3,m3,c3,ys,nf,rfl,hy,hnf,hmk,hsi,hb3,hfr⟩);clear hy hnf hmk hsi hb3 hfr;go_wp2_with fail;go_ret2;rw[HL.out];exact HNO.out.up (BE.out.alloc BE.out.size _) (by omega)
  ·have RGJ:=qD (jJ J.out);go_wp2_with ((with_reducible show wpList _ _ _ (⟨_,.load 84 _,_,_,_,_⟩::_) _ _);refine aG rfl 84 _ rfl gj 0 rfl _ _ RGJ.out Lu rfl (by kernel_rfl) ?_);refine(dt [((p.arg,(ay 4).1.2),(ay 4).2)] _ 1 1 _ (HT.out.step (BE.out.alloc BE.out.size _)) (fI (aE.Jq rfl) ((okQ.out _ (BE.out.alloc BE.out.size _)))) (by omega)).mono ?_;rintro e w9 ⟨A3,m3,c3,ys,nf,rfl,hy,hnf,hmk,hsi,hb3,hfr⟩;have HNO:=qD (show dO ((fun a=>dj ae a (aT ([((p.arg,(ay 4).1.2),(ay 4).2)].map ar))),true) 1 _ (.returned (.tuple #[.slice A3 m3 c3,.bool (true)])) w9 from⟨A3,m3,c3,ys,nf,rfl,hy,hnf,hmk,hsi,hb3,hfr⟩);clear hy hnf hmk hsi hb3 hfr;go_wp2_with fail;go_ret2;rw[HL.out];exact HNO.out.up (BE.out.alloc BE.out.size _) (by omega)
 | some s=>
  have hE:eu tx=.returned (.tuple #[.string s,.bool true]):=by unfold eu;rw[hA];rfl
  have hAf:=jI tx w6 HTZ.out;rw[hE] at hAf;have HAF:=qD hAf;have HSZ:Hid (s.size<=aF):=qD (Lt (kN hA) HTZ.out);have HAS:=qD hA;clear hAf hE hA;go_wp2_with fail;refine HAF.out.mono ?_;rintro e w3 ⟨rfl,hb⟩;replace J:=qD (J.out.step hb);replace B0:=qD (B0.out.step hb);replace BE:=qD (BE.out.Jp hb);have HJ3:Hid (gj<w3.heap.size):=qD J.out.lt;clear hb d4 HAF;go_upto_region 5 with fail
  change Code.wp _ _ _ _ (w3.alloc (.cells (cu 4 0 s).arr 29));have JB:Hid (aE (w3.alloc (.cells (cu 4 0 s).arr 29)) w3.heap.size 29 (cu 4 0 s).arr):=aE.Jq rfl;replace J:=qD (J.out.alloc (.cells (cu 4 0 s).arr 29));replace B0:=qD (B0.out.alloc (.cells (cu 4 0 s).arr 29));replace BE:=qD (BE.out.alloc BE.out.size (Obj.cells (cu 4 0 s).arr 29));generalize w3.alloc (.cells (cu 4 0 s).arr 29)=w4 at*;generalize w3.heap.size=gv at*;obtain⟨_,_,_,d4,_,_,_,_⟩:=aS B0.out;rw[<-HTX.out] at d4;obtain⟨q0,q1,q2,q3,q4⟩:=bS.Jr JB.out;simp only[LL] at q0 q1 q2 q3 q4;obtain⟨vb,hvb⟩:∃b,b=aO (.mk 4 0 s [] []):=⟨_,rfl⟩
  have HVC:Hid (∀wr,Below w.heap.size w wr->Calls prog 32 #[(cu 4 0 s).val] wr fun e w'=>e=.returned (.bool vb)/\Below wr.heap.size wr w'):=qD fun wr hb=>by
   rw[hvb];exact iB (.mk 4 0 s [] []) (cu 4 0 s) wr (HT.out.step hb) (kp _ _ _ HSZ.out)
  obtain⟨be,hbe⟩:∃b,b=tx.toList.isEmpty:=⟨_,rfl⟩;have HBE:=qD hbe;have HVB:=qD hvb;replace hbe:=hbe.symm;clear hvb
  go_upto_if 34 with(go_at_call 32;refine(HVC.out _ BE.out).mono ?_;rintro e w5 ⟨rfl,hb⟩;replace J:=qD (J.out.step hb);replace JB:=qD (JB.out.step hb);replace BE:=qD (BE.out.Jp hb);clear hb d4 q0 q1 q2 q3 q4 B0;obtain⟨q0,q1,q2,q3,q4⟩:=bS.Jr JB.out;simp only[LL] at q0 q1 q2 q3 q4)
  cases vb
  ·have okQ:Hid (∀wr,Below w.heap.size w wr->iY wr ((p.arg,(ay 4).1.2),(ay 4).2)):=qD fun wr hb=>⟨HAR.out.step hb,(gX 4 wr).2⟩
   have HL:Hid (bZ 16 p.arg.2 (p.args.xs.map Prod.snd) p.n=((fun a=>dj ae a (aT ([((p.arg,(ay 4).1.2),(ay 4).2)].map ar))),be)):=by
    rw[Hid,cI gm,zt (x:=p.arg.2) (s:=s) (by rw[<-HKT.out];exact HAS.out) HVB.out.symm,HED.out,HBE.out];rfl
   clear HBE;cases be
   ·have RGJ:=qD (jJ J.out);go_wp2_with ((with_reducible show wpList _ _ _ (⟨_,.load 84 _,_,_,_,_⟩::_) _ _);refine aG rfl 84 _ rfl gj 0 rfl _ _ RGJ.out Lu rfl (by kernel_rfl) ?_);refine(dt [((p.arg,(ay 4).1.2),(ay 4).2)] _ 1 1 _ (HT.out.step (BE.out.alloc BE.out.size _)) (fI (aE.Jq rfl) ((okQ.out _ (BE.out.alloc BE.out.size _)))) (by omega)).mono ?_;rintro e w9 ⟨A3,m3,c3,ys,nf,rfl,hy,hnf,hmk,hsi,hb3,hfr⟩;have HNO:=qD (show dO ((fun a=>dj ae a (aT ([((p.arg,(ay 4).1.2),(ay 4).2)].map ar))),false) 1 _ (.returned (.tuple #[.slice A3 m3 c3,.bool (false)])) w9 from⟨A3,m3,c3,ys,nf,rfl,hy,hnf,hmk,hsi,hb3,hfr⟩);clear hy hnf hmk hsi hb3 hfr;go_wp2_with fail;go_ret2;rw[HL.out];exact HNO.out.up (BE.out.alloc BE.out.size _) (by omega)
   ·have RGJ:=qD (jJ J.out);go_wp2_with ((with_reducible show wpList _ _ _ (⟨_,.load 84 _,_,_,_,_⟩::_) _ _);refine aG rfl 84 _ rfl gj 0 rfl _ _ RGJ.out Lu rfl (by kernel_rfl) ?_);refine(dt [((p.arg,(ay 4).1.2),(ay 4).2)] _ 1 1 _ (HT.out.step (BE.out.alloc BE.out.size _)) (fI (aE.Jq rfl) ((okQ.out _ (BE.out.alloc BE.out.size _)))) (by omega)).mono ?_;rintro e w9 ⟨A3,m3,c3,ys,nf,rfl,hy,hnf,hmk,hsi,hb3,hfr⟩;have HNO:=qD (show dO ((fun a=>dj ae a (aT ([((p.arg,(ay 4).1.2),(ay 4).2)].map ar))),true) 1 _ (.returned (.tuple #[.slice A3 m3 c3,.bool (true)])) w9 from⟨A3,m3,c3,ys,nf,rfl,hy,hnf,hmk,hsi,hb3,hfr⟩);clear hy hnf hmk hsi hb3 hfr;go_wp2_with fail;go_ret2;rw[HL.out];exact HNO.out.up (BE.out.alloc BE.out.size _) (by omega)
  ·have okQ:Hid (∀wr,Below w.heap.size w wr->iY wr ((p.arg,(cu 4 0 s,.mk 4 0 s [] [])),(true,false))):=qD fun wr hb=>⟨HAR.out.step hb,kp _ _ _ HSZ.out⟩
   have HL:Hid (bZ 16 p.arg.2 (p.args.xs.map Prod.snd) p.n=((fun a=>dj ae a (aT ([((p.arg,(cu 4 0 s,.mk 4 0 s [] [])),(true,false))].map ar))),true)):=by
    rw[Hid,cI gm,uo (x:=p.arg.2) (s:=s) (by rw[<-HKT.out];exact HAS.out) HVB.out.symm];rfl
   go_upto_region 9 with((with_reducible show wpList _ _ _ (⟨_,.store 29 _ _,_,_,_,_⟩::_) _ _);refine ut (c:=cu 4 0 s) rfl _ _ rfl rfl rfl J.out BE.out (by omega) (.mk 4 0 s [] []) ?_;intro w7 hJ hfar hBE;clear J BE hfar q0 q1 q2 q3 q4 JB;have J:=qD hJ;have BE:=qD hBE;have z0:=J.out.frozen;have c11:=(J.out.cell 11).trans rfl;clear hJ hBE)
   refine oe ?_;intro w9 hw9
   replace J:Hid (aE w9 gj 84 (aM ((p.arg,(cu 4 0 s,.mk 4 0 s [] [])),(true,false)))):=by
    rw[Hid,hw9];exact aE.Jw ⟨_,J.out.Js _ _,rfl⟩
   replace BE:Hid (Below w.heap.size w w9):=by
    rw[Hid,hw9];exact MR BE.out (by show w.heap.size<=gj;omega) _
   clear hw9 z0 c11;have RGJ:=qD (jJ J.out);go_wp2_with ((with_reducible show wpList _ _ _ (⟨_,.load 84 _,_,_,_,_⟩::_) _ _);refine aG rfl 84 _ rfl gj 0 rfl _ _ RGJ.out Lu rfl (by kernel_rfl) ?_);refine(dt [((p.arg,(cu 4 0 s,.mk 4 0 s [] [])),(true,false))] _ 1 1 _ (HT.out.step (BE.out.alloc BE.out.size _)) (fI (aE.Jq rfl) ((okQ.out _ (BE.out.alloc BE.out.size _)))) (by omega)).mono ?_;rintro e w9 ⟨A3,m3,c3,ys,nf,rfl,hy,hnf,hmk,hsi,hb3,hfr⟩;have HNO:=qD (show dO ((fun a=>dj ae a (aT ([((p.arg,(cu 4 0 s,.mk 4 0 s [] [])),(true,false))].map ar))),true) 1 _ (.returned (.tuple #[.slice A3 m3 c3,.bool (true)])) w9 from⟨A3,m3,c3,ys,nf,rfl,hy,hnf,hmk,hsi,hb3,hfr⟩);clear hy hnf hmk hsi hb3 hfr;go_wp2_with fail;go_ret2;rw[HL.out];exact HNO.out.up (BE.out.alloc BE.out.size _) (by omega)
def xt(k:ao):Prop:=∀(A:Option Addr) (n c:Nat) (l:List ByteArray) (w:World),WP w k->od k->cg w->ST w A n c l->k.sz<=300000000->
 Calls prog 36 #[am k,.slice A n c] w (dO (dE l k) k.sz w)
theorem uu(r:iH)(rs:List iH):dx (r::rs)=if dd r.1 then dx rs else(r.1,false):=rfl
theorem Ar{rs:List iH}(h:rs.length≠1):lg rs=dx rs:=by
 unfold lg;split
 ·simp at h
 ·rfl
theorem rX(p:ao):(aH p).all (·.oneCell')=true:=by simp[Value.oneCell']
theorem As(p:ao)(ih:∀k∈p.kids,xt k)(A:Option Addr)(n c:Nat)(l:List ByteArray)(w:World)(hw:WP w p)(hk:∀k∈p.kids,od k)(hT:cg w)(hl:ST w A n c l)(hz:p.sz<=300000000):
 Calls prog 90 #[am p,.slice A n c] w (dO (lg (p.kids.map (dE l))) p.sz w):=by
 have HT:=qD hT;have W:=qD hw.open;have HL:=qD hl
 have IH:Hid (∀k∈p.kids,∀wr,Below w.heap.size w wr->Calls prog 36 #[am k,.slice A n c] wr (dO (dE l k) p.sz wr)):=qD fun k hkm wr hb=>by
  have hs:k.sz<=p.sz:=by rw[p.Jx];have:=nG hkm;omega
  exact(ih k hkm A n c l wr ((W.out.kids k hkm).step hb) (hk k hkm) (HT.out.step hb) (HL.out.step hb) (by omega)).mono fun e w' h=>h.up (LH _ _) hs
 have hkz:p.kn<=140737488355328:=by have:=W.out.ksz;unfold aF at this;omega
 have HKN:=qD W.out.sr.ln;have HSZ:Hid (1<=p.sz):=by rw[Hid,p.Jx];omega
 clear hw hk hT hl hz ih;have B0:Hid (aE (w.alloc (.cells (aH p) 38)) w.heap.size 38 (aH p)):=aE.Jq rfl;have BE:=qD ((LH w.heap.size w).alloc (qL) (Obj.cells (aH p) 38));go_enter func90,ntmps90;go_upto_region 1 with fail
 change Code.wp _ _ _ _ (w.alloc (.cells (aH p) 38));generalize w.alloc (.cells (aH p) 38)=wa at*;obtain⟨_,_,_,_,_,_,_,d24⟩:=aS B0.out;by_cases h1:p.kn=1
 ·obtain⟨b,off,k,hA,hb,hx,hm,hrg⟩:=W.out.sr.row (i:=0) (by omega);have RG:=qD (bi hrg BE.out hb);have HM:=qD hm
  have HAND:Hid (lg (p.kids.map (dE l))=dE l k):=by
   obtain⟨y,hy⟩:=NV.1 (show p.kids.length=1 by have:=HKN.out;omega);rw[hy] at hx ⊢;obtain rfl:y=k:=by simpa using hx
   rfl
  rw[OJ,Ms] at RG;rw[hA,h1] at d24;clear hrg hx hm hA
  go_wp2_with (first
   | ((with_reducible show wpList _ _ _ (⟨_,.load 38 _,_,_,_,_⟩::_) _ _);refine aG rfl 38 _ rfl b off rfl _ _ RG.out Ly rfl (by kernel_rfl) ?_)
   | (go_at_call 36;refine(IH.out k HM.out _ BE.out).mono ?_;rintro e w1 ⟨A3,m3,c3,ys,nf,rfl,hy,hnf,hmk,hsi,hb3,hfr⟩;have HNO:=qD (show dO (dE l k) p.sz _ (.returned (.tuple #[.slice A3 m3 c3,.bool (dE l k).2])) w1 from⟨A3,m3,c3,ys,nf,rfl,hy,hnf,hmk,hsi,hb3,hfr⟩);clear hy hnf hmk hsi hb3 hfr))
  go_ret2;rw[HAND.out];exact HNO.out.up BE.out (qL)
 ·have HAND:Hid (lg (p.kids.map (dE l))=dx (p.kids.map (dE l))):=qD (Ar (by rw[Lb];have:=HKN.out;omega));have h1b:((p.kn:Int)==1)=false:=by simp;omega
  clear h1;go_upto_region 4 with fail
  go_loopw [7,8,9,25] (fun _ _ _ v wr=>∃i:Nat,i<=p.kn/\v=.int .i64 i/\dx (p.kids.map (dE l))=dx ((p.kids.drop i).map (dE l))/\Below w.heap.size w wr) (fun _ _ _ v _=>p.kn-(intOf v).toNat)
  ·exact⟨0,LQ _,rfl,rfl,BE.out⟩
  case round=>
   obtain⟨i,hi,rfl,hf,hBE⟩:=hrel;clear B0 BE d24;have BE:=qD hBE;have HF:=qD hf;clear hf hBE;by_cases hlt:i<p.kn
   ·obtain⟨b,off,k,hA,hb,hx,hm,hrg⟩:=W.out.sr.row hlt;have RG:=qD (bi hrg BE.out hb);have HX:=qD (bM hx);have HM:=qD hm;have i0:(0:Int)<=(i:Int):=by omega
    have i1:(i:Int)<(p.kn:Int):=by omega
    rw[hA];clear hrg hx hm hA
    go_upto_region 6 with(first
     | ((with_reducible show wpList _ _ _ (⟨_,.load 38 _,_,_,_,_⟩::_) _ _);refine aG rfl 38 _ rfl b (off+i*25) rfl _ _ RG.out Ly rfl (by kernel_rfl) ?_)
     | ((with_reducible show wpList _ _ _ (⟨_,.store 38 _ _,_,_,_,_⟩::_) _ _);refine MF rfl 38 _ _ rfl wr.heap.size (aH k) rfl rfl 38 _ (aE.Jq rfl) (by kernel_rfl) rfl (rX k) ?_;refine bY ?_;intro w4 hw4;have JB:Hid (aE w4 wr.heap.size 38 (aH k)):=(by rw[Hid,hw4];exact bq (aE.Jq rfl) _);have BE4:Hid (Below w.heap.size w w4):=(by rw[Hid,hw4];exact br (BE.out.alloc BE.out.size _) BE.out.size _);clear hw4 BE RG))
    generalize wr.heap.size=gk at*;have RJ:=qD (dy JB.out);clear JB
    go_upto_region 7 with(first
     | ((with_reducible show wpList _ _ _ (⟨_,.load 38 _,_,_,_,_⟩::_) _ _);refine aG rfl 38 _ rfl gk 0 rfl _ _ RJ.out Ly rfl (by kernel_rfl) ?_)
     | (go_at_call 36;refine(IH.out k HM.out _ BE4.out).mono ?_;rintro e w5 ⟨A3,m3,c3,ys,nf,rfl,hy,hnf,hmk,hsi,hb3,hfr⟩;have HY:=qD hy;have HNF:=qD hnf;have HMK:=qD hmk;have HSI:=qD hsi;have BE5:=qD (BE4.out.Jp hb3);have HFR:=qD (fun y hy=>(hfr y hy).low BE4.out.size);clear hy hnf hmk hsi hb3 hfr RJ BE4))
    obtain⟨ab,hab⟩:∃b,b=dd (dE l k).1:=⟨_,rfl⟩;have HIA:=qD (rV ys A3 m3 c3 w5 HSI.out HY.out HNF.out);rw[<-hab] at HIA;have HAB:=qD hab;clear hab;go_wp2_with fail;refine HIA.out.mono ?_;rintro e w6 ⟨rfl,hb⟩;have BE6:=qD (BE5.out.Jp hb);have HSI6:=qD (HSI.out.step hb);have HFR6:=qD (fun y hy=>(HFR.out y hy).step hb);clear hb HIA
    have HFC:Hid (dx (p.kids.map (dE l))=if ab then dx ((p.kids.drop (i+1)).map (dE l)) else((dE l k).1,false)):=by
     rw[Hid,HF.out,HX.out,Mb,uu,HAB.out]
    cases ab
    ·go_wp2_with fail;go_ret2;rw[HAND.out,HFC.out];exact⟨A3,m3,c3,ys,nf,rfl,HY.out,HNF.out,HMK.out,HSI6.out,BE6.out,HFR6.out⟩
    ·go_wp2_with fail;go_roundw
     ·exact⟨i+1,by omega,by go_num,(by simpa using HFC.out),BE6.out⟩
     ·simp[intOf];omega
   ·obtain rfl:i=p.kn:=by omega
    have HE:Hid (dx (p.kids.map (dE l))=(dV,false)):=by
     rw[Hid,HF.out,La (by have:=HKN.out;omega)];rfl
    go_wp2_with fail;refine(fZ wr).mono ?_;rintro e w3 ⟨A3,m3,c3,ys,nf,rfl,hy,hnf,hmk,hsi,hb3,hfr⟩;have HNO:=qD (show dO (dV,false) 1 wr (.returned (.tuple #[.slice A3 m3 c3,.bool false])) w3 from⟨A3,m3,c3,ys,nf,rfl,hy,hnf,hmk,hsi,hb3,hfr⟩);clear hy hnf hmk hsi hb3 hfr;go_wp2_with fail;go_ret2;rw[HAND.out,HE.out];exact HNO.out.up BE.out HSZ.out
end Go.Proofs.YthfahkaadbdicaaGreatDoor
