/- A part of the proof. -/
import Derived.Test.YtgfoliedmhgpnaaGreatDoorBn15
import Derived.Laws.BytesArg
import Derived.Laws.Concat
set_option maxRecDepth 100000
set_option maxHeartbeats 16000000
set_option linter.unusedSimpArgs false
open Go.Proofs.Tryz
open ByteArray (empty)
namespace Go.Proofs.YtgfoliedmhgpnaaGreatDoor
open Go.RowKit
section
variable {l r xs ys:List ByteArray} {b c k i g o n B m q size S:Nat} {op a x y d:Int} {s:ByteArray} {w w' w0 W:World} {A:Option Addr} {e t:TypeId} {cs:Array Value} {P:Program} {Q:Exit -> Act -> World -> Prop} {v:Value}
theorem aG.Iu{w:World}{g:Nat}{t:TypeId}{cs:Array Value}(h:∃c,aG w g t c/\c=cs):aG w g t cs:=by obtain⟨c,h,rfl⟩:=h;exact h
theorem cR{P:Program}{ops:Array Oper}{Q:Exit->Act->World->Prop}{l:List Oper}{a:Act}{w:World}(h:∀w',w'=w->wpList P ops Q l a w'):wpList P ops Q l a w:=h w rfl
theorem jx{w:World}{g:Nat}{t:TypeId}{cs:Array Value}(h:aG w g t cs){o n:Nat}(hz:o+n<=cs.size):w.there g o n:=fun j hj=>by
 refine⟨?_,h.frozen _⟩;rw[h.cell,NN (by omega)];rfl
theorem Ek{w:World}{g:Nat}{p:PI}(h:aG w g 85 (aa p))(c:VC)(x:aC):aG (w.setCells g 0 c.arr.toList) g 85 (aa (((c,x),p.1.2),p.2)):=aG.setCells c.list 0 (l:=iz p) h
theorem El{w:World}{g:Nat}{p:PI}(h:aG w g 85 (aa p))(c:VC)(x:aC):aG (w.setCells g 5 c.arr.toList) g 85 (aa ((p.1.1,(c,x)),p.2)):=aG.setCells c.list 5 (l:=iz p) h
theorem hH{w:World}{g b:Nat}{t:TypeId}{cs:Array Value}(h:aG w b t cs)(hne:b≠g)(vs:List Value)(o:Nat):aG (w.setCells g o vs) b t cs:=(iT g vs o w b hne).trans h
theorem iA{B:Nat}{a w:World}(h:Below B a w){g:Nat}(hg:B<=g)(vs:List Value)(o:Nat):Below B a (w.setCells g o vs):=by
 induction vs generalizing w o with
 | nil=>exact h
 | cons v r ih=>exact ih (Lr (p:=⟨g,o,none⟩) h hg v) (o+1)
theorem kp{ops:Array Oper}{rest:List Oper}{o:Oper}{a:Act}{w W:World}{Q:Exit->Act->World->Prop}{B g g0 g2:Nat}{p:PI}{c:VC}{cs0 cs2:Array Value}(hgd:o.guard=none)(x y:Operand)(ho:o.op=.store 29 x y)(hx:a.eval x=.pointer (some ⟨g,5,none⟩))(hy:a.eval y=.agg c.arr)(h1:aG w g 85 (aa p))(h0:aG w g0 85 cs0)(h2:aG w g2 29 cs2)(hb:Below B W w)(n0:g0≠g)(n2:g2≠g)(hB:B<=g)(v:aC)(h:∀w6,aG w6 g 85 (aa ((p.1.1,(c,v)),p.2))->aG w6 g0 85 cs0->aG w6 g2 29 cs2->Below B W w6->wpList prog ops Q rest (a.put o.dst undef) w6):wpList prog ops Q (o::rest) a w:=
 NI hgd 29 x y ho g 5 c.arr hx hy (jx h1 (by simp)) (by kernel_rfl) (by simp[Value.oneCell']) (h _ (El h1 c v) (hH h0 n0 _ _) (hH h2 n2 _ _) (iA hb hB _ _))
theorem zO{ops:Array Oper}{rest:List Oper}{o:Oper}{a:Act}{w W:World}{Q:Exit->Act->World->Prop}{B g g0 g2:Nat}{p:PI}{c:VC}{cs0 cs2:Array Value}(hgd:o.guard=none)(x y:Operand)(ho:o.op=.store 29 x y)(hx:a.eval x=.pointer (some ⟨g,0,none⟩))(hy:a.eval y=.agg c.arr)(h1:aG w g 85 (aa p))(h0:aG w g0 85 cs0)(h2:aG w g2 29 cs2)(hb:Below B W w)(n0:g0≠g)(n2:g2≠g)(hB:B<=g)(v:aC)(h:∀w6,aG w6 g 85 (aa (((c,v),p.1.2),p.2))->aG w6 g0 85 cs0->aG w6 g2 29 cs2->Below B W w6->wpList prog ops Q rest (a.put o.dst undef) w6):wpList prog ops Q (o::rest) a w:=
 NI hgd 29 x y ho g 0 c.arr hx hy (jx h1 (by simp)) (by kernel_rfl) (by simp[Value.oneCell']) (h _ (Ek h1 c v) (hH h0 n0 _ _) (hH h2 n2 _ _) (iA hb hB _ _))
theorem yS{P:Program}{C:Code}{Q:Exit->Act->World->Prop}{a:Act}{w:World}(h:∀w',w'=w->Code.wp P C Q a w'):Code.wp P C Q a w:=h w rfl
theorem bY{w:World}{g:Nat}{t:TypeId}{old:Array Value}(h:aG w g t old)(cs:Array Value):aG (w.setRow g cs) g t cs:=setRow_heap w g old cs t (0,0) h
theorem bZ{B:Nat}{a w:World}(h:Below B a w){g:Nat}(hg:B<=g)(cs:Array Value):Below B a (w.setRow g cs):=
 ⟨h.os,h.tape,h.output,by rw[setRow_size];exact h.size,fun k hk=>(NJ w g k cs (by omega)).trans (h.block k hk)⟩
theorem BQ{w:World}{g:Nat}{t:TypeId}{c c':Array Value}(h:aG w g t c)(e:c=c'):aG w g t c':=e▸h
theorem sQ{w:World}{g:Nat}{cs:Array Value}(h:aG w g 85 cs)(hz:cs.size=12):(loadVar 85 ⟨g,0,none⟩).run prog w=.ok (.agg cs) w:=
 Nw w g _ _ cs _ _ h LO rfl (by rw[hz];kernel_rfl)
theorem cS{fn:Func}{p u:Tmp}(h:fn.results=#[.cell p 85,.tmp u])(tmps:Array Value)(g:Nat)(h1:tmps.getD p undef=.pointer (some ⟨g,0,none⟩))(e:Value)(h2:tmps.getD u undef=e)(W:World)(R:Array Value)(hz:R.size=12)(q:aG W g 85 R):(results fn tmps).run prog W=.ok (.tuple #[.agg R,e]) W:=by
 rw[Ob h,h1,h2];simp[asAddr,sQ q hz]
def dN(k:Int):PI:=
 if k=3 then(((bG 3 (-9223372036854775808) empty,.mk 3 (-9223372036854775808) empty [] []),(bG 3 9223372036854775807 empty,.mk 3 9223372036854775807 empty [] [])),(true,true))
 else if k=4 then(((bG 4 0 empty,gK 4),(bG 5 0 empty,gK 5)),(true,false))
 else if k=5 then(((bG 5 0 empty,gK 5),(bG 6 0 empty,gK 6)),(true,false))
 else if k=7 then(((bG 7 0 empty,gK 7),(bG 8 0 cf,.mk 8 0 cf [] [])),(true,false))
 else if k=8 then(((bG 8 0 cf,.mk 8 0 cf [] []),(bG 9 0 empty,gK 9)),(true,false))
 else if k=9 then(((bG 9 0 empty,gK 9),(bG 9 1 empty,.mk 9 1 empty [] [])),(true,true))
 else if k=10 then(((bG 10 0 empty,gK 10),(bG 10 9223372036854775807 empty,.mk 10 9223372036854775807 empty [] [])),(true,true))
 else(((bG k 0 empty,gK k),(bG k 0 empty,gK k)),(true,true))
theorem oT(k:Int)(w:World):qe w (dN k):=by
 have e0:(empty).size<=aH:=by decide
 have e1:cf.size<=aH:=by decide
 unfold dN
 repeat' split
 all_goals exact⟨oS _ _ _ (by assumption),oS _ _ _ (by assumption)⟩
theorem yT{k:Int}(h:1<=k/\k<=11)(h6:k≠6):cB (dN k)=bB k:=by
 have:k=1\/k=2\/k=3\/k=4\/k=5\/k=7\/k=8\/k=9\/k=10\/k=11:=by omega
 rcases this with rfl|rfl|rfl|rfl|rfl|rfl|rfl|rfl|rfl|rfl<;>rfl
abbrev zI:PI:=(((VC.zero,aC.zero),(VC.zero,aC.zero)),(false,false))
def FG(k:Int)(w:World)(e:Ending)(w':World):Prop:=e=.returned (.tuple #[jf (dN k),.bool true])/\Below w.heap.size w w'
theorem BS:(Tryz.prog.info? 5).map (fun i=>(i.zero,i.size,i.bytes))=some (some (.int .u8 0),1,1):=by kernel_rfl
abbrev dY:Array Value:=#[.int .u8 0,.int .u8 0,.int .u8 0,.int .u8 0,.int .u8 0,.int .u8 0,.int .u8 0,.int .u8 0,.int .u8 0,.int .u8 0,.int .u8 0,.int .u8 0]
theorem BU(w:World):(Instr.makeSlice 133 (.int .i64 12) (.int .i64 12)).run prog w=.ok (.slice (some ⟨w.heap.size,0,none⟩) 12 12) (w.alloc (.cells dY 5)):=by
 obtain⟨j0,hj0,hz0,hz1,hz2⟩:=LM BS;have:=eV (P:=prog) 133 5 j0 (.int .u8 0) NW hj0 hz0 12 (by rw[hz2];omega) (by omega) w;rw[hz1,show((12:Nat):Int)=12 from rfl,show madeCells (Value.int .u8 0).cells (12*1)=dY from by kernel_rfl] at this;exact this
theorem vr:strOfNums [0,0,0,0,0,0,0,0,0,0,0,0]=cf:=by
 apply Me;apply Mi.1;rw[Mx];rfl
theorem BV(w:World):(convert 133 9 (.slice (some ⟨w.heap.size,0,none⟩) 12 12)).run prog (w.alloc (.cells dY 5))=.ok (.string cf) (w.alloc (.cells dY 5)):=by
 have hb:aG (w.alloc (.cells dY 5)) w.heap.size 5 dY:=aG.Ii rfl;rw[Nn (P:=prog) _ 133 5 NW Mj w.heap.size 0 12 12 [0,0,0,0,0,0,0,0,0,0,0,0] rfl (fun i hi=>?_) 9 LV,vr];rw[Jw,hb.cell];have:i=0\/i=1\/i=2\/i=3\/i=4\/i=5\/i=6\/i=7\/i=8\/i=9\/i=10\/i=11:=by omega
 rcases this with rfl|rfl|rfl|rfl|rfl|rfl|rfl|rfl|rfl|rfl|rfl|rfl<;>rfl
theorem iU(k:Int)(w:World)(h:1<=k/\k<=11)(h6:k≠6):Calls prog 69 #[.int .i64 k] w (FG k w):=by
 have hk:k=1\/k=2\/k=3\/k=4\/k=5\/k=7\/k=8\/k=9\/k=10\/k=11:=by omega
 clear h h6;have HK:=qD hk;clear hk;go_enter func69,ntmps69;obtain⟨z0,hz0⟩:∃z:PI,z=(((bG k 0 empty,gK k),(bG k 0 empty,gK k)),(true,true)):=⟨_,rfl⟩;have B0:Hid (aG ((w.alloc (.cells (aa zI) 85)).alloc (.cells (aa (((bG k 0 empty,gK k),(bG k 0 empty,gK k)),(true,true))) 85)) w.heap.size 85 (aa zI)):=(aG.Ii rfl).alloc _;have B1:Hid (aG ((w.alloc (.cells (aa zI) 85)).alloc (.cells (aa (((bG k 0 empty,gK k),(bG k 0 empty,gK k)),(true,true))) 85)) (w.heap.size+1) 85 (aa (((bG k 0 empty,gK k),(bG k 0 empty,gK k)),(true,true)))):=aG.Ii (by simp);have BE:Hid (Below w.heap.size w ((w.alloc (.cells (aa zI) 85)).alloc (.cells (aa (((bG k 0 empty,gK k),(bG k 0 empty,gK k)),(true,true))) 85))):=((Ju _ _).alloc (qL) _).alloc (by simp) _;go_upto_region 2 with fail
 change Code.wp _ _ _ _ ((w.alloc (.cells (aa zI) 85)).alloc (.cells (aa (((bG k 0 empty,gK k),(bG k 0 empty,gK k)),(true,true))) 85));have hsz:((w.alloc (.cells (aa zI) 85)).alloc (.cells (aa (((bG k 0 empty,gK k),(bG k 0 empty,gK k)),(true,true))) 85)).heap.size=w.heap.size+2:=by simp
 generalize ((w.alloc (.cells (aa zI) 85)).alloc (.cells (aa (((bG k 0 empty,gK k),(bG k 0 empty,gK k)),(true,true))) 85))=wa at*;have HSZ:=qD hsz;clear hsz;have hmk:=BU wa;have hcv:=BV wa;go_upto_region 3 with fail
 change Code.wp _ _ _ _ ((wa.alloc (.cells dY 5)).alloc (.cells (bG 8 0 cf).arr 29));have B2:Hid (aG ((wa.alloc (.cells dY 5)).alloc (.cells (bG 8 0 cf).arr 29)) (wa.heap.size+1) 29 (bG 8 0 cf).arr):=aG.Ii (by simp);replace B0:=qD ((B0.out.alloc (.cells dY 5)).alloc (.cells (bG 8 0 cf).arr 29));replace B1:=qD ((B1.out.alloc (.cells dY 5)).alloc (.cells (bG 8 0 cf).arr 29));replace BE:=qD ((BE.out.alloc BE.out.size (.cells dY 5)).alloc (by have:=BE.out.size;simp;omega) (Obj.cells (bG 8 0 cf).arr 29));have HNE:Hid (wa.heap.size+1≠w.heap.size+1):=by rw[Hid,HSZ.out];omega
 clear hmk hcv;generalize ((wa.alloc (.cells dY 5)).alloc (.cells (bG 8 0 cf).arr 29))=wb at*;clear hz0 z0;obtain⟨R,hR⟩:∃R:Array Value,R=aa (dN k):=⟨_,rfl⟩;have HR:Hid (jf (dN k)=.agg R):=by rw[hR];exact qD rfl
 have hRK:R.size=12:=by rw[hR];rfl
 have HRK:=qD hRK;have HALL:Hid (R.all (·.oneCell')=true):=by rw[Hid,hR];simp[Value.oneCell']
 have HR2:=qD hR;have z1:=B1.out.frozen;clear hR hRK;have hk:=HK.out;clear HK;rcases hk with rfl|rfl|rfl|rfl|rfl|rfl|rfl|rfl|rfl|rfl
 ·obtain⟨e0,e1,e2,e3,e4⟩:=aS.Ig B2.out;simp only[Jw] at e0 e1 e2 e3 e4;obtain⟨⟨a0,a1,a2,a3,a4⟩,⟨b0,b1,b2,b3,b4⟩,b5,b6⟩:=jb.Ig B1.out;simp only[Jw] at a0 a1 a2 a3 a4 b0 b1 b2 b3 b4 b5 b6
  go_wp2_with (first
   | ((with_reducible show wpList _ _ _ (⟨_,.load 85 _,_,_,_,_⟩::_) _ _);refine cR ?_;intro w5 hw5;have C1:Hid (aG w5 (w.heap.size+1) 85 R):=(by rw[Hid,hw5];refine aG.Iu (cs:=R) ?_;first|exact⟨_,B1.out,by rw[HR2.out];rfl⟩|exact⟨_,(aG.Ij B1.out _ _),by rw[HR2.out];rfl⟩|exact⟨_,(aG.Ij (aG.Ij B1.out _ _) _ _),by rw[HR2.out];rfl⟩);have C0:Hid (aG w5 w.heap.size 85 (aa zI)):=(by rw[Hid,hw5];(repeat' refine aG.Ip ?_ (by show w.heap.size≠w.heap.size+1;omega) _);exact B0.out);have CE:Hid (Below w.heap.size w w5):=(by rw[Hid,hw5];(repeat' refine Lr ?_ (by show w.heap.size<=w.heap.size+1;omega) _);exact BE.out);have RG:Hid (w5.rangeAt (w.heap.size+1) 0 R.toList):=br C1.out _ _ fun j v hj=>(by rw[Jw,<-hj,Kx]);clear hw5 e0 e1 e2 e3 e4 a0 a1 a2 a3 a4 b0 b1 b2 b3 b4 b5 b6 B0 B1 B2 BE z1;refine aE rfl 85 _ rfl (w.heap.size+1) 0 rfl _ _ RG.out LO rfl (by rw[LX,HRK.out];kernel_rfl) ?_)
   | ((with_reducible show wpList _ _ _ (⟨_,.store 85 _ _,_,_,_,_⟩::_) _ _);refine LD rfl 85 _ _ rfl w.heap.size R rfl rfl 85 _ C0.out (by rw[HRK.out];kernel_rfl) (by rw[HRK.out];rfl) HALL.out ?_))
  exact Jz (cS rfl _ _ rfl _ rfl _ R HRK.out (bY C0.out R)) rfl ⟨by rw[HR.out];rfl,bZ CE.out (qL) _⟩
 ·obtain⟨e0,e1,e2,e3,e4⟩:=aS.Ig B2.out;simp only[Jw] at e0 e1 e2 e3 e4;obtain⟨⟨a0,a1,a2,a3,a4⟩,⟨b0,b1,b2,b3,b4⟩,b5,b6⟩:=jb.Ig B1.out;simp only[Jw] at a0 a1 a2 a3 a4 b0 b1 b2 b3 b4 b5 b6
  go_wp2_with (first
   | ((with_reducible show wpList _ _ _ (⟨_,.load 85 _,_,_,_,_⟩::_) _ _);refine cR ?_;intro w5 hw5;have C1:Hid (aG w5 (w.heap.size+1) 85 R):=(by rw[Hid,hw5];refine aG.Iu (cs:=R) ?_;first|exact⟨_,B1.out,by rw[HR2.out];rfl⟩|exact⟨_,(aG.Ij B1.out _ _),by rw[HR2.out];rfl⟩|exact⟨_,(aG.Ij (aG.Ij B1.out _ _) _ _),by rw[HR2.out];rfl⟩);have C0:Hid (aG w5 w.heap.size 85 (aa zI)):=(by rw[Hid,hw5];(repeat' refine aG.Ip ?_ (by show w.heap.size≠w.heap.size+1;omega) _);exact B0.out);have CE:Hid (Below w.heap.size w w5):=(by rw[Hid,hw5];(repeat' refine Lr ?_ (by show w.heap.size<=w.heap.size+1;omega) _);exact BE.out);have RG:Hid (w5.rangeAt (w.heap.size+1) 0 R.toList):=br C1.out _ _ fun j v hj=>(by rw[Jw,<-hj,Kx]);clear hw5 e0 e1 e2 e3 e4 a0 a1 a2 a3 a4 b0 b1 b2 b3 b4 b5 b6 B0 B1 B2 BE z1;refine aE rfl 85 _ rfl (w.heap.size+1) 0 rfl _ _ RG.out LO rfl (by rw[LX,HRK.out];kernel_rfl) ?_)
   | ((with_reducible show wpList _ _ _ (⟨_,.store 85 _ _,_,_,_,_⟩::_) _ _);refine LD rfl 85 _ _ rfl w.heap.size R rfl rfl 85 _ C0.out (by rw[HRK.out];kernel_rfl) (by rw[HRK.out];rfl) HALL.out ?_))
  exact Jz (cS rfl _ _ rfl _ rfl _ R HRK.out (bY C0.out R)) rfl ⟨by rw[HR.out];rfl,bZ CE.out (qL) _⟩
 ·obtain⟨e0,e1,e2,e3,e4⟩:=aS.Ig B2.out;simp only[Jw] at e0 e1 e2 e3 e4;obtain⟨⟨a0,a1,a2,a3,a4⟩,⟨b0,b1,b2,b3,b4⟩,b5,b6⟩:=jb.Ig B1.out;simp only[Jw] at a0 a1 a2 a3 a4 b0 b1 b2 b3 b4 b5 b6
  go_wp2_with (first
   | ((with_reducible show wpList _ _ _ (⟨_,.load 85 _,_,_,_,_⟩::_) _ _);refine cR ?_;intro w5 hw5;have C1:Hid (aG w5 (w.heap.size+1) 85 R):=(by rw[Hid,hw5];refine aG.Iu (cs:=R) ?_;first|exact⟨_,B1.out,by rw[HR2.out];rfl⟩|exact⟨_,(aG.Ij B1.out _ _),by rw[HR2.out];rfl⟩|exact⟨_,(aG.Ij (aG.Ij B1.out _ _) _ _),by rw[HR2.out];rfl⟩);have C0:Hid (aG w5 w.heap.size 85 (aa zI)):=(by rw[Hid,hw5];(repeat' refine aG.Ip ?_ (by show w.heap.size≠w.heap.size+1;omega) _);exact B0.out);have CE:Hid (Below w.heap.size w w5):=(by rw[Hid,hw5];(repeat' refine Lr ?_ (by show w.heap.size<=w.heap.size+1;omega) _);exact BE.out);have RG:Hid (w5.rangeAt (w.heap.size+1) 0 R.toList):=br C1.out _ _ fun j v hj=>(by rw[Jw,<-hj,Kx]);clear hw5 e0 e1 e2 e3 e4 a0 a1 a2 a3 a4 b0 b1 b2 b3 b4 b5 b6 B0 B1 B2 BE z1;refine aE rfl 85 _ rfl (w.heap.size+1) 0 rfl _ _ RG.out LO rfl (by rw[LX,HRK.out];kernel_rfl) ?_)
   | ((with_reducible show wpList _ _ _ (⟨_,.store 85 _ _,_,_,_,_⟩::_) _ _);refine LD rfl 85 _ _ rfl w.heap.size R rfl rfl 85 _ C0.out (by rw[HRK.out];kernel_rfl) (by rw[HRK.out];rfl) HALL.out ?_))
  exact Jz (cS rfl _ _ rfl _ rfl _ R HRK.out (bY C0.out R)) rfl ⟨by rw[HR.out];rfl,bZ CE.out (qL) _⟩
 ·obtain⟨e0,e1,e2,e3,e4⟩:=aS.Ig B2.out;simp only[Jw] at e0 e1 e2 e3 e4;obtain⟨⟨a0,a1,a2,a3,a4⟩,⟨b0,b1,b2,b3,b4⟩,b5,b6⟩:=jb.Ig B1.out;simp only[Jw] at a0 a1 a2 a3 a4 b0 b1 b2 b3 b4 b5 b6
  go_wp2_with (first
   | ((with_reducible show wpList _ _ _ (⟨_,.store 29 _ _,_,_,_,_⟩::_) _ _);refine kp (c:=(bG 5 0 empty)) rfl _ _ rfl rfl rfl B1.out B0.out B2.out BE.out (by omega) HNE.out (by omega) (gK 5) ?_;intro w6 hB1 hB0 hB2 hBE;clear B0 B1 B2 BE e0 e1 e2 e3 e4 a0 a1 a2 a3 a4 b0 b1 b2 b3 b4 b5 b6 z1;have B0:=qD hB0;have B1:=qD hB1;have B2:=qD hB2;have BE:=qD hBE;clear hB0 hB1 hB2 hBE;have z1:=B1.out.frozen;obtain⟨e0,e1,e2,e3,e4⟩:=aS.Ig B2.out;simp only[Jw] at e0 e1 e2 e3 e4;obtain⟨⟨a0,a1,a2,a3,a4⟩,⟨b0,b1,b2,b3,b4⟩,b5,b6⟩:=jb.Ig B1.out;simp only[Jw] at a0 a1 a2 a3 a4 b0 b1 b2 b3 b4 b5 b6)
   | ((with_reducible show wpList _ _ _ (⟨_,.load 85 _,_,_,_,_⟩::_) _ _);refine cR ?_;intro w5 hw5;have C1:Hid (aG w5 (w.heap.size+1) 85 R):=(by rw[Hid,hw5];refine aG.Iu (cs:=R) ?_;first|exact⟨_,B1.out,by rw[HR2.out];rfl⟩|exact⟨_,(aG.Ij B1.out _ _),by rw[HR2.out];rfl⟩|exact⟨_,(aG.Ij (aG.Ij B1.out _ _) _ _),by rw[HR2.out];rfl⟩);have C0:Hid (aG w5 w.heap.size 85 (aa zI)):=(by rw[Hid,hw5];(repeat' refine aG.Ip ?_ (by show w.heap.size≠w.heap.size+1;omega) _);exact B0.out);have CE:Hid (Below w.heap.size w w5):=(by rw[Hid,hw5];(repeat' refine Lr ?_ (by show w.heap.size<=w.heap.size+1;omega) _);exact BE.out);have RG:Hid (w5.rangeAt (w.heap.size+1) 0 R.toList):=br C1.out _ _ fun j v hj=>(by rw[Jw,<-hj,Kx]);clear hw5 e0 e1 e2 e3 e4 a0 a1 a2 a3 a4 b0 b1 b2 b3 b4 b5 b6 B0 B1 B2 BE z1;refine aE rfl 85 _ rfl (w.heap.size+1) 0 rfl _ _ RG.out LO rfl (by rw[LX,HRK.out];kernel_rfl) ?_)
   | ((with_reducible show wpList _ _ _ (⟨_,.store 85 _ _,_,_,_,_⟩::_) _ _);refine LD rfl 85 _ _ rfl w.heap.size R rfl rfl 85 _ C0.out (by rw[HRK.out];kernel_rfl) (by rw[HRK.out];rfl) HALL.out ?_))
  exact Jz (cS rfl _ _ rfl _ rfl _ R HRK.out (bY C0.out R)) rfl ⟨by rw[HR.out];rfl,bZ CE.out (qL) _⟩
 ·obtain⟨e0,e1,e2,e3,e4⟩:=aS.Ig B2.out;simp only[Jw] at e0 e1 e2 e3 e4;obtain⟨⟨a0,a1,a2,a3,a4⟩,⟨b0,b1,b2,b3,b4⟩,b5,b6⟩:=jb.Ig B1.out;simp only[Jw] at a0 a1 a2 a3 a4 b0 b1 b2 b3 b4 b5 b6
  go_wp2_with (first
   | ((with_reducible show wpList _ _ _ (⟨_,.store 29 _ _,_,_,_,_⟩::_) _ _);refine kp (c:=(bG 6 0 empty)) rfl _ _ rfl rfl rfl B1.out B0.out B2.out BE.out (by omega) HNE.out (by omega) (gK 6) ?_;intro w6 hB1 hB0 hB2 hBE;clear B0 B1 B2 BE e0 e1 e2 e3 e4 a0 a1 a2 a3 a4 b0 b1 b2 b3 b4 b5 b6 z1;have B0:=qD hB0;have B1:=qD hB1;have B2:=qD hB2;have BE:=qD hBE;clear hB0 hB1 hB2 hBE;have z1:=B1.out.frozen;obtain⟨e0,e1,e2,e3,e4⟩:=aS.Ig B2.out;simp only[Jw] at e0 e1 e2 e3 e4;obtain⟨⟨a0,a1,a2,a3,a4⟩,⟨b0,b1,b2,b3,b4⟩,b5,b6⟩:=jb.Ig B1.out;simp only[Jw] at a0 a1 a2 a3 a4 b0 b1 b2 b3 b4 b5 b6)
   | ((with_reducible show wpList _ _ _ (⟨_,.load 85 _,_,_,_,_⟩::_) _ _);refine cR ?_;intro w5 hw5;have C1:Hid (aG w5 (w.heap.size+1) 85 R):=(by rw[Hid,hw5];refine aG.Iu (cs:=R) ?_;first|exact⟨_,B1.out,by rw[HR2.out];rfl⟩|exact⟨_,(aG.Ij B1.out _ _),by rw[HR2.out];rfl⟩|exact⟨_,(aG.Ij (aG.Ij B1.out _ _) _ _),by rw[HR2.out];rfl⟩);have C0:Hid (aG w5 w.heap.size 85 (aa zI)):=(by rw[Hid,hw5];(repeat' refine aG.Ip ?_ (by show w.heap.size≠w.heap.size+1;omega) _);exact B0.out);have CE:Hid (Below w.heap.size w w5):=(by rw[Hid,hw5];(repeat' refine Lr ?_ (by show w.heap.size<=w.heap.size+1;omega) _);exact BE.out);have RG:Hid (w5.rangeAt (w.heap.size+1) 0 R.toList):=br C1.out _ _ fun j v hj=>(by rw[Jw,<-hj,Kx]);clear hw5 e0 e1 e2 e3 e4 a0 a1 a2 a3 a4 b0 b1 b2 b3 b4 b5 b6 B0 B1 B2 BE z1;refine aE rfl 85 _ rfl (w.heap.size+1) 0 rfl _ _ RG.out LO rfl (by rw[LX,HRK.out];kernel_rfl) ?_)
   | ((with_reducible show wpList _ _ _ (⟨_,.store 85 _ _,_,_,_,_⟩::_) _ _);refine LD rfl 85 _ _ rfl w.heap.size R rfl rfl 85 _ C0.out (by rw[HRK.out];kernel_rfl) (by rw[HRK.out];rfl) HALL.out ?_))
  exact Jz (cS rfl _ _ rfl _ rfl _ R HRK.out (bY C0.out R)) rfl ⟨by rw[HR.out];rfl,bZ CE.out (qL) _⟩
 ·obtain⟨e0,e1,e2,e3,e4⟩:=aS.Ig B2.out;simp only[Jw] at e0 e1 e2 e3 e4;obtain⟨⟨a0,a1,a2,a3,a4⟩,⟨b0,b1,b2,b3,b4⟩,b5,b6⟩:=jb.Ig B1.out;simp only[Jw] at a0 a1 a2 a3 a4 b0 b1 b2 b3 b4 b5 b6
  go_wp2_with (first
   | ((with_reducible show wpList _ _ _ (⟨_,.store 29 _ _,_,_,_,_⟩::_) _ _);refine kp (c:=(bG 8 0 cf)) rfl _ _ rfl rfl rfl B1.out B0.out B2.out BE.out (by omega) HNE.out (by omega) (.mk 8 0 cf [] []) ?_;intro w6 hB1 hB0 hB2 hBE;clear B0 B1 B2 BE e0 e1 e2 e3 e4 a0 a1 a2 a3 a4 b0 b1 b2 b3 b4 b5 b6 z1;have B0:=qD hB0;have B1:=qD hB1;have B2:=qD hB2;have BE:=qD hBE;clear hB0 hB1 hB2 hBE;have z1:=B1.out.frozen;obtain⟨e0,e1,e2,e3,e4⟩:=aS.Ig B2.out;simp only[Jw] at e0 e1 e2 e3 e4;obtain⟨⟨a0,a1,a2,a3,a4⟩,⟨b0,b1,b2,b3,b4⟩,b5,b6⟩:=jb.Ig B1.out;simp only[Jw] at a0 a1 a2 a3 a4 b0 b1 b2 b3 b4 b5 b6)
   | ((with_reducible show wpList _ _ _ (⟨_,.load 85 _,_,_,_,_⟩::_) _ _);refine cR ?_;intro w5 hw5;have C1:Hid (aG w5 (w.heap.size+1) 85 R):=(by rw[Hid,hw5];refine aG.Iu (cs:=R) ?_;first|exact⟨_,B1.out,by rw[HR2.out];rfl⟩|exact⟨_,(aG.Ij B1.out _ _),by rw[HR2.out];rfl⟩|exact⟨_,(aG.Ij (aG.Ij B1.out _ _) _ _),by rw[HR2.out];rfl⟩);have C0:Hid (aG w5 w.heap.size 85 (aa zI)):=(by rw[Hid,hw5];(repeat' refine aG.Ip ?_ (by show w.heap.size≠w.heap.size+1;omega) _);exact B0.out);have CE:Hid (Below w.heap.size w w5):=(by rw[Hid,hw5];(repeat' refine Lr ?_ (by show w.heap.size<=w.heap.size+1;omega) _);exact BE.out);have RG:Hid (w5.rangeAt (w.heap.size+1) 0 R.toList):=br C1.out _ _ fun j v hj=>(by rw[Jw,<-hj,Kx]);clear hw5 e0 e1 e2 e3 e4 a0 a1 a2 a3 a4 b0 b1 b2 b3 b4 b5 b6 B0 B1 B2 BE z1;refine aE rfl 85 _ rfl (w.heap.size+1) 0 rfl _ _ RG.out LO rfl (by rw[LX,HRK.out];kernel_rfl) ?_)
   | ((with_reducible show wpList _ _ _ (⟨_,.store 85 _ _,_,_,_,_⟩::_) _ _);refine LD rfl 85 _ _ rfl w.heap.size R rfl rfl 85 _ C0.out (by rw[HRK.out];kernel_rfl) (by rw[HRK.out];rfl) HALL.out ?_))
  exact Jz (cS rfl _ _ rfl _ rfl _ R HRK.out (bY C0.out R)) rfl ⟨by rw[HR.out];rfl,bZ CE.out (qL) _⟩
 ·obtain⟨e0,e1,e2,e3,e4⟩:=aS.Ig B2.out;simp only[Jw] at e0 e1 e2 e3 e4;obtain⟨⟨a0,a1,a2,a3,a4⟩,⟨b0,b1,b2,b3,b4⟩,b5,b6⟩:=jb.Ig B1.out;simp only[Jw] at a0 a1 a2 a3 a4 b0 b1 b2 b3 b4 b5 b6
  go_wp2_with (first
   | ((with_reducible show wpList _ _ _ (⟨_,.store 29 _ _,_,_,_,_⟩::_) _ _);refine zO (c:=(bG 8 0 cf)) rfl _ _ rfl rfl rfl B1.out B0.out B2.out BE.out (by omega) HNE.out (by omega) (.mk 8 0 cf [] []) ?_;intro w6 hB1 hB0 hB2 hBE;clear B0 B1 B2 BE e0 e1 e2 e3 e4 a0 a1 a2 a3 a4 b0 b1 b2 b3 b4 b5 b6 z1;have B0:=qD hB0;have B1:=qD hB1;have B2:=qD hB2;have BE:=qD hBE;clear hB0 hB1 hB2 hBE;have z1:=B1.out.frozen;obtain⟨e0,e1,e2,e3,e4⟩:=aS.Ig B2.out;simp only[Jw] at e0 e1 e2 e3 e4;obtain⟨⟨a0,a1,a2,a3,a4⟩,⟨b0,b1,b2,b3,b4⟩,b5,b6⟩:=jb.Ig B1.out;simp only[Jw] at a0 a1 a2 a3 a4 b0 b1 b2 b3 b4 b5 b6)
   | ((with_reducible show wpList _ _ _ (⟨_,.store 29 _ _,_,_,_,_⟩::_) _ _);refine kp (c:=(bG 9 0 empty)) rfl _ _ rfl rfl rfl B1.out B0.out B2.out BE.out (by omega) HNE.out (by omega) (gK 9) ?_;intro w6 hB1 hB0 hB2 hBE;clear B0 B1 B2 BE e0 e1 e2 e3 e4 a0 a1 a2 a3 a4 b0 b1 b2 b3 b4 b5 b6 z1;have B0:=qD hB0;have B1:=qD hB1;have B2:=qD hB2;have BE:=qD hBE;clear hB0 hB1 hB2 hBE;have z1:=B1.out.frozen;obtain⟨e0,e1,e2,e3,e4⟩:=aS.Ig B2.out;simp only[Jw] at e0 e1 e2 e3 e4;obtain⟨⟨a0,a1,a2,a3,a4⟩,⟨b0,b1,b2,b3,b4⟩,b5,b6⟩:=jb.Ig B1.out;simp only[Jw] at a0 a1 a2 a3 a4 b0 b1 b2 b3 b4 b5 b6)
   | ((with_reducible show wpList _ _ _ (⟨_,.load 85 _,_,_,_,_⟩::_) _ _);refine cR ?_;intro w5 hw5;have C1:Hid (aG w5 (w.heap.size+1) 85 R):=(by rw[Hid,hw5];refine aG.Iu (cs:=R) ?_;first|exact⟨_,B1.out,by rw[HR2.out];rfl⟩|exact⟨_,(aG.Ij B1.out _ _),by rw[HR2.out];rfl⟩|exact⟨_,(aG.Ij (aG.Ij B1.out _ _) _ _),by rw[HR2.out];rfl⟩);have C0:Hid (aG w5 w.heap.size 85 (aa zI)):=(by rw[Hid,hw5];(repeat' refine aG.Ip ?_ (by show w.heap.size≠w.heap.size+1;omega) _);exact B0.out);have CE:Hid (Below w.heap.size w w5):=(by rw[Hid,hw5];(repeat' refine Lr ?_ (by show w.heap.size<=w.heap.size+1;omega) _);exact BE.out);have RG:Hid (w5.rangeAt (w.heap.size+1) 0 R.toList):=br C1.out _ _ fun j v hj=>(by rw[Jw,<-hj,Kx]);clear hw5 e0 e1 e2 e3 e4 a0 a1 a2 a3 a4 b0 b1 b2 b3 b4 b5 b6 B0 B1 B2 BE z1;refine aE rfl 85 _ rfl (w.heap.size+1) 0 rfl _ _ RG.out LO rfl (by rw[LX,HRK.out];kernel_rfl) ?_)
   | ((with_reducible show wpList _ _ _ (⟨_,.store 85 _ _,_,_,_,_⟩::_) _ _);refine LD rfl 85 _ _ rfl w.heap.size R rfl rfl 85 _ C0.out (by rw[HRK.out];kernel_rfl) (by rw[HRK.out];rfl) HALL.out ?_))
  exact Jz (cS rfl _ _ rfl _ rfl _ R HRK.out (bY C0.out R)) rfl ⟨by rw[HR.out];rfl,bZ CE.out (qL) _⟩
 ·obtain⟨e0,e1,e2,e3,e4⟩:=aS.Ig B2.out;simp only[Jw] at e0 e1 e2 e3 e4;obtain⟨⟨a0,a1,a2,a3,a4⟩,⟨b0,b1,b2,b3,b4⟩,b5,b6⟩:=jb.Ig B1.out;simp only[Jw] at a0 a1 a2 a3 a4 b0 b1 b2 b3 b4 b5 b6
  go_wp2_with (first
   | ((with_reducible show wpList _ _ _ (⟨_,.load 85 _,_,_,_,_⟩::_) _ _);refine cR ?_;intro w5 hw5;have C1:Hid (aG w5 (w.heap.size+1) 85 R):=(by rw[Hid,hw5];refine aG.Iu (cs:=R) ?_;first|exact⟨_,B1.out,by rw[HR2.out];rfl⟩|exact⟨_,(aG.Ij B1.out _ _),by rw[HR2.out];rfl⟩|exact⟨_,(aG.Ij (aG.Ij B1.out _ _) _ _),by rw[HR2.out];rfl⟩);have C0:Hid (aG w5 w.heap.size 85 (aa zI)):=(by rw[Hid,hw5];(repeat' refine aG.Ip ?_ (by show w.heap.size≠w.heap.size+1;omega) _);exact B0.out);have CE:Hid (Below w.heap.size w w5):=(by rw[Hid,hw5];(repeat' refine Lr ?_ (by show w.heap.size<=w.heap.size+1;omega) _);exact BE.out);have RG:Hid (w5.rangeAt (w.heap.size+1) 0 R.toList):=br C1.out _ _ fun j v hj=>(by rw[Jw,<-hj,Kx]);clear hw5 e0 e1 e2 e3 e4 a0 a1 a2 a3 a4 b0 b1 b2 b3 b4 b5 b6 B0 B1 B2 BE z1;refine aE rfl 85 _ rfl (w.heap.size+1) 0 rfl _ _ RG.out LO rfl (by rw[LX,HRK.out];kernel_rfl) ?_)
   | ((with_reducible show wpList _ _ _ (⟨_,.store 85 _ _,_,_,_,_⟩::_) _ _);refine LD rfl 85 _ _ rfl w.heap.size R rfl rfl 85 _ C0.out (by rw[HRK.out];kernel_rfl) (by rw[HRK.out];rfl) HALL.out ?_))
  exact Jz (cS rfl _ _ rfl _ rfl _ R HRK.out (bY C0.out R)) rfl ⟨by rw[HR.out];rfl,bZ CE.out (qL) _⟩
 ·obtain⟨e0,e1,e2,e3,e4⟩:=aS.Ig B2.out;simp only[Jw] at e0 e1 e2 e3 e4;obtain⟨⟨a0,a1,a2,a3,a4⟩,⟨b0,b1,b2,b3,b4⟩,b5,b6⟩:=jb.Ig B1.out;simp only[Jw] at a0 a1 a2 a3 a4 b0 b1 b2 b3 b4 b5 b6
  go_wp2_with (first
   | ((with_reducible show wpList _ _ _ (⟨_,.load 85 _,_,_,_,_⟩::_) _ _);refine cR ?_;intro w5 hw5;have C1:Hid (aG w5 (w.heap.size+1) 85 R):=(by rw[Hid,hw5];refine aG.Iu (cs:=R) ?_;first|exact⟨_,B1.out,by rw[HR2.out];rfl⟩|exact⟨_,(aG.Ij B1.out _ _),by rw[HR2.out];rfl⟩|exact⟨_,(aG.Ij (aG.Ij B1.out _ _) _ _),by rw[HR2.out];rfl⟩);have C0:Hid (aG w5 w.heap.size 85 (aa zI)):=(by rw[Hid,hw5];(repeat' refine aG.Ip ?_ (by show w.heap.size≠w.heap.size+1;omega) _);exact B0.out);have CE:Hid (Below w.heap.size w w5):=(by rw[Hid,hw5];(repeat' refine Lr ?_ (by show w.heap.size<=w.heap.size+1;omega) _);exact BE.out);have RG:Hid (w5.rangeAt (w.heap.size+1) 0 R.toList):=br C1.out _ _ fun j v hj=>(by rw[Jw,<-hj,Kx]);clear hw5 e0 e1 e2 e3 e4 a0 a1 a2 a3 a4 b0 b1 b2 b3 b4 b5 b6 B0 B1 B2 BE z1;refine aE rfl 85 _ rfl (w.heap.size+1) 0 rfl _ _ RG.out LO rfl (by rw[LX,HRK.out];kernel_rfl) ?_)
   | ((with_reducible show wpList _ _ _ (⟨_,.store 85 _ _,_,_,_,_⟩::_) _ _);refine LD rfl 85 _ _ rfl w.heap.size R rfl rfl 85 _ C0.out (by rw[HRK.out];kernel_rfl) (by rw[HRK.out];rfl) HALL.out ?_))
  exact Jz (cS rfl _ _ rfl _ rfl _ R HRK.out (bY C0.out R)) rfl ⟨by rw[HR.out];rfl,bZ CE.out (qL) _⟩
 ·obtain⟨e0,e1,e2,e3,e4⟩:=aS.Ig B2.out;simp only[Jw] at e0 e1 e2 e3 e4;obtain⟨⟨a0,a1,a2,a3,a4⟩,⟨b0,b1,b2,b3,b4⟩,b5,b6⟩:=jb.Ig B1.out;simp only[Jw] at a0 a1 a2 a3 a4 b0 b1 b2 b3 b4 b5 b6
  go_wp2_with (first
   | ((with_reducible show wpList _ _ _ (⟨_,.load 85 _,_,_,_,_⟩::_) _ _);refine cR ?_;intro w5 hw5;have C1:Hid (aG w5 (w.heap.size+1) 85 R):=(by rw[Hid,hw5];refine aG.Iu (cs:=R) ?_;first|exact⟨_,B1.out,by rw[HR2.out];rfl⟩|exact⟨_,(aG.Ij B1.out _ _),by rw[HR2.out];rfl⟩|exact⟨_,(aG.Ij (aG.Ij B1.out _ _) _ _),by rw[HR2.out];rfl⟩);have C0:Hid (aG w5 w.heap.size 85 (aa zI)):=(by rw[Hid,hw5];(repeat' refine aG.Ip ?_ (by show w.heap.size≠w.heap.size+1;omega) _);exact B0.out);have CE:Hid (Below w.heap.size w w5):=(by rw[Hid,hw5];(repeat' refine Lr ?_ (by show w.heap.size<=w.heap.size+1;omega) _);exact BE.out);have RG:Hid (w5.rangeAt (w.heap.size+1) 0 R.toList):=br C1.out _ _ fun j v hj=>(by rw[Jw,<-hj,Kx]);clear hw5 e0 e1 e2 e3 e4 a0 a1 a2 a3 a4 b0 b1 b2 b3 b4 b5 b6 B0 B1 B2 BE z1;refine aE rfl 85 _ rfl (w.heap.size+1) 0 rfl _ _ RG.out LO rfl (by rw[LX,HRK.out];kernel_rfl) ?_)
   | ((with_reducible show wpList _ _ _ (⟨_,.store 85 _ _,_,_,_,_⟩::_) _ _);refine LD rfl 85 _ _ rfl w.heap.size R rfl rfl 85 _ C0.out (by rw[HRK.out];kernel_rfl) (by rw[HRK.out];rfl) HALL.out ?_))
  exact Jz (cS rfl _ _ rfl _ rfl _ R HRK.out (bY C0.out R)) rfl ⟨by rw[HR.out];rfl,bZ CE.out (qL) _⟩
theorem om(x y:aC)(c d:VC)(w:World)(h:RW w c x)(h':RW w d y):Calls prog 39 #[c.val,d.val] w fun e w'=>e=.returned (.bool (aY x y==0))/\Below w.heap.size w w':=by
 have H:=qD h;have H':=qD h';clear h h';go_enter func39,ntmps39;go_wp2_with fail;refine(yz x y c d _ ((H.out.alloc _).alloc _) ((H'.out.alloc _).alloc _)).mono ?_;rintro e w1 ⟨rfl,hb⟩;go_wp2_with fail;go_ret;exact⟨rfl,(((Ju _ _).alloc (qL) _).alloc (by simp) _).Ih hb⟩
def lU(x y:Iv):Bool:=(x.li==y.li)&&((x.hin==y.hin)&&((aY x.lo y.lo==0)&&(aY x.hi y.hi==0)))
def cD:List Iv->List Iv->Bool
 | [],[]=>true
 | x::r,y::s=>lU x y&&cD r s
 | _,_=>false
theorem na:∀{l m:List Iv},l.length≠m.length->cD l m=false
 | [],[],h=>absurd rfl h
 | [],_::_,_=>rfl
 | _::_,[],_=>rfl
 | x::r,y::s,h=>by rw[cD,na (by simpa using h),OF]
theorem vt{l m:List Iv}{i:Nat}{x y:Iv}(hx:l[i]?=some x)(hy:m[i]?=some y):cD (l.drop i) (m.drop i)=(lU x y&&cD (l.drop (i+1)) (m.drop (i+1))):=by rw[dX hx,dX hy,cD]
theorem tt{l m:List Iv}{i:Nat}(h1:l.length<=i)(h2:m.length<=i):cD (l.drop i) (m.drop i)=true:=by rw[Kk h1,Kk h2];rfl
theorem vu{s t:cy×cy}(hs:je s.1/\je s.2)(ht:je t.1/\je t.2):lU (fG s) (fG t)=true↔s=t:=by
 obtain⟨⟨a,b⟩,⟨c,d⟩⟩:=s;obtain⟨⟨a',b'⟩,⟨c',d'⟩⟩:=t;unfold lU fG;simp only[Kz,MS];constructor
 ·rintro⟨h1,h2,h3,h4⟩;have e1:a=a':=congrArg Prod.fst (ee.eq (a,false) (a',false) hs.1 ht.1 ((dg h3).trans rfl));have e2:c=c':=congrArg Prod.fst (ee.eq (c,false) (c',false) hs.2 ht.2 ((dg h4).trans rfl));have e3:b=b':=by cases b<;>cases b'<;>simp at h1 ⊢
  rw[e1,e2,e3,h2]
 ·intro e;simp only[OQ] at e;obtain⟨⟨rfl,rfl⟩,⟨rfl,rfl⟩⟩:=e;have z:∀v:aC,aY v v=0:=fun v=>by have:=eS v v;omega
  exact⟨rfl,rfl,z _,z _⟩
theorem jy:∀{n m:List (cy×cy)},(∀s∈n,je s.1/\je s.2)->(∀s∈m,je s.1/\je s.2)->(cD (n.map fG) (m.map fG)=true↔n=m)
 | [],[],_,_=>by simp[cD]
 | [],_::_,_,_=>by simp[cD]
 | _::_,[],_,_=>by simp[cD]
 | s::r,t::q,h1,h2=>by
  simp only[Lv,cD,Kz];rw[vu (h1 s (by simp)) (h2 t (by simp)),jy (fun x hx=>h1 x (by simp[hx])) (fun x hx=>h2 x (by simp[hx])),Ln]
theorem tu(p q:PI)(w:World)(hp:qe w p)(hq:qe w q):Calls prog 242 #[jf p,jf q] w fun e w'=>e=.returned (.bool (lU (cB p) (cB q)))/\Below w.heap.size w w':=by
 have HK1:Hid (∀wr,Below w.heap.size w wr->Calls prog 39 #[p.1.1.1.val,q.1.1.1.val] wr fun e w'=>e=.returned (.bool (aY p.1.1.2 q.1.1.2==0))/\Below wr.heap.size wr w'):=qD fun wr hb=>om _ _ _ _ wr (hp.1.step hb) (hq.1.step hb);have HK2:Hid (∀wr,Below w.heap.size w wr->Calls prog 39 #[p.1.2.1.val,q.1.2.1.val] wr fun e w'=>e=.returned (.bool (aY p.1.2.2 q.1.2.2==0))/\Below wr.heap.size wr w'):=qD fun wr hb=>om _ _ _ _ wr (hp.2.step hb) (hq.2.step hb);have HS:Hid (lU (cB p) (cB q)=((p.2.1==q.2.1)&&((p.2.2==q.2.2)&&((aY p.1.1.2 q.1.1.2==0)&&(aY p.1.2.2 q.1.2.2==0))))):=qD rfl;obtain⟨z1,hz1⟩:∃z,z=(aY p.1.1.2 q.1.1.2==0):=⟨_,rfl⟩;obtain⟨z2,hz2⟩:∃z,z=(aY p.1.2.2 q.1.2.2==0):=⟨_,rfl⟩;rw[<-hz1] at HK1 HS;rw[<-hz2] at HK2 HS;clear hz1 hz2 hp hq;obtain⟨⟨⟨c1,x1⟩,⟨c2,x2⟩⟩,⟨f1,f2⟩⟩:=p;obtain⟨⟨⟨e1,y1⟩,⟨e2,y2⟩⟩,⟨g1,g2⟩⟩:=q;have B0:Hid (aG ((w.alloc (.cells (aa (((c1,x1),(c2,x2)),(f1,f2))) 85)).alloc (.cells (aa (((e1,y1),(e2,y2)),(g1,g2))) 85)) w.heap.size 85 (aa (((c1,x1),(c2,x2)),(f1,f2)))):=(aG.Ii rfl).alloc _;have B1:Hid (aG ((w.alloc (.cells (aa (((c1,x1),(c2,x2)),(f1,f2))) 85)).alloc (.cells (aa (((e1,y1),(e2,y2)),(g1,g2))) 85)) (w.heap.size+1) 85 (aa (((e1,y1),(e2,y2)),(g1,g2)))):=aG.Ii (by simp);have BE:Hid (Below w.heap.size w ((w.alloc (.cells (aa (((c1,x1),(c2,x2)),(f1,f2))) 85)).alloc (.cells (aa (((e1,y1),(e2,y2)),(g1,g2))) 85))):=((Ju _ _).alloc (qL) _).alloc (by simp) _;go_enter func242,ntmps242;go_upto_region 1 with fail
 change Code.wp _ _ _ _ ((w.alloc (.cells (aa (((c1,x1),(c2,x2)),(f1,f2))) 85)).alloc (.cells (aa (((e1,y1),(e2,y2)),(g1,g2))) 85));generalize ((w.alloc (.cells (aa (((c1,x1),(c2,x2)),(f1,f2))) 85)).alloc (.cells (aa (((e1,y1),(e2,y2)),(g1,g2))) 85))=wa at*;obtain⟨⟨a0,a1,a2,a3,a4⟩,⟨b0,b1,b2,b3,b4⟩,b5,b6⟩:=jb.Ig B0.out;obtain⟨⟨c0,c3,c4,c5,c6⟩,⟨d0,d1,d2,d3,d4⟩,d5,d6⟩:=jb.Ig B1.out;simp only[Jw] at a0 a1 a2 a3 a4 b0 b1 b2 b3 b4 b5 b6 c0 c3 c4 c5 c6 d0 d1 d2 d3 d4 d5 d6;obtain⟨u1,hu1⟩:∃u,u=(f1==g1):=⟨_,rfl⟩;obtain⟨u2,hu2⟩:∃u,u=(f2==g2):=⟨_,rfl⟩;simp only at HS;rw[<-hu1,<-hu2] at HS;replace hu1:=hu1.symm;replace hu2:=hu2.symm;cases u1
 ·go_wp2_with fail;go_ret;exact⟨by rw[HS.out];rfl,BE.out⟩
 cases u2
 ·go_wp2_with fail;go_ret;exact⟨by rw[HS.out];rfl,BE.out⟩
 go_wp2_with (fail);refine(HK1.out _ BE.out).mono ?_;rintro e w1 ⟨rfl,hb⟩;replace B0:=qD (B0.out.step hb);replace B1:=qD (B1.out.step hb);replace BE:=qD (BE.out.Ih hb);clear hb a0 a1 a2 a3 a4 b0 b1 b2 b3 b4 b5 b6 c0 c3 c4 c5 c6 d0 d1 d2 d3 d4 d5 d6;obtain⟨⟨a0,a1,a2,a3,a4⟩,⟨b0,b1,b2,b3,b4⟩,b5,b6⟩:=jb.Ig B0.out;obtain⟨⟨c0,c3,c4,c5,c6⟩,⟨d0,d1,d2,d3,d4⟩,d5,d6⟩:=jb.Ig B1.out;simp only[Jw] at a0 a1 a2 a3 a4 b0 b1 b2 b3 b4 b5 b6 c0 c3 c4 c5 c6 d0 d1 d2 d3 d4 d5 d6;cases z1
 ·go_wp2_with fail;go_ret;exact⟨by rw[HS.out];rfl,BE.out⟩
 go_wp2_with (fail);refine(HK2.out _ BE.out).mono ?_;rintro e w1 ⟨rfl,hb⟩;replace BE:=qD (BE.out.Ih hb);clear hb a0 a1 a2 a3 a4 b0 b1 b2 b3 b4 b5 b6 c0 c3 c4 c5 c6 d0 d1 d2 d3 d4 d5 d6;go_wp2_with fail;go_ret;exact⟨by rw[HS.out];rfl,BE.out⟩
theorem zP(xs ys:List PI)(A B:Option Addr)(n c m d:Nat)(w:World)(h:SI w A n c xs)(h':SI w B m d ys):
 Calls prog 241 #[.slice A n c,.slice B m d,.func (.func 242) #[] #[]] w fun e w'=>e=.returned (.bool (cD (xs.map cB) (ys.map cB)))/\Below w.heap.size w w':=by
 have hz:n<=140737488355328:=by have:=h.sz;unfold aH at this;omega
 have hk:m<=140737488355328:=by have:=h'.sz;unfold aH at this;omega
 have H:=qD h;have H':=qD h';clear h h';by_cases hnk:n=m
 ·subst hnk;go_enter func241,ntmps241;go_upto_region 4 with fail
  go_loopw [17] (fun v wr=>∃i:Nat,i<=n/\v=.int .i64 i/\cD (xs.map cB) (ys.map cB)=cD ((xs.map cB).drop i) ((ys.map cB).drop i)/\Below w.heap.size w wr) (fun v _=>n-(intOf v).toNat)
  ·exact⟨0,KD _,rfl,rfl,Ju _ _⟩
  case round=>
   obtain⟨i,hi,rfl,ha,hbel⟩:=hrel;have HA:=qD ha;have HB:=qD hbel;clear ha hbel;by_cases hlt:i<n
   ·obtain⟨p,hp⟩:∃p,xs[i]?=some p:=⟨_,Jv (by have:=H.out.sr.ln;omega)⟩;obtain⟨q,hq⟩:∃q,ys[i]?=some q:=⟨_,Jv (by have:=H'.out.sr.ln;omega)⟩;obtain⟨b,off,rfl,hb,hat,hok⟩:=H.out.at hp;obtain⟨b',off',rfl,hb',hat',hok'⟩:=H'.out.at hq;have HX:=qD (vt (l:=xs.map cB) (m:=ys.map cB) (i:=i) (x:=cB p) (y:=cB q) (by rw[KP,hp];rfl) (by rw[KP,hq];rfl));have HC:=qD fun wz (hz:Below w.heap.size w wz)=>tu p q wz (hok.step hz) (hok'.step hz);obtain⟨⟨a0,a1,a2,a3,a4⟩,⟨b0,b1,b2,b3,b4⟩,b5,b6⟩:=hat.keep (HB.out.block b hb);go_upto_region 6 with fail
    change Code.wp _ _ _ _ (wr.alloc (.cells (aa p) 85));have B0:Hid (aG (wr.alloc (.cells (aa p) 85)) wr.heap.size 85 (aa p)):=aG.Ii rfl;have BE:Hid (Below w.heap.size w (wr.alloc (.cells (aa p) 85))):=HB.out.alloc HB.out.size _;have hat2:=hat'.keep (w':=wr.alloc (.cells (aa p) 85)) (BE.out.block b' hb');generalize hwz:wr.alloc (.cells (aa p) 85)=wz at*;clear hwz a0 a1 a2 a3 a4 b0 b1 b2 b3 b4 b5 b6;obtain⟨⟨c0,c3,c4,c5,c6⟩,⟨d0,d1,d2,d3,d4⟩,d5,d6⟩:=hat2;clear hat hat' hok hok' hp hq;generalize wr.heap.size=gz at*;go_upto_region 7 with fail
    change Code.wp _ _ _ _ (wz.alloc (.cells (aa q) 85));have B1:Hid (aG (wz.alloc (.cells (aa q) 85)) wz.heap.size 85 (aa q)):=aG.Ii rfl;replace B0:=qD (B0.out.alloc (.cells (aa q) 85));replace BE:=qD (BE.out.alloc BE.out.size (Obj.cells (aa q) 85));generalize wz.alloc (.cells (aa q) 85)=wa at*;clear c0 c3 c4 c5 c6 d0 d1 d2 d3 d4 d5 d6;obtain⟨⟨a0,a1,a2,a3,a4⟩,⟨b0,b1,b2,b3,b4⟩,b5,b6⟩:=jb.Ig B0.out;obtain⟨⟨c0,c3,c4,c5,c6⟩,⟨d0,d1,d2,d3,d4⟩,d5,d6⟩:=jb.Ig B1.out;simp only[Jw] at a0 a1 a2 a3 a4 b0 b1 b2 b3 b4 b5 b6 c0 c3 c4 c5 c6 d0 d1 d2 d3 d4 d5 d6;generalize wz.heap.size=gy at*;go_wp2_with fail;refine(HC.out _ BE.out).mono ?_;rintro e w1 ⟨rfl,hb1⟩;have CE:=qD (BE.out.Ih hb1);clear hb1 a0 a1 a2 a3 a4 b0 b1 b2 b3 b4 b5 b6 c0 c3 c4 c5 c6 d0 d1 d2 d3 d4 d5 d6;obtain⟨z,hz'⟩:∃z,z=lU (cB p) (cB q):=⟨_,rfl⟩;rw[<-hz'] at HX ⊢;clear hz';cases z
    ·have HF:Hid (cD (xs.map cB) (ys.map cB)=false):=by rw[Hid,HA.out,HX.out];rfl
     go_wp2_with fail;go_ret;exact⟨by rw[HF.out];rfl,CE.out⟩
    ·have HF:Hid (cD (xs.map cB) (ys.map cB)=cD ((xs.map cB).drop (i+1)) ((ys.map cB).drop (i+1))):=by rw[Hid,HA.out,HX.out];rfl
     go_wp2_with fail;go_roundw
     ·exact⟨i+1,by omega,by go_num,HF.out,CE.out⟩
     ·simp[intOf];omega
   ·have HF:Hid (cD (xs.map cB) (ys.map cB)=true):=by rw[Hid,HA.out];exact tt (by have:=H.out.sr.ln;simp;omega) (by have:=H'.out.sr.ln;simp;omega)
    go_wp2_with fail;go_ret;exact⟨by rw[HF.out];rfl,HB.out⟩
 ·have HF:Hid (cD (xs.map cB) (ys.map cB)=false):=na (by have:=H.out.sr.ln;have:=H'.out.sr.ln;simp;omega);have hnk':((n:Int) != (m:Int))=true:=by simp;omega
  go_enter func241,ntmps241;go_wp2_with fail;go_ret;exact⟨by rw[HF.out];rfl,Ju _ _⟩
theorem nd(xs ys:List PI)(A B:Option Addr)(n c m d:Nat)(w:World)(h:SI w A n c xs)(h':SI w B m d ys):
 Calls prog 186 #[.slice A n c,.slice B m d] w fun e w'=>e=.returned (.bool (cD (xs.map cB) (ys.map cB)))/\Below w.heap.size w w':=by
 have H:=qD (zP xs ys A B n c m d w h h');clear h h';go_enter func186,ntmps186;go_wp2_with fail;refine H.out.mono ?_;rintro e w1 ⟨rfl,hb⟩;have HB:=qD hb;clear hb;go_wp2_with fail;go_ret;exact⟨rfl,HB.out⟩
theorem nC{S:cy->Prop}{nf:List (cy×cy)}(xs:List PI)(A:Option Addr)(n c:Nat)(w:World)(h:SI w A n c xs)(hx:xs.map cB=nf.map fG)(hn:gd S nf):
 Calls prog 133 #[.slice A n c] w fun e w'=>e=.returned (.bool (eK S))/\Below w.heap.size w w':=by
 have H:=qD h;have HX:=qD hx;have HN:=qD hn;clear h hx hn;go_enter func133,ntmps133;go_wp2_with fail;refine(Dc w).mono ?_;rintro e w1 ⟨A1,m1,c1,ys,n1,rfl,hy,hn1,_,hsi,hb⟩;have HB:=qD hb
 have HS:Hid (cD (xs.map cB) (ys.map cB)=eK S):=by
  have e1:n1=[((gZ,false),(gE,true))]:=hn1.unique nQ fun _ _=>Iff.rfl;rw[Hid,HX.out,hy,Kc,jy (fun s hs=>(HN.out.1.ne s hs).2) (fun s hs=>(hn1.1.ne s hs).2),e1];exact us HN.out
 have HC:=qD (nd xs ys A A1 n c m1 c1 w1 (H.out.step hb) hsi);rw[HS.out] at HC;clear hb hy hn1 hsi HS;go_wp2_with fail;refine HC.out.mono ?_;rintro e w2 ⟨rfl,hb⟩;have CE:=qD (HB.out.Ih hb);clear hb;go_wp2_with fail;go_ret;exact⟨rfl,CE.out⟩
noncomputable def jF(s:ByteArray):Ending:=.returned (.tuple #[.string ((fm s).getD empty),.bool (fm s).isSome])
theorem tv{s:ByteArray}(h:dH s s.size=0):jF s=.returned (.tuple #[.string empty,.bool false]):=by
 unfold jF fm;rw[h];rfl
theorem tw{s:ByteArray}{n:Nat}(h:dH s s.size=n+1):jF s=.returned (.tuple #[.string (s.extract 0 n++⟨#[s.data[n]?.getD 0+1]⟩),.bool true]):=by
 unfold jF fm;rw[h];rfl
theorem zQ{s : ByteArray}{m : Nat}(hm : m < s.size)(h : (s[m]'hm).toNat = 255) : dH s (m + 1) = dH s m := by
 have e:s.data[m]?=some 255:=by
  rw[MY];exact⟨hm,Ms.1 h⟩
 conv=>lhs;unfold dH
 rw[Kb e]
theorem BX{s : ByteArray}{m : Nat}(hm : m < s.size)(h : (s[m]'hm).toNat ≠ 255) : dH s (m + 1) = m + 1 := by
 have e:¬s.data[m]?=some 255:=by
  rw[MY];rintro⟨_,k⟩;exact h (congrArg UInt8.toNat k)
 conv=>lhs;unfold dH
 rw[KU e]
theorem qm(s:ByteArray)(w:World)(hz:s.size<=aH):Calls prog 109 #[.string s] w fun e w'=>e=jF s/\Below w.heap.size w w':=by
 have HZ:Hid (s.size<=aH):=qD hz;clear hz;go_enter func109,ntmps109;go_upto_region 2 with fail
 go_loopw [4] (fun v wr=>∃n:Nat,v=.int .i64 n/\n<=s.size/\dH s n=dH s s.size/\wr=w) (fun v _=>match v with | .int _ n=>n.toNat|_=>0)
 ·exact⟨s.size,rfl,qL,rfl,rfl⟩
 case round=>
  obtain⟨n,rfl,hn,hs,rfl⟩:=hrel;have HS:=qD hs;clear hs;cases n with
  | zero=>
   go_wp2_with fail;go_ret2;exact⟨(tv (by rw[<-HS.out];rfl)).symm,Ju _ _⟩
  | succ m=>
   have HM:Hid (m<s.size):=qD hn;have HW:Hid (wrap64 (m:Int)=(m:Int)):=by have:=HZ.out;unfold aH at this;exact qD (by unfold wrap64;omega)
   obtain ⟨x, hx⟩ : ∃ x : Int, ((s[m]'HM.out).toNat : Int) = x := ⟨_, rfl⟩;by_cases h255:x=255
   ·subst h255;have HX:=qD (zQ HM.out (by omega));have hw:=HW.out;go_wp2_with fail;refine⟨⟨m,by rw[hw],by omega,by rw[<-HX.out];exact HS.out,trivial⟩,?_⟩;rw[hw];show(m:Int).toNat<((m+1:Nat):Int).toNat;omega
   ·have HX:=qD (BX HM.out (by omega));have h1:(x==255)=false:=by simpa using h255
    clear h255;have hw:=HW.out;go_wp2_with fail;obtain⟨z,hz⟩:∃z:Int,z=(x+1)%256:=⟨_,rfl⟩
    have hcv:(convert 133 9 (.slice (some ⟨wr.heap.size,0,none⟩) 1 1)).run prog ((wr.alloc (.cells #[.int .u8 ((x+1)%256)] 5)).drew)=.ok (.string (strOfNums [z])) ((wr.alloc (.cells #[.int .u8 ((x+1)%256)] 5)).drew):=by
     rw[<-hz];refine Nn (P:=prog) _ 133 5 NW Mj wr.heap.size 0 1 1 [z] rfl (fun i hi=>?_) 9 LV;obtain rfl:i=0:=by omega
     exact(aG.new wr 5 #[.int .u8 z]).drew.cell 0
    obtain⟨Z,hZ⟩:∃Z,Z=strOfNums [z]:=⟨_,rfl⟩;rw[<-hZ] at hcv;have hZs:Z.size=1:=by rw[hZ,OG];rfl
    have hcat:∀w2:World,(Op.stringOp .add (s.extract 0 m) Z).run prog w2=.ok (.string (s.extract 0 m++Z)) w2:=fun w2=>Lm _ _ _ (by
     have h1:=HZ.out
     have h2:=HM.out
     unfold aH at h1
     rw[hZs,MX]
     omega)
    clear hZs;have HZ2:=qD hZ;have HZZ:=qD hz;clear hz hZ;have HX1:=qD hx
    go_region
    all_goals
     go_wp2_with fail;go_ret2;refine⟨?_,((Ju _ _).alloc (qL) _).drew⟩;have hb := (s[m]'HM.out).toNat_lt;have hx1:=HX1.out
     have hat : s.data[m]?.getD 0 = s[m]'HM.out := by
      rw[NN (show m<s.data.size from HM.out)];rfl
     rw[tw (show dH s s.size=m+1 by rw[<-HS.out];exact HX.out),hat,HZ2.out,HZZ.out];have hne:x≠255:=by simpa using h1
     have e : strOfNums [(x + 1) % 256] = ⟨#[s[m]'HM.out + 1]⟩ := by
      apply Me;apply Mi.1;rw[Mx];simp only[Lv,Of]
      have : UInt8.ofNat ((x + 1) % 256).toNat = s[m]'HM.out + 1 := by
       apply Ms.1;rw[OH,UInt8.toNat_add];have:(1:UInt8).toNat=1:=rfl;rw[this];omega
      rw[this]
     rw[e];rfl
def oo(op:Int)(q:PI)(a:PV):PI:=if op=4\/op=5 then((a,q.1.2),(decide (op=5),q.2.2)) else((q.1.1,a),(q.2.1,decide (op=7)))
theorem Df{op:Int}{x:aC}{c:VC}{q:PI}(hq:cB q=bB x.k):cB (oo op q (c,x))=mZ op x:=by
 unfold oo mZ;split
 ·rw[<-hq];rfl
 ·rw[<-hq];rfl
theorem tz{fn:Func}{p:Tmp}(h:fn.results=#[.cell p 85])(tmps:Array Value)(g:Nat)(h1:tmps[p]?.getD undef=.pointer (some ⟨g,0,none⟩))(W:World)(R:Array Value)(hz:R.size=12)(q:aG W g 85 R):(results fn tmps).run prog W=.ok (.agg R) W:=by
 simp[results,h,h1,asAddr,sQ q hz]
theorem BY(v:PI):(aa v).all (·.oneCell')=true:=by simp[Value.oneCell']
theorem uA(q:PI)(p:aX)(w:World)(ho:p.op=4\/p.op=5\/p.op=6\/p.op=7):
 Calls prog 71 #[jf q,aW p] w fun e w'=>e=.returned (jf (oo p.op q p.arg))/\Below w.heap.size w w':=by
 have B0:Hid (aG (((w.alloc (.cells (aa q) 85)).alloc (.cells (aD p) 38)).alloc (.cells (aa zI) 85)) w.heap.size 85 (aa q)):=((aG.Ii rfl).alloc _).alloc _;have B1:Hid (aG (((w.alloc (.cells (aa q) 85)).alloc (.cells (aD p) 38)).alloc (.cells (aa zI) 85)) (w.heap.size+1) 38 (aD p)):=(aG.Ii (by simp)).alloc _;have B2:Hid (aG (((w.alloc (.cells (aa q) 85)).alloc (.cells (aD p) 38)).alloc (.cells (aa zI) 85)) (w.heap.size+2) 85 (aa zI)):=aG.Ii (by simp);have BE:Hid (Below w.heap.size w (((w.alloc (.cells (aa q) 85)).alloc (.cells (aD p) 38)).alloc (.cells (aa zI) 85))):=(((Ju _ _).alloc (qL) _).alloc (by simp) _).alloc (by simp;omega) _;go_enter func71,ntmps71;go_upto_region 1 with fail
 change Code.wp _ _ _ _ (((w.alloc (.cells (aa q) 85)).alloc (.cells (aD p) 38)).alloc (.cells (aa zI) 85));generalize (((w.alloc (.cells (aa q) 85)).alloc (.cells (aD p) 38)).alloc (.cells (aa zI) 85))=wa at*;obtain⟨d0,_,_,_,_,_,_,_⟩:=aR B1.out;have f2:=(bV B1.out) 0 _ rfl;have f3:=(bV B1.out) 1 _ rfl;have f4:=(bV B1.out) 2 _ rfl;have f5:=(bV B1.out) 3 _ rfl;have f6:=(bV B1.out) 4 _ rfl;simp only[Nat.reduceAdd] at f2 f3 f4 f5 f6;obtain⟨⟨a0,a1,a2,a3,a4⟩,⟨b0,b1,b2,b3,b4⟩,b5,b6⟩:=jb.Ig B0.out;simp only[Jw] at a0 a1 a2 a3 a4 b0 b1 b2 b3 b4 b5 b6;have z0:=B0.out.frozen;obtain⟨op,hop⟩:∃op,op=p.op:=⟨_,rfl⟩;rw[<-hop] at d0 ho;have HOP:=qD hop;clear hop;obtain⟨R,hR⟩:∃R:Array Value,R=aa (oo op q p.arg):=⟨_,rfl⟩;have HR2:=qD hR;have HRK:Hid (R.size=12):=by rw[hR];exact qD rfl
 have HALL:Hid (R.all (·.oneCell')=true):=by rw[Hid,hR];exact BY _
 have HAG:Hid (jf (oo op q p.arg)=.agg R):=by rw[hR];exact qD rfl
 clear hR;rcases ho with rfl|rfl|rfl|rfl
 all_goals
  first|go_upto_region 4 with fail|go_upto_region 7 with fail
  go_region
  all_goals
   go_upto_region 8 with fail
   refine yS ?_;intro w5 hw5
   have C0:Hid (aG w5 w.heap.size 85 R):=by
    rw[Hid,hw5];refine aG.Iu (cs:=R) ?_;exact⟨_,aG.drew (aG.Ij (aG.Ij (aG.Ij (aG.Ij (aG.Ij (aG.Ij B0.out _ _) _ _) _ _) _ _) _ _) _ _),by rw[HR2.out];rfl⟩
   have C2:Hid (aG w5 (w.heap.size+2) 85 (aa zI)):=by
    rw[Hid,hw5];refine aG.drew ?_
    repeat' refine aG.Ip ?_ (by show w.heap.size+2≠w.heap.size;omega) _
    exact B2.out
   have CE:Hid (Below w.heap.size w w5):=by
    rw[Hid,hw5];refine Below.drew ?_
    repeat' refine Lr ?_ (by show w.heap.size<=w.heap.size;omega) _
    exact BE.out
   have RG:Hid (w5.rangeAt w.heap.size 0 R.toList):=br C0.out _ _ fun j v hj=>by rw[Jw,<-hj,Kx]
   clear hw5 a0 a1 a2 a3 a4 b0 b1 b2 b3 b4 b5 b6 B0 B1 B2 BE z0 f2 f3 f4 f5 f6 d0
   go_wp2_with (first
    | ((with_reducible show wpList _ _ _ (⟨_,.load 85 _,_,_,_,_⟩::_) _ _);refine aE rfl 85 _ rfl w.heap.size 0 rfl _ _ RG.out LO rfl (by rw[LX,HRK.out];kernel_rfl) ?_)
    | ((with_reducible show wpList _ _ _ (⟨_,.store 85 _ _,_,_,_,_⟩::_) _ _);refine LD rfl 85 _ _ rfl (w.heap.size+2) R rfl rfl 85 _ C2.out (by rw[HRK.out];kernel_rfl) (by rw[HRK.out];rfl) HALL.out ?_))
   exact Jz (tz rfl _ _ rfl _ R HRK.out (bY C2.out R)) rfl ⟨by rw[<-HOP.out,HAG.out],bZ CE.out (by omega) _⟩
def dD(r:iW)(k:Nat)(w:World)(e:Ending)(w':World):Prop:=
 ∃(A:Option Addr) (m c:Nat) (ys:List PI) (nf:List (cy×cy)),e=.returned (.tuple #[.slice A m c,.bool r.2])/\ys.map cB=nf.map fG/\gd r.1 nf/\m<=k/\SI w' A m c ys/\Below w.heap.size w w'/\∀y∈ys,Fr w.heap.size w' y
theorem dD.up{r:iW}{k k':Nat}{w0 w w':World}{e:Ending}(h:dD r k w e w')(hb:Below w0.heap.size w0 w)(hk:k<=k'):dD r k' w0 e w':=by
 obtain⟨A,m,c,ys,nf,h1,h2,h3,h4,h5,h6,h7⟩:=h;exact⟨A,m,c,ys,nf,h1,h2,h3,KM h4 hk,h5,hb.Ih h6,fun y hy=>(h7 y hy).low hb.size⟩
theorem BZ{xs:List PV}{b:Bool}(h6:∀x∈xs,x.2.k≠6)(hb:b=true↔∀x∈xs,x.2.k≠2){arg:aC}{n:Int}:dp 8 arg (xs.map Prod.snd) n=some ((xs.map Prod.snd).map ei,b):=by
 rw[og (by rintro⟨v,hv,hk⟩;obtain⟨x,hx,rfl⟩:=LL.1 hv;exact h6 x hx hk)];congr 2;rw[Kc,Lw,hb];constructor
 ·intro h x hx hk;exact h ⟨x.2,Ko hx,hk⟩
 ·rintro h ⟨v,hv,hk⟩;obtain⟨x,hx,rfl⟩:=LL.1 hv;exact h x hx hk
theorem Ba(p:aX)(w:World)(hw:WP w p)(hT:cY w):Calls prog 72 #[aW p] w (dD (dx 8 p.arg.2 (p.args.xs.map Prod.snd) p.n) (p.args.n+1) w):=by
 have HT:=qD hT;have W:=qD hw.open;have haz:p.args.n<=1048576:=W.out.few;clear hw hT;have B0:Hid (aG (w.alloc (.cells (aD p) 38)) w.heap.size 38 (aD p)):=aG.Ii rfl;have BE:=qD ((Ju w.heap.size w).alloc (qL) (Obj.cells (aD p) 38));go_enter func72,ntmps72;go_upto_region 1 with fail
 change Code.wp _ _ _ _ (w.alloc (.cells (aD p) 38));generalize w.alloc (.cells (aD p) 38)=wa at*;obtain⟨_,_,_,_,d7,_,_,_⟩:=aR B0.out;go_upto_region 3 with fail
 go_loopw [4,6,10] (fun v4 _ v10 wr=>∃(i:Nat) (b:Bool),i<=p.args.n/\v10=.int .i64 i/\v4=.bool b/\(∀x∈p.args.xs.take i,x.2.k≠6)/\(b=true↔∀x∈p.args.xs.take i,x.2.k≠2)/\aG wr w.heap.size 38 (aD p)/\Below w.heap.size w wr) (fun _ _ v10 _=>p.args.n-(intOf v10).toNat)
 ·exact⟨0,true,KD _,rfl,rfl,by simp,by simp,B0.out,BE.out⟩
 case round=>
  obtain⟨i,bx,hi,rfl,rfl,h6,h2,hB0,hBE⟩:=hrel;clear B0 BE d7;have B0:=qD hB0;have BE:=qD hBE;have H6:=qD h6;have H2:=qD h2;obtain⟨_,_,_,_,d7,_,_,_⟩:=aR B0.out;clear hB0 hBE h6 h2;by_cases hlt:i<p.args.n
  ·obtain⟨b,off,x,hA,hb,hx,hm,hrg⟩:=W.out.args.sr.row hlt;have HX:=qD hx;have RG:=qD (bD hrg BE.out hb);have HM:=qD hm;have HK:Hid (x.1.k=x.2.k):=qD (W.out.args.rv x hm).open.k;have i0:(0:Int)<=(i:Int):=by omega
   have i1:(i:Int)<(p.args.n:Int):=by omega
   clear hrg hx hm;have q0:=RG.out 0 _ rfl;have q1:=RG.out 1 _ rfl;have q2:=RG.out 2 _ rfl;have q3:=RG.out 3 _ rfl;have q4:=RG.out 4 _ rfl;simp only[MG] at q0;have HA:=qD hA;rw[hA];clear hA d7;go_upto_region 5 with fail
   change Code.wp _ _ _ _ (wr.alloc (.cells x.1.arr 29));have JB:Hid (aG (wr.alloc (.cells x.1.arr 29)) wr.heap.size 29 x.1.arr):=aG.Ii rfl;replace B0:=qD (B0.out.alloc (.cells x.1.arr 29));replace BE:=qD (BE.out.alloc BE.out.size (Obj.cells x.1.arr 29));generalize wr.alloc (.cells x.1.arr 29)=wb at*;generalize wr.heap.size=ga at*;clear q0 q1 q2 q3 q4 RG;have q0:=JB.out.cell 0;simp at q0;obtain⟨kk,hkk⟩:∃k,k=x.1.k:=⟨_,rfl⟩;rw[<-hkk] at q0 HK;have HKK:=qD hkk;clear hkk;cases h6:(kk==6)
   ·have n6:x.2.k≠6:=by rw[<-HK.out];simpa using h6
    have N6:=qD n6;clear n6;have tk:p.args.xs.take (i+1)=p.args.xs.take i++[x]:=by rw[Le,HX.out];rfl
    have TK:=qD tk;clear tk;cases bx
    ·go_wp2_with fail;go_roundw
     case rel=>
      refine⟨i+1,false,by omega,by go_num,rfl,fun y hy=>?_,?_,B0.out,BE.out⟩
      ·rw[TK.out] at hy;rcases KI.1 hy with hy|hy
       ·exact H6.out y hy
       ·obtain rfl:y=x:=by simpa using hy
        exact N6.out
      ·rw[TK.out];refine⟨fun h=>by simp at h,fun h=>?_⟩;exact H2.out.2 fun y hy=>h y (by simp[hy])
     case measure=>simp[intOf];omega
    ·go_wp2_with fail;go_roundw
     case rel=>
      refine⟨i+1,(kk != 2),by omega,by go_num,rfl,fun y hy=>?_,?_,B0.out,BE.out⟩
      ·rw[TK.out] at hy;rcases KI.1 hy with hy|hy
       ·exact H6.out y hy
       ·obtain rfl:y=x:=by simpa using hy
        exact N6.out
      ·rw[TK.out];have e:(kk != 2)=true↔x.2.k≠2:=by rw[<-HK.out];simp
       rw[e];refine⟨fun h y hy=>?_,fun h=>h x (by simp)⟩;rcases KI.1 hy with hy|hy
       ·exact H2.out.1 rfl y hy
       ·obtain rfl:y=x:=by simpa using hy
        exact h
     case measure=>simp[intOf];omega
   ·have e6:x.2.k=6:=by rw[<-HK.out];simpa using h6
    have E6:=qD e6;clear e6;have HL:Hid (dx 8 p.arg.2 (p.args.xs.map Prod.snd) p.n=(eD,false)):=qD (bz (nB ⟨x.2,Ko HM.out,E6.out⟩));go_wp2_with fail;refine(eW wb).mono ?_;rintro e w3 ⟨A3,m3,c3,ys,nf,rfl,hy,hnf,hmk,hsi,hb3,hfr⟩;have HNO:=qD (show dD (eD,false) 1 wb (.returned (.tuple #[.slice A3 m3 c3,.bool false])) w3 from⟨A3,m3,c3,ys,nf,rfl,hy,hnf,hmk,hsi,hb3,hfr⟩);clear hy hnf hmk hsi hb3 hfr;go_wp2_with fail;go_ret2;rw[HL.out];exact HNO.out.up BE.out (by omega)
  ·obtain rfl:i=p.args.n:=by omega
   have htk:p.args.xs.take p.args.n=p.args.xs:=KL (by have:=W.out.args.sr.ln;omega)
   have HL:Hid (dx 8 p.arg.2 (p.args.xs.map Prod.snd) p.n=(fun a=>ch aZ a (aU (p.args.xs.map fun q=>ei q.2)),bx)):=by
    have h6:=H6.out;have h2:=H2.out;rw[htk] at h6 h2;rw[Hid,bU (BZ h6 h2),Mq];rfl
   go_wp2_with fail;refine(nZ p.args.xs _ _ _ wr (HT.out.step BE.out) (W.out.args.step BE.out) (by omega)).mono ?_;rintro e w3 ⟨A3,m3,c3,ys,nf,rfl,hy,hnf,hmk,hsi,hb3,hfr⟩;have HNO:=qD (show dD ((fun a=>ch aZ a (aU (p.args.xs.map fun q=>ei q.2))),bx) _ wr (.returned (.tuple #[.slice A3 m3 c3,.bool bx])) w3 from⟨A3,m3,c3,ys,nf,rfl,hy,hnf,hmk,hsi,hb3,hfr⟩);clear hy hnf hmk hsi hb3 hfr htk;go_wp2_with fail;go_ret2;rw[HL.out];exact HNO.out.up BE.out (by omega)
theorem jz{w:World}{g:Nat}{v:PI}(h:aG w g 85 (aa v)):w.rangeAt g 0 (aa v).toList:=
 br h _ _ fun j x hj=>by rw[Jw,<-hj,Kx]
theorem uB{t s:ByteArray}(h:fm t=some s):s.size<=t.size:=by
 have hl:=ra t t.size;unfold fm at h;cases hn:dH t t.size with
 | zero=>rw[hn] at h;simp at h
 | succ n=>
  rw[hn] at h hl;simp only[LS] at h;subst h;rw[LZ,MX];show min n t.size-0+1<=t.size;omega
theorem Bb{x:aC}{s:ByteArray}(h:fm x.t=some s)(hv:aL (.mk 4 0 s [] [])=true):lG x=(⟨x,.mk 4 0 s [] [],true,false⟩,true):=by
 unfold lG;rw[h];simp only[hv,Oh]
theorem Dg{x:aC}{s:ByteArray}(h:fm x.t=some s)(hv:aL (.mk 4 0 s [] [])=false):lG x=(⟨x,gK 5,true,false⟩,decide (x.t=empty)):=by
 unfold lG;rw[h];simp[hv]
theorem Bc{x:aC}(h:fm x.t=none):lG x=(⟨x,gK 5,true,false⟩,decide (x.t=empty)):=by
 unfold lG;rw[h]
theorem Bd{ops:Array Oper}{rest:List Oper}{o:Oper}{a:Act}{w W:World}{Q:Exit->Act->World->Prop}{B g:Nat}{p:PI}{c:VC}(hgd:o.guard=none)(x y:Operand)(ho:o.op=.store 29 x y)(hx:a.eval x=.pointer (some ⟨g,0,none⟩))(hy:a.eval y=.agg c.arr)(h1:aG w g 85 (aa p))(hb:Below B W w)(hB:B<=g)(v:aC)(h:∀w6,aG w6 g 85 (aa (((c,v),p.1.2),p.2))->(∀(b:Nat) (t:TypeId) (cs:Array Value),b≠g->aG w b t cs->aG w6 b t cs)->Below B W w6->wpList prog ops Q rest (a.put o.dst undef) w6):wpList prog ops Q (o::rest) a w:=
 NI hgd 29 x y ho g 0 c.arr hx hy (jx h1 (by simp)) (by kernel_rfl) (by simp[Value.oneCell']) (h _ (Ek h1 c v) (fun _ _ _ hne k=>hH k hne _ _) (iA hb hB _ _))
theorem Be{ops:Array Oper}{rest:List Oper}{o:Oper}{a:Act}{w W:World}{Q:Exit->Act->World->Prop}{B g:Nat}{p:PI}{c:VC}(hgd:o.guard=none)(x y:Operand)(ho:o.op=.store 29 x y)(hx:a.eval x=.pointer (some ⟨g,5,none⟩))(hy:a.eval y=.agg c.arr)(h1:aG w g 85 (aa p))(hb:Below B W w)(hB:B<=g)(v:aC)(h:∀w6,aG w6 g 85 (aa ((p.1.1,(c,v)),p.2))->(∀(b:Nat) (t:TypeId) (cs:Array Value),b≠g->aG w b t cs->aG w6 b t cs)->Below B W w6->wpList prog ops Q rest (a.put o.dst undef) w6):wpList prog ops Q (o::rest) a w:=
 NI hgd 29 x y ho g 5 c.arr hx hy (jx h1 (by simp)) (by kernel_rfl) (by simp[Value.oneCell']) (h _ (El h1 c v) (fun _ _ _ hne k=>hH k hne _ _) (iA hb hB _ _))
theorem sR(p:aX)(w:World)(hw:WP w p)(hT:cY w):Calls prog 73 #[aW p] w (dD (dx 16 p.arg.2 (p.args.xs.map Prod.snd) p.n) 1 w):=by
 have HT:=qD hT;have W:=qD hw.open;have HKT:Hid (p.arg.1.t=p.arg.2.t):=qD hw.open.arg.open.t;have HTZ:Hid (p.arg.1.t.size<=aH):=by have:=hw.open.arg.open.tsz;exact qD (by rw[hw.open.arg.open.t];exact this)
 clear hw hT;have B0:Hid (aG (w.alloc (.cells (aD p) 38)) w.heap.size 38 (aD p)):=aG.Ii rfl;have BE:=qD ((Ju w.heap.size w).alloc (qL) (Obj.cells (aD p) 38));go_enter func73,ntmps73;go_upto_region 1 with fail
 change Code.wp _ _ _ _ (w.alloc (.cells (aD p) 38));generalize w.alloc (.cells (aD p) 38)=wa at*;go_wp2_with fail;refine(iU 4 wa (by omega) (by omega)).mono ?_;rintro e w1 ⟨rfl,hb⟩;replace B0:=qD (B0.out.step hb);replace BE:=qD (BE.out.Ih hb);clear hb;go_upto_region 2 with fail
 change Code.wp _ _ _ _ (w1.alloc (.cells (aa (dN 4)) 85));have J:Hid (aG (w1.alloc (.cells (aa (dN 4)) 85)) w1.heap.size 85 (aa (dN 4))):=aG.Ii rfl;have HGJ:Hid (w.heap.size<w1.heap.size):=qD B0.out.lt;replace B0:=qD (B0.out.alloc (.cells (aa (dN 4)) 85));replace BE:=qD (BE.out.alloc BE.out.size (Obj.cells (aa (dN 4)) 85));generalize w1.alloc (.cells (aa (dN 4)) 85)=w2 at*;generalize w1.heap.size=gj at*;have RA:=qD (bV B0.out);have gle:=HGJ.out
 go_upto_region 3 with(first
  | ((with_reducible show wpList _ _ _ (⟨_,.load 29 _,_,_,_,_⟩::_) _ _);refine aE rfl 29 _ rfl w.heap.size 2 rfl _ _ RA.out LU rfl (by kernel_rfl) ?_)
  | ((with_reducible show wpList _ _ _ (⟨_,.store 29 _ _,_,_,_,_⟩::_) _ _);refine Bd (c:=p.arg.1) rfl _ _ rfl rfl rfl J.out BE.out (by omega) p.arg.2 ?_;intro w6 hJ hfar hBE;have B6:=qD (hfar _ _ _ (by omega) B0.out);clear J BE B0 RA hfar;have J:=qD hJ;have BE:=qD hBE;have B0:=qD B6.out;clear hJ hBE B6))
 obtain⟨_,_,_,d4,_,_,_,_⟩:=aR B0.out;obtain⟨tx,htx⟩:∃t,t=p.arg.1.t:=⟨_,rfl⟩;rw[<-htx] at d4 HKT HTZ;have HTX:=qD htx;clear htx;have HAR:Hid (RW w p.arg.1 p.arg.2):=W.out.arg
 have hEd:decide (p.arg.2.t=empty)=tx.toList.isEmpty:=by
  rw[<-HKT.out,Kc,Lw,List.isEmpty_iff,MF];constructor
  ·rintro rfl;rfl
  ·intro h;exact Me (Mi.1 h)
 have HED:=qD hEd;clear hEd;have e0:cf.size<=aH:=by decide
 cases hA:fm tx with
 | none=>
  have hq:lG p.arg.2=(⟨p.arg.2,gK 5,true,false⟩,decide (p.arg.2.t=empty)):=Bc (by rw[<-HKT.out];exact hA);have hE:jF tx=.returned (.tuple #[.string empty,.bool false]):=by unfold jF;rw[hA];rfl
  have hAf:=qm tx w6 HTZ.out;rw[hE] at hAf;have HAF:=qD hAf;have HPQ:=qD hq;clear hAf hE hq hA;go_wp2_with fail;refine HAF.out.mono ?_;rintro e w3 ⟨rfl,hb⟩;replace J:=qD (J.out.step hb);replace B0:=qD (B0.out.step hb);replace BE:=qD (BE.out.Ih hb);clear hb d4 HAF;go_upto_region 5 with fail
  change Code.wp _ _ _ _ (w3.alloc (.cells (bG 4 0 empty).arr 29));replace J:=qD (J.out.alloc (.cells (bG 4 0 empty).arr 29));replace B0:=qD (B0.out.alloc (.cells (bG 4 0 empty).arr 29));replace BE:=qD (BE.out.alloc BE.out.size (Obj.cells (bG 4 0 empty).arr 29));generalize w3.alloc (.cells (bG 4 0 empty).arr 29)=w4 at*;generalize w3.heap.size=gv at*;obtain⟨_,_,_,d4,_,_,_,_⟩:=aR B0.out;rw[<-HTX.out] at d4;have okQ:Hid (∀wr,Below w.heap.size w wr->qe wr ((p.arg,(dN 4).1.2),(dN 4).2)):=qD fun wr hb=>⟨HAR.out.step hb,(oT 4 wr).2⟩;obtain⟨be,hbe⟩:∃b,b=tx.toList.isEmpty:=⟨_,rfl⟩
  have HL:Hid (dx 16 p.arg.2 (p.args.xs.map Prod.snd) p.n=((fun a=>ch aZ a (aU ([((p.arg,(dN 4).1.2),(dN 4).2)].map cB))),be)):=by
   rw[Hid,bU ie,HPQ.out,HED.out,hbe];rfl
  replace hbe:=hbe.symm;cases be
  ·have RGJ:=qD (jz J.out);go_wp2_with ((with_reducible show wpList _ _ _ (⟨_,.load 85 _,_,_,_,_⟩::_) _ _);refine aE rfl 85 _ rfl gj 0 rfl _ _ RGJ.out LO rfl (by kernel_rfl) ?_);refine(dj [((p.arg,(dN 4).1.2),(dN 4).2)] _ 1 1 _ (HT.out.step (BE.out.alloc BE.out.size _)) (jq (aG.Ii rfl) ((okQ.out _ (BE.out.alloc BE.out.size _)))) (by omega)).mono ?_;rintro e w9 ⟨A3,m3,c3,ys,nf,rfl,hy,hnf,hmk,hsi,hb3,hfr⟩;have HNO:=qD (show dD ((fun a=>ch aZ a (aU ([((p.arg,(dN 4).1.2),(dN 4).2)].map cB))),false) 1 _ (.returned (.tuple #[.slice A3 m3 c3,.bool (false)])) w9 from⟨A3,m3,c3,ys,nf,rfl,hy,hnf,hmk,hsi,hb3,hfr⟩);clear hy hnf hmk hsi hb3 hfr;go_wp2_with fail;go_ret2;rw[HL.out];exact HNO.out.up (BE.out.alloc BE.out.size _) (by omega)
  ·have RGJ:=qD (jz J.out);go_wp2_with ((with_reducible show wpList _ _ _ (⟨_,.load 85 _,_,_,_,_⟩::_) _ _);refine aE rfl 85 _ rfl gj 0 rfl _ _ RGJ.out LO rfl (by kernel_rfl) ?_);refine(dj [((p.arg,(dN 4).1.2),(dN 4).2)] _ 1 1 _ (HT.out.step (BE.out.alloc BE.out.size _)) (jq (aG.Ii rfl) ((okQ.out _ (BE.out.alloc BE.out.size _)))) (by omega)).mono ?_;rintro e w9 ⟨A3,m3,c3,ys,nf,rfl,hy,hnf,hmk,hsi,hb3,hfr⟩;have HNO:=qD (show dD ((fun a=>ch aZ a (aU ([((p.arg,(dN 4).1.2),(dN 4).2)].map cB))),true) 1 _ (.returned (.tuple #[.slice A3 m3 c3,.bool (true)])) w9 from⟨A3,m3,c3,ys,nf,rfl,hy,hnf,hmk,hsi,hb3,hfr⟩);clear hy hnf hmk hsi hb3 hfr;go_wp2_with fail;go_ret2;rw[HL.out];exact HNO.out.up (BE.out.alloc BE.out.size _) (by omega)
 | some s=>
  have hE:jF tx=.returned (.tuple #[.string s,.bool true]):=by unfold jF;rw[hA];rfl
  have hAf:=qm tx w6 HTZ.out;rw[hE] at hAf;have HAF:=qD hAf;have HSZ:Hid (s.size<=aH):=qD (KM (uB hA) HTZ.out);have HAS:=qD hA;clear hAf hE hA;go_wp2_with fail;refine HAF.out.mono ?_;rintro e w3 ⟨rfl,hb⟩;replace J:=qD (J.out.step hb);replace B0:=qD (B0.out.step hb);replace BE:=qD (BE.out.Ih hb);have HJ3:Hid (gj<w3.heap.size):=qD J.out.lt;clear hb d4 HAF;go_upto_region 5 with fail
  change Code.wp _ _ _ _ (w3.alloc (.cells (bG 4 0 s).arr 29));have JB:Hid (aG (w3.alloc (.cells (bG 4 0 s).arr 29)) w3.heap.size 29 (bG 4 0 s).arr):=aG.Ii rfl;replace J:=qD (J.out.alloc (.cells (bG 4 0 s).arr 29));replace B0:=qD (B0.out.alloc (.cells (bG 4 0 s).arr 29));replace BE:=qD (BE.out.alloc BE.out.size (Obj.cells (bG 4 0 s).arr 29));generalize w3.alloc (.cells (bG 4 0 s).arr 29)=w4 at*;generalize w3.heap.size=gv at*;obtain⟨_,_,_,d4,_,_,_,_⟩:=aR B0.out;rw[<-HTX.out] at d4;obtain⟨q0,q1,q2,q3,q4⟩:=aS.Ig JB.out;simp only[Jw] at q0 q1 q2 q3 q4;obtain⟨vb,hvb⟩:∃b,b=aL (.mk 4 0 s [] []):=⟨_,rfl⟩
  have HVC:Hid (∀wr,Below w.heap.size w wr->Calls prog 35 #[(bG 4 0 s).val] wr fun e w'=>e=.returned (.bool vb)/\Below wr.heap.size wr w'):=qD fun wr hb=>by
   rw[hvb];exact iy (.mk 4 0 s [] []) (bG 4 0 s) wr (HT.out.step hb) (oS _ _ _ HSZ.out)
  obtain⟨be,hbe⟩:∃b,b=tx.toList.isEmpty:=⟨_,rfl⟩;have HBE:=qD hbe;have HVB:=qD hvb;replace hbe:=hbe.symm;clear hvb
  go_upto_if 34 with(go_at_call 35;refine(HVC.out _ BE.out).mono ?_;rintro e w5 ⟨rfl,hb⟩;replace J:=qD (J.out.step hb);replace JB:=qD (JB.out.step hb);replace BE:=qD (BE.out.Ih hb);clear hb d4 q0 q1 q2 q3 q4 B0;obtain⟨q0,q1,q2,q3,q4⟩:=aS.Ig JB.out;simp only[Jw] at q0 q1 q2 q3 q4)
  cases vb
  ·have okQ:Hid (∀wr,Below w.heap.size w wr->qe wr ((p.arg,(dN 4).1.2),(dN 4).2)):=qD fun wr hb=>⟨HAR.out.step hb,(oT 4 wr).2⟩
   have HL:Hid (dx 16 p.arg.2 (p.args.xs.map Prod.snd) p.n=((fun a=>ch aZ a (aU ([((p.arg,(dN 4).1.2),(dN 4).2)].map cB))),be)):=by
    rw[Hid,bU ie,Dg (x:=p.arg.2) (s:=s) (by rw[<-HKT.out];exact HAS.out) HVB.out.symm,HED.out,HBE.out];rfl
   clear HBE;cases be
   ·have RGJ:=qD (jz J.out);go_wp2_with ((with_reducible show wpList _ _ _ (⟨_,.load 85 _,_,_,_,_⟩::_) _ _);refine aE rfl 85 _ rfl gj 0 rfl _ _ RGJ.out LO rfl (by kernel_rfl) ?_);refine(dj [((p.arg,(dN 4).1.2),(dN 4).2)] _ 1 1 _ (HT.out.step (BE.out.alloc BE.out.size _)) (jq (aG.Ii rfl) ((okQ.out _ (BE.out.alloc BE.out.size _)))) (by omega)).mono ?_;rintro e w9 ⟨A3,m3,c3,ys,nf,rfl,hy,hnf,hmk,hsi,hb3,hfr⟩;have HNO:=qD (show dD ((fun a=>ch aZ a (aU ([((p.arg,(dN 4).1.2),(dN 4).2)].map cB))),false) 1 _ (.returned (.tuple #[.slice A3 m3 c3,.bool (false)])) w9 from⟨A3,m3,c3,ys,nf,rfl,hy,hnf,hmk,hsi,hb3,hfr⟩);clear hy hnf hmk hsi hb3 hfr;go_wp2_with fail;go_ret2;rw[HL.out];exact HNO.out.up (BE.out.alloc BE.out.size _) (by omega)
   ·have RGJ:=qD (jz J.out);go_wp2_with ((with_reducible show wpList _ _ _ (⟨_,.load 85 _,_,_,_,_⟩::_) _ _);refine aE rfl 85 _ rfl gj 0 rfl _ _ RGJ.out LO rfl (by kernel_rfl) ?_);refine(dj [((p.arg,(dN 4).1.2),(dN 4).2)] _ 1 1 _ (HT.out.step (BE.out.alloc BE.out.size _)) (jq (aG.Ii rfl) ((okQ.out _ (BE.out.alloc BE.out.size _)))) (by omega)).mono ?_;rintro e w9 ⟨A3,m3,c3,ys,nf,rfl,hy,hnf,hmk,hsi,hb3,hfr⟩;have HNO:=qD (show dD ((fun a=>ch aZ a (aU ([((p.arg,(dN 4).1.2),(dN 4).2)].map cB))),true) 1 _ (.returned (.tuple #[.slice A3 m3 c3,.bool (true)])) w9 from⟨A3,m3,c3,ys,nf,rfl,hy,hnf,hmk,hsi,hb3,hfr⟩);clear hy hnf hmk hsi hb3 hfr;go_wp2_with fail;go_ret2;rw[HL.out];exact HNO.out.up (BE.out.alloc BE.out.size _) (by omega)
  ·have okQ:Hid (∀wr,Below w.heap.size w wr->qe wr ((p.arg,(bG 4 0 s,.mk 4 0 s [] [])),(true,false))):=qD fun wr hb=>⟨HAR.out.step hb,oS _ _ _ HSZ.out⟩
   have HL:Hid (dx 16 p.arg.2 (p.args.xs.map Prod.snd) p.n=((fun a=>ch aZ a (aU ([((p.arg,(bG 4 0 s,.mk 4 0 s [] [])),(true,false))].map cB))),true)):=by
    rw[Hid,bU ie,Bb (x:=p.arg.2) (s:=s) (by rw[<-HKT.out];exact HAS.out) HVB.out.symm];rfl
   go_upto_region 9 with((with_reducible show wpList _ _ _ (⟨_,.store 29 _ _,_,_,_,_⟩::_) _ _);refine Be (c:=bG 4 0 s) rfl _ _ rfl rfl rfl J.out BE.out (by omega) (.mk 4 0 s [] []) ?_;intro w7 hJ hfar hBE;clear J BE hfar q0 q1 q2 q3 q4 JB;have J:=qD hJ;have BE:=qD hBE;have z0:=J.out.frozen;have c11:=(J.out.cell 11).trans rfl;clear hJ hBE)
   refine yS ?_;intro w9 hw9
   replace J:Hid (aG w9 gj 85 (aa ((p.arg,(bG 4 0 s,.mk 4 0 s [] [])),(true,false)))):=by
    rw[Hid,hw9];exact aG.Iu ⟨_,J.out.Ij _ _,rfl⟩
   replace BE:Hid (Below w.heap.size w w9):=by
    rw[Hid,hw9];exact Lr BE.out (by show w.heap.size<=gj;omega) _
   clear hw9 z0 c11;have RGJ:=qD (jz J.out);go_wp2_with ((with_reducible show wpList _ _ _ (⟨_,.load 85 _,_,_,_,_⟩::_) _ _);refine aE rfl 85 _ rfl gj 0 rfl _ _ RGJ.out LO rfl (by kernel_rfl) ?_);refine(dj [((p.arg,(bG 4 0 s,.mk 4 0 s [] [])),(true,false))] _ 1 1 _ (HT.out.step (BE.out.alloc BE.out.size _)) (jq (aG.Ii rfl) ((okQ.out _ (BE.out.alloc BE.out.size _)))) (by omega)).mono ?_;rintro e w9 ⟨A3,m3,c3,ys,nf,rfl,hy,hnf,hmk,hsi,hb3,hfr⟩;have HNO:=qD (show dD ((fun a=>ch aZ a (aU ([((p.arg,(bG 4 0 s,.mk 4 0 s [] [])),(true,false))].map cB))),true) 1 _ (.returned (.tuple #[.slice A3 m3 c3,.bool (true)])) w9 from⟨A3,m3,c3,ys,nf,rfl,hy,hnf,hmk,hsi,hb3,hfr⟩);clear hy hnf hmk hsi hb3 hfr;go_wp2_with fail;go_ret2;rw[HL.out];exact HNO.out.up (BE.out.alloc BE.out.size _) (by omega)
end
end Go.Proofs.YtgfoliedmhgpnaaGreatDoor
