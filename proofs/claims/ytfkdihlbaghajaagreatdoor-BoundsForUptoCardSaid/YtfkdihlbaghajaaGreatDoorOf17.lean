/- Parts of the proof, joined: BoKind, BoSame, RgAfter, BoLim, BoIn, BoPre, BoAnd. -/
import Derived.Test.YtfkdihlbaghajaaGreatDoorOf1
import Derived.Test.YtfkdihlbaghajaaGreatDoorOf5
import Derived.Test.YtfkdihlbaghajaaGreatDoorOf16
import Derived.Test.YtfkdihlbaghajaaGreatDoorOf2
import Derived.Test.YtfkdihlbaghajaaGreatDoorOf15
import Derived.Test.YtfkdihlbaghajaaGreatDoorOf11
import Derived.Test.YtfkdihlbaghajaaGreatDoorOf6
import Derived.Laws.ResultCell
import Derived.Laws.BytesArg
import Derived.Laws.Concat
set_option maxRecDepth 100000
set_option maxHeartbeats 16000000
set_option linter.unusedSimpArgs false
namespace Go.Proofs.YtfkdihlbaghajaaGreatDoor
open Go.RowKit
theorem Blk.cast9{w:World}{g:Nat}{t:TypeId}{cs:Array Value}(h:∃c,Blk w g t c∧c=cs):Blk w g t cs:=by obtain⟨c,h,rfl⟩:=h;exact h
theorem wpl_name{P:Program}{ops:Array Oper}{Q:Exit→Act→World→Prop}{l:List Oper}{a:Act}{w:World}(h:∀w',w'=w→wpList P ops Q l a w'):wpList P ops Q l a w:=h w rfl
theorem iv_there{w:World}{g:Nat}{t:TypeId}{cs:Array Value}(h:Blk w g t cs){o n:Nat}(hz:o+n≤cs.size):w.there g o n:=fun j hj=>by
 refine⟨?_,h.frozen _⟩
 rw[h.cell,Array.getElem?_eq_getElem (by omega)]
 rfl
theorem putLo{w:World}{g:Nat}{p:PI}(h:Blk w g 93 (arrI p))(c:VC)(x:Val):Blk (w.setCells g 0 c.arr.toList) g 93 (arrI (((c,x),p.1.2),p.2)):=Blk.setCells c.list 0 (l:=recI p) h
theorem putHi{w:World}{g:Nat}{p:PI}(h:Blk w g 93 (arrI p))(c:VC)(x:Val):Blk (w.setCells g 5 c.arr.toList) g 93 (arrI ((p.1.1,(c,x)),p.2)):=Blk.setCells c.list 5 (l:=recI p) h
theorem blk_far9{w:World}{g b:Nat}{t:TypeId}{cs:Array Value}(h:Blk w b t cs)(hne:b≠g)(vs:List Value)(o:Nat):Blk (w.setCells g o vs) b t cs:=(heap_setCells g vs o w b hne).trans h
theorem bel_cells9{B:Nat}{a w:World}(h:Below B a w){g:Nat}(hg:B≤g)(vs:List Value)(o:Nat):Below B a (w.setCells g o vs):=by
 induction vs generalizing w o with
 | nil=>exact h
 | cons v r ih=>exact ih (Below.setCell (p:=⟨g,o,none⟩) h hg v) (o+1)
theorem wpl_putHi{ops:Array Oper}{rest:List Oper}{o:Oper}{a:Act}{w W:World}{Q:Exit→Act→World→Prop}{B g g0 g2:Nat}{p:PI}{c:VC}{cs0 cs2:Array Value}(hgd:o.guard=none)(x y:Operand)(ho:o.op=.store 32 x y)(hx:a.eval x=.pointer (some ⟨g,5,none⟩))(hy:a.eval y=.agg c.arr)(h1:Blk w g 93 (arrI p))(h0:Blk w g0 93 cs0)(h2:Blk w g2 32 cs2)(hb:Below B W w)(n0:g0≠g)(n2:g2≠g)(hB:B≤g)(v:Val)(h:∀w6,Blk w6 g 93 (arrI ((p.1.1,(c,v)),p.2))→Blk w6 g0 93 cs0→Blk w6 g2 32 cs2→Below B W w6→wpList Tryz.prog ops Q rest (a.put o.dst undef) w6):wpList Tryz.prog ops Q (o::rest) a w:=
 wpList_store_mid hgd 32 x y ho g 5 c.arr hx hy (iv_there h1 (by simp)) (by kernel_rfl) (by simp[Value.oneCell']) (h _ (putHi h1 c v) (blk_far9 h0 n0 _ _) (blk_far9 h2 n2 _ _) (bel_cells9 hb hB _ _))
theorem wpl_putLo{ops:Array Oper}{rest:List Oper}{o:Oper}{a:Act}{w W:World}{Q:Exit→Act→World→Prop}{B g g0 g2:Nat}{p:PI}{c:VC}{cs0 cs2:Array Value}(hgd:o.guard=none)(x y:Operand)(ho:o.op=.store 32 x y)(hx:a.eval x=.pointer (some ⟨g,0,none⟩))(hy:a.eval y=.agg c.arr)(h1:Blk w g 93 (arrI p))(h0:Blk w g0 93 cs0)(h2:Blk w g2 32 cs2)(hb:Below B W w)(n0:g0≠g)(n2:g2≠g)(hB:B≤g)(v:Val)(h:∀w6,Blk w6 g 93 (arrI (((c,v),p.1.2),p.2))→Blk w6 g0 93 cs0→Blk w6 g2 32 cs2→Below B W w6→wpList Tryz.prog ops Q rest (a.put o.dst undef) w6):wpList Tryz.prog ops Q (o::rest) a w:=
 wpList_store_mid hgd 32 x y ho g 0 c.arr hx hy (iv_there h1 (by simp)) (by kernel_rfl) (by simp[Value.oneCell']) (h _ (putLo h1 c v) (blk_far9 h0 n0 _ _) (blk_far9 h2 n2 _ _) (bel_cells9 hb hB _ _))
theorem wp_name{P:Program}{C:Code}{Q:Exit→Act→World→Prop}{a:Act}{w:World}(h:∀w',w'=w→Code.wp P C Q a w'):Code.wp P C Q a w:=h w rfl
theorem blk_row{w:World}{g:Nat}{t:TypeId}{old:Array Value}(h:Blk w g t old)(cs:Array Value):Blk (w.setRow g cs) g t cs:=setRow_heap w g old cs t (0,0) h
theorem bel_row{B:Nat}{a w:World}(h:Below B a w){g:Nat}(hg:B≤g)(cs:Array Value):Below B a (w.setRow g cs):=
 ⟨h.os,h.tape,h.output,by rw[setRow_size];exact h.size,fun k hk=>(setRow_other w g k cs (by omega)).trans (h.block k hk)⟩
theorem ex_blk{w:World}{g:Nat}{t:TypeId}{c c':Array Value}(h:Blk w g t c)(e:c=c'):Blk w g t c':=e▸h
theorem load_iv{w:World}{g:Nat}{cs:Array Value}(h:Blk w g 93 cs)(hz:cs.size=12):(loadVar 93 ⟨g,0,none⟩).run Tryz.prog w=.ok (.agg cs) w:=
 run_loadVar_row w g _ _ cs _ _ h Tryz.underlying93 rfl (by rw[hz];kernel_rfl)
theorem results_ivb{fn:Func}{p u:Tmp}(h:fn.results=#[.cell p 93,.tmp u])(tmps:Array Value)(g:Nat)(h1:tmps.getD p undef=.pointer (some ⟨g,0,none⟩))(e:Value)(h2:tmps.getD u undef=e)(W:World)(R:Array Value)(hz:R.size=12)(q:Blk W g 93 R):(results fn tmps).run Tryz.prog W=.ok (.tuple #[.agg R,e]) W:=by
 rw[results_cell_tmp h,h1,h2]
 simp[asAddr,load_iv q hz]
def rngP(k:Int):PI:=
 if k=3 then(((cLf 3 (-9223372036854775808) ByteArray.empty,.mk 3 (-9223372036854775808) ByteArray.empty [] []),(cLf 3 9223372036854775807 ByteArray.empty,.mk 3 9223372036854775807 ByteArray.empty [] [])),(true,true))
 else if k=4 then(((cLf 4 0 ByteArray.empty,vKd 4),(cLf 5 0 ByteArray.empty,vKd 5)),(true,false))
 else if k=5 then(((cLf 5 0 ByteArray.empty,vKd 5),(cLf 6 0 ByteArray.empty,vKd 6)),(true,false))
 else if k=7 then(((cLf 7 0 ByteArray.empty,vKd 7),(cLf 8 0 zero12,.mk 8 0 zero12 [] [])),(true,false))
 else if k=8 then(((cLf 8 0 zero12,.mk 8 0 zero12 [] []),(cLf 9 0 ByteArray.empty,vKd 9)),(true,false))
 else if k=9 then(((cLf 9 0 ByteArray.empty,vKd 9),(cLf 9 1 ByteArray.empty,.mk 9 1 ByteArray.empty [] [])),(true,true))
 else if k=10 then(((cLf 10 0 ByteArray.empty,vKd 10),(cLf 10 9223372036854775807 ByteArray.empty,.mk 10 9223372036854775807 ByteArray.empty [] [])),(true,true))
 else(((cLf k 0 ByteArray.empty,vKd k),(cLf k 0 ByteArray.empty,vKd k)),(true,true))
theorem rngP_ok(k:Int)(w:World):okI w (rngP k):=by
 have e0:(ByteArray.empty).size≤reach:=by decide
 have e1:zero12.size≤reach:=by decide
 unfold rngP
 repeat' split
 all_goals exact⟨rw_leaf _ _ _ (by assumption),rw_leaf _ _ _ (by assumption)⟩
theorem rngP_iv{k:Int}(h:1≤k∧k≤11)(h6:k≠6):ivP (rngP k)=rangeI k:=by
 have:k=1∨k=2∨k=3∨k=4∨k=5∨k=7∨k=8∨k=9∨k=10∨k=11:=by omega
 rcases this with rfl|rfl|rfl|rfl|rfl|rfl|rfl|rfl|rfl|rfl<;>rfl
abbrev zI:PI:=(((VC.zero,Val.zero),(VC.zero,Val.zero)),(false,false))
def KindOk(k:Int)(w:World)(e:Ending)(w':World):Prop:=e=.returned (.tuple #[aggI (rngP k),.bool true])∧Below w.heap.size w w'
theorem info_b12:(Tryz.prog.info? 5).map (fun i=>(i.zero,i.size,i.bytes))=some (some (.int .u8 0),1,1):=by kernel_rfl
abbrev twelve0:Array Value:=#[.int .u8 0,.int .u8 0,.int .u8 0,.int .u8 0,.int .u8 0,.int .u8 0,.int .u8 0,.int .u8 0,.int .u8 0,.int .u8 0,.int .u8 0,.int .u8 0]
theorem make12(w:World):(Instr.makeSlice 143 (.int .i64 12) (.int .i64 12)).run Tryz.prog w=.ok (.slice (some ⟨w.heap.size,0,none⟩) 12 12) (w.alloc (.cells twelve0 5)):=by
 obtain⟨j0,hj0,hz0,hz1,hz2⟩:=info_parts info_b12
 have:=run_make_rowN (P:=Tryz.prog) 143 5 j0 (.int .u8 0) Tryz.underlying143 hj0 hz0 12 (by rw[hz2];omega) (by omega) w
 rw[hz1,show((12:Nat):Int)=12 from rfl,show madeCells (Value.int .u8 0).cells (12*1)=twelve0 from by kernel_rfl] at this
 exact this
theorem zero12_str:strOfNums [0,0,0,0,0,0,0,0,0,0,0,0]=zero12:=by
 apply ByteArray.ext
 apply Array.toList_inj.1
 rw[strOfNums_data]
 rfl
theorem conv12(w:World):(convert 143 9 (.slice (some ⟨w.heap.size,0,none⟩) 12 12)).run Tryz.prog (w.alloc (.cells twelve0 5))=.ok (.string zero12) (w.alloc (.cells twelve0 5)):=by
 have hb:Blk (w.alloc (.cells twelve0 5)) w.heap.size 5 twelve0:=Blk.new_at rfl
 rw[run_convert_bytes_arg (P:=Tryz.prog) _ 143 5 Tryz.underlying143 Tryz.underlying5 w.heap.size 0 12 12 [0,0,0,0,0,0,0,0,0,0,0,0] rfl (fun i hi=>?_) 9 Tryz.underlying9,zero12_str]
 rw[Nat.zero_add,hb.cell]
 have:i=0∨i=1∨i=2∨i=3∨i=4∨i=5∨i=6∨i=7∨i=8∨i=9∨i=10∨i=11:=by omega
 rcases this with rfl|rfl|rfl|rfl|rfl|rfl|rfl|rfl|rfl|rfl|rfl|rfl<;>rfl
theorem kindRange_any(k:Int)(w:World)(h:1≤k∧k≤11)(h6:k≠6):Calls Tryz.prog 49 #[.int .i64 k] w (KindOk k w):=by
 have hk:k=1∨k=2∨k=3∨k=4∨k=5∨k=7∨k=8∨k=9∨k=10∨k=11:=by omega
 clear h h6
 have HK:=qD hk
 clear hk
 go_enter Tryz.func49,Tryz.ntmps49
 obtain⟨z0,hz0⟩:∃z:PI,z=(((cLf k 0 ByteArray.empty,vKd k),(cLf k 0 ByteArray.empty,vKd k)),(true,true)):=⟨_,rfl⟩
 have B0:Hid (Blk ((w.alloc (.cells (arrI zI) 93)).alloc (.cells (arrI (((cLf k 0 ByteArray.empty,vKd k),(cLf k 0 ByteArray.empty,vKd k)),(true,true))) 93)) w.heap.size 93 (arrI zI)):=(Blk.new_at rfl).alloc _
 have B1:Hid (Blk ((w.alloc (.cells (arrI zI) 93)).alloc (.cells (arrI (((cLf k 0 ByteArray.empty,vKd k),(cLf k 0 ByteArray.empty,vKd k)),(true,true))) 93)) (w.heap.size+1) 93 (arrI (((cLf k 0 ByteArray.empty,vKd k),(cLf k 0 ByteArray.empty,vKd k)),(true,true)))):=Blk.new_at (by simp)
 have BE:Hid (Below w.heap.size w ((w.alloc (.cells (arrI zI) 93)).alloc (.cells (arrI (((cLf k 0 ByteArray.empty,vKd k),(cLf k 0 ByteArray.empty,vKd k)),(true,true))) 93))):=((Below.refl _ _).alloc (qL) _).alloc (by simp) _
 go_upto_region 2 with fail
 change Code.wp _ _ _ _ ((w.alloc (.cells (arrI zI) 93)).alloc (.cells (arrI (((cLf k 0 ByteArray.empty,vKd k),(cLf k 0 ByteArray.empty,vKd k)),(true,true))) 93))
 have hsz:((w.alloc (.cells (arrI zI) 93)).alloc (.cells (arrI (((cLf k 0 ByteArray.empty,vKd k),(cLf k 0 ByteArray.empty,vKd k)),(true,true))) 93)).heap.size=w.heap.size+2:=by simp
 generalize ((w.alloc (.cells (arrI zI) 93)).alloc (.cells (arrI (((cLf k 0 ByteArray.empty,vKd k),(cLf k 0 ByteArray.empty,vKd k)),(true,true))) 93))=wa at*
 have HSZ:=qD hsz
 clear hsz
 have hmk:=make12 wa
 have hcv:=conv12 wa
 go_upto_region 3 with fail
 change Code.wp _ _ _ _ ((wa.alloc (.cells twelve0 5)).alloc (.cells (cLf 8 0 zero12).arr 32))
 have B2:Hid (Blk ((wa.alloc (.cells twelve0 5)).alloc (.cells (cLf 8 0 zero12).arr 32)) (wa.heap.size+1) 32 (cLf 8 0 zero12).arr):=Blk.new_at (by simp)
 replace B0:=qD ((B0.out.alloc (.cells twelve0 5)).alloc (.cells (cLf 8 0 zero12).arr 32))
 replace B1:=qD ((B1.out.alloc (.cells twelve0 5)).alloc (.cells (cLf 8 0 zero12).arr 32))
 replace BE:=qD ((BE.out.alloc BE.out.size (.cells twelve0 5)).alloc (by have:=BE.out.size;simp;omega) (Obj.cells (cLf 8 0 zero12).arr 32))
 have HNE:Hid (wa.heap.size+1≠w.heap.size+1):=by rw[Hid,HSZ.out];omega
 clear hmk hcv
 generalize ((wa.alloc (.cells twelve0 5)).alloc (.cells (cLf 8 0 zero12).arr 32))=wb at*
 clear hz0 z0
 obtain⟨R,hR⟩:∃R:Array Value,R=arrI (rngP k):=⟨_,rfl⟩
 have HR:Hid (aggI (rngP k)=.agg R):=by rw[hR];exact qD rfl
 have hRK:R.size=12:=by rw[hR];rfl
 have HRK:=qD hRK
 have HALL:Hid (R.all (·.oneCell')=true):=by rw[Hid,hR];simp[Value.oneCell']
 have HR2:=qD hR
 have z1:=B1.out.frozen
 clear hR hRK
 have hk:=HK.out
 clear HK
 rcases hk with rfl|rfl|rfl|rfl|rfl|rfl|rfl|rfl|rfl|rfl
 ·obtain⟨e0,e1,e2,e3,e4⟩:=VAt.of_blk B2.out
  simp only[Nat.zero_add] at e0 e1 e2 e3 e4
  obtain⟨⟨a0,a1,a2,a3,a4⟩,⟨b0,b1,b2,b3,b4⟩,b5,b6⟩:=IAt.of_blk B1.out
  simp only[Nat.zero_add] at a0 a1 a2 a3 a4 b0 b1 b2 b3 b4 b5 b6
  go_wp2_with (first
   | ((with_reducible show wpList _ _ _ (⟨_,.load 93 _,_,_,_,_⟩::_) _ _);refine wpl_name ?_;intro w5 hw5;have C1:Hid (Blk w5 (w.heap.size+1) 93 R):=(by rw[Hid,hw5];refine Blk.cast9 (cs:=R) ?_;first|exact⟨_,B1.out,by rw[HR2.out];rfl⟩|exact⟨_,(Blk.set_ B1.out _ _),by rw[HR2.out];rfl⟩|exact⟨_,(Blk.set_ (Blk.set_ B1.out _ _) _ _),by rw[HR2.out];rfl⟩);have C0:Hid (Blk w5 w.heap.size 93 (arrI zI)):=(by rw[Hid,hw5];(repeat' refine Blk.far ?_ (by show w.heap.size≠w.heap.size+1;omega) _);exact B0.out);have CE:Hid (Below w.heap.size w w5):=(by rw[Hid,hw5];(repeat' refine Below.setCell ?_ (by show w.heap.size≤w.heap.size+1;omega) _);exact BE.out);have RG:Hid (w5.rangeAt (w.heap.size+1) 0 R.toList):=range_blk C1.out _ _ fun j v hj=>(by rw[Nat.zero_add,←hj,Array.getElem?_toList]);clear hw5 e0 e1 e2 e3 e4 a0 a1 a2 a3 a4 b0 b1 b2 b3 b4 b5 b6 B0 B1 B2 BE z1;refine wpList_mid_w rfl 93 _ rfl (w.heap.size+1) 0 rfl _ _ RG.out Tryz.underlying93 rfl (by rw[Array.length_toList,HRK.out];kernel_rfl) ?_)
   | ((with_reducible show wpList _ _ _ (⟨_,.store 93 _ _,_,_,_,_⟩::_) _ _);refine wpList_store_row rfl 93 _ _ rfl w.heap.size R rfl rfl 93 _ C0.out (by rw[HRK.out];kernel_rfl) (by rw[HRK.out];rfl) HALL.out ?_))
  exact bodyPost_ret (results_ivb rfl _ _ rfl _ rfl _ R HRK.out (blk_row C0.out R)) rfl ⟨by rw[HR.out];rfl,bel_row CE.out (qL) _⟩
 ·obtain⟨e0,e1,e2,e3,e4⟩:=VAt.of_blk B2.out
  simp only[Nat.zero_add] at e0 e1 e2 e3 e4
  obtain⟨⟨a0,a1,a2,a3,a4⟩,⟨b0,b1,b2,b3,b4⟩,b5,b6⟩:=IAt.of_blk B1.out
  simp only[Nat.zero_add] at a0 a1 a2 a3 a4 b0 b1 b2 b3 b4 b5 b6
  go_wp2_with (first
   | ((with_reducible show wpList _ _ _ (⟨_,.load 93 _,_,_,_,_⟩::_) _ _);refine wpl_name ?_;intro w5 hw5;have C1:Hid (Blk w5 (w.heap.size+1) 93 R):=(by rw[Hid,hw5];refine Blk.cast9 (cs:=R) ?_;first|exact⟨_,B1.out,by rw[HR2.out];rfl⟩|exact⟨_,(Blk.set_ B1.out _ _),by rw[HR2.out];rfl⟩|exact⟨_,(Blk.set_ (Blk.set_ B1.out _ _) _ _),by rw[HR2.out];rfl⟩);have C0:Hid (Blk w5 w.heap.size 93 (arrI zI)):=(by rw[Hid,hw5];(repeat' refine Blk.far ?_ (by show w.heap.size≠w.heap.size+1;omega) _);exact B0.out);have CE:Hid (Below w.heap.size w w5):=(by rw[Hid,hw5];(repeat' refine Below.setCell ?_ (by show w.heap.size≤w.heap.size+1;omega) _);exact BE.out);have RG:Hid (w5.rangeAt (w.heap.size+1) 0 R.toList):=range_blk C1.out _ _ fun j v hj=>(by rw[Nat.zero_add,←hj,Array.getElem?_toList]);clear hw5 e0 e1 e2 e3 e4 a0 a1 a2 a3 a4 b0 b1 b2 b3 b4 b5 b6 B0 B1 B2 BE z1;refine wpList_mid_w rfl 93 _ rfl (w.heap.size+1) 0 rfl _ _ RG.out Tryz.underlying93 rfl (by rw[Array.length_toList,HRK.out];kernel_rfl) ?_)
   | ((with_reducible show wpList _ _ _ (⟨_,.store 93 _ _,_,_,_,_⟩::_) _ _);refine wpList_store_row rfl 93 _ _ rfl w.heap.size R rfl rfl 93 _ C0.out (by rw[HRK.out];kernel_rfl) (by rw[HRK.out];rfl) HALL.out ?_))
  exact bodyPost_ret (results_ivb rfl _ _ rfl _ rfl _ R HRK.out (blk_row C0.out R)) rfl ⟨by rw[HR.out];rfl,bel_row CE.out (qL) _⟩
 ·obtain⟨e0,e1,e2,e3,e4⟩:=VAt.of_blk B2.out
  simp only[Nat.zero_add] at e0 e1 e2 e3 e4
  obtain⟨⟨a0,a1,a2,a3,a4⟩,⟨b0,b1,b2,b3,b4⟩,b5,b6⟩:=IAt.of_blk B1.out
  simp only[Nat.zero_add] at a0 a1 a2 a3 a4 b0 b1 b2 b3 b4 b5 b6
  go_wp2_with (first
   | ((with_reducible show wpList _ _ _ (⟨_,.load 93 _,_,_,_,_⟩::_) _ _);refine wpl_name ?_;intro w5 hw5;have C1:Hid (Blk w5 (w.heap.size+1) 93 R):=(by rw[Hid,hw5];refine Blk.cast9 (cs:=R) ?_;first|exact⟨_,B1.out,by rw[HR2.out];rfl⟩|exact⟨_,(Blk.set_ B1.out _ _),by rw[HR2.out];rfl⟩|exact⟨_,(Blk.set_ (Blk.set_ B1.out _ _) _ _),by rw[HR2.out];rfl⟩);have C0:Hid (Blk w5 w.heap.size 93 (arrI zI)):=(by rw[Hid,hw5];(repeat' refine Blk.far ?_ (by show w.heap.size≠w.heap.size+1;omega) _);exact B0.out);have CE:Hid (Below w.heap.size w w5):=(by rw[Hid,hw5];(repeat' refine Below.setCell ?_ (by show w.heap.size≤w.heap.size+1;omega) _);exact BE.out);have RG:Hid (w5.rangeAt (w.heap.size+1) 0 R.toList):=range_blk C1.out _ _ fun j v hj=>(by rw[Nat.zero_add,←hj,Array.getElem?_toList]);clear hw5 e0 e1 e2 e3 e4 a0 a1 a2 a3 a4 b0 b1 b2 b3 b4 b5 b6 B0 B1 B2 BE z1;refine wpList_mid_w rfl 93 _ rfl (w.heap.size+1) 0 rfl _ _ RG.out Tryz.underlying93 rfl (by rw[Array.length_toList,HRK.out];kernel_rfl) ?_)
   | ((with_reducible show wpList _ _ _ (⟨_,.store 93 _ _,_,_,_,_⟩::_) _ _);refine wpList_store_row rfl 93 _ _ rfl w.heap.size R rfl rfl 93 _ C0.out (by rw[HRK.out];kernel_rfl) (by rw[HRK.out];rfl) HALL.out ?_))
  exact bodyPost_ret (results_ivb rfl _ _ rfl _ rfl _ R HRK.out (blk_row C0.out R)) rfl ⟨by rw[HR.out];rfl,bel_row CE.out (qL) _⟩
 ·obtain⟨e0,e1,e2,e3,e4⟩:=VAt.of_blk B2.out
  simp only[Nat.zero_add] at e0 e1 e2 e3 e4
  obtain⟨⟨a0,a1,a2,a3,a4⟩,⟨b0,b1,b2,b3,b4⟩,b5,b6⟩:=IAt.of_blk B1.out
  simp only[Nat.zero_add] at a0 a1 a2 a3 a4 b0 b1 b2 b3 b4 b5 b6
  go_wp2_with (first
   | ((with_reducible show wpList _ _ _ (⟨_,.store 32 _ _,_,_,_,_⟩::_) _ _);refine wpl_putHi (c:=(cLf 5 0 ByteArray.empty)) rfl _ _ rfl rfl rfl B1.out B0.out B2.out BE.out (by omega) HNE.out (by omega) (vKd 5) ?_;intro w6 hB1 hB0 hB2 hBE;clear B0 B1 B2 BE e0 e1 e2 e3 e4 a0 a1 a2 a3 a4 b0 b1 b2 b3 b4 b5 b6 z1;have B0:=qD hB0;have B1:=qD hB1;have B2:=qD hB2;have BE:=qD hBE;clear hB0 hB1 hB2 hBE;have z1:=B1.out.frozen;obtain⟨e0,e1,e2,e3,e4⟩:=VAt.of_blk B2.out;simp only[Nat.zero_add] at e0 e1 e2 e3 e4;obtain⟨⟨a0,a1,a2,a3,a4⟩,⟨b0,b1,b2,b3,b4⟩,b5,b6⟩:=IAt.of_blk B1.out;simp only[Nat.zero_add] at a0 a1 a2 a3 a4 b0 b1 b2 b3 b4 b5 b6)
   | ((with_reducible show wpList _ _ _ (⟨_,.load 93 _,_,_,_,_⟩::_) _ _);refine wpl_name ?_;intro w5 hw5;have C1:Hid (Blk w5 (w.heap.size+1) 93 R):=(by rw[Hid,hw5];refine Blk.cast9 (cs:=R) ?_;first|exact⟨_,B1.out,by rw[HR2.out];rfl⟩|exact⟨_,(Blk.set_ B1.out _ _),by rw[HR2.out];rfl⟩|exact⟨_,(Blk.set_ (Blk.set_ B1.out _ _) _ _),by rw[HR2.out];rfl⟩);have C0:Hid (Blk w5 w.heap.size 93 (arrI zI)):=(by rw[Hid,hw5];(repeat' refine Blk.far ?_ (by show w.heap.size≠w.heap.size+1;omega) _);exact B0.out);have CE:Hid (Below w.heap.size w w5):=(by rw[Hid,hw5];(repeat' refine Below.setCell ?_ (by show w.heap.size≤w.heap.size+1;omega) _);exact BE.out);have RG:Hid (w5.rangeAt (w.heap.size+1) 0 R.toList):=range_blk C1.out _ _ fun j v hj=>(by rw[Nat.zero_add,←hj,Array.getElem?_toList]);clear hw5 e0 e1 e2 e3 e4 a0 a1 a2 a3 a4 b0 b1 b2 b3 b4 b5 b6 B0 B1 B2 BE z1;refine wpList_mid_w rfl 93 _ rfl (w.heap.size+1) 0 rfl _ _ RG.out Tryz.underlying93 rfl (by rw[Array.length_toList,HRK.out];kernel_rfl) ?_)
   | ((with_reducible show wpList _ _ _ (⟨_,.store 93 _ _,_,_,_,_⟩::_) _ _);refine wpList_store_row rfl 93 _ _ rfl w.heap.size R rfl rfl 93 _ C0.out (by rw[HRK.out];kernel_rfl) (by rw[HRK.out];rfl) HALL.out ?_))
  exact bodyPost_ret (results_ivb rfl _ _ rfl _ rfl _ R HRK.out (blk_row C0.out R)) rfl ⟨by rw[HR.out];rfl,bel_row CE.out (qL) _⟩
 ·obtain⟨e0,e1,e2,e3,e4⟩:=VAt.of_blk B2.out
  simp only[Nat.zero_add] at e0 e1 e2 e3 e4
  obtain⟨⟨a0,a1,a2,a3,a4⟩,⟨b0,b1,b2,b3,b4⟩,b5,b6⟩:=IAt.of_blk B1.out
  simp only[Nat.zero_add] at a0 a1 a2 a3 a4 b0 b1 b2 b3 b4 b5 b6
  go_wp2_with (first
   | ((with_reducible show wpList _ _ _ (⟨_,.store 32 _ _,_,_,_,_⟩::_) _ _);refine wpl_putHi (c:=(cLf 6 0 ByteArray.empty)) rfl _ _ rfl rfl rfl B1.out B0.out B2.out BE.out (by omega) HNE.out (by omega) (vKd 6) ?_;intro w6 hB1 hB0 hB2 hBE;clear B0 B1 B2 BE e0 e1 e2 e3 e4 a0 a1 a2 a3 a4 b0 b1 b2 b3 b4 b5 b6 z1;have B0:=qD hB0;have B1:=qD hB1;have B2:=qD hB2;have BE:=qD hBE;clear hB0 hB1 hB2 hBE;have z1:=B1.out.frozen;obtain⟨e0,e1,e2,e3,e4⟩:=VAt.of_blk B2.out;simp only[Nat.zero_add] at e0 e1 e2 e3 e4;obtain⟨⟨a0,a1,a2,a3,a4⟩,⟨b0,b1,b2,b3,b4⟩,b5,b6⟩:=IAt.of_blk B1.out;simp only[Nat.zero_add] at a0 a1 a2 a3 a4 b0 b1 b2 b3 b4 b5 b6)
   | ((with_reducible show wpList _ _ _ (⟨_,.load 93 _,_,_,_,_⟩::_) _ _);refine wpl_name ?_;intro w5 hw5;have C1:Hid (Blk w5 (w.heap.size+1) 93 R):=(by rw[Hid,hw5];refine Blk.cast9 (cs:=R) ?_;first|exact⟨_,B1.out,by rw[HR2.out];rfl⟩|exact⟨_,(Blk.set_ B1.out _ _),by rw[HR2.out];rfl⟩|exact⟨_,(Blk.set_ (Blk.set_ B1.out _ _) _ _),by rw[HR2.out];rfl⟩);have C0:Hid (Blk w5 w.heap.size 93 (arrI zI)):=(by rw[Hid,hw5];(repeat' refine Blk.far ?_ (by show w.heap.size≠w.heap.size+1;omega) _);exact B0.out);have CE:Hid (Below w.heap.size w w5):=(by rw[Hid,hw5];(repeat' refine Below.setCell ?_ (by show w.heap.size≤w.heap.size+1;omega) _);exact BE.out);have RG:Hid (w5.rangeAt (w.heap.size+1) 0 R.toList):=range_blk C1.out _ _ fun j v hj=>(by rw[Nat.zero_add,←hj,Array.getElem?_toList]);clear hw5 e0 e1 e2 e3 e4 a0 a1 a2 a3 a4 b0 b1 b2 b3 b4 b5 b6 B0 B1 B2 BE z1;refine wpList_mid_w rfl 93 _ rfl (w.heap.size+1) 0 rfl _ _ RG.out Tryz.underlying93 rfl (by rw[Array.length_toList,HRK.out];kernel_rfl) ?_)
   | ((with_reducible show wpList _ _ _ (⟨_,.store 93 _ _,_,_,_,_⟩::_) _ _);refine wpList_store_row rfl 93 _ _ rfl w.heap.size R rfl rfl 93 _ C0.out (by rw[HRK.out];kernel_rfl) (by rw[HRK.out];rfl) HALL.out ?_))
  exact bodyPost_ret (results_ivb rfl _ _ rfl _ rfl _ R HRK.out (blk_row C0.out R)) rfl ⟨by rw[HR.out];rfl,bel_row CE.out (qL) _⟩
 ·obtain⟨e0,e1,e2,e3,e4⟩:=VAt.of_blk B2.out
  simp only[Nat.zero_add] at e0 e1 e2 e3 e4
  obtain⟨⟨a0,a1,a2,a3,a4⟩,⟨b0,b1,b2,b3,b4⟩,b5,b6⟩:=IAt.of_blk B1.out
  simp only[Nat.zero_add] at a0 a1 a2 a3 a4 b0 b1 b2 b3 b4 b5 b6
  go_wp2_with (first
   | ((with_reducible show wpList _ _ _ (⟨_,.store 32 _ _,_,_,_,_⟩::_) _ _);refine wpl_putHi (c:=(cLf 8 0 zero12)) rfl _ _ rfl rfl rfl B1.out B0.out B2.out BE.out (by omega) HNE.out (by omega) (.mk 8 0 zero12 [] []) ?_;intro w6 hB1 hB0 hB2 hBE;clear B0 B1 B2 BE e0 e1 e2 e3 e4 a0 a1 a2 a3 a4 b0 b1 b2 b3 b4 b5 b6 z1;have B0:=qD hB0;have B1:=qD hB1;have B2:=qD hB2;have BE:=qD hBE;clear hB0 hB1 hB2 hBE;have z1:=B1.out.frozen;obtain⟨e0,e1,e2,e3,e4⟩:=VAt.of_blk B2.out;simp only[Nat.zero_add] at e0 e1 e2 e3 e4;obtain⟨⟨a0,a1,a2,a3,a4⟩,⟨b0,b1,b2,b3,b4⟩,b5,b6⟩:=IAt.of_blk B1.out;simp only[Nat.zero_add] at a0 a1 a2 a3 a4 b0 b1 b2 b3 b4 b5 b6)
   | ((with_reducible show wpList _ _ _ (⟨_,.load 93 _,_,_,_,_⟩::_) _ _);refine wpl_name ?_;intro w5 hw5;have C1:Hid (Blk w5 (w.heap.size+1) 93 R):=(by rw[Hid,hw5];refine Blk.cast9 (cs:=R) ?_;first|exact⟨_,B1.out,by rw[HR2.out];rfl⟩|exact⟨_,(Blk.set_ B1.out _ _),by rw[HR2.out];rfl⟩|exact⟨_,(Blk.set_ (Blk.set_ B1.out _ _) _ _),by rw[HR2.out];rfl⟩);have C0:Hid (Blk w5 w.heap.size 93 (arrI zI)):=(by rw[Hid,hw5];(repeat' refine Blk.far ?_ (by show w.heap.size≠w.heap.size+1;omega) _);exact B0.out);have CE:Hid (Below w.heap.size w w5):=(by rw[Hid,hw5];(repeat' refine Below.setCell ?_ (by show w.heap.size≤w.heap.size+1;omega) _);exact BE.out);have RG:Hid (w5.rangeAt (w.heap.size+1) 0 R.toList):=range_blk C1.out _ _ fun j v hj=>(by rw[Nat.zero_add,←hj,Array.getElem?_toList]);clear hw5 e0 e1 e2 e3 e4 a0 a1 a2 a3 a4 b0 b1 b2 b3 b4 b5 b6 B0 B1 B2 BE z1;refine wpList_mid_w rfl 93 _ rfl (w.heap.size+1) 0 rfl _ _ RG.out Tryz.underlying93 rfl (by rw[Array.length_toList,HRK.out];kernel_rfl) ?_)
   | ((with_reducible show wpList _ _ _ (⟨_,.store 93 _ _,_,_,_,_⟩::_) _ _);refine wpList_store_row rfl 93 _ _ rfl w.heap.size R rfl rfl 93 _ C0.out (by rw[HRK.out];kernel_rfl) (by rw[HRK.out];rfl) HALL.out ?_))
  exact bodyPost_ret (results_ivb rfl _ _ rfl _ rfl _ R HRK.out (blk_row C0.out R)) rfl ⟨by rw[HR.out];rfl,bel_row CE.out (qL) _⟩
 ·obtain⟨e0,e1,e2,e3,e4⟩:=VAt.of_blk B2.out
  simp only[Nat.zero_add] at e0 e1 e2 e3 e4
  obtain⟨⟨a0,a1,a2,a3,a4⟩,⟨b0,b1,b2,b3,b4⟩,b5,b6⟩:=IAt.of_blk B1.out
  simp only[Nat.zero_add] at a0 a1 a2 a3 a4 b0 b1 b2 b3 b4 b5 b6
  go_wp2_with (first
   | ((with_reducible show wpList _ _ _ (⟨_,.store 32 _ _,_,_,_,_⟩::_) _ _);refine wpl_putLo (c:=(cLf 8 0 zero12)) rfl _ _ rfl rfl rfl B1.out B0.out B2.out BE.out (by omega) HNE.out (by omega) (.mk 8 0 zero12 [] []) ?_;intro w6 hB1 hB0 hB2 hBE;clear B0 B1 B2 BE e0 e1 e2 e3 e4 a0 a1 a2 a3 a4 b0 b1 b2 b3 b4 b5 b6 z1;have B0:=qD hB0;have B1:=qD hB1;have B2:=qD hB2;have BE:=qD hBE;clear hB0 hB1 hB2 hBE;have z1:=B1.out.frozen;obtain⟨e0,e1,e2,e3,e4⟩:=VAt.of_blk B2.out;simp only[Nat.zero_add] at e0 e1 e2 e3 e4;obtain⟨⟨a0,a1,a2,a3,a4⟩,⟨b0,b1,b2,b3,b4⟩,b5,b6⟩:=IAt.of_blk B1.out;simp only[Nat.zero_add] at a0 a1 a2 a3 a4 b0 b1 b2 b3 b4 b5 b6)
   | ((with_reducible show wpList _ _ _ (⟨_,.store 32 _ _,_,_,_,_⟩::_) _ _);refine wpl_putHi (c:=(cLf 9 0 ByteArray.empty)) rfl _ _ rfl rfl rfl B1.out B0.out B2.out BE.out (by omega) HNE.out (by omega) (vKd 9) ?_;intro w6 hB1 hB0 hB2 hBE;clear B0 B1 B2 BE e0 e1 e2 e3 e4 a0 a1 a2 a3 a4 b0 b1 b2 b3 b4 b5 b6 z1;have B0:=qD hB0;have B1:=qD hB1;have B2:=qD hB2;have BE:=qD hBE;clear hB0 hB1 hB2 hBE;have z1:=B1.out.frozen;obtain⟨e0,e1,e2,e3,e4⟩:=VAt.of_blk B2.out;simp only[Nat.zero_add] at e0 e1 e2 e3 e4;obtain⟨⟨a0,a1,a2,a3,a4⟩,⟨b0,b1,b2,b3,b4⟩,b5,b6⟩:=IAt.of_blk B1.out;simp only[Nat.zero_add] at a0 a1 a2 a3 a4 b0 b1 b2 b3 b4 b5 b6)
   | ((with_reducible show wpList _ _ _ (⟨_,.load 93 _,_,_,_,_⟩::_) _ _);refine wpl_name ?_;intro w5 hw5;have C1:Hid (Blk w5 (w.heap.size+1) 93 R):=(by rw[Hid,hw5];refine Blk.cast9 (cs:=R) ?_;first|exact⟨_,B1.out,by rw[HR2.out];rfl⟩|exact⟨_,(Blk.set_ B1.out _ _),by rw[HR2.out];rfl⟩|exact⟨_,(Blk.set_ (Blk.set_ B1.out _ _) _ _),by rw[HR2.out];rfl⟩);have C0:Hid (Blk w5 w.heap.size 93 (arrI zI)):=(by rw[Hid,hw5];(repeat' refine Blk.far ?_ (by show w.heap.size≠w.heap.size+1;omega) _);exact B0.out);have CE:Hid (Below w.heap.size w w5):=(by rw[Hid,hw5];(repeat' refine Below.setCell ?_ (by show w.heap.size≤w.heap.size+1;omega) _);exact BE.out);have RG:Hid (w5.rangeAt (w.heap.size+1) 0 R.toList):=range_blk C1.out _ _ fun j v hj=>(by rw[Nat.zero_add,←hj,Array.getElem?_toList]);clear hw5 e0 e1 e2 e3 e4 a0 a1 a2 a3 a4 b0 b1 b2 b3 b4 b5 b6 B0 B1 B2 BE z1;refine wpList_mid_w rfl 93 _ rfl (w.heap.size+1) 0 rfl _ _ RG.out Tryz.underlying93 rfl (by rw[Array.length_toList,HRK.out];kernel_rfl) ?_)
   | ((with_reducible show wpList _ _ _ (⟨_,.store 93 _ _,_,_,_,_⟩::_) _ _);refine wpList_store_row rfl 93 _ _ rfl w.heap.size R rfl rfl 93 _ C0.out (by rw[HRK.out];kernel_rfl) (by rw[HRK.out];rfl) HALL.out ?_))
  exact bodyPost_ret (results_ivb rfl _ _ rfl _ rfl _ R HRK.out (blk_row C0.out R)) rfl ⟨by rw[HR.out];rfl,bel_row CE.out (qL) _⟩
 ·obtain⟨e0,e1,e2,e3,e4⟩:=VAt.of_blk B2.out
  simp only[Nat.zero_add] at e0 e1 e2 e3 e4
  obtain⟨⟨a0,a1,a2,a3,a4⟩,⟨b0,b1,b2,b3,b4⟩,b5,b6⟩:=IAt.of_blk B1.out
  simp only[Nat.zero_add] at a0 a1 a2 a3 a4 b0 b1 b2 b3 b4 b5 b6
  go_wp2_with (first
   | ((with_reducible show wpList _ _ _ (⟨_,.load 93 _,_,_,_,_⟩::_) _ _);refine wpl_name ?_;intro w5 hw5;have C1:Hid (Blk w5 (w.heap.size+1) 93 R):=(by rw[Hid,hw5];refine Blk.cast9 (cs:=R) ?_;first|exact⟨_,B1.out,by rw[HR2.out];rfl⟩|exact⟨_,(Blk.set_ B1.out _ _),by rw[HR2.out];rfl⟩|exact⟨_,(Blk.set_ (Blk.set_ B1.out _ _) _ _),by rw[HR2.out];rfl⟩);have C0:Hid (Blk w5 w.heap.size 93 (arrI zI)):=(by rw[Hid,hw5];(repeat' refine Blk.far ?_ (by show w.heap.size≠w.heap.size+1;omega) _);exact B0.out);have CE:Hid (Below w.heap.size w w5):=(by rw[Hid,hw5];(repeat' refine Below.setCell ?_ (by show w.heap.size≤w.heap.size+1;omega) _);exact BE.out);have RG:Hid (w5.rangeAt (w.heap.size+1) 0 R.toList):=range_blk C1.out _ _ fun j v hj=>(by rw[Nat.zero_add,←hj,Array.getElem?_toList]);clear hw5 e0 e1 e2 e3 e4 a0 a1 a2 a3 a4 b0 b1 b2 b3 b4 b5 b6 B0 B1 B2 BE z1;refine wpList_mid_w rfl 93 _ rfl (w.heap.size+1) 0 rfl _ _ RG.out Tryz.underlying93 rfl (by rw[Array.length_toList,HRK.out];kernel_rfl) ?_)
   | ((with_reducible show wpList _ _ _ (⟨_,.store 93 _ _,_,_,_,_⟩::_) _ _);refine wpList_store_row rfl 93 _ _ rfl w.heap.size R rfl rfl 93 _ C0.out (by rw[HRK.out];kernel_rfl) (by rw[HRK.out];rfl) HALL.out ?_))
  exact bodyPost_ret (results_ivb rfl _ _ rfl _ rfl _ R HRK.out (blk_row C0.out R)) rfl ⟨by rw[HR.out];rfl,bel_row CE.out (qL) _⟩
 ·obtain⟨e0,e1,e2,e3,e4⟩:=VAt.of_blk B2.out
  simp only[Nat.zero_add] at e0 e1 e2 e3 e4
  obtain⟨⟨a0,a1,a2,a3,a4⟩,⟨b0,b1,b2,b3,b4⟩,b5,b6⟩:=IAt.of_blk B1.out
  simp only[Nat.zero_add] at a0 a1 a2 a3 a4 b0 b1 b2 b3 b4 b5 b6
  go_wp2_with (first
   | ((with_reducible show wpList _ _ _ (⟨_,.load 93 _,_,_,_,_⟩::_) _ _);refine wpl_name ?_;intro w5 hw5;have C1:Hid (Blk w5 (w.heap.size+1) 93 R):=(by rw[Hid,hw5];refine Blk.cast9 (cs:=R) ?_;first|exact⟨_,B1.out,by rw[HR2.out];rfl⟩|exact⟨_,(Blk.set_ B1.out _ _),by rw[HR2.out];rfl⟩|exact⟨_,(Blk.set_ (Blk.set_ B1.out _ _) _ _),by rw[HR2.out];rfl⟩);have C0:Hid (Blk w5 w.heap.size 93 (arrI zI)):=(by rw[Hid,hw5];(repeat' refine Blk.far ?_ (by show w.heap.size≠w.heap.size+1;omega) _);exact B0.out);have CE:Hid (Below w.heap.size w w5):=(by rw[Hid,hw5];(repeat' refine Below.setCell ?_ (by show w.heap.size≤w.heap.size+1;omega) _);exact BE.out);have RG:Hid (w5.rangeAt (w.heap.size+1) 0 R.toList):=range_blk C1.out _ _ fun j v hj=>(by rw[Nat.zero_add,←hj,Array.getElem?_toList]);clear hw5 e0 e1 e2 e3 e4 a0 a1 a2 a3 a4 b0 b1 b2 b3 b4 b5 b6 B0 B1 B2 BE z1;refine wpList_mid_w rfl 93 _ rfl (w.heap.size+1) 0 rfl _ _ RG.out Tryz.underlying93 rfl (by rw[Array.length_toList,HRK.out];kernel_rfl) ?_)
   | ((with_reducible show wpList _ _ _ (⟨_,.store 93 _ _,_,_,_,_⟩::_) _ _);refine wpList_store_row rfl 93 _ _ rfl w.heap.size R rfl rfl 93 _ C0.out (by rw[HRK.out];kernel_rfl) (by rw[HRK.out];rfl) HALL.out ?_))
  exact bodyPost_ret (results_ivb rfl _ _ rfl _ rfl _ R HRK.out (blk_row C0.out R)) rfl ⟨by rw[HR.out];rfl,bel_row CE.out (qL) _⟩
 ·obtain⟨e0,e1,e2,e3,e4⟩:=VAt.of_blk B2.out
  simp only[Nat.zero_add] at e0 e1 e2 e3 e4
  obtain⟨⟨a0,a1,a2,a3,a4⟩,⟨b0,b1,b2,b3,b4⟩,b5,b6⟩:=IAt.of_blk B1.out
  simp only[Nat.zero_add] at a0 a1 a2 a3 a4 b0 b1 b2 b3 b4 b5 b6
  go_wp2_with (first
   | ((with_reducible show wpList _ _ _ (⟨_,.load 93 _,_,_,_,_⟩::_) _ _);refine wpl_name ?_;intro w5 hw5;have C1:Hid (Blk w5 (w.heap.size+1) 93 R):=(by rw[Hid,hw5];refine Blk.cast9 (cs:=R) ?_;first|exact⟨_,B1.out,by rw[HR2.out];rfl⟩|exact⟨_,(Blk.set_ B1.out _ _),by rw[HR2.out];rfl⟩|exact⟨_,(Blk.set_ (Blk.set_ B1.out _ _) _ _),by rw[HR2.out];rfl⟩);have C0:Hid (Blk w5 w.heap.size 93 (arrI zI)):=(by rw[Hid,hw5];(repeat' refine Blk.far ?_ (by show w.heap.size≠w.heap.size+1;omega) _);exact B0.out);have CE:Hid (Below w.heap.size w w5):=(by rw[Hid,hw5];(repeat' refine Below.setCell ?_ (by show w.heap.size≤w.heap.size+1;omega) _);exact BE.out);have RG:Hid (w5.rangeAt (w.heap.size+1) 0 R.toList):=range_blk C1.out _ _ fun j v hj=>(by rw[Nat.zero_add,←hj,Array.getElem?_toList]);clear hw5 e0 e1 e2 e3 e4 a0 a1 a2 a3 a4 b0 b1 b2 b3 b4 b5 b6 B0 B1 B2 BE z1;refine wpList_mid_w rfl 93 _ rfl (w.heap.size+1) 0 rfl _ _ RG.out Tryz.underlying93 rfl (by rw[Array.length_toList,HRK.out];kernel_rfl) ?_)
   | ((with_reducible show wpList _ _ _ (⟨_,.store 93 _ _,_,_,_,_⟩::_) _ _);refine wpList_store_row rfl 93 _ _ rfl w.heap.size R rfl rfl 93 _ C0.out (by rw[HRK.out];kernel_rfl) (by rw[HRK.out];rfl) HALL.out ?_))
  exact bodyPost_ret (results_ivb rfl _ _ rfl _ rfl _ R HRK.out (blk_row C0.out R)) rfl ⟨by rw[HR.out];rfl,bel_row CE.out (qL) _⟩
theorem vequal_any(x y:Val)(c d:VC)(w:World)(h:RW w c x)(h':RW w d y):Calls Tryz.prog 86 #[c.val,d.val] w fun e w'=>e=.returned (.bool (cmpV x y==0))∧Below w.heap.size w w':=by
 have H:=qD h
 have H':=qD h'
 clear h h'
 go_enter Tryz.func86,Tryz.ntmps86
 go_wp2_with fail
 refine(cmp_any x y c d _ ((H.out.alloc _).alloc _) ((H'.out.alloc _).alloc _)).mono ?_
 rintro e w1 ⟨rfl,hb⟩
 go_wp2_with fail
 go_ret
 exact⟨rfl,(((Below.refl _ _).alloc (qL) _).alloc (by simp) _).step' hb⟩
def sameIv(x y:Iv):Bool:=(x.li==y.li)&&((x.hin==y.hin)&&((cmpV x.lo y.lo==0)&&(cmpV x.hi y.hi==0)))
def sameIvs:List Iv→List Iv→Bool
 | [],[]=>true
 | x::r,y::s=>sameIv x y&&sameIvs r s
 | _,_=>false
theorem sameIvs_len:∀{l m:List Iv},l.length≠m.length→sameIvs l m=false
 | [],[],h=>absurd rfl h
 | [],_::_,_=>rfl
 | _::_,[],_=>rfl
 | x::r,y::s,h=>by rw[sameIvs,sameIvs_len (by simpa using h),Bool.and_false]
theorem sameIvs_at{l m:List Iv}{i:Nat}{x y:Iv}(hx:l[i]?=some x)(hy:m[i]?=some y):sameIvs (l.drop i) (m.drop i)=(sameIv x y&&sameIvs (l.drop (i+1)) (m.drop (i+1))):=by rw[drop_of hx,drop_of hy,sameIvs]
theorem sameIvs_end{l m:List Iv}{i:Nat}(h1:l.length≤i)(h2:m.length≤i):sameIvs (l.drop i) (m.drop i)=true:=by rw[List.drop_of_length_le h1,List.drop_of_length_le h2];rfl
theorem sameIv_iff{s t:Cut×Cut}(hs:VC1 s.1∧VC1 s.2)(ht:VC1 t.1∧VC1 t.2):sameIv (ivOf s) (ivOf t)=true↔s=t:=by
 obtain⟨⟨a,b⟩,⟨c,d⟩⟩:=s
 obtain⟨⟨a',b'⟩,⟨c',d'⟩⟩:=t
 unfold sameIv ivOf
 simp only[Bool.and_eq_true,beq_iff_eq]
 constructor
 ·rintro⟨h1,h2,h3,h4⟩
  have e1:a=a':=congrArg Prod.fst (lin_cut.eq (a,false) (a',false) hs.1 ht.1 ((cmC_zero h3).trans rfl))
  have e2:c=c':=congrArg Prod.fst (lin_cut.eq (c,false) (c',false) hs.2 ht.2 ((cmC_zero h4).trans rfl))
  have e3:b=b':=by cases b<;>cases b'<;>simp at h1 ⊢
  rw[e1,e2,e3,h2]
 ·intro e
  simp only[Prod.mk.injEq] at e
  obtain⟨⟨rfl,rfl⟩,⟨rfl,rfl⟩⟩:=e
  have z:∀v:Val,cmpV v v=0:=fun v=>by have:=cmpV_anti v v;omega
  exact⟨rfl,rfl,z _,z _⟩
theorem sameIvs_iff:∀{n m:List (Cut×Cut)},(∀s∈n,VC1 s.1∧VC1 s.2)→(∀s∈m,VC1 s.1∧VC1 s.2)→(sameIvs (n.map ivOf) (m.map ivOf)=true↔n=m)
 | [],[],_,_=>by simp[sameIvs]
 | [],_::_,_,_=>by simp[sameIvs]
 | _::_,[],_,_=>by simp[sameIvs]
 | s::r,t::q,h1,h2=>by
  simp only[List.map_cons,sameIvs,Bool.and_eq_true]
  rw[sameIv_iff (h1 s (by simp)) (h2 t (by simp)),sameIvs_iff (fun x hx=>h1 x (by simp[hx])) (fun x hx=>h2 x (by simp[hx])),List.cons.injEq]
theorem sameIv1_any(p q:PI)(w:World)(hp:okI w p)(hq:okI w q):Calls Tryz.prog 223 #[aggI p,aggI q] w fun e w'=>e=.returned (.bool (sameIv (ivP p) (ivP q)))∧Below w.heap.size w w':=by
 have HK1:Hid (∀wr,Below w.heap.size w wr→Calls Tryz.prog 86 #[p.1.1.1.val,q.1.1.1.val] wr fun e w'=>e=.returned (.bool (cmpV p.1.1.2 q.1.1.2==0))∧Below wr.heap.size wr w'):=qD fun wr hb=>vequal_any _ _ _ _ wr (hp.1.step hb) (hq.1.step hb)
 have HK2:Hid (∀wr,Below w.heap.size w wr→Calls Tryz.prog 86 #[p.1.2.1.val,q.1.2.1.val] wr fun e w'=>e=.returned (.bool (cmpV p.1.2.2 q.1.2.2==0))∧Below wr.heap.size wr w'):=qD fun wr hb=>vequal_any _ _ _ _ wr (hp.2.step hb) (hq.2.step hb)
 have HS:Hid (sameIv (ivP p) (ivP q)=((p.2.1==q.2.1)&&((p.2.2==q.2.2)&&((cmpV p.1.1.2 q.1.1.2==0)&&(cmpV p.1.2.2 q.1.2.2==0))))):=qD rfl
 obtain⟨z1,hz1⟩:∃z,z=(cmpV p.1.1.2 q.1.1.2==0):=⟨_,rfl⟩
 obtain⟨z2,hz2⟩:∃z,z=(cmpV p.1.2.2 q.1.2.2==0):=⟨_,rfl⟩
 rw[←hz1] at HK1 HS
 rw[←hz2] at HK2 HS
 clear hz1 hz2 hp hq
 obtain⟨⟨⟨c1,x1⟩,⟨c2,x2⟩⟩,⟨f1,f2⟩⟩:=p
 obtain⟨⟨⟨e1,y1⟩,⟨e2,y2⟩⟩,⟨g1,g2⟩⟩:=q
 have B0:Hid (Blk ((w.alloc (.cells (arrI (((c1,x1),(c2,x2)),(f1,f2))) 93)).alloc (.cells (arrI (((e1,y1),(e2,y2)),(g1,g2))) 93)) w.heap.size 93 (arrI (((c1,x1),(c2,x2)),(f1,f2)))):=(Blk.new_at rfl).alloc _
 have B1:Hid (Blk ((w.alloc (.cells (arrI (((c1,x1),(c2,x2)),(f1,f2))) 93)).alloc (.cells (arrI (((e1,y1),(e2,y2)),(g1,g2))) 93)) (w.heap.size+1) 93 (arrI (((e1,y1),(e2,y2)),(g1,g2)))):=Blk.new_at (by simp)
 have BE:Hid (Below w.heap.size w ((w.alloc (.cells (arrI (((c1,x1),(c2,x2)),(f1,f2))) 93)).alloc (.cells (arrI (((e1,y1),(e2,y2)),(g1,g2))) 93))):=((Below.refl _ _).alloc (qL) _).alloc (by simp) _
 go_enter Tryz.func223,Tryz.ntmps223
 go_upto_region 1 with fail
 change Code.wp _ _ _ _ ((w.alloc (.cells (arrI (((c1,x1),(c2,x2)),(f1,f2))) 93)).alloc (.cells (arrI (((e1,y1),(e2,y2)),(g1,g2))) 93))
 generalize ((w.alloc (.cells (arrI (((c1,x1),(c2,x2)),(f1,f2))) 93)).alloc (.cells (arrI (((e1,y1),(e2,y2)),(g1,g2))) 93))=wa at*
 obtain⟨⟨a0,a1,a2,a3,a4⟩,⟨b0,b1,b2,b3,b4⟩,b5,b6⟩:=IAt.of_blk B0.out
 obtain⟨⟨c0,c3,c4,c5,c6⟩,⟨d0,d1,d2,d3,d4⟩,d5,d6⟩:=IAt.of_blk B1.out
 simp only[Nat.zero_add] at a0 a1 a2 a3 a4 b0 b1 b2 b3 b4 b5 b6 c0 c3 c4 c5 c6 d0 d1 d2 d3 d4 d5 d6
 obtain⟨u1,hu1⟩:∃u,u=(f1==g1):=⟨_,rfl⟩
 obtain⟨u2,hu2⟩:∃u,u=(f2==g2):=⟨_,rfl⟩
 simp only at HS
 rw[←hu1,←hu2] at HS
 replace hu1:=hu1.symm
 replace hu2:=hu2.symm
 cases u1
 ·go_wp2_with fail
  go_ret
  exact⟨by rw[HS.out];rfl,BE.out⟩
 cases u2
 ·go_wp2_with fail
  go_ret
  exact⟨by rw[HS.out];rfl,BE.out⟩
 go_wp2_with (fail)
 refine(HK1.out _ BE.out).mono ?_
 rintro e w1 ⟨rfl,hb⟩
 replace B0:=qD (B0.out.step hb)
 replace B1:=qD (B1.out.step hb)
 replace BE:=qD (BE.out.step' hb)
 clear hb a0 a1 a2 a3 a4 b0 b1 b2 b3 b4 b5 b6 c0 c3 c4 c5 c6 d0 d1 d2 d3 d4 d5 d6
 obtain⟨⟨a0,a1,a2,a3,a4⟩,⟨b0,b1,b2,b3,b4⟩,b5,b6⟩:=IAt.of_blk B0.out
 obtain⟨⟨c0,c3,c4,c5,c6⟩,⟨d0,d1,d2,d3,d4⟩,d5,d6⟩:=IAt.of_blk B1.out
 simp only[Nat.zero_add] at a0 a1 a2 a3 a4 b0 b1 b2 b3 b4 b5 b6 c0 c3 c4 c5 c6 d0 d1 d2 d3 d4 d5 d6
 cases z1
 ·go_wp2_with fail
  go_ret
  exact⟨by rw[HS.out];rfl,BE.out⟩
 go_wp2_with (fail)
 refine(HK2.out _ BE.out).mono ?_
 rintro e w1 ⟨rfl,hb⟩
 replace BE:=qD (BE.out.step' hb)
 clear hb a0 a1 a2 a3 a4 b0 b1 b2 b3 b4 b5 b6 c0 c3 c4 c5 c6 d0 d1 d2 d3 d4 d5 d6
 go_wp2_with fail
 go_ret
 exact⟨by rw[HS.out];rfl,BE.out⟩
theorem eqIvs_any(xs ys:List PI)(A B:Option Addr)(n c m d:Nat)(w:World)(h:SI w A n c xs)(h':SI w B m d ys):
 Calls Tryz.prog 222 #[.slice A n c,.slice B m d,.func (.func 223) #[] #[]] w fun e w'=>e=.returned (.bool (sameIvs (xs.map ivP) (ys.map ivP)))∧Below w.heap.size w w':=by
 have hz:n≤140737488355328:=by have:=h.sz;unfold reach at this;omega
 have hk:m≤140737488355328:=by have:=h'.sz;unfold reach at this;omega
 have H:=qD h
 have H':=qD h'
 clear h h'
 by_cases hnk:n=m
 ·subst hnk
  go_enter Tryz.func222,Tryz.ntmps222
  go_upto_region 4 with fail
  go_loopw [17] (fun v wr=>∃i:Nat,i≤n∧v=.int .i64 i∧sameIvs (xs.map ivP) (ys.map ivP)=sameIvs ((xs.map ivP).drop i) ((ys.map ivP).drop i)∧Below w.heap.size w wr) (fun v _=>n-(intOf v).toNat)
  case atStart=>exact⟨0,Nat.zero_le _,rfl,rfl,Below.refl _ _⟩
  case round=>
   obtain⟨i,hi,rfl,ha,hbel⟩:=hrel
   have HA:=qD ha
   have HB:=qD hbel
   clear ha hbel
   by_cases hlt:i<n
   ·obtain⟨p,hp⟩:∃p,xs[i]?=some p:=⟨_,List.getElem?_eq_getElem (by have:=H.out.sr.ln;omega)⟩
    obtain⟨q,hq⟩:∃q,ys[i]?=some q:=⟨_,List.getElem?_eq_getElem (by have:=H'.out.sr.ln;omega)⟩
    obtain⟨b,off,rfl,hb,hat,hok⟩:=H.out.at hp
    obtain⟨b',off',rfl,hb',hat',hok'⟩:=H'.out.at hq
    have HX:=qD (sameIvs_at (l:=xs.map ivP) (m:=ys.map ivP) (i:=i) (x:=ivP p) (y:=ivP q) (by rw[List.getElem?_map,hp];rfl) (by rw[List.getElem?_map,hq];rfl))
    have HC:=qD fun wz (hz:Below w.heap.size w wz)=>sameIv1_any p q wz (hok.step hz) (hok'.step hz)
    obtain⟨⟨a0,a1,a2,a3,a4⟩,⟨b0,b1,b2,b3,b4⟩,b5,b6⟩:=hat.keep (HB.out.block b hb)
    go_upto_region 6 with fail
    change Code.wp _ _ _ _ (wr.alloc (.cells (arrI p) 93))
    have B0:Hid (Blk (wr.alloc (.cells (arrI p) 93)) wr.heap.size 93 (arrI p)):=Blk.new_at rfl
    have BE:Hid (Below w.heap.size w (wr.alloc (.cells (arrI p) 93))):=HB.out.alloc HB.out.size _
    have hat2:=hat'.keep (w':=wr.alloc (.cells (arrI p) 93)) (BE.out.block b' hb')
    generalize hwz:wr.alloc (.cells (arrI p) 93)=wz at*
    clear hwz a0 a1 a2 a3 a4 b0 b1 b2 b3 b4 b5 b6
    obtain⟨⟨c0,c3,c4,c5,c6⟩,⟨d0,d1,d2,d3,d4⟩,d5,d6⟩:=hat2
    clear hat hat' hok hok' hp hq
    generalize wr.heap.size=gz at*
    go_upto_region 7 with fail
    change Code.wp _ _ _ _ (wz.alloc (.cells (arrI q) 93))
    have B1:Hid (Blk (wz.alloc (.cells (arrI q) 93)) wz.heap.size 93 (arrI q)):=Blk.new_at rfl
    replace B0:=qD (B0.out.alloc (.cells (arrI q) 93))
    replace BE:=qD (BE.out.alloc BE.out.size (Obj.cells (arrI q) 93))
    generalize wz.alloc (.cells (arrI q) 93)=wa at*
    clear c0 c3 c4 c5 c6 d0 d1 d2 d3 d4 d5 d6
    obtain⟨⟨a0,a1,a2,a3,a4⟩,⟨b0,b1,b2,b3,b4⟩,b5,b6⟩:=IAt.of_blk B0.out
    obtain⟨⟨c0,c3,c4,c5,c6⟩,⟨d0,d1,d2,d3,d4⟩,d5,d6⟩:=IAt.of_blk B1.out
    simp only[Nat.zero_add] at a0 a1 a2 a3 a4 b0 b1 b2 b3 b4 b5 b6 c0 c3 c4 c5 c6 d0 d1 d2 d3 d4 d5 d6
    generalize wz.heap.size=gy at*
    go_wp2_with fail
    refine(HC.out _ BE.out).mono ?_
    rintro e w1 ⟨rfl,hb1⟩
    have CE:=qD (BE.out.step' hb1)
    clear hb1 a0 a1 a2 a3 a4 b0 b1 b2 b3 b4 b5 b6 c0 c3 c4 c5 c6 d0 d1 d2 d3 d4 d5 d6
    obtain⟨z,hz'⟩:∃z,z=sameIv (ivP p) (ivP q):=⟨_,rfl⟩
    rw[←hz'] at HX ⊢
    clear hz'
    cases z
    ·have HF:Hid (sameIvs (xs.map ivP) (ys.map ivP)=false):=by rw[Hid,HA.out,HX.out];rfl
     go_wp2_with fail
     go_ret
     exact⟨by rw[HF.out];rfl,CE.out⟩
    ·have HF:Hid (sameIvs (xs.map ivP) (ys.map ivP)=sameIvs ((xs.map ivP).drop (i+1)) ((ys.map ivP).drop (i+1))):=by rw[Hid,HA.out,HX.out];rfl
     go_wp2_with fail
     go_roundw
     case rel=>exact⟨i+1,by omega,by go_num,HF.out,CE.out⟩
     case measure=>simp[intOf];omega
   ·have HF:Hid (sameIvs (xs.map ivP) (ys.map ivP)=true):=by rw[Hid,HA.out];exact sameIvs_end (by have:=H.out.sr.ln;simp;omega) (by have:=H'.out.sr.ln;simp;omega)
    go_wp2_with fail
    go_ret
    exact⟨by rw[HF.out];rfl,HB.out⟩
 ·have HF:Hid (sameIvs (xs.map ivP) (ys.map ivP)=false):=sameIvs_len (by have:=H.out.sr.ln;have:=H'.out.sr.ln;simp;omega)
  have hnk':((n:Int) != (m:Int))=true:=by simp;omega
  go_enter Tryz.func222,Tryz.ntmps222
  go_wp2_with fail
  go_ret
  exact⟨by rw[HF.out];rfl,Below.refl _ _⟩
theorem sameIvs_any(xs ys:List PI)(A B:Option Addr)(n c m d:Nat)(w:World)(h:SI w A n c xs)(h':SI w B m d ys):
 Calls Tryz.prog 170 #[.slice A n c,.slice B m d] w fun e w'=>e=.returned (.bool (sameIvs (xs.map ivP) (ys.map ivP)))∧Below w.heap.size w w':=by
 have H:=qD (eqIvs_any xs ys A B n c m d w h h')
 clear h h'
 go_enter Tryz.func170,Tryz.ntmps170
 go_wp2_with fail
 refine H.out.mono ?_
 rintro e w1 ⟨rfl,hb⟩
 have HB:=qD hb
 clear hb
 go_wp2_with fail
 go_ret
 exact⟨rfl,HB.out⟩
theorem isAll_any{S:Cut→Prop}{nf:List (Cut×Cut)}(xs:List PI)(A:Option Addr)(n c:Nat)(w:World)(h:SI w A n c xs)(hx:xs.map ivP=nf.map ivOf)(hn:IsNF S nf):
 Calls Tryz.prog 104 #[.slice A n c] w fun e w'=>e=.returned (.bool (isAllB S))∧Below w.heap.size w w':=by
 have H:=qD h
 have HX:=qD hx
 have HN:=qD hn
 clear h hx hn
 go_enter Tryz.func104,Tryz.ntmps104
 go_wp2_with fail
 refine(all_any w).mono ?_
 rintro e w1 ⟨A1,m1,c1,ys,n1,rfl,hy,hn1,_,hsi,hb⟩
 have HB:=qD hb
 have HS:Hid (sameIvs (xs.map ivP) (ys.map ivP)=isAllB S):=by
  have e1:n1=[((vMin,false),(vMax,true))]:=hn1.unique all_nf fun _ _=>Iff.rfl
  rw[Hid,HX.out,hy,Bool.eq_iff_iff,sameIvs_iff (fun s hs=>(HN.out.1.ne s hs).2) (fun s hs=>(hn1.1.ne s hs).2),e1]
  exact nf_isAll HN.out
 have HC:=qD (sameIvs_any xs ys A A1 n c m1 c1 w1 (H.out.step hb) hsi)
 rw[HS.out] at HC
 clear hb hy hn1 hsi HS
 go_wp2_with fail
 refine HC.out.mono ?_
 rintro e w2 ⟨rfl,hb⟩
 have CE:=qD (HB.out.step' hb)
 clear hb
 go_wp2_with fail
 go_ret
 exact⟨rfl,CE.out⟩
noncomputable def afterE(s:ByteArray):Ending:=.returned (.tuple #[.string ((afterB s).getD ByteArray.empty),.bool (afterB s).isSome])
theorem afterE_none{s:ByteArray}(h:stripN s s.size=0):afterE s=.returned (.tuple #[.string ByteArray.empty,.bool false]):=by
 unfold afterE afterB
 rw[h]
 rfl
theorem afterE_some{s:ByteArray}{n:Nat}(h:stripN s s.size=n+1):afterE s=.returned (.tuple #[.string (s.extract 0 n++⟨#[s.data[n]?.getD 0+1]⟩),.bool true]):=by
 unfold afterE afterB
 rw[h]
 rfl
theorem strip_255{s : ByteArray}{m : Nat}(hm : m < s.size)(h : (s[m]'hm).toNat = 255) : stripN s (m + 1) = stripN s m := by
 have e:s.data[m]?=some 255:=by
  rw[Array.getElem?_eq_some_iff]
  exact⟨hm,UInt8.toNat_inj.1 h⟩
 conv=>lhs;unfold stripN
 rw[if_pos e]
theorem strip_ne{s : ByteArray}{m : Nat}(hm : m < s.size)(h : (s[m]'hm).toNat ≠ 255) : stripN s (m + 1) = m + 1 := by
 have e:¬s.data[m]?=some 255:=by
  rw[Array.getElem?_eq_some_iff]
  rintro⟨_,k⟩
  exact h (congrArg UInt8.toNat k)
 conv=>lhs;unfold stripN
 rw[if_neg e]
theorem after_any(s:ByteArray)(w:World)(hz:s.size≤reach):Calls Tryz.prog 109 #[.string s] w fun e w'=>e=afterE s∧Below w.heap.size w w':=by
 have HZ:Hid (s.size≤reach):=qD hz
 clear hz
 go_enter Tryz.func109,Tryz.ntmps109
 go_upto_region 2 with fail
 go_loopw [4] (fun v wr=>∃n:Nat,v=.int .i64 n∧n≤s.size∧stripN s n=stripN s s.size∧wr=w) (fun v _=>match v with | .int _ n=>n.toNat|_=>0)
 case atStart=>exact⟨s.size,rfl,qL,rfl,rfl⟩
 case round=>
  obtain⟨n,rfl,hn,hs,rfl⟩:=hrel
  have HS:=qD hs
  clear hs
  cases n with
  | zero=>
   go_wp2_with fail
   go_ret2
   exact⟨(afterE_none (by rw[←HS.out];rfl)).symm,Below.refl _ _⟩
  | succ m=>
   have HM:Hid (m<s.size):=qD hn
   have HW:Hid (wrap64 (m:Int)=(m:Int)):=by have:=HZ.out;unfold reach at this;exact qD (by unfold wrap64;omega)
   obtain ⟨x, hx⟩ : ∃ x : Int, ((s[m]'HM.out).toNat : Int) = x := ⟨_, rfl⟩
   by_cases h255:x=255
   ·subst h255
    have HX:=qD (strip_255 HM.out (by omega))
    have hw:=HW.out
    go_wp2_with fail
    refine⟨⟨m,by rw[hw],by omega,by rw[←HX.out];exact HS.out,trivial⟩,?_⟩
    rw[hw]
    show(m:Int).toNat<((m+1:Nat):Int).toNat
    omega
   ·have HX:=qD (strip_ne HM.out (by omega))
    have h1:(x==255)=false:=by simpa using h255
    clear h255
    have hw:=HW.out
    go_wp2_with fail
    obtain⟨z,hz⟩:∃z:Int,z=(x+1)%256:=⟨_,rfl⟩
    have hcv:(convert 143 9 (.slice (some ⟨wr.heap.size,0,none⟩) 1 1)).run Tryz.prog ((wr.alloc (.cells #[.int .u8 ((x+1)%256)] 5)).drew)=.ok (.string (strOfNums [z])) ((wr.alloc (.cells #[.int .u8 ((x+1)%256)] 5)).drew):=by
     rw[←hz]
     refine run_convert_bytes_arg (P:=Tryz.prog) _ 143 5 Tryz.underlying143 Tryz.underlying5 wr.heap.size 0 1 1 [z] rfl (fun i hi=>?_) 9 Tryz.underlying9
     obtain rfl:i=0:=by omega
     exact(Blk.new wr 5 #[.int .u8 z]).drew.cell 0
    obtain⟨Z,hZ⟩:∃Z,Z=strOfNums [z]:=⟨_,rfl⟩
    rw[←hZ] at hcv
    have hZs:Z.size=1:=by rw[hZ,strOfNums_size];rfl
    have hcat:∀w2:World,(Op.stringOp .add (s.extract 0 m) Z).run Tryz.prog w2=.ok (.string (s.extract 0 m++Z)) w2:=fun w2=>run_string_add_sum _ _ _ (by
     have h1:=HZ.out
     have h2:=HM.out
     unfold reach at h1
     rw[hZs,ByteArray.size_extract]
     omega)
    clear hZs
    have HZ2:=qD hZ
    have HZZ:=qD hz
    clear hz hZ
    have HX1:=qD hx
    go_region
    all_goals
     go_wp2_with fail
     go_ret2
     refine⟨?_,((Below.refl _ _).alloc (qL) _).drew⟩
     have hb := (s[m]'HM.out).toNat_lt
     have hx1:=HX1.out
     have hat : s.data[m]?.getD 0 = s[m]'HM.out := by
      rw[Array.getElem?_eq_getElem (show m<s.data.size from HM.out)]
      rfl
     rw[afterE_some (show stripN s s.size=m+1 by rw[←HS.out];exact HX.out),hat,HZ2.out,HZZ.out]
     have hne:x≠255:=by simpa using h1
     have e : strOfNums [(x + 1) % 256] = ⟨#[s[m]'HM.out + 1]⟩ := by
      apply ByteArray.ext
      apply Array.toList_inj.1
      rw[strOfNums_data]
      simp only[List.map_cons,List.map_nil]
      have : UInt8.ofNat ((x + 1) % 256).toNat = s[m]'HM.out + 1 := by
       apply UInt8.toNat_inj.1
       rw[UInt8.toNat_ofNat',UInt8.toNat_add]
       have:(1:UInt8).toNat=1:=rfl
       rw[this]
       omega
      rw[this]
     rw[e]
     rfl
def limP(op:Int)(q:PI)(a:PV):PI:=if op=4∨op=5 then((a,q.1.2),(decide (op=5),q.2.2)) else((q.1.1,a),(q.2.1,decide (op=7)))
theorem limP_iv{op:Int}{x:Val}{c:VC}{q:PI}(hq:ivP q=rangeI x.k):ivP (limP op q (c,x))=limI op x:=by
 unfold limP limI
 split
 ·rw[←hq];rfl
 ·rw[←hq];rfl
theorem results_ivc{fn:Func}{p:Tmp}(h:fn.results=#[.cell p 93])(tmps:Array Value)(g:Nat)(h1:tmps[p]?.getD undef=.pointer (some ⟨g,0,none⟩))(W:World)(R:Array Value)(hz:R.size=12)(q:Blk W g 93 R):(results fn tmps).run Tryz.prog W=.ok (.agg R) W:=by
 simp[results,h,h1,asAddr,load_iv q hz]
theorem arrI_all(v:PI):(arrI v).all (·.oneCell')=true:=by simp[Value.oneCell']
theorem limited_any(q:PI)(p:PrT)(w:World)(ho:p.op=4∨p.op=5∨p.op=6∨p.op=7):
 Calls Tryz.prog 51 #[aggI q,aggPr p] w fun e w'=>e=.returned (aggI (limP p.op q p.arg))∧Below w.heap.size w w':=by
 have B0:Hid (Blk (((w.alloc (.cells (arrI q) 93)).alloc (.cells (arrPr p) 41)).alloc (.cells (arrI zI) 93)) w.heap.size 93 (arrI q)):=((Blk.new_at rfl).alloc _).alloc _
 have B1:Hid (Blk (((w.alloc (.cells (arrI q) 93)).alloc (.cells (arrPr p) 41)).alloc (.cells (arrI zI) 93)) (w.heap.size+1) 41 (arrPr p)):=(Blk.new_at (by simp)).alloc _
 have B2:Hid (Blk (((w.alloc (.cells (arrI q) 93)).alloc (.cells (arrPr p) 41)).alloc (.cells (arrI zI) 93)) (w.heap.size+2) 93 (arrI zI)):=Blk.new_at (by simp)
 have BE:Hid (Below w.heap.size w (((w.alloc (.cells (arrI q) 93)).alloc (.cells (arrPr p) 41)).alloc (.cells (arrI zI) 93))):=(((Below.refl _ _).alloc (qL) _).alloc (by simp) _).alloc (by simp;omega) _
 go_enter Tryz.func51,Tryz.ntmps51
 go_upto_region 1 with fail
 change Code.wp _ _ _ _ (((w.alloc (.cells (arrI q) 93)).alloc (.cells (arrPr p) 41)).alloc (.cells (arrI zI) 93))
 generalize (((w.alloc (.cells (arrI q) 93)).alloc (.cells (arrPr p) 41)).alloc (.cells (arrI zI) 93))=wa at*
 obtain⟨d0,_,_,_,_,_,_,_⟩:=pr_cells B1.out
 have f2:=(range_parg B1.out) 0 _ rfl
 have f3:=(range_parg B1.out) 1 _ rfl
 have f4:=(range_parg B1.out) 2 _ rfl
 have f5:=(range_parg B1.out) 3 _ rfl
 have f6:=(range_parg B1.out) 4 _ rfl
 simp only[Nat.reduceAdd] at f2 f3 f4 f5 f6
 obtain⟨⟨a0,a1,a2,a3,a4⟩,⟨b0,b1,b2,b3,b4⟩,b5,b6⟩:=IAt.of_blk B0.out
 simp only[Nat.zero_add] at a0 a1 a2 a3 a4 b0 b1 b2 b3 b4 b5 b6
 have z0:=B0.out.frozen
 obtain⟨op,hop⟩:∃op,op=p.op:=⟨_,rfl⟩
 rw[←hop] at d0 ho
 have HOP:=qD hop
 clear hop
 obtain⟨R,hR⟩:∃R:Array Value,R=arrI (limP op q p.arg):=⟨_,rfl⟩
 have HR2:=qD hR
 have HRK:Hid (R.size=12):=by rw[hR];exact qD rfl
 have HALL:Hid (R.all (·.oneCell')=true):=by rw[Hid,hR];exact arrI_all _
 have HAG:Hid (aggI (limP op q p.arg)=.agg R):=by rw[hR];exact qD rfl
 clear hR
 rcases ho with rfl|rfl|rfl|rfl
 all_goals
  first|go_upto_region 4 with fail|go_upto_region 7 with fail
  go_region
  all_goals
   go_upto_region 8 with fail
   refine wp_name ?_
   intro w5 hw5
   have C0:Hid (Blk w5 w.heap.size 93 R):=by
    rw[Hid,hw5]
    refine Blk.cast9 (cs:=R) ?_
    exact⟨_,Blk.drew (Blk.set_ (Blk.set_ (Blk.set_ (Blk.set_ (Blk.set_ (Blk.set_ B0.out _ _) _ _) _ _) _ _) _ _) _ _),by rw[HR2.out];rfl⟩
   have C2:Hid (Blk w5 (w.heap.size+2) 93 (arrI zI)):=by
    rw[Hid,hw5]
    refine Blk.drew ?_
    repeat' refine Blk.far ?_ (by show w.heap.size+2≠w.heap.size;omega) _
    exact B2.out
   have CE:Hid (Below w.heap.size w w5):=by
    rw[Hid,hw5]
    refine Below.drew ?_
    repeat' refine Below.setCell ?_ (by show w.heap.size≤w.heap.size;omega) _
    exact BE.out
   have RG:Hid (w5.rangeAt w.heap.size 0 R.toList):=range_blk C0.out _ _ fun j v hj=>by rw[Nat.zero_add,←hj,Array.getElem?_toList]
   clear hw5 a0 a1 a2 a3 a4 b0 b1 b2 b3 b4 b5 b6 B0 B1 B2 BE z0 f2 f3 f4 f5 f6 d0
   go_wp2_with (first
    | ((with_reducible show wpList _ _ _ (⟨_,.load 93 _,_,_,_,_⟩::_) _ _);refine wpList_mid_w rfl 93 _ rfl w.heap.size 0 rfl _ _ RG.out Tryz.underlying93 rfl (by rw[Array.length_toList,HRK.out];kernel_rfl) ?_)
    | ((with_reducible show wpList _ _ _ (⟨_,.store 93 _ _,_,_,_,_⟩::_) _ _);refine wpList_store_row rfl 93 _ _ rfl (w.heap.size+2) R rfl rfl 93 _ C2.out (by rw[HRK.out];kernel_rfl) (by rw[HRK.out];rfl) HALL.out ?_))
   exact bodyPost_ret (results_ivc rfl _ _ rfl _ R HRK.out (blk_row C2.out R)) rfl ⟨by rw[←HOP.out,HAG.out],bel_row CE.out (by omega) _⟩
def OfOk(r:PSet)(k:Nat)(w:World)(e:Ending)(w':World):Prop:=
 ∃(A:Option Addr) (m c:Nat) (ys:List PI) (nf:List (Cut×Cut)),e=.returned (.tuple #[.slice A m c,.bool r.2])∧ys.map ivP=nf.map ivOf∧IsNF r.1 nf∧m≤k∧SI w' A m c ys∧Below w.heap.size w w'∧∀y∈ys,Fr w.heap.size w' y
theorem OfOk.up{r:PSet}{k k':Nat}{w0 w w':World}{e:Ending}(h:OfOk r k w e w')(hb:Below w0.heap.size w0 w)(hk:k≤k'):OfOk r k' w0 e w':=by
 obtain⟨A,m,c,ys,nf,h1,h2,h3,h4,h5,h6,h7⟩:=h
 exact⟨A,m,c,ys,nf,h1,h2,h3,Nat.le_trans h4 hk,h5,hb.step' h6,fun y hy=>(h7 y hy).low hb.size⟩
theorem in_exact{xs:List PV}{b:Bool}(h6:∀x∈xs,x.2.k≠6)(hb:b=true↔∀x∈xs,x.2.k≠2){arg:Val}{n:Int}:leafI 8 arg (xs.map Prod.snd) n=some ((xs.map Prod.snd).map ptIv,b):=by
 rw[leafI_in (by rintro⟨v,hv,hk⟩;obtain⟨x,hx,rfl⟩:=List.mem_map.1 hv;exact h6 x hx hk)]
 congr 2
 rw[Bool.eq_iff_iff,decide_eq_true_iff,hb]
 constructor
 ·intro h x hx hk
  exact h ⟨x.2,List.mem_map_of_mem hx,hk⟩
 ·rintro h ⟨v,hv,hk⟩
  obtain⟨x,hx,rfl⟩:=List.mem_map.1 hv
  exact h x hx hk
theorem ofIn_any(p:PrT)(w:World)(hw:WP w p)(hT:Tabs w):Calls Tryz.prog 52 #[aggPr p] w (OfOk (leafS 8 p.arg.2 (p.args.xs.map Prod.snd) p.n) (p.args.n+1) w):=by
 have HT:=qD hT
 have W:=qD hw.open
 have haz:p.args.n≤1048576:=W.out.few
 clear hw hT
 have B0:Hid (Blk (w.alloc (.cells (arrPr p) 41)) w.heap.size 41 (arrPr p)):=Blk.new_at rfl
 have BE:=qD ((Below.refl w.heap.size w).alloc (qL) (Obj.cells (arrPr p) 41))
 go_enter Tryz.func52,Tryz.ntmps52
 go_upto_region 1 with fail
 change Code.wp _ _ _ _ (w.alloc (.cells (arrPr p) 41))
 generalize w.alloc (.cells (arrPr p) 41)=wa at*
 obtain⟨_,_,_,_,d7,_,_,_⟩:=pr_cells B0.out
 go_upto_region 3 with fail
 go_loopw [4,6,10] (fun v4 _ v10 wr=>∃(i:Nat) (b:Bool),i≤p.args.n∧v10=.int .i64 i∧v4=.bool b∧(∀x∈p.args.xs.take i,x.2.k≠6)∧(b=true↔∀x∈p.args.xs.take i,x.2.k≠2)∧Blk wr w.heap.size 41 (arrPr p)∧Below w.heap.size w wr) (fun _ _ v10 _=>p.args.n-(intOf v10).toNat)
 case atStart=>exact⟨0,true,Nat.zero_le _,rfl,rfl,by simp,by simp,B0.out,BE.out⟩
 case round=>
  obtain⟨i,bx,hi,rfl,rfl,h6,h2,hB0,hBE⟩:=hrel
  clear B0 BE d7
  have B0:=qD hB0
  have BE:=qD hBE
  have H6:=qD h6
  have H2:=qD h2
  obtain⟨_,_,_,_,d7,_,_,_⟩:=pr_cells B0.out
  clear hB0 hBE h6 h2
  by_cases hlt:i<p.args.n
  ·obtain⟨b,off,x,hA,hb,hx,hm,hrg⟩:=W.out.args.sr.row hlt
   have HX:=qD hx
   have RG:=qD (range_step hrg BE.out hb)
   have HM:=qD hm
   have HK:Hid (x.1.k=x.2.k):=qD (W.out.args.rv x hm).open.k
   have i0:(0:Int)≤(i:Int):=by omega
   have i1:(i:Int)<(p.args.n:Int):=by omega
   clear hrg hx hm
   have q0:=RG.out 0 _ rfl
   have q1:=RG.out 1 _ rfl
   have q2:=RG.out 2 _ rfl
   have q3:=RG.out 3 _ rfl
   have q4:=RG.out 4 _ rfl
   simp only[Nat.add_zero] at q0
   have HA:=qD hA
   rw[hA]
   clear hA d7
   go_upto_region 5 with fail
   change Code.wp _ _ _ _ (wr.alloc (.cells x.1.arr 32))
   have JB:Hid (Blk (wr.alloc (.cells x.1.arr 32)) wr.heap.size 32 x.1.arr):=Blk.new_at rfl
   replace B0:=qD (B0.out.alloc (.cells x.1.arr 32))
   replace BE:=qD (BE.out.alloc BE.out.size (Obj.cells x.1.arr 32))
   generalize wr.alloc (.cells x.1.arr 32)=wb at*
   generalize wr.heap.size=ga at*
   clear q0 q1 q2 q3 q4 RG
   have q0:=JB.out.cell 0
   simp at q0
   obtain⟨kk,hkk⟩:∃k,k=x.1.k:=⟨_,rfl⟩
   rw[←hkk] at q0 HK
   have HKK:=qD hkk
   clear hkk
   cases h6:(kk==6)
   ·have n6:x.2.k≠6:=by rw[←HK.out];simpa using h6
    have N6:=qD n6
    clear n6
    have tk:p.args.xs.take (i+1)=p.args.xs.take i++[x]:=by rw[List.take_add_one,HX.out];rfl
    have TK:=qD tk
    clear tk
    cases bx
    ·go_wp2_with fail
     go_roundw
     case rel=>
      refine⟨i+1,false,by omega,by go_num,rfl,fun y hy=>?_,?_,B0.out,BE.out⟩
      ·rw[TK.out] at hy
       rcases List.mem_append.1 hy with hy|hy
       ·exact H6.out y hy
       ·obtain rfl:y=x:=by simpa using hy
        exact N6.out
      ·rw[TK.out]
       refine⟨fun h=>by simp at h,fun h=>?_⟩
       exact H2.out.2 fun y hy=>h y (by simp[hy])
     case measure=>simp[intOf];omega
    ·go_wp2_with fail
     go_roundw
     case rel=>
      refine⟨i+1,(kk != 2),by omega,by go_num,rfl,fun y hy=>?_,?_,B0.out,BE.out⟩
      ·rw[TK.out] at hy
       rcases List.mem_append.1 hy with hy|hy
       ·exact H6.out y hy
       ·obtain rfl:y=x:=by simpa using hy
        exact N6.out
      ·rw[TK.out]
       have e:(kk != 2)=true↔x.2.k≠2:=by rw[←HK.out];simp
       rw[e]
       refine⟨fun h y hy=>?_,fun h=>h x (by simp)⟩
       rcases List.mem_append.1 hy with hy|hy
       ·exact H2.out.1 rfl y hy
       ·obtain rfl:y=x:=by simpa using hy
        exact h
     case measure=>simp[intOf];omega
   ·have e6:x.2.k=6:=by rw[←HK.out];simpa using h6
    have E6:=qD e6
    clear e6
    have HL:Hid (leafS 8 p.arg.2 (p.args.xs.map Prod.snd) p.n=(allS,false)):=qD (leafS_none (leafI_in6 ⟨x.2,List.mem_map_of_mem HM.out,E6.out⟩))
    go_wp2_with fail
    refine(allF_any wb).mono ?_
    rintro e w3 ⟨A3,m3,c3,ys,nf,rfl,hy,hnf,hmk,hsi,hb3,hfr⟩
    have HNO:=qD (show OfOk (allS,false) 1 wb (.returned (.tuple #[.slice A3 m3 c3,.bool false])) w3 from⟨A3,m3,c3,ys,nf,rfl,hy,hnf,hmk,hsi,hb3,hfr⟩)
    clear hy hnf hmk hsi hb3 hfr
    go_wp2_with fail
    go_ret2
    rw[HL.out]
    exact HNO.out.up BE.out (by omega)
  ·obtain rfl:i=p.args.n:=by omega
   have htk:p.args.xs.take p.args.n=p.args.xs:=List.take_of_length_le (by have:=W.out.args.sr.ln;omega)
   have HL:Hid (leafS 8 p.arg.2 (p.args.xs.map Prod.snd) p.n=(fun a=>inS cmC a (spansL (p.args.xs.map fun q=>ptIv q.2)),bx)):=by
    have h6:=H6.out
    have h2:=H2.out
    rw[htk] at h6 h2
    rw[Hid,leafS_some (in_exact h6 h2),List.map_map]
    rfl
   go_wp2_with fail
   refine(pointsF_any p.args.xs _ _ _ wr (HT.out.step BE.out) (W.out.args.step BE.out) (by omega)).mono ?_
   rintro e w3 ⟨A3,m3,c3,ys,nf,rfl,hy,hnf,hmk,hsi,hb3,hfr⟩
   have HNO:=qD (show OfOk ((fun a=>inS cmC a (spansL (p.args.xs.map fun q=>ptIv q.2))),bx) _ wr (.returned (.tuple #[.slice A3 m3 c3,.bool bx])) w3 from⟨A3,m3,c3,ys,nf,rfl,hy,hnf,hmk,hsi,hb3,hfr⟩)
   clear hy hnf hmk hsi hb3 hfr htk
   go_wp2_with fail
   go_ret2
   rw[HL.out]
   exact HNO.out.up BE.out (by omega)
theorem iv_full2{w:World}{g:Nat}{v:PI}(h:Blk w g 93 (arrI v)):w.rangeAt g 0 (arrI v).toList:=
 range_blk h _ _ fun j x hj=>by rw[Nat.zero_add,←hj,Array.getElem?_toList]
theorem afterB_size{t s:ByteArray}(h:afterB t=some s):s.size≤t.size:=by
 have hl:=stripN_le t t.size
 unfold afterB at h
 cases hn:stripN t t.size with
 | zero=>rw[hn] at h;simp at h
 | succ n=>
  rw[hn] at h hl
  simp only[Option.some.injEq] at h
  subst h
  rw[ByteArray.size_append,ByteArray.size_extract]
  show min n t.size-0+1≤t.size
  omega
theorem pre_some{x:Val}{s:ByteArray}(h:afterB x.t=some s)(hv:validV (.mk 4 0 s [] [])=true):preI x=(⟨x,.mk 4 0 s [] [],true,false⟩,true):=by
 unfold preI
 rw[h]
 simp only[hv,if_true]
theorem pre_bad{x:Val}{s:ByteArray}(h:afterB x.t=some s)(hv:validV (.mk 4 0 s [] [])=false):preI x=(⟨x,vKd 5,true,false⟩,decide (x.t=ByteArray.empty)):=by
 unfold preI
 rw[h]
 simp[hv]
theorem pre_none{x:Val}(h:afterB x.t=none):preI x=(⟨x,vKd 5,true,false⟩,decide (x.t=ByteArray.empty)):=by
 unfold preI
 rw[h]
theorem wpl_stLo{ops:Array Oper}{rest:List Oper}{o:Oper}{a:Act}{w W:World}{Q:Exit→Act→World→Prop}{B g:Nat}{p:PI}{c:VC}(hgd:o.guard=none)(x y:Operand)(ho:o.op=.store 32 x y)(hx:a.eval x=.pointer (some ⟨g,0,none⟩))(hy:a.eval y=.agg c.arr)(h1:Blk w g 93 (arrI p))(hb:Below B W w)(hB:B≤g)(v:Val)(h:∀w6,Blk w6 g 93 (arrI (((c,v),p.1.2),p.2))→(∀(b:Nat) (t:TypeId) (cs:Array Value),b≠g→Blk w b t cs→Blk w6 b t cs)→Below B W w6→wpList Tryz.prog ops Q rest (a.put o.dst undef) w6):wpList Tryz.prog ops Q (o::rest) a w:=
 wpList_store_mid hgd 32 x y ho g 0 c.arr hx hy (iv_there h1 (by simp)) (by kernel_rfl) (by simp[Value.oneCell']) (h _ (putLo h1 c v) (fun _ _ _ hne k=>blk_far9 k hne _ _) (bel_cells9 hb hB _ _))
theorem wpl_stHi{ops:Array Oper}{rest:List Oper}{o:Oper}{a:Act}{w W:World}{Q:Exit→Act→World→Prop}{B g:Nat}{p:PI}{c:VC}(hgd:o.guard=none)(x y:Operand)(ho:o.op=.store 32 x y)(hx:a.eval x=.pointer (some ⟨g,5,none⟩))(hy:a.eval y=.agg c.arr)(h1:Blk w g 93 (arrI p))(hb:Below B W w)(hB:B≤g)(v:Val)(h:∀w6,Blk w6 g 93 (arrI ((p.1.1,(c,v)),p.2))→(∀(b:Nat) (t:TypeId) (cs:Array Value),b≠g→Blk w b t cs→Blk w6 b t cs)→Below B W w6→wpList Tryz.prog ops Q rest (a.put o.dst undef) w6):wpList Tryz.prog ops Q (o::rest) a w:=
 wpList_store_mid hgd 32 x y ho g 5 c.arr hx hy (iv_there h1 (by simp)) (by kernel_rfl) (by simp[Value.oneCell']) (h _ (putHi h1 c v) (fun _ _ _ hne k=>blk_far9 k hne _ _) (bel_cells9 hb hB _ _))
theorem ofPrefix_any(p:PrT)(w:World)(hw:WP w p)(hT:Tabs w):Calls Tryz.prog 53 #[aggPr p] w (OfOk (leafS 16 p.arg.2 (p.args.xs.map Prod.snd) p.n) 1 w):=by
 have HT:=qD hT
 have W:=qD hw.open
 have HKT:Hid (p.arg.1.t=p.arg.2.t):=qD hw.open.arg.open.t
 have HTZ:Hid (p.arg.1.t.size≤reach):=by have:=hw.open.arg.open.tsz;exact qD (by rw[hw.open.arg.open.t];exact this)
 clear hw hT
 have B0:Hid (Blk (w.alloc (.cells (arrPr p) 41)) w.heap.size 41 (arrPr p)):=Blk.new_at rfl
 have BE:=qD ((Below.refl w.heap.size w).alloc (qL) (Obj.cells (arrPr p) 41))
 go_enter Tryz.func53,Tryz.ntmps53
 go_upto_region 1 with fail
 change Code.wp _ _ _ _ (w.alloc (.cells (arrPr p) 41))
 generalize w.alloc (.cells (arrPr p) 41)=wa at*
 go_wp2_with fail
 refine(kindRange_any 4 wa (by omega) (by omega)).mono ?_
 rintro e w1 ⟨rfl,hb⟩
 replace B0:=qD (B0.out.step hb)
 replace BE:=qD (BE.out.step' hb)
 clear hb
 go_upto_region 2 with fail
 change Code.wp _ _ _ _ (w1.alloc (.cells (arrI (rngP 4)) 93))
 have J:Hid (Blk (w1.alloc (.cells (arrI (rngP 4)) 93)) w1.heap.size 93 (arrI (rngP 4))):=Blk.new_at rfl
 have HGJ:Hid (w.heap.size<w1.heap.size):=qD B0.out.lt
 replace B0:=qD (B0.out.alloc (.cells (arrI (rngP 4)) 93))
 replace BE:=qD (BE.out.alloc BE.out.size (Obj.cells (arrI (rngP 4)) 93))
 generalize w1.alloc (.cells (arrI (rngP 4)) 93)=w2 at*
 generalize w1.heap.size=gj at*
 have RA:=qD (range_parg B0.out)
 have gle:=HGJ.out
 go_upto_region 3 with(first
  | ((with_reducible show wpList _ _ _ (⟨_,.load 32 _,_,_,_,_⟩::_) _ _);refine wpList_mid_w rfl 32 _ rfl w.heap.size 2 rfl _ _ RA.out Tryz.underlying32 rfl (by kernel_rfl) ?_)
  | ((with_reducible show wpList _ _ _ (⟨_,.store 32 _ _,_,_,_,_⟩::_) _ _);refine wpl_stLo (c:=p.arg.1) rfl _ _ rfl rfl rfl J.out BE.out (by omega) p.arg.2 ?_;intro w6 hJ hfar hBE;have B6:=qD (hfar _ _ _ (by omega) B0.out);clear J BE B0 RA hfar;have J:=qD hJ;have BE:=qD hBE;have B0:=qD B6.out;clear hJ hBE B6))
 obtain⟨_,_,_,d4,_,_,_,_⟩:=pr_cells B0.out
 obtain⟨tx,htx⟩:∃t,t=p.arg.1.t:=⟨_,rfl⟩
 rw[←htx] at d4 HKT HTZ
 have HTX:=qD htx
 clear htx
 have HAR:Hid (RW w p.arg.1 p.arg.2):=W.out.arg
 have hEd:decide (p.arg.2.t=ByteArray.empty)=tx.toList.isEmpty:=by
  rw[←HKT.out,Bool.eq_iff_iff,decide_eq_true_iff,List.isEmpty_iff,Go.ByteArray.toList_eq]
  constructor
  ·rintro rfl;rfl
  ·intro h;exact ByteArray.ext (Array.toList_inj.1 h)
 have HED:=qD hEd
 clear hEd
 have e0:zero12.size≤reach:=by decide
 cases hA:afterB tx with
 | none=>
  have hq:preI p.arg.2=(⟨p.arg.2,vKd 5,true,false⟩,decide (p.arg.2.t=ByteArray.empty)):=pre_none (by rw[←HKT.out];exact hA)
  have hE:afterE tx=.returned (.tuple #[.string ByteArray.empty,.bool false]):=by unfold afterE;rw[hA];rfl
  have hAf:=after_any tx w6 HTZ.out
  rw[hE] at hAf
  have HAF:=qD hAf
  have HPQ:=qD hq
  clear hAf hE hq hA
  go_wp2_with fail
  refine HAF.out.mono ?_
  rintro e w3 ⟨rfl,hb⟩
  replace J:=qD (J.out.step hb)
  replace B0:=qD (B0.out.step hb)
  replace BE:=qD (BE.out.step' hb)
  clear hb d4 HAF
  go_upto_region 5 with fail
  change Code.wp _ _ _ _ (w3.alloc (.cells (cLf 4 0 ByteArray.empty).arr 32))
  replace J:=qD (J.out.alloc (.cells (cLf 4 0 ByteArray.empty).arr 32))
  replace B0:=qD (B0.out.alloc (.cells (cLf 4 0 ByteArray.empty).arr 32))
  replace BE:=qD (BE.out.alloc BE.out.size (Obj.cells (cLf 4 0 ByteArray.empty).arr 32))
  generalize w3.alloc (.cells (cLf 4 0 ByteArray.empty).arr 32)=w4 at*
  generalize w3.heap.size=gv at*
  obtain⟨_,_,_,d4,_,_,_,_⟩:=pr_cells B0.out
  rw[←HTX.out] at d4
  have okQ:Hid (∀wr,Below w.heap.size w wr→okI wr ((p.arg,(rngP 4).1.2),(rngP 4).2)):=qD fun wr hb=>⟨HAR.out.step hb,(rngP_ok 4 wr).2⟩
  obtain⟨be,hbe⟩:∃b,b=tx.toList.isEmpty:=⟨_,rfl⟩
  have HL:Hid (leafS 16 p.arg.2 (p.args.xs.map Prod.snd) p.n=((fun a=>inS cmC a (spansL ([((p.arg,(rngP 4).1.2),(rngP 4).2)].map ivP))),be)):=by
   rw[Hid,leafS_some leafI_pre,HPQ.out,HED.out,hbe]
   rfl
  replace hbe:=hbe.symm
  cases be
  ·have RGJ:=qD (iv_full2 J.out)
   go_wp2_with ((with_reducible show wpList _ _ _ (⟨_,.load 93 _,_,_,_,_⟩::_) _ _);refine wpList_mid_w rfl 93 _ rfl gj 0 rfl _ _ RGJ.out Tryz.underlying93 rfl (by kernel_rfl) ?_)
   refine(normalF_any [((p.arg,(rngP 4).1.2),(rngP 4).2)] _ 1 1 _ (HT.out.step (BE.out.alloc BE.out.size _)) (si_one (Blk.new_at rfl) ((okQ.out _ (BE.out.alloc BE.out.size _)))) (by omega)).mono ?_
   rintro e w9 ⟨A3,m3,c3,ys,nf,rfl,hy,hnf,hmk,hsi,hb3,hfr⟩
   have HNO:=qD (show OfOk ((fun a=>inS cmC a (spansL ([((p.arg,(rngP 4).1.2),(rngP 4).2)].map ivP))),false) 1 _ (.returned (.tuple #[.slice A3 m3 c3,.bool (false)])) w9 from⟨A3,m3,c3,ys,nf,rfl,hy,hnf,hmk,hsi,hb3,hfr⟩)
   clear hy hnf hmk hsi hb3 hfr
   go_wp2_with fail
   go_ret2
   rw[HL.out]
   exact HNO.out.up (BE.out.alloc BE.out.size _) (by omega)
  ·have RGJ:=qD (iv_full2 J.out)
   go_wp2_with ((with_reducible show wpList _ _ _ (⟨_,.load 93 _,_,_,_,_⟩::_) _ _);refine wpList_mid_w rfl 93 _ rfl gj 0 rfl _ _ RGJ.out Tryz.underlying93 rfl (by kernel_rfl) ?_)
   refine(normalF_any [((p.arg,(rngP 4).1.2),(rngP 4).2)] _ 1 1 _ (HT.out.step (BE.out.alloc BE.out.size _)) (si_one (Blk.new_at rfl) ((okQ.out _ (BE.out.alloc BE.out.size _)))) (by omega)).mono ?_
   rintro e w9 ⟨A3,m3,c3,ys,nf,rfl,hy,hnf,hmk,hsi,hb3,hfr⟩
   have HNO:=qD (show OfOk ((fun a=>inS cmC a (spansL ([((p.arg,(rngP 4).1.2),(rngP 4).2)].map ivP))),true) 1 _ (.returned (.tuple #[.slice A3 m3 c3,.bool (true)])) w9 from⟨A3,m3,c3,ys,nf,rfl,hy,hnf,hmk,hsi,hb3,hfr⟩)
   clear hy hnf hmk hsi hb3 hfr
   go_wp2_with fail
   go_ret2
   rw[HL.out]
   exact HNO.out.up (BE.out.alloc BE.out.size _) (by omega)
 | some s=>
  have hE:afterE tx=.returned (.tuple #[.string s,.bool true]):=by unfold afterE;rw[hA];rfl
  have hAf:=after_any tx w6 HTZ.out
  rw[hE] at hAf
  have HAF:=qD hAf
  have HSZ:Hid (s.size≤reach):=qD (Nat.le_trans (afterB_size hA) HTZ.out)
  have HAS:=qD hA
  clear hAf hE hA
  go_wp2_with fail
  refine HAF.out.mono ?_
  rintro e w3 ⟨rfl,hb⟩
  replace J:=qD (J.out.step hb)
  replace B0:=qD (B0.out.step hb)
  replace BE:=qD (BE.out.step' hb)
  have HJ3:Hid (gj<w3.heap.size):=qD J.out.lt
  clear hb d4 HAF
  go_upto_region 5 with fail
  change Code.wp _ _ _ _ (w3.alloc (.cells (cLf 4 0 s).arr 32))
  have JB:Hid (Blk (w3.alloc (.cells (cLf 4 0 s).arr 32)) w3.heap.size 32 (cLf 4 0 s).arr):=Blk.new_at rfl
  replace J:=qD (J.out.alloc (.cells (cLf 4 0 s).arr 32))
  replace B0:=qD (B0.out.alloc (.cells (cLf 4 0 s).arr 32))
  replace BE:=qD (BE.out.alloc BE.out.size (Obj.cells (cLf 4 0 s).arr 32))
  generalize w3.alloc (.cells (cLf 4 0 s).arr 32)=w4 at*
  generalize w3.heap.size=gv at*
  obtain⟨_,_,_,d4,_,_,_,_⟩:=pr_cells B0.out
  rw[←HTX.out] at d4
  obtain⟨q0,q1,q2,q3,q4⟩:=VAt.of_blk JB.out
  simp only[Nat.zero_add] at q0 q1 q2 q3 q4
  obtain⟨vb,hvb⟩:∃b,b=validV (.mk 4 0 s [] []):=⟨_,rfl⟩
  have HVC:Hid (∀wr,Below w.heap.size w wr→Calls Tryz.prog 105 #[(cLf 4 0 s).val] wr fun e w'=>e=.returned (.bool vb)∧Below wr.heap.size wr w'):=qD fun wr hb=>by
   rw[hvb]
   exact valid_any (.mk 4 0 s [] []) (cLf 4 0 s) wr (HT.out.step hb) (rw_leaf _ _ _ HSZ.out)
  obtain⟨be,hbe⟩:∃b,b=tx.toList.isEmpty:=⟨_,rfl⟩
  have HBE:=qD hbe
  have HVB:=qD hvb
  replace hbe:=hbe.symm
  clear hvb
  go_upto_if 34 with(go_at_call 105;refine(HVC.out _ BE.out).mono ?_;rintro e w5 ⟨rfl,hb⟩;replace J:=qD (J.out.step hb);replace JB:=qD (JB.out.step hb);replace BE:=qD (BE.out.step' hb);clear hb d4 q0 q1 q2 q3 q4 B0;obtain⟨q0,q1,q2,q3,q4⟩:=VAt.of_blk JB.out;simp only[Nat.zero_add] at q0 q1 q2 q3 q4)
  cases vb
  ·have okQ:Hid (∀wr,Below w.heap.size w wr→okI wr ((p.arg,(rngP 4).1.2),(rngP 4).2)):=qD fun wr hb=>⟨HAR.out.step hb,(rngP_ok 4 wr).2⟩
   have HL:Hid (leafS 16 p.arg.2 (p.args.xs.map Prod.snd) p.n=((fun a=>inS cmC a (spansL ([((p.arg,(rngP 4).1.2),(rngP 4).2)].map ivP))),be)):=by
    rw[Hid,leafS_some leafI_pre,pre_bad (x:=p.arg.2) (s:=s) (by rw[←HKT.out];exact HAS.out) HVB.out.symm,HED.out,HBE.out]
    rfl
   clear HBE
   cases be
   ·have RGJ:=qD (iv_full2 J.out)
    go_wp2_with ((with_reducible show wpList _ _ _ (⟨_,.load 93 _,_,_,_,_⟩::_) _ _);refine wpList_mid_w rfl 93 _ rfl gj 0 rfl _ _ RGJ.out Tryz.underlying93 rfl (by kernel_rfl) ?_)
    refine(normalF_any [((p.arg,(rngP 4).1.2),(rngP 4).2)] _ 1 1 _ (HT.out.step (BE.out.alloc BE.out.size _)) (si_one (Blk.new_at rfl) ((okQ.out _ (BE.out.alloc BE.out.size _)))) (by omega)).mono ?_
    rintro e w9 ⟨A3,m3,c3,ys,nf,rfl,hy,hnf,hmk,hsi,hb3,hfr⟩
    have HNO:=qD (show OfOk ((fun a=>inS cmC a (spansL ([((p.arg,(rngP 4).1.2),(rngP 4).2)].map ivP))),false) 1 _ (.returned (.tuple #[.slice A3 m3 c3,.bool (false)])) w9 from⟨A3,m3,c3,ys,nf,rfl,hy,hnf,hmk,hsi,hb3,hfr⟩)
    clear hy hnf hmk hsi hb3 hfr
    go_wp2_with fail
    go_ret2
    rw[HL.out]
    exact HNO.out.up (BE.out.alloc BE.out.size _) (by omega)
   ·have RGJ:=qD (iv_full2 J.out)
    go_wp2_with ((with_reducible show wpList _ _ _ (⟨_,.load 93 _,_,_,_,_⟩::_) _ _);refine wpList_mid_w rfl 93 _ rfl gj 0 rfl _ _ RGJ.out Tryz.underlying93 rfl (by kernel_rfl) ?_)
    refine(normalF_any [((p.arg,(rngP 4).1.2),(rngP 4).2)] _ 1 1 _ (HT.out.step (BE.out.alloc BE.out.size _)) (si_one (Blk.new_at rfl) ((okQ.out _ (BE.out.alloc BE.out.size _)))) (by omega)).mono ?_
    rintro e w9 ⟨A3,m3,c3,ys,nf,rfl,hy,hnf,hmk,hsi,hb3,hfr⟩
    have HNO:=qD (show OfOk ((fun a=>inS cmC a (spansL ([((p.arg,(rngP 4).1.2),(rngP 4).2)].map ivP))),true) 1 _ (.returned (.tuple #[.slice A3 m3 c3,.bool (true)])) w9 from⟨A3,m3,c3,ys,nf,rfl,hy,hnf,hmk,hsi,hb3,hfr⟩)
    clear hy hnf hmk hsi hb3 hfr
    go_wp2_with fail
    go_ret2
    rw[HL.out]
    exact HNO.out.up (BE.out.alloc BE.out.size _) (by omega)
  ·have okQ:Hid (∀wr,Below w.heap.size w wr→okI wr ((p.arg,(cLf 4 0 s,.mk 4 0 s [] [])),(true,false))):=qD fun wr hb=>⟨HAR.out.step hb,rw_leaf _ _ _ HSZ.out⟩
   have HL:Hid (leafS 16 p.arg.2 (p.args.xs.map Prod.snd) p.n=((fun a=>inS cmC a (spansL ([((p.arg,(cLf 4 0 s,.mk 4 0 s [] [])),(true,false))].map ivP))),true)):=by
    rw[Hid,leafS_some leafI_pre,pre_some (x:=p.arg.2) (s:=s) (by rw[←HKT.out];exact HAS.out) HVB.out.symm]
    rfl
   go_upto_region 9 with((with_reducible show wpList _ _ _ (⟨_,.store 32 _ _,_,_,_,_⟩::_) _ _);refine wpl_stHi (c:=cLf 4 0 s) rfl _ _ rfl rfl rfl J.out BE.out (by omega) (.mk 4 0 s [] []) ?_;intro w7 hJ hfar hBE;clear J BE hfar q0 q1 q2 q3 q4 JB;have J:=qD hJ;have BE:=qD hBE;have z0:=J.out.frozen;have c11:=(J.out.cell 11).trans rfl;clear hJ hBE)
   refine wp_name ?_
   intro w9 hw9
   replace J:Hid (Blk w9 gj 93 (arrI ((p.arg,(cLf 4 0 s,.mk 4 0 s [] [])),(true,false)))):=by
    rw[Hid,hw9]
    exact Blk.cast9 ⟨_,J.out.set_ _ _,rfl⟩
   replace BE:Hid (Below w.heap.size w w9):=by
    rw[Hid,hw9]
    exact Below.setCell BE.out (by show w.heap.size≤gj;omega) _
   clear hw9 z0 c11
   have RGJ:=qD (iv_full2 J.out)
   go_wp2_with ((with_reducible show wpList _ _ _ (⟨_,.load 93 _,_,_,_,_⟩::_) _ _);refine wpList_mid_w rfl 93 _ rfl gj 0 rfl _ _ RGJ.out Tryz.underlying93 rfl (by kernel_rfl) ?_)
   refine(normalF_any [((p.arg,(cLf 4 0 s,.mk 4 0 s [] [])),(true,false))] _ 1 1 _ (HT.out.step (BE.out.alloc BE.out.size _)) (si_one (Blk.new_at rfl) ((okQ.out _ (BE.out.alloc BE.out.size _)))) (by omega)).mono ?_
   rintro e w9 ⟨A3,m3,c3,ys,nf,rfl,hy,hnf,hmk,hsi,hb3,hfr⟩
   have HNO:=qD (show OfOk ((fun a=>inS cmC a (spansL ([((p.arg,(cLf 4 0 s,.mk 4 0 s [] [])),(true,false))].map ivP))),true) 1 _ (.returned (.tuple #[.slice A3 m3 c3,.bool (true)])) w9 from⟨A3,m3,c3,ys,nf,rfl,hy,hnf,hmk,hsi,hb3,hfr⟩)
   clear hy hnf hmk hsi hb3 hfr
   go_wp2_with fail
   go_ret2
   rw[HL.out]
   exact HNO.out.up (BE.out.alloc BE.out.size _) (by omega)
def OfAt(k:PrT):Prop:=∀(A:Option Addr) (n c:Nat) (l:List ByteArray) (w:World),WP w k→VPr k→Tabs w→ST w A n c l→k.sz≤300000000→
 Calls Tryz.prog 14 #[aggPr k,.slice A n c] w (OfOk (ofS l k) k.sz w)
theorem firstS_cons(r:PSet)(rs:List PSet):firstS (r::rs)=if isAllB r.1 then firstS rs else(r.1,false):=rfl
theorem andS_many{rs:List PSet}(h:rs.length≠1):andS rs=firstS rs:=by
 unfold andS
 split
 ·simp at h
 ·rfl
theorem arrPr_all(p:PrT):(arrPr p).all (·.oneCell')=true:=by simp[Value.oneCell']
theorem ofAnd_any(p:PrT)(ih:∀k∈p.kids,OfAt k)(A:Option Addr)(n c:Nat)(l:List ByteArray)(w:World)(hw:WP w p)(hk:∀k∈p.kids,VPr k)(hT:Tabs w)(hl:ST w A n c l)(hz:p.sz≤300000000):
 Calls Tryz.prog 44 #[aggPr p,.slice A n c] w (OfOk (andS (p.kids.map (ofS l))) p.sz w):=by
 have HT:=qD hT
 have W:=qD hw.open
 have HL:=qD hl
 have IH:Hid (∀k∈p.kids,∀wr,Below w.heap.size w wr→Calls Tryz.prog 14 #[aggPr k,.slice A n c] wr (OfOk (ofS l k) p.sz wr)):=qD fun k hkm wr hb=>by
  have hs:k.sz≤p.sz:=by rw[p.sz_eq];have:=szL_ge hkm;omega
  exact(ih k hkm A n c l wr ((W.out.kids k hkm).step hb) (hk k hkm) (HT.out.step hb) (HL.out.step hb) (by omega)).mono fun e w' h=>h.up (Below.refl _ _) hs
 have hkz:p.kn≤140737488355328:=by have:=W.out.ksz;unfold reach at this;omega
 have HKN:=qD W.out.sr.ln
 have HSZ:Hid (1≤p.sz):=by rw[Hid,p.sz_eq];omega
 clear hw hk hT hl hz ih
 have B0:Hid (Blk (w.alloc (.cells (arrPr p) 41)) w.heap.size 41 (arrPr p)):=Blk.new_at rfl
 have BE:=qD ((Below.refl w.heap.size w).alloc (qL) (Obj.cells (arrPr p) 41))
 go_enter Tryz.func44,Tryz.ntmps44
 go_upto_region 1 with fail
 change Code.wp _ _ _ _ (w.alloc (.cells (arrPr p) 41))
 generalize w.alloc (.cells (arrPr p) 41)=wa at*
 obtain⟨_,_,_,_,_,_,_,d24⟩:=pr_cells B0.out
 by_cases h1:p.kn=1
 ·obtain⟨b,off,k,hA,hb,hx,hm,hrg⟩:=W.out.sr.row (i:=0) (by omega)
  have RG:=qD (range_step hrg BE.out hb)
  have HM:=qD hm
  have HAND:Hid (andS (p.kids.map (ofS l))=ofS l k):=by
   obtain⟨y,hy⟩:=List.length_eq_one_iff.1 (show p.kids.length=1 by have:=HKN.out;omega)
   rw[hy] at hx ⊢
   obtain rfl:y=k:=by simpa using hx
   rfl
  rw[Nat.zero_mul,Nat.add_zero] at RG
  rw[hA,h1] at d24
  clear hrg hx hm hA
  go_wp2_with (first
   | ((with_reducible show wpList _ _ _ (⟨_,.load 41 _,_,_,_,_⟩::_) _ _);refine wpList_mid_w rfl 41 _ rfl b off rfl _ _ RG.out Tryz.underlying41 rfl (by kernel_rfl) ?_)
   | (go_at_call 14;refine(IH.out k HM.out _ BE.out).mono ?_;rintro e w1 ⟨A3,m3,c3,ys,nf,rfl,hy,hnf,hmk,hsi,hb3,hfr⟩;have HNO:=qD (show OfOk (ofS l k) p.sz _ (.returned (.tuple #[.slice A3 m3 c3,.bool (ofS l k).2])) w1 from⟨A3,m3,c3,ys,nf,rfl,hy,hnf,hmk,hsi,hb3,hfr⟩);clear hy hnf hmk hsi hb3 hfr))
  go_ret2
  rw[HAND.out]
  exact HNO.out.up BE.out (qL)
 ·have HAND:Hid (andS (p.kids.map (ofS l))=firstS (p.kids.map (ofS l))):=qD (andS_many (by rw[List.length_map];have:=HKN.out;omega))
  have h1b:((p.kn:Int)==1)=false:=by simp;omega
  clear h1
  go_upto_region 4 with fail
  go_loopw [7,8,9,25] (fun _ _ _ v wr=>∃i:Nat,i≤p.kn∧v=.int .i64 i∧firstS (p.kids.map (ofS l))=firstS ((p.kids.drop i).map (ofS l))∧Below w.heap.size w wr) (fun _ _ _ v _=>p.kn-(intOf v).toNat)
  case atStart=>exact⟨0,Nat.zero_le _,rfl,rfl,BE.out⟩
  case round=>
   obtain⟨i,hi,rfl,hf,hBE⟩:=hrel
   clear B0 BE d24
   have BE:=qD hBE
   have HF:=qD hf
   clear hf hBE
   by_cases hlt:i<p.kn
   ·obtain⟨b,off,k,hA,hb,hx,hm,hrg⟩:=W.out.sr.row hlt
    have RG:=qD (range_step hrg BE.out hb)
    have HX:=qD (drop_of hx)
    have HM:=qD hm
    have i0:(0:Int)≤(i:Int):=by omega
    have i1:(i:Int)<(p.kn:Int):=by omega
    rw[hA]
    clear hrg hx hm hA
    go_upto_region 6 with(first
     | ((with_reducible show wpList _ _ _ (⟨_,.load 41 _,_,_,_,_⟩::_) _ _);refine wpList_mid_w rfl 41 _ rfl b (off+i*25) rfl _ _ RG.out Tryz.underlying41 rfl (by kernel_rfl) ?_)
     | ((with_reducible show wpList _ _ _ (⟨_,.store 41 _ _,_,_,_,_⟩::_) _ _);refine wpList_store_row rfl 41 _ _ rfl wr.heap.size (arrPr k) rfl rfl 41 _ (Blk.new_at rfl) (by kernel_rfl) rfl (arrPr_all k) ?_;refine wpl_name ?_;intro w4 hw4;have JB:Hid (Blk w4 wr.heap.size 41 (arrPr k)):=(by rw[Hid,hw4];exact blk_row (Blk.new_at rfl) _);have BE4:Hid (Below w.heap.size w w4):=(by rw[Hid,hw4];exact bel_row (BE.out.alloc BE.out.size _) BE.out.size _);clear hw4 BE RG))
    generalize wr.heap.size=gk at*
    have RJ:=qD (pr_full JB.out)
    clear JB
    go_upto_region 7 with(first
     | ((with_reducible show wpList _ _ _ (⟨_,.load 41 _,_,_,_,_⟩::_) _ _);refine wpList_mid_w rfl 41 _ rfl gk 0 rfl _ _ RJ.out Tryz.underlying41 rfl (by kernel_rfl) ?_)
     | (go_at_call 14;refine(IH.out k HM.out _ BE4.out).mono ?_;rintro e w5 ⟨A3,m3,c3,ys,nf,rfl,hy,hnf,hmk,hsi,hb3,hfr⟩;have HY:=qD hy;have HNF:=qD hnf;have HMK:=qD hmk;have HSI:=qD hsi;have BE5:=qD (BE4.out.step' hb3);have HFR:=qD (fun y hy=>(hfr y hy).low BE4.out.size);clear hy hnf hmk hsi hb3 hfr RJ BE4))
    obtain⟨ab,hab⟩:∃b,b=isAllB (ofS l k).1:=⟨_,rfl⟩
    have HIA:=qD (isAll_any ys A3 m3 c3 w5 HSI.out HY.out HNF.out)
    rw[←hab] at HIA
    have HAB:=qD hab
    clear hab
    go_wp2_with fail
    refine HIA.out.mono ?_
    rintro e w6 ⟨rfl,hb⟩
    have BE6:=qD (BE5.out.step' hb)
    have HSI6:=qD (HSI.out.step hb)
    have HFR6:=qD (fun y hy=>(HFR.out y hy).step hb)
    clear hb HIA
    have HFC:Hid (firstS (p.kids.map (ofS l))=if ab then firstS ((p.kids.drop (i+1)).map (ofS l)) else((ofS l k).1,false)):=by
     rw[Hid,HF.out,HX.out,List.map_cons,firstS_cons,HAB.out]
    cases ab
    ·go_wp2_with fail
     go_ret2
     rw[HAND.out,HFC.out]
     exact⟨A3,m3,c3,ys,nf,rfl,HY.out,HNF.out,HMK.out,HSI6.out,BE6.out,HFR6.out⟩
    ·go_wp2_with fail
     go_roundw
     case rel=>exact⟨i+1,by omega,by go_num,(by simpa using HFC.out),BE6.out⟩
     case measure=>simp[intOf];omega
   ·obtain rfl:i=p.kn:=by omega
    have HE:Hid (firstS (p.kids.map (ofS l))=(allS,false)):=by
     rw[Hid,HF.out,List.drop_of_length_le (by have:=HKN.out;omega)]
     rfl
    go_wp2_with fail
    refine(allF_any wr).mono ?_
    rintro e w3 ⟨A3,m3,c3,ys,nf,rfl,hy,hnf,hmk,hsi,hb3,hfr⟩
    have HNO:=qD (show OfOk (allS,false) 1 wr (.returned (.tuple #[.slice A3 m3 c3,.bool false])) w3 from⟨A3,m3,c3,ys,nf,rfl,hy,hnf,hmk,hsi,hb3,hfr⟩)
    clear hy hnf hmk hsi hb3 hfr
    go_wp2_with fail
    go_ret2
    rw[HAND.out,HE.out]
    exact HNO.out.up BE.out HSZ.out
end Go.Proofs.YtfkdihlbaghajaaGreatDoor
