/- A part of the proof. -/
import Derived.Test.YtgfoliedmhgpnaaGreatDoorCn20
import Derived.Lib.AppendZerosOnto
set_option maxRecDepth 100000
set_option maxHeartbeats 16000000
open Go.Proofs.Tryz
open ByteArray (empty)
namespace Go.Proofs.YtgfoliedmhgpnaaGreatDoor
open Go.RowKit
section
variable {k b n g o B g2 m i c q size S:Nat} {w0 w w' W:World} {e t:TypeId} {cs:Array Value} {P:Program} {Q:Exit -> Act -> World -> Prop} {a op x y d:Int} {l r ys:List ByteArray} {v:Value} {s:ByteArray} {A:Option Addr} {xs:List Value}
theorem aG.NB(h:∃c,aG w g t c/\c=cs):aG w g t cs:=by obtain⟨c,h,rfl⟩:=h;exact h
theorem eK{ops:Array Oper}{l:List Oper}{a:Act}(h:∀w',w'=w->wpList P ops Q l a w'):wpList P ops Q l a w:=h w rfl
theorem oK(h:aG w g t cs)(hz:o+n<=cs.size):w.there g o n:=fun j hj=>by
 refine⟨?_,h.frozen _⟩;rw[h.cell,RH oM];rfl
theorem JE{p:PI}(h:aG w g 85 (ae p))(c:VC)(x:aC):aG (w.setCells g 0 c.arr.toList) g 85 (ae (((c,x),p.1.2),p.2)):=aG.setCells c.list 0 (l:=jm p) h
theorem JF{p:PI}(h:aG w g 85 (ae p))(c:VC)(x:aC):aG (w.setCells g 5 c.arr.toList) g 85 (ae ((p.1.1,(c,x)),p.2)):=aG.setCells c.list 5 (l:=jm p) h
theorem kD(h:aG w b t cs)(hne:b≠g)(vs:List Value)(o:Nat):aG (w.setCells g o vs) b t cs:=(mq g vs o w b hne).trans h
theorem ke{a:World}(h:Below B a w)(hg:B<=g)(vs:List Value)(o:Nat):Below B a (w.setCells g o vs):=by
 induction vs generalizing w o with
 | nil=>exact h
 | cons v r ih=>exact ih (QE (p:=⟨g,o,none⟩) h hg v) (o+1)
theorem me{ops:Array Oper}{rest:List Oper}{o:Oper}{a:Act}{g0:Nat}{p:PI}{c:VC}{cs0 cs2:Array Value}(hgd:o.guard=none)(x y:Operand)(ho:o.op=.store 29 x y)(hx:a.eval x=.pointer (some ⟨g,5,none⟩))(hy:a.eval y=.agg c.arr)(h1:aG w g 85 (ae p))(h0:aG w g0 85 cs0)(h2:aG w g2 29 cs2)(hb:Below B W w)(n0:g0≠g)(n2:g2≠g)(hB:B<=g)(v:aC)(h:∀w6,aG w6 g 85 (ae ((p.1.1,(c,v)),p.2))->aG w6 g0 85 cs0->aG w6 g2 29 cs2->Below B W w6->wpList prog ops Q rest (a.put o.dst undef) w6):wpList prog ops Q (o::rest) a w:=
  Sa hgd 29 x y ho g 5 c.arr hx hy (oK h1 sM) kR (by simp[Value.oneCell']) (h _ (JF h1 c v) (kD h0 n0 _ _) (kD h2 n2 _ _) (ke hb hB _ _))
theorem DO{ops:Array Oper}{rest:List Oper}{o:Oper}{a:Act}{g0:Nat}{p:PI}{c:VC}{cs0 cs2:Array Value}(hgd:o.guard=none)(x y:Operand)(ho:o.op=.store 29 x y)(hx:a.eval x=.pointer (some ⟨g,0,none⟩))(hy:a.eval y=.agg c.arr)(h1:aG w g 85 (ae p))(h0:aG w g0 85 cs0)(h2:aG w g2 29 cs2)(hb:Below B W w)(n0:g0≠g)(n2:g2≠g)(hB:B<=g)(v:aC)(h:∀w6,aG w6 g 85 (ae (((c,v),p.1.2),p.2))->aG w6 g0 85 cs0->aG w6 g2 29 cs2->Below B W w6->wpList prog ops Q rest (a.put o.dst undef) w6):wpList prog ops Q (o::rest) a w:=
  Sa hgd 29 x y ho g 0 c.arr hx hy (oK h1 sM) kR (by simp[Value.oneCell']) (h _ (JE h1 c v) (kD h0 n0 _ _) (kD h2 n2 _ _) (ke hb hB _ _))
theorem Bc{C:Code}{a:Act}(h:∀w',w'=w->Code.wp P C Q a w'):Code.wp P C Q a w:=h w rfl
theorem eS{old:Array Value}(h:aG w g t old)(cs:Array Value):aG (w.setRow g cs) g t cs:=setRow_heap w g old cs t (0,0) h
theorem eT{a:World}(h:Below B a w)(hg:B<=g)(cs:Array Value):Below B a (w.setRow g cs):=
 ⟨h.os,h.tape,h.output,by rw[setRow_size];exact h.size,fun k hk=>(setRow_other w g k cs oM).trans (h.block k hk)⟩
theorem uk(h:aG w g 85 cs)(hz:cs.size=12):(loadVar 85 ⟨g,0,none⟩).run prog w=.ok (.agg cs) w:=
 run_loadVar_row w g _ _ cs _ _ h Ph rfl (by rw[hz];kernel_rfl)
theorem cu{fn:Func}{p u:Tmp}(h:fn.results=#[.cell p 85,.tmp u])(tmps:Array Value)(g:Nat)(h1:tmps.getD p undef=.pointer (some ⟨g,0,none⟩))(e:Value)(h2:tmps.getD u undef=e)(W:World)(R:Array Value)(hz:R.size=12)(q:aG W g 85 R):(results fn tmps).run prog W=.ok (.tuple #[.agg R,e]) W:=by
  rw[SY h,h1,h2];simp[asAddr,uk q hz]
def df(k:Int):PI:=
 if k=3 then(((bO 3 (-9223372036854775808) empty,.mk 3 (-9223372036854775808) empty [] []),(bO 3 9223372036854775807 empty,.mk 3 9223372036854775807 empty [] [])),(true,true))
 else if k=4 then(((bO 4 0 empty,jZ 4),(bO 5 0 empty,jZ 5)),(true,false))
 else if k=5 then(((bO 5 0 empty,jZ 5),(bO 6 0 empty,jZ 6)),(true,false))
 else if k=7 then(((bO 7 0 empty,jZ 7),(bO 8 0 dC,.mk 8 0 dC [] [])),(true,false))
 else if k=8 then(((bO 8 0 dC,.mk 8 0 dC [] []),(bO 9 0 empty,jZ 9)),(true,false))
 else if k=9 then(((bO 9 0 empty,jZ 9),(bO 9 1 empty,.mk 9 1 empty [] [])),(true,true))
 else if k=10 then(((bO 10 0 empty,jZ 10),(bO 10 9223372036854775807 empty,.mk 10 9223372036854775807 empty [] [])),(true,true))
 else(((bO k 0 empty,jZ k),(bO k 0 empty,jZ k)),(true,true))
theorem qG(k:Int)(w:World):qd w (df k):=by
 have e0:(empty).size<=aF:=by decide
 have e1:dC.size<=aF:=by decide
 unfold df
 repeat' split
 all_goals exact⟨qF _ _ _ (by assumption),qF _ _ _ (by assumption)⟩
theorem Bd{k:Int}(h:1<=k/\k<=11)(h6:k≠6):dg (df k)=bA k:=by
 have:k=1\/k=2\/k=3\/k=4\/k=5\/k=7\/k=8\/k=9\/k=10\/k=11:=oM
 rcases this with rfl|rfl|rfl|rfl|rfl|rfl|rfl|rfl|rfl|rfl<;>rfl
abbrev zI:PI:=(((VC.zero,aC.zero),(VC.zero,aC.zero)),(false,false))
def Jo(k:Int)(w:World)(e:Ending)(w':World):Prop:=e=.returned (.tuple #[jY (df k),.bool true])/\Bl w w'
theorem FV:(Tryz.prog.info? 5).map (fun i=>(i.zero,i.size,i.bytes))=some (some (.int .u8 0),1,1):=kR
abbrev dt:Array Value:=#[.int .u8 0,.int .u8 0,.int .u8 0,.int .u8 0,.int .u8 0,.int .u8 0,.int .u8 0,.int .u8 0,.int .u8 0,.int .u8 0,.int .u8 0,.int .u8 0]
theorem FW(w:World):(Instr.makeSlice 133 (.int .i64 12) (.int .i64 12)).run prog w=.ok (.slice (some ⟨w.heap.size,0,none⟩) 12 12) (w.alloc (.cells dt 5)):=by
 obtain⟨j0,hj0,hz0,hz1,hz2⟩:=Pb FV;have:=fG (P:=prog) 133 5 j0 (.int .u8 0) Pd hj0 hz0 12 (by rw[hz2];omega) oM w;rw[hz1,show((12:Nat):Int)=12 from rfl,show madeCells (Value.int .u8 0).cells (12*1)=dt from by kernel_rfl] at this;exact this
theorem zb:strOfNums [0,0,0,0,0,0,0,0,0,0,0,0]=dC:=by
 apply QO;apply QD.1;rw[RU];rfl
theorem FX(w:World):(convert 133 9 (.slice (some ⟨w.heap.size,0,none⟩) 12 12)).run prog (w.alloc (.cells dt 5))=.ok (.string dC) (w.alloc (.cells dt 5)):=by
 have hb:aG (w.alloc (.cells dt 5)) w.heap.size 5 dt:=aG.Mm rfl;rw[Qz (P:=prog) _ 133 5 Pd QX w.heap.size 0 12 12 [0,0,0,0,0,0,0,0,0,0,0,0] rfl (fun i hi=>?_) 9 PY,zb];rw[OX,hb.cell];have:i=0\/i=1\/i=2\/i=3\/i=4\/i=5\/i=6\/i=7\/i=8\/i=9\/i=10\/i=11:=oM
 rcases this with rfl|rfl|rfl|rfl|rfl|rfl|rfl|rfl|rfl|rfl|rfl|rfl<;>rfl
theorem ja(k:Int)(w:World)(h:1<=k/\k<=11)(h6:k≠6):Calls prog 69 #[.int .i64 k] w (Jo k w):=by
 have hk:k=1\/k=2\/k=3\/k=4\/k=5\/k=7\/k=8\/k=9\/k=10\/k=11:=oM
 clear h h6;have HK:=qD hk;clear hk;go_enter func69,ntmps69;obtain⟨z0,hz0⟩:∃z:PI,z=(((bO k 0 empty,jZ k),(bO k 0 empty,jZ k)),(true,true)):=⟨_,rfl⟩;have B0:Hid (aG ((w.alloc (.cells (ae zI) 85)).alloc (.cells (ae (((bO k 0 empty,jZ k),(bO k 0 empty,jZ k)),(true,true))) 85)) w.heap.size 85 (ae zI)):=(aG.Mm rfl).alloc _;have B1:Hid (aG ((w.alloc (.cells (ae zI) 85)).alloc (.cells (ae (((bO k 0 empty,jZ k),(bO k 0 empty,jZ k)),(true,true))) 85)) (w.heap.size+1) 85 (ae (((bO k 0 empty,jZ k),(bO k 0 empty,jZ k)),(true,true)))):=aG.Mm sM;have BE:Hid (Bl w ((w.alloc (.cells (ae zI) 85)).alloc (.cells (ae (((bO k 0 empty,jZ k),(bO k 0 empty,jZ k)),(true,true))) 85))):=((OG _ _).alloc (qL) _).alloc sM _;go_upto_region 2 with fail
 change Code.wp _ _ _ _ ((w.alloc (.cells (ae zI) 85)).alloc (.cells (ae (((bO k 0 empty,jZ k),(bO k 0 empty,jZ k)),(true,true))) 85));have hsz:((w.alloc (.cells (ae zI) 85)).alloc (.cells (ae (((bO k 0 empty,jZ k),(bO k 0 empty,jZ k)),(true,true))) 85)).heap.size=w.heap.size+2:=by simp
 generalize ((w.alloc (.cells (ae zI) 85)).alloc (.cells (ae (((bO k 0 empty,jZ k),(bO k 0 empty,jZ k)),(true,true))) 85))=wa at*;have HSZ:=qD hsz;clear hsz;have hmk:=FW wa;have hcv:=FX wa;go_upto_region 3 with fail
 change Code.wp _ _ _ _ ((wa.alloc (.cells dt 5)).alloc (.cells (bO 8 0 dC).arr 29));have B2:Hid (aG ((wa.alloc (.cells dt 5)).alloc (.cells (bO 8 0 dC).arr 29)) (wa.heap.size+1) 29 (bO 8 0 dC).arr):=aG.Mm sM;replace B0:=qD ((B0.out.alloc (.cells dt 5)).alloc (.cells (bO 8 0 dC).arr 29));replace B1:=qD ((B1.out.alloc (.cells dt 5)).alloc (.cells (bO 8 0 dC).arr 29));replace BE:=qD ((BE.out.alloc BE.out.size (.cells dt 5)).alloc (by have:=BE.out.size;simp;omega) (Obj.cells (bO 8 0 dC).arr 29));have HNE:Hid (wa.heap.size+1≠w.heap.size+1):=by rw[Hid,HSZ.out];omega
 clear hmk hcv;generalize ((wa.alloc (.cells dt 5)).alloc (.cells (bO 8 0 dC).arr 29))=wb at*;clear hz0 z0;obtain⟨R,hR⟩:∃R:Array Value,R=ae (df k):=⟨_,rfl⟩;have HR:Hid (jY (df k)=.agg R):=by rw[hR];exact qD rfl
 have hRK:R.size=12:=by rw[hR];rfl
 have HRK:=qD hRK;have HALL:Hid (R.all (·.oneCell')=true):=by rw[Hid,hR];simp[Value.oneCell']
 have HR2:=qD hR;have z1:=B1.out.frozen;clear hR hRK;have hk:=HK.out;clear HK;rcases hk with rfl|rfl|rfl|rfl|rfl|rfl|rfl|rfl|rfl|rfl
 ·obtain⟨e0,e1,e2,e3,e4⟩:=aO.Mp B2.out;obtain⟨⟨a0,a1,a2,a3,a4⟩,⟨b0,b1,b2,b3,b4⟩,b5,b6⟩:=jE.Mn B1.out;simp only[OX] at a0 a1 a2 a3 a4 b0 b1 b2 b3 b4 b5 b6
  go_wp2_with (first
   | ((with_reducible show wpList _ _ _ (⟨_,.load 85 _,_,_,_,_⟩::_) _ _);refine eK ?_;intro w5 hw5;have C1:Hid (aG w5 (w.heap.size+1) 85 R):=(by rw[Hid,hw5];refine aG.NB (cs:=R) ?_;first|exact⟨_,B1.out,by rw[HR2.out];rfl⟩|exact⟨_,(aG.Mo B1.out _ _),by rw[HR2.out];rfl⟩|exact⟨_,(aG.Mo (aG.Mo B1.out _ _) _ _),by rw[HR2.out];rfl⟩);have C0:Hid (aG w5 w.heap.size 85 (ae zI)):=(by rw[Hid,hw5];(repeat' refine aG.Mu ?_ (by show w.heap.size≠w.heap.size+1;omega) _);exact B0.out);have CE:Hid (Bl w w5):=(by rw[Hid,hw5];(repeat' refine QE ?_ (by show w.heap.size<=w.heap.size+1;omega) _);exact BE.out);have RG:Hid (w5.rangeAt (w.heap.size+1) 0 R.toList):=cC C1.out _ _ fun j v hj=>(by rw[OX,<-hj,PN]);clear hw5 e0 e1 e2 e3 e4 a0 a1 a2 a3 a4 b0 b1 b2 b3 b4 b5 b6 B0 B1 B2 BE z1;refine aH rfl 85 _ rfl (w.heap.size+1) 0 rfl _ _ RG.out Ph rfl (by rw[Pk,HRK.out];kernel_rfl) ?_)
   | ((with_reducible show wpList _ _ _ (⟨_,.store 85 _ _,_,_,_,_⟩::_) _ _);refine Pr rfl 85 _ _ rfl w.heap.size R rfl rfl 85 _ C0.out (by rw[HRK.out];kernel_rfl) (by rw[HRK.out];rfl) HALL.out ?_))
  exact OO (cu rfl _ _ rfl _ rfl _ R HRK.out (eS C0.out R)) rfl ⟨by rw[HR.out];rfl,eT CE.out (qL) _⟩
 ·obtain⟨e0,e1,e2,e3,e4⟩:=aO.Mp B2.out;obtain⟨⟨a0,a1,a2,a3,a4⟩,⟨b0,b1,b2,b3,b4⟩,b5,b6⟩:=jE.Mn B1.out;simp only[OX] at a0 a1 a2 a3 a4 b0 b1 b2 b3 b4 b5 b6
  go_wp2_with (first
   | ((with_reducible show wpList _ _ _ (⟨_,.load 85 _,_,_,_,_⟩::_) _ _);refine eK ?_;intro w5 hw5;have C1:Hid (aG w5 (w.heap.size+1) 85 R):=(by rw[Hid,hw5];refine aG.NB (cs:=R) ?_;first|exact⟨_,B1.out,by rw[HR2.out];rfl⟩|exact⟨_,(aG.Mo B1.out _ _),by rw[HR2.out];rfl⟩|exact⟨_,(aG.Mo (aG.Mo B1.out _ _) _ _),by rw[HR2.out];rfl⟩);have C0:Hid (aG w5 w.heap.size 85 (ae zI)):=(by rw[Hid,hw5];(repeat' refine aG.Mu ?_ (by show w.heap.size≠w.heap.size+1;omega) _);exact B0.out);have CE:Hid (Bl w w5):=(by rw[Hid,hw5];(repeat' refine QE ?_ (by show w.heap.size<=w.heap.size+1;omega) _);exact BE.out);have RG:Hid (w5.rangeAt (w.heap.size+1) 0 R.toList):=cC C1.out _ _ fun j v hj=>(by rw[OX,<-hj,PN]);clear hw5 e0 e1 e2 e3 e4 a0 a1 a2 a3 a4 b0 b1 b2 b3 b4 b5 b6 B0 B1 B2 BE z1;refine aH rfl 85 _ rfl (w.heap.size+1) 0 rfl _ _ RG.out Ph rfl (by rw[Pk,HRK.out];kernel_rfl) ?_)
   | ((with_reducible show wpList _ _ _ (⟨_,.store 85 _ _,_,_,_,_⟩::_) _ _);refine Pr rfl 85 _ _ rfl w.heap.size R rfl rfl 85 _ C0.out (by rw[HRK.out];kernel_rfl) (by rw[HRK.out];rfl) HALL.out ?_))
  exact OO (cu rfl _ _ rfl _ rfl _ R HRK.out (eS C0.out R)) rfl ⟨by rw[HR.out];rfl,eT CE.out (qL) _⟩
 ·obtain⟨e0,e1,e2,e3,e4⟩:=aO.Mp B2.out;obtain⟨⟨a0,a1,a2,a3,a4⟩,⟨b0,b1,b2,b3,b4⟩,b5,b6⟩:=jE.Mn B1.out;simp only[OX] at a0 a1 a2 a3 a4 b0 b1 b2 b3 b4 b5 b6
  go_wp2_with (first
   | ((with_reducible show wpList _ _ _ (⟨_,.load 85 _,_,_,_,_⟩::_) _ _);refine eK ?_;intro w5 hw5;have C1:Hid (aG w5 (w.heap.size+1) 85 R):=(by rw[Hid,hw5];refine aG.NB (cs:=R) ?_;first|exact⟨_,B1.out,by rw[HR2.out];rfl⟩|exact⟨_,(aG.Mo B1.out _ _),by rw[HR2.out];rfl⟩|exact⟨_,(aG.Mo (aG.Mo B1.out _ _) _ _),by rw[HR2.out];rfl⟩);have C0:Hid (aG w5 w.heap.size 85 (ae zI)):=(by rw[Hid,hw5];(repeat' refine aG.Mu ?_ (by show w.heap.size≠w.heap.size+1;omega) _);exact B0.out);have CE:Hid (Bl w w5):=(by rw[Hid,hw5];(repeat' refine QE ?_ (by show w.heap.size<=w.heap.size+1;omega) _);exact BE.out);have RG:Hid (w5.rangeAt (w.heap.size+1) 0 R.toList):=cC C1.out _ _ fun j v hj=>(by rw[OX,<-hj,PN]);clear hw5 e0 e1 e2 e3 e4 a0 a1 a2 a3 a4 b0 b1 b2 b3 b4 b5 b6 B0 B1 B2 BE z1;refine aH rfl 85 _ rfl (w.heap.size+1) 0 rfl _ _ RG.out Ph rfl (by rw[Pk,HRK.out];kernel_rfl) ?_)
   | ((with_reducible show wpList _ _ _ (⟨_,.store 85 _ _,_,_,_,_⟩::_) _ _);refine Pr rfl 85 _ _ rfl w.heap.size R rfl rfl 85 _ C0.out (by rw[HRK.out];kernel_rfl) (by rw[HRK.out];rfl) HALL.out ?_))
  exact OO (cu rfl _ _ rfl _ rfl _ R HRK.out (eS C0.out R)) rfl ⟨by rw[HR.out];rfl,eT CE.out (qL) _⟩
 ·obtain⟨e0,e1,e2,e3,e4⟩:=aO.Mp B2.out;obtain⟨⟨a0,a1,a2,a3,a4⟩,⟨b0,b1,b2,b3,b4⟩,b5,b6⟩:=jE.Mn B1.out;simp only[OX] at a0 a1 a2 a3 a4 b0 b1 b2 b3 b4 b5 b6
  go_wp2_with (first
   | ((with_reducible show wpList _ _ _ (⟨_,.store 29 _ _,_,_,_,_⟩::_) _ _);refine me (c:=(bO 5 0 empty)) rfl _ _ rfl rfl rfl B1.out B0.out B2.out BE.out oM HNE.out oM (jZ 5) ?_;intro w6 hB1 hB0 hB2 hBE;clear B0 B1 B2 BE e0 e1 e2 e3 e4 a0 a1 a2 a3 a4 b0 b1 b2 b3 b4 b5 b6 z1;have B0:=qD hB0;have B1:=qD hB1;have B2:=qD hB2;have BE:=qD hBE;clear hB0 hB1 hB2 hBE;have z1:=B1.out.frozen;obtain⟨e0,e1,e2,e3,e4⟩:=aO.Mp B2.out;obtain⟨⟨a0,a1,a2,a3,a4⟩,⟨b0,b1,b2,b3,b4⟩,b5,b6⟩:=jE.Mn B1.out;simp only[OX] at a0 a1 a2 a3 a4 b0 b1 b2 b3 b4 b5 b6)
   | ((with_reducible show wpList _ _ _ (⟨_,.load 85 _,_,_,_,_⟩::_) _ _);refine eK ?_;intro w5 hw5;have C1:Hid (aG w5 (w.heap.size+1) 85 R):=(by rw[Hid,hw5];refine aG.NB (cs:=R) ?_;first|exact⟨_,B1.out,by rw[HR2.out];rfl⟩|exact⟨_,(aG.Mo B1.out _ _),by rw[HR2.out];rfl⟩|exact⟨_,(aG.Mo (aG.Mo B1.out _ _) _ _),by rw[HR2.out];rfl⟩);have C0:Hid (aG w5 w.heap.size 85 (ae zI)):=(by rw[Hid,hw5];(repeat' refine aG.Mu ?_ (by show w.heap.size≠w.heap.size+1;omega) _);exact B0.out);have CE:Hid (Bl w w5):=(by rw[Hid,hw5];(repeat' refine QE ?_ (by show w.heap.size<=w.heap.size+1;omega) _);exact BE.out);have RG:Hid (w5.rangeAt (w.heap.size+1) 0 R.toList):=cC C1.out _ _ fun j v hj=>(by rw[OX,<-hj,PN]);clear hw5 e0 e1 e2 e3 e4 a0 a1 a2 a3 a4 b0 b1 b2 b3 b4 b5 b6 B0 B1 B2 BE z1;refine aH rfl 85 _ rfl (w.heap.size+1) 0 rfl _ _ RG.out Ph rfl (by rw[Pk,HRK.out];kernel_rfl) ?_)
   | ((with_reducible show wpList _ _ _ (⟨_,.store 85 _ _,_,_,_,_⟩::_) _ _);refine Pr rfl 85 _ _ rfl w.heap.size R rfl rfl 85 _ C0.out (by rw[HRK.out];kernel_rfl) (by rw[HRK.out];rfl) HALL.out ?_))
  exact OO (cu rfl _ _ rfl _ rfl _ R HRK.out (eS C0.out R)) rfl ⟨by rw[HR.out];rfl,eT CE.out (qL) _⟩
 ·obtain⟨e0,e1,e2,e3,e4⟩:=aO.Mp B2.out;obtain⟨⟨a0,a1,a2,a3,a4⟩,⟨b0,b1,b2,b3,b4⟩,b5,b6⟩:=jE.Mn B1.out;simp only[OX] at a0 a1 a2 a3 a4 b0 b1 b2 b3 b4 b5 b6
  go_wp2_with (first
   | ((with_reducible show wpList _ _ _ (⟨_,.store 29 _ _,_,_,_,_⟩::_) _ _);refine me (c:=(bO 6 0 empty)) rfl _ _ rfl rfl rfl B1.out B0.out B2.out BE.out oM HNE.out oM (jZ 6) ?_;intro w6 hB1 hB0 hB2 hBE;clear B0 B1 B2 BE e0 e1 e2 e3 e4 a0 a1 a2 a3 a4 b0 b1 b2 b3 b4 b5 b6 z1;have B0:=qD hB0;have B1:=qD hB1;have B2:=qD hB2;have BE:=qD hBE;clear hB0 hB1 hB2 hBE;have z1:=B1.out.frozen;obtain⟨e0,e1,e2,e3,e4⟩:=aO.Mp B2.out;obtain⟨⟨a0,a1,a2,a3,a4⟩,⟨b0,b1,b2,b3,b4⟩,b5,b6⟩:=jE.Mn B1.out;simp only[OX] at a0 a1 a2 a3 a4 b0 b1 b2 b3 b4 b5 b6)
   | ((with_reducible show wpList _ _ _ (⟨_,.load 85 _,_,_,_,_⟩::_) _ _);refine eK ?_;intro w5 hw5;have C1:Hid (aG w5 (w.heap.size+1) 85 R):=(by rw[Hid,hw5];refine aG.NB (cs:=R) ?_;first|exact⟨_,B1.out,by rw[HR2.out];rfl⟩|exact⟨_,(aG.Mo B1.out _ _),by rw[HR2.out];rfl⟩|exact⟨_,(aG.Mo (aG.Mo B1.out _ _) _ _),by rw[HR2.out];rfl⟩);have C0:Hid (aG w5 w.heap.size 85 (ae zI)):=(by rw[Hid,hw5];(repeat' refine aG.Mu ?_ (by show w.heap.size≠w.heap.size+1;omega) _);exact B0.out);have CE:Hid (Bl w w5):=(by rw[Hid,hw5];(repeat' refine QE ?_ (by show w.heap.size<=w.heap.size+1;omega) _);exact BE.out);have RG:Hid (w5.rangeAt (w.heap.size+1) 0 R.toList):=cC C1.out _ _ fun j v hj=>(by rw[OX,<-hj,PN]);clear hw5 e0 e1 e2 e3 e4 a0 a1 a2 a3 a4 b0 b1 b2 b3 b4 b5 b6 B0 B1 B2 BE z1;refine aH rfl 85 _ rfl (w.heap.size+1) 0 rfl _ _ RG.out Ph rfl (by rw[Pk,HRK.out];kernel_rfl) ?_)
   | ((with_reducible show wpList _ _ _ (⟨_,.store 85 _ _,_,_,_,_⟩::_) _ _);refine Pr rfl 85 _ _ rfl w.heap.size R rfl rfl 85 _ C0.out (by rw[HRK.out];kernel_rfl) (by rw[HRK.out];rfl) HALL.out ?_))
  exact OO (cu rfl _ _ rfl _ rfl _ R HRK.out (eS C0.out R)) rfl ⟨by rw[HR.out];rfl,eT CE.out (qL) _⟩
 ·obtain⟨e0,e1,e2,e3,e4⟩:=aO.Mp B2.out;obtain⟨⟨a0,a1,a2,a3,a4⟩,⟨b0,b1,b2,b3,b4⟩,b5,b6⟩:=jE.Mn B1.out;simp only[OX] at a0 a1 a2 a3 a4 b0 b1 b2 b3 b4 b5 b6
  go_wp2_with (first
   | ((with_reducible show wpList _ _ _ (⟨_,.store 29 _ _,_,_,_,_⟩::_) _ _);refine me (c:=(bO 8 0 dC)) rfl _ _ rfl rfl rfl B1.out B0.out B2.out BE.out oM HNE.out oM (.mk 8 0 dC [] []) ?_;intro w6 hB1 hB0 hB2 hBE;clear B0 B1 B2 BE e0 e1 e2 e3 e4 a0 a1 a2 a3 a4 b0 b1 b2 b3 b4 b5 b6 z1;have B0:=qD hB0;have B1:=qD hB1;have B2:=qD hB2;have BE:=qD hBE;clear hB0 hB1 hB2 hBE;have z1:=B1.out.frozen;obtain⟨e0,e1,e2,e3,e4⟩:=aO.Mp B2.out;obtain⟨⟨a0,a1,a2,a3,a4⟩,⟨b0,b1,b2,b3,b4⟩,b5,b6⟩:=jE.Mn B1.out;simp only[OX] at a0 a1 a2 a3 a4 b0 b1 b2 b3 b4 b5 b6)
   | ((with_reducible show wpList _ _ _ (⟨_,.load 85 _,_,_,_,_⟩::_) _ _);refine eK ?_;intro w5 hw5;have C1:Hid (aG w5 (w.heap.size+1) 85 R):=(by rw[Hid,hw5];refine aG.NB (cs:=R) ?_;first|exact⟨_,B1.out,by rw[HR2.out];rfl⟩|exact⟨_,(aG.Mo B1.out _ _),by rw[HR2.out];rfl⟩|exact⟨_,(aG.Mo (aG.Mo B1.out _ _) _ _),by rw[HR2.out];rfl⟩);have C0:Hid (aG w5 w.heap.size 85 (ae zI)):=(by rw[Hid,hw5];(repeat' refine aG.Mu ?_ (by show w.heap.size≠w.heap.size+1;omega) _);exact B0.out);have CE:Hid (Bl w w5):=(by rw[Hid,hw5];(repeat' refine QE ?_ (by show w.heap.size<=w.heap.size+1;omega) _);exact BE.out);have RG:Hid (w5.rangeAt (w.heap.size+1) 0 R.toList):=cC C1.out _ _ fun j v hj=>(by rw[OX,<-hj,PN]);clear hw5 e0 e1 e2 e3 e4 a0 a1 a2 a3 a4 b0 b1 b2 b3 b4 b5 b6 B0 B1 B2 BE z1;refine aH rfl 85 _ rfl (w.heap.size+1) 0 rfl _ _ RG.out Ph rfl (by rw[Pk,HRK.out];kernel_rfl) ?_)
   | ((with_reducible show wpList _ _ _ (⟨_,.store 85 _ _,_,_,_,_⟩::_) _ _);refine Pr rfl 85 _ _ rfl w.heap.size R rfl rfl 85 _ C0.out (by rw[HRK.out];kernel_rfl) (by rw[HRK.out];rfl) HALL.out ?_))
  exact OO (cu rfl _ _ rfl _ rfl _ R HRK.out (eS C0.out R)) rfl ⟨by rw[HR.out];rfl,eT CE.out (qL) _⟩
 ·obtain⟨e0,e1,e2,e3,e4⟩:=aO.Mp B2.out;obtain⟨⟨a0,a1,a2,a3,a4⟩,⟨b0,b1,b2,b3,b4⟩,b5,b6⟩:=jE.Mn B1.out;simp only[OX] at a0 a1 a2 a3 a4 b0 b1 b2 b3 b4 b5 b6
  go_wp2_with (first
   | ((with_reducible show wpList _ _ _ (⟨_,.store 29 _ _,_,_,_,_⟩::_) _ _);refine DO (c:=(bO 8 0 dC)) rfl _ _ rfl rfl rfl B1.out B0.out B2.out BE.out oM HNE.out oM (.mk 8 0 dC [] []) ?_;intro w6 hB1 hB0 hB2 hBE;clear B0 B1 B2 BE e0 e1 e2 e3 e4 a0 a1 a2 a3 a4 b0 b1 b2 b3 b4 b5 b6 z1;have B0:=qD hB0;have B1:=qD hB1;have B2:=qD hB2;have BE:=qD hBE;clear hB0 hB1 hB2 hBE;have z1:=B1.out.frozen;obtain⟨e0,e1,e2,e3,e4⟩:=aO.Mp B2.out;obtain⟨⟨a0,a1,a2,a3,a4⟩,⟨b0,b1,b2,b3,b4⟩,b5,b6⟩:=jE.Mn B1.out;simp only[OX] at a0 a1 a2 a3 a4 b0 b1 b2 b3 b4 b5 b6)
   | ((with_reducible show wpList _ _ _ (⟨_,.store 29 _ _,_,_,_,_⟩::_) _ _);refine me (c:=(bO 9 0 empty)) rfl _ _ rfl rfl rfl B1.out B0.out B2.out BE.out oM HNE.out oM (jZ 9) ?_;intro w6 hB1 hB0 hB2 hBE;clear B0 B1 B2 BE e0 e1 e2 e3 e4 a0 a1 a2 a3 a4 b0 b1 b2 b3 b4 b5 b6 z1;have B0:=qD hB0;have B1:=qD hB1;have B2:=qD hB2;have BE:=qD hBE;clear hB0 hB1 hB2 hBE;have z1:=B1.out.frozen;obtain⟨e0,e1,e2,e3,e4⟩:=aO.Mp B2.out;obtain⟨⟨a0,a1,a2,a3,a4⟩,⟨b0,b1,b2,b3,b4⟩,b5,b6⟩:=jE.Mn B1.out;simp only[OX] at a0 a1 a2 a3 a4 b0 b1 b2 b3 b4 b5 b6)
   | ((with_reducible show wpList _ _ _ (⟨_,.load 85 _,_,_,_,_⟩::_) _ _);refine eK ?_;intro w5 hw5;have C1:Hid (aG w5 (w.heap.size+1) 85 R):=(by rw[Hid,hw5];refine aG.NB (cs:=R) ?_;first|exact⟨_,B1.out,by rw[HR2.out];rfl⟩|exact⟨_,(aG.Mo B1.out _ _),by rw[HR2.out];rfl⟩|exact⟨_,(aG.Mo (aG.Mo B1.out _ _) _ _),by rw[HR2.out];rfl⟩);have C0:Hid (aG w5 w.heap.size 85 (ae zI)):=(by rw[Hid,hw5];(repeat' refine aG.Mu ?_ (by show w.heap.size≠w.heap.size+1;omega) _);exact B0.out);have CE:Hid (Bl w w5):=(by rw[Hid,hw5];(repeat' refine QE ?_ (by show w.heap.size<=w.heap.size+1;omega) _);exact BE.out);have RG:Hid (w5.rangeAt (w.heap.size+1) 0 R.toList):=cC C1.out _ _ fun j v hj=>(by rw[OX,<-hj,PN]);clear hw5 e0 e1 e2 e3 e4 a0 a1 a2 a3 a4 b0 b1 b2 b3 b4 b5 b6 B0 B1 B2 BE z1;refine aH rfl 85 _ rfl (w.heap.size+1) 0 rfl _ _ RG.out Ph rfl (by rw[Pk,HRK.out];kernel_rfl) ?_)
   | ((with_reducible show wpList _ _ _ (⟨_,.store 85 _ _,_,_,_,_⟩::_) _ _);refine Pr rfl 85 _ _ rfl w.heap.size R rfl rfl 85 _ C0.out (by rw[HRK.out];kernel_rfl) (by rw[HRK.out];rfl) HALL.out ?_))
  exact OO (cu rfl _ _ rfl _ rfl _ R HRK.out (eS C0.out R)) rfl ⟨by rw[HR.out];rfl,eT CE.out (qL) _⟩
 ·obtain⟨e0,e1,e2,e3,e4⟩:=aO.Mp B2.out;obtain⟨⟨a0,a1,a2,a3,a4⟩,⟨b0,b1,b2,b3,b4⟩,b5,b6⟩:=jE.Mn B1.out;simp only[OX] at a0 a1 a2 a3 a4 b0 b1 b2 b3 b4 b5 b6
  go_wp2_with (first
   | ((with_reducible show wpList _ _ _ (⟨_,.load 85 _,_,_,_,_⟩::_) _ _);refine eK ?_;intro w5 hw5;have C1:Hid (aG w5 (w.heap.size+1) 85 R):=(by rw[Hid,hw5];refine aG.NB (cs:=R) ?_;first|exact⟨_,B1.out,by rw[HR2.out];rfl⟩|exact⟨_,(aG.Mo B1.out _ _),by rw[HR2.out];rfl⟩|exact⟨_,(aG.Mo (aG.Mo B1.out _ _) _ _),by rw[HR2.out];rfl⟩);have C0:Hid (aG w5 w.heap.size 85 (ae zI)):=(by rw[Hid,hw5];(repeat' refine aG.Mu ?_ (by show w.heap.size≠w.heap.size+1;omega) _);exact B0.out);have CE:Hid (Bl w w5):=(by rw[Hid,hw5];(repeat' refine QE ?_ (by show w.heap.size<=w.heap.size+1;omega) _);exact BE.out);have RG:Hid (w5.rangeAt (w.heap.size+1) 0 R.toList):=cC C1.out _ _ fun j v hj=>(by rw[OX,<-hj,PN]);clear hw5 e0 e1 e2 e3 e4 a0 a1 a2 a3 a4 b0 b1 b2 b3 b4 b5 b6 B0 B1 B2 BE z1;refine aH rfl 85 _ rfl (w.heap.size+1) 0 rfl _ _ RG.out Ph rfl (by rw[Pk,HRK.out];kernel_rfl) ?_)
   | ((with_reducible show wpList _ _ _ (⟨_,.store 85 _ _,_,_,_,_⟩::_) _ _);refine Pr rfl 85 _ _ rfl w.heap.size R rfl rfl 85 _ C0.out (by rw[HRK.out];kernel_rfl) (by rw[HRK.out];rfl) HALL.out ?_))
  exact OO (cu rfl _ _ rfl _ rfl _ R HRK.out (eS C0.out R)) rfl ⟨by rw[HR.out];rfl,eT CE.out (qL) _⟩
 ·obtain⟨e0,e1,e2,e3,e4⟩:=aO.Mp B2.out;obtain⟨⟨a0,a1,a2,a3,a4⟩,⟨b0,b1,b2,b3,b4⟩,b5,b6⟩:=jE.Mn B1.out;simp only[OX] at a0 a1 a2 a3 a4 b0 b1 b2 b3 b4 b5 b6
  go_wp2_with (first
   | ((with_reducible show wpList _ _ _ (⟨_,.load 85 _,_,_,_,_⟩::_) _ _);refine eK ?_;intro w5 hw5;have C1:Hid (aG w5 (w.heap.size+1) 85 R):=(by rw[Hid,hw5];refine aG.NB (cs:=R) ?_;first|exact⟨_,B1.out,by rw[HR2.out];rfl⟩|exact⟨_,(aG.Mo B1.out _ _),by rw[HR2.out];rfl⟩|exact⟨_,(aG.Mo (aG.Mo B1.out _ _) _ _),by rw[HR2.out];rfl⟩);have C0:Hid (aG w5 w.heap.size 85 (ae zI)):=(by rw[Hid,hw5];(repeat' refine aG.Mu ?_ (by show w.heap.size≠w.heap.size+1;omega) _);exact B0.out);have CE:Hid (Bl w w5):=(by rw[Hid,hw5];(repeat' refine QE ?_ (by show w.heap.size<=w.heap.size+1;omega) _);exact BE.out);have RG:Hid (w5.rangeAt (w.heap.size+1) 0 R.toList):=cC C1.out _ _ fun j v hj=>(by rw[OX,<-hj,PN]);clear hw5 e0 e1 e2 e3 e4 a0 a1 a2 a3 a4 b0 b1 b2 b3 b4 b5 b6 B0 B1 B2 BE z1;refine aH rfl 85 _ rfl (w.heap.size+1) 0 rfl _ _ RG.out Ph rfl (by rw[Pk,HRK.out];kernel_rfl) ?_)
   | ((with_reducible show wpList _ _ _ (⟨_,.store 85 _ _,_,_,_,_⟩::_) _ _);refine Pr rfl 85 _ _ rfl w.heap.size R rfl rfl 85 _ C0.out (by rw[HRK.out];kernel_rfl) (by rw[HRK.out];rfl) HALL.out ?_))
  exact OO (cu rfl _ _ rfl _ rfl _ R HRK.out (eS C0.out R)) rfl ⟨by rw[HR.out];rfl,eT CE.out (qL) _⟩
 ·obtain⟨e0,e1,e2,e3,e4⟩:=aO.Mp B2.out;obtain⟨⟨a0,a1,a2,a3,a4⟩,⟨b0,b1,b2,b3,b4⟩,b5,b6⟩:=jE.Mn B1.out;simp only[OX] at a0 a1 a2 a3 a4 b0 b1 b2 b3 b4 b5 b6
  go_wp2_with (first
   | ((with_reducible show wpList _ _ _ (⟨_,.load 85 _,_,_,_,_⟩::_) _ _);refine eK ?_;intro w5 hw5;have C1:Hid (aG w5 (w.heap.size+1) 85 R):=(by rw[Hid,hw5];refine aG.NB (cs:=R) ?_;first|exact⟨_,B1.out,by rw[HR2.out];rfl⟩|exact⟨_,(aG.Mo B1.out _ _),by rw[HR2.out];rfl⟩|exact⟨_,(aG.Mo (aG.Mo B1.out _ _) _ _),by rw[HR2.out];rfl⟩);have C0:Hid (aG w5 w.heap.size 85 (ae zI)):=(by rw[Hid,hw5];(repeat' refine aG.Mu ?_ (by show w.heap.size≠w.heap.size+1;omega) _);exact B0.out);have CE:Hid (Bl w w5):=(by rw[Hid,hw5];(repeat' refine QE ?_ (by show w.heap.size<=w.heap.size+1;omega) _);exact BE.out);have RG:Hid (w5.rangeAt (w.heap.size+1) 0 R.toList):=cC C1.out _ _ fun j v hj=>(by rw[OX,<-hj,PN]);clear hw5 e0 e1 e2 e3 e4 a0 a1 a2 a3 a4 b0 b1 b2 b3 b4 b5 b6 B0 B1 B2 BE z1;refine aH rfl 85 _ rfl (w.heap.size+1) 0 rfl _ _ RG.out Ph rfl (by rw[Pk,HRK.out];kernel_rfl) ?_)
   | ((with_reducible show wpList _ _ _ (⟨_,.store 85 _ _,_,_,_,_⟩::_) _ _);refine Pr rfl 85 _ _ rfl w.heap.size R rfl rfl 85 _ C0.out (by rw[HRK.out];kernel_rfl) (by rw[HRK.out];rfl) HALL.out ?_))
  exact OO (cu rfl _ _ rfl _ rfl _ R HRK.out (eS C0.out R)) rfl ⟨by rw[HR.out];rfl,eT CE.out (qL) _⟩
theorem nL(x y:aC)(c d:VC)(w:World)(h:RW w c x)(h':RW w d y):Calls prog 39 #[c.val,d.val] w (Rt w (.bool (aZ x y==0))):=by
 have H:=qD h;have H':=qD h';clear h h';go_enter func39,ntmps39;go_wp2_with fail;refine(Ar x y c d _ ((H.out.alloc _).alloc _) ((H'.out.alloc _).alloc _)).mono ?_;rintro e w1 ⟨rfl,hb⟩;go_wp2;go_ret;exact⟨rfl,(((OG _ _).alloc (qL) _).alloc sM _).Ml hb⟩
def nM(x y:Iv):Bool:=(x.li==y.li)&&((x.hin==y.hin)&&((aZ x.lo y.lo==0)&&(aZ x.hi y.hi==0)))
def cV:List Iv->List Iv->Bool
 | [],[]=>true
 | x::r,y::s=>nM x y&&cV r s
 | _,_=>false
theorem pW:∀{l m:List Iv},l.length≠m.length->cV l m=false
 | [],[],h=>absurd rfl h
 | [],_::_,_=>rfl
 | _::_,[],_=>rfl
 | x::r,y::s,h=>by rw[cV,pW (by simpa using h),Sn]
theorem zc{l m:List Iv}{x y:Iv}(hx:l[i]?=some x)(hy:m[i]?=some y):cV (l.drop i) (m.drop i)=(nM x y&&cV (l.drop (i+1)) (m.drop (i+1))):=by rw[cU hx,cU hy,cV]
theorem xF{l m:List Iv}(h1:l.length<=i)(h2:m.length<=i):cV (l.drop i) (m.drop i)=true:=by rw[Og h1,Og h2];rfl
theorem zd{s t:cx×cx}(hs:jb s.1/\jb s.2)(ht:jb t.1/\jb t.2):nM (fa s) (fa t)=true↔s=t:=by
 obtain⟨⟨a,b⟩,⟨c,d⟩⟩:=s;obtain⟨⟨a',b'⟩,⟨c',d'⟩⟩:=t;unfold nM fa;simp only[Ov,QR];constructor
 ·rintro⟨h1,h2,h3,h4⟩;have e1:a=a':=congrArg Prod.fst (dF.eq (a,false) (a',false) hs.1 ht.1 ((fj h3).trans rfl));have e2:c=c':=congrArg Prod.fst (dF.eq (c,false) (c',false) hs.2 ht.2 ((fj h4).trans rfl));have e3:b=b':=by cases b<;>cases b'<;>simp at h1 ⊢
  rw[e1,e2,e3,h2]
 ·intro e;simp only[Sd] at e;obtain⟨⟨rfl,rfl⟩,⟨rfl,rfl⟩⟩:=e;have z:∀v:aC,aZ v v=0:=fun v=>by have:=iS v v;omega
  exact⟨rfl,rfl,z _,z _⟩
theorem pX:∀{n m:List (cx×cx)},(∀s∈n,jb s.1/\jb s.2)->(∀s∈m,jb s.1/\jb s.2)->(cV (n.map fa) (m.map fa)=true↔n=m)
 | [],[],_,_=>by simp[cV]
 | [],_::_,_,_=>by simp[cV]
 | _::_,[],_,_=>by simp[cV]
 | s::r,t::q,h1,h2=>by
  simp only[Pp,cV,Ov];rw[zd (h1 s sM) (h2 t sM),pX (fun x hx=>h1 x (by simp[hx])) (fun x hx=>h2 x (by simp[hx])),Pu]
theorem xG(p q:PI)(w:World)(hp:qd w p)(hq:qd w q):Calls prog 242 #[jY p,jY q] w (Rt w (.bool (nM (dg p) (dg q)))):=by
 have HK1:=qD fun(wr:World) (hb:Bl w wr)=>nL _ _ _ _ wr (hp.1.step hb) (hq.1.step hb);have HK2:=qD fun(wr:World) (hb:Bl w wr)=>nL _ _ _ _ wr (hp.2.step hb) (hq.2.step hb);have HS:Hid (nM (dg p) (dg q)=((p.2.1==q.2.1)&&((p.2.2==q.2.2)&&((aZ p.1.1.2 q.1.1.2==0)&&(aZ p.1.2.2 q.1.2.2==0))))):=qD rfl;obtain⟨z1,hz1⟩:∃z,z=(aZ p.1.1.2 q.1.1.2==0):=⟨_,rfl⟩;obtain⟨z2,hz2⟩:∃z,z=(aZ p.1.2.2 q.1.2.2==0):=⟨_,rfl⟩;rw[<-hz1] at HK1 HS;rw[<-hz2] at HK2 HS;clear hz1 hz2 hp hq;obtain⟨⟨⟨c1,x1⟩,⟨c2,x2⟩⟩,⟨f1,f2⟩⟩:=p;obtain⟨⟨⟨e1,y1⟩,⟨e2,y2⟩⟩,⟨g1,g2⟩⟩:=q;go_enter func242,ntmps242;go_upto_region 1 with fail
 refine yS (ae (((c1,x1),(c2,x2)),(f1,f2))) 85 (ae (((e1,y1),(e2,y2)),(g1,g2))) 85 ?_;intro wa B0 B1 BE;obtain⟨⟨a0,a1,a2,a3,a4⟩,⟨b0,b1,b2,b3,b4⟩,b5,b6⟩:=jE.Mn B0.out;obtain⟨⟨c0,c3,c4,c5,c6⟩,⟨d0,d1,d2,d3,d4⟩,d5,d6⟩:=jE.Mn B1.out;simp only[OX] at a0 a1 a2 a3 a4 b0 b1 b2 b3 b4 b5 b6 c0 c3 c4 c5 c6 d0 d1 d2 d3 d4 d5 d6;obtain⟨u1,hu1⟩:∃u,u=(f1==g1):=⟨_,rfl⟩;obtain⟨u2,hu2⟩:∃u,u=(f2==g2):=⟨_,rfl⟩;simp only at HS;rw[<-hu1,<-hu2] at HS;replace hu1:=hu1.symm;replace hu2:=hu2.symm;cases u1
 ·go_wp2;go_ret;exact⟨by rw[HS.out];rfl,BE.out⟩
 cases u2
 ·go_wp2;go_ret;exact⟨by rw[HS.out];rfl,BE.out⟩
 go_wp2_with (fail);refine(HK1.out _ BE.out).mono ?_;rintro e w1 ⟨rfl,hb⟩;replace B0:=qD (B0.out.step hb);replace B1:=qD (B1.out.step hb);replace BE:=qD (BE.out.Ml hb);clear hb a0 a1 a2 a3 a4 b0 b1 b2 b3 b4 b5 b6 c0 c3 c4 c5 c6 d0 d1 d2 d3 d4 d5 d6;obtain⟨⟨a0,a1,a2,a3,a4⟩,⟨b0,b1,b2,b3,b4⟩,b5,b6⟩:=jE.Mn B0.out;obtain⟨⟨c0,c3,c4,c5,c6⟩,⟨d0,d1,d2,d3,d4⟩,d5,d6⟩:=jE.Mn B1.out;simp only[OX] at a0 a1 a2 a3 a4 b0 b1 b2 b3 b4 b5 b6 c0 c3 c4 c5 c6 d0 d1 d2 d3 d4 d5 d6;cases z1
 ·go_wp2;go_ret;exact⟨by rw[HS.out];rfl,BE.out⟩
 go_wp2_with (fail);refine(HK2.out _ BE.out).mono ?_;rintro e w1 ⟨rfl,hb⟩;replace BE:=qD (BE.out.Ml hb);clear hb a0 a1 a2 a3 a4 b0 b1 b2 b3 b4 b5 b6 c0 c3 c4 c5 c6 d0 d1 d2 d3 d4 d5 d6;go_wp2;go_ret;exact⟨by rw[HS.out];rfl,BE.out⟩
theorem DP(xs ys:List PI)(A B:Option Addr)(n c m d:Nat)(w:World)(h:SI w A n c xs)(h':SI w B m d ys):
 Calls prog 241 #[.slice A n c,.slice B m d,.func (.func 242) #[] #[]] w (Rt w (.bool (cV (xs.map dg) (ys.map dg)))):=by
 have hz:n<=140737488355328:=by have:=h.sz;unfold aF at this;omega
 have hk:m<=140737488355328:=by have:=h'.sz;unfold aF at this;omega
 have H:=qD h;have H':=qD h';clear h h';by_cases hnk:n=m
 ·subst hnk;go_enter func241,ntmps241;go_upto_region 4 with fail
  go_loopw [17] (fun v wr=>∃i:Nat,i<=n/\v=.int .i64 i/\cV (xs.map dg) (ys.map dg)=cV ((xs.map dg).drop i) ((ys.map dg).drop i)/\Bl w wr) (fun v _=>n-(intOf v).toNat)
  ·exact⟨0,ON _,rfl,rfl,OG _ _⟩
  case round=>
   obtain⟨i,hi,rfl,ha,hbel⟩:=hrel;have HA:=qD ha;have HB:=qD hbel;clear ha hbel;by_cases hlt:i<n
   ·obtain⟨p,hp⟩:∃p,xs[i]?=some p:=⟨_,OH (by have:=H.out.sr.ln;omega)⟩;obtain⟨q,hq⟩:∃q,ys[i]?=some q:=⟨_,OH (by have:=H'.out.sr.ln;omega)⟩;obtain⟨b,off,rfl,hb,hat,hok⟩:=H.out.at hp;obtain⟨b',off',rfl,hb',hat',hok'⟩:=H'.out.at hq;have HX:=qD (zc (l:=xs.map dg) (m:=ys.map dg) (i:=i) (x:=dg p) (y:=dg q) (by rw[OT,hp];rfl) (by rw[OT,hq];rfl));have HC:=qD fun wz (hz:Bl w wz)=>xG p q wz (hok.step hz) (hok'.step hz);obtain⟨⟨a0,a1,a2,a3,a4⟩,⟨b0,b1,b2,b3,b4⟩,b5,b6⟩:=hat.keep (HB.out.block b hb);go_upto_region 6 with fail
    change Code.wp _ _ _ _ (wr.alloc (.cells (ae p) 85));have B0:Hid (aG (wr.alloc (.cells (ae p) 85)) wr.heap.size 85 (ae p)):=aG.Mm rfl;have BE:Hid (Bl w (wr.alloc (.cells (ae p) 85))):=HB.out.alloc HB.out.size _;have hat2:=hat'.keep (w':=wr.alloc (.cells (ae p) 85)) (BE.out.block b' hb');generalize hwz:wr.alloc (.cells (ae p) 85)=wz at*;clear hwz a0 a1 a2 a3 a4 b0 b1 b2 b3 b4 b5 b6;obtain⟨⟨c0,c3,c4,c5,c6⟩,⟨d0,d1,d2,d3,d4⟩,d5,d6⟩:=hat2;clear hat hat' hok hok' hp hq;generalize wr.heap.size=gz at*;go_upto_region 7 with fail
    change Code.wp _ _ _ _ (wz.alloc (.cells (ae q) 85));have B1:Hid (aG (wz.alloc (.cells (ae q) 85)) wz.heap.size 85 (ae q)):=aG.Mm rfl;replace B0:=qD (B0.out.alloc (.cells (ae q) 85));replace BE:=qD (BE.out.alloc BE.out.size (Obj.cells (ae q) 85));generalize wz.alloc (.cells (ae q) 85)=wa at*;clear c0 c3 c4 c5 c6 d0 d1 d2 d3 d4 d5 d6;obtain⟨⟨a0,a1,a2,a3,a4⟩,⟨b0,b1,b2,b3,b4⟩,b5,b6⟩:=jE.Mn B0.out;obtain⟨⟨c0,c3,c4,c5,c6⟩,⟨d0,d1,d2,d3,d4⟩,d5,d6⟩:=jE.Mn B1.out;simp only[OX] at a0 a1 a2 a3 a4 b0 b1 b2 b3 b4 b5 b6 c0 c3 c4 c5 c6 d0 d1 d2 d3 d4 d5 d6;generalize wz.heap.size=gy at*;go_wp2_with fail;refine(HC.out _ BE.out).mono ?_;rintro e w1 ⟨rfl,hb1⟩;have CE:=qD (BE.out.Ml hb1);clear hb1 a0 a1 a2 a3 a4 b0 b1 b2 b3 b4 b5 b6 c0 c3 c4 c5 c6 d0 d1 d2 d3 d4 d5 d6;obtain⟨z,hz'⟩:∃z,z=nM (dg p) (dg q):=⟨_,rfl⟩;rw[<-hz'] at HX ⊢;clear hz';cases z
    ·have HF:Hid (cV (xs.map dg) (ys.map dg)=false):=by rw[Hid,HA.out,HX.out];rfl
     go_wp2;go_ret;exact⟨by rw[HF.out];rfl,CE.out⟩
    ·have HF:Hid (cV (xs.map dg) (ys.map dg)=cV ((xs.map dg).drop (i+1)) ((ys.map dg).drop (i+1))):=by rw[Hid,HA.out,HX.out];rfl
     go_wp2_with fail;go_roundw
     ·exact⟨i+1,by omega,by go_num,HF.out,CE.out⟩
     ·exact iO
   ·have HF:Hid (cV (xs.map dg) (ys.map dg)=true):=by rw[Hid,HA.out];exact xF (by have:=H.out.sr.ln;simp;omega) (by have:=H'.out.sr.ln;simp;omega)
    go_wp2;go_ret;exact⟨by rw[HF.out];rfl,HB.out⟩
 ·have HF:Hid (cV (xs.map dg) (ys.map dg)=false):=pW (by have:=H.out.sr.ln;have:=H'.out.sr.ln;simp;omega);have hnk':((n:Int) != (m:Int))=true:=by simp;omega
  go_enter func241,ntmps241;go_wp2;go_ret;exact⟨by rw[HF.out];rfl,OG _ _⟩
theorem xH(xs ys:List PI)(A B:Option Addr)(n c m d:Nat)(w:World)(h:SI w A n c xs)(h':SI w B m d ys):
 Calls prog 186 #[.slice A n c,.slice B m d] w (Rt w (.bool (cV (xs.map dg) (ys.map dg)))):=by
 have H:=qD (DP xs ys A B n c m d w h h');clear h h';go_enter func186,ntmps186;go_wp2_with fail;refine H.out.mono ?_;rintro e w1 ⟨rfl,hb⟩;have HB:=qD hb;clear hb;go_wp2;go_ret;exact⟨rfl,HB.out⟩
theorem th{S:cx->Prop}{nf:List (cx×cx)}(xs:List PI)(A:Option Addr)(n c:Nat)(w:World)(h:SI w A n c xs)(hx:xs.map dg=nf.map fa)(hn:jw S nf):
 Calls prog 133 #[.slice A n c] w (Rt w (.bool (fk S))):=by
 have H:=qD h;have HX:=qD hx;have HN:=qD hn;clear h hx hn;go_enter func133,ntmps133;go_wp2_with fail;refine(IF w).mono ?_;rintro e w1 ⟨A1,m1,c1,ys,n1,rfl,hy,hn1,_,hsi,hb⟩;have HB:=qD hb
 have HS:Hid (cV (xs.map dg) (ys.map dg)=fk S):=by
  have e1:n1=[((im,false),(iP,true))]:=hn1.unique rA fun _ _=>Iff.rfl;rw[Hid,HX.out,hy,Ob,pX (fun s hs=>(HN.out.1.ne s hs).2) (fun s hs=>(hn1.1.ne s hs).2),e1];exact FF HN.out
 have HC:=qD (xH xs ys A A1 n c m1 c1 w1 (H.out.step hb) hsi);rw[HS.out] at HC;clear hb hy hn1 hsi HS;go_wp2_with fail;refine HC.out.mono ?_;rintro e w2 ⟨rfl,hb⟩;have CE:=qD (HB.out.Ml hb);clear hb;go_wp2;go_ret;exact⟨rfl,CE.out⟩
def rb(op:Int)(q:PI)(a:PV):PI:=if op=4\/op=5 then((a,q.1.2),(decide (op=5),q.2.2)) else((q.1.1,a),(q.2.1,decide (op=7)))
theorem IJ{x:aC}{c:VC}{q:PI}(hq:dg q=bA x.k):dg (rb op q (c,x))=pm op x:=by
 unfold rb pm;split
 ·rw[<-hq];rfl
 ·rw[<-hq];rfl
theorem xI{fn:Func}{p:Tmp}(h:fn.results=#[.cell p 85])(tmps:Array Value)(g:Nat)(h1:tmps[p]?.getD undef=.pointer (some ⟨g,0,none⟩))(W:World)(R:Array Value)(hz:R.size=12)(q:aG W g 85 R):(results fn tmps).run prog W=.ok (.agg R) W:=by
  simp[results,h,h1,asAddr,uk q hz]
theorem FY(v:PI):(ae v).all (·.oneCell')=true:=by simp[Value.oneCell']
theorem xJ(q:PI)(p:aj)(w:World)(ho:p.op=4\/p.op=5\/p.op=6\/p.op=7):
 Calls prog 71 #[jY q,al p] w (Rt w (jY (rb p.op q p.arg))):=by
 go_enter func71,ntmps71;go_upto_region 1 with fail
 refine Mc (ae q) 85 (bL p) 38 (ae zI) 85 ?_;intro wa B0 B1 B2 BE;obtain⟨d0,_,_,_,_,_,_,_⟩:=aU B1.out;have f2:=(bZ B1.out) 0 _ rfl;have f3:=(bZ B1.out) 1 _ rfl;have f4:=(bZ B1.out) 2 _ rfl;have f5:=(bZ B1.out) 3 _ rfl;have f6:=(bZ B1.out) 4 _ rfl;simp only[Nat.reduceAdd] at f2 f3 f4 f5 f6;obtain⟨⟨a0,a1,a2,a3,a4⟩,⟨b0,b1,b2,b3,b4⟩,b5,b6⟩:=jE.Mn B0.out;simp only[OX] at a0 a1 a2 a3 a4 b0 b1 b2 b3 b4 b5 b6;have z0:=B0.out.frozen;obtain⟨op,hop⟩:∃op,op=p.op:=⟨_,rfl⟩;rw[<-hop] at d0 ho;have HOP:=qD hop;clear hop;obtain⟨R,hR⟩:∃R:Array Value,R=ae (rb op q p.arg):=⟨_,rfl⟩;have HR2:=qD hR;have HRK:Hid (R.size=12):=by rw[hR];exact qD rfl
 have HALL:Hid (R.all (·.oneCell')=true):=by rw[Hid,hR];exact FY _
 have HAG:Hid (jY (rb op q p.arg)=.agg R):=by rw[hR];exact qD rfl
 clear hR;rcases ho with rfl|rfl|rfl|rfl
 all_goals
  first|go_upto_region 4 with fail|go_upto_region 7 with fail
  go_region
  all_goals
   go_upto_region 8 with fail
   refine Bc ?_;intro w5 hw5
   have C0:Hid (aG w5 w.heap.size 85 R):=by
    rw[Hid,hw5];refine aG.NB (cs:=R) ?_;exact⟨_,aG.drew (aG.Mo (aG.Mo (aG.Mo (aG.Mo (aG.Mo (aG.Mo B0.out _ _) _ _) _ _) _ _) _ _) _ _),by rw[HR2.out];rfl⟩
   have C2:Hid (aG w5 (w.heap.size+2) 85 (ae zI)):=by
    rw[Hid,hw5];refine aG.drew ?_
    repeat' refine aG.Mu ?_ (by show w.heap.size+2≠w.heap.size;omega) _
    exact B2.out
   have CE:Hid (Bl w w5):=by
    rw[Hid,hw5];refine Below.drew ?_
    repeat' refine QE ?_ (by show w.heap.size<=w.heap.size;omega) _
    exact BE.out
   have RG:Hid (w5.rangeAt w.heap.size 0 R.toList):=cC C0.out _ _ fun j v hj=>by rw[OX,<-hj,PN]
   clear hw5 a0 a1 a2 a3 a4 b0 b1 b2 b3 b4 b5 b6 B0 B1 B2 BE z0 f2 f3 f4 f5 f6 d0
   go_wp2_with (first
    | ((with_reducible show wpList _ _ _ (⟨_,.load 85 _,_,_,_,_⟩::_) _ _);refine aH rfl 85 _ rfl w.heap.size 0 rfl _ _ RG.out Ph rfl (by rw[Pk,HRK.out];kernel_rfl) ?_)
    | ((with_reducible show wpList _ _ _ (⟨_,.store 85 _ _,_,_,_,_⟩::_) _ _);refine Pr rfl 85 _ _ rfl (w.heap.size+2) R rfl rfl 85 _ C2.out (by rw[HRK.out];kernel_rfl) (by rw[HRK.out];rfl) HALL.out ?_))
   exact OO (xI rfl _ _ rfl _ R HRK.out (eS C2.out R)) rfl ⟨by rw[<-HOP.out,HAG.out],eT CE.out oM _⟩
def dq(r:iz)(k:Nat)(w:World)(e:Ending)(w':World):Prop:=
 ∃(A:Option Addr) (m c:Nat) (ys:List PI) (nf:List (cx×cx)),e=.returned (.tuple #[.slice A m c,.bool r.2])/\ys.map dg=nf.map fa/\jw r.1 nf/\m<=k/\SI w' A m c ys/\Bl w w'/\∀y∈ys,Fr w.heap.size w' y
theorem dq.up{r:iz}{k':Nat}{e:Ending}(h:dq r k w e w')(hb:Bl w0 w)(hk:k<=k'):dq r k' w0 e w':=by
 obtain⟨A,m,c,ys,nf,h1,h2,h3,h4,h5,h6,h7⟩:=h;exact⟨A,m,c,ys,nf,h1,h2,h3,OU h4 hk,h5,hb.Ml h6,fun y hy=>(h7 y hy).low hb.size⟩
theorem FZ{xs:List PV}{b:Bool}(h6:∀x∈xs,x.2.k≠6)(hb:b=true↔∀x∈xs,x.2.k≠2){arg:aC}{n:Int}:eA 8 arg (xs.map Prod.snd) n=some ((xs.map Prod.snd).map eZ,b):=by
 rw[xC (by rintro⟨v,hv,hk⟩;obtain⟨x,hx,rfl⟩:=PK.1 hv;exact h6 x hx hk)];congr 2;rw[Ob,Py,hb];constructor
 ·intro h x hx hk;exact h ⟨x.2,PD hx,hk⟩
 ·rintro h ⟨v,hv,hk⟩;obtain⟨x,hx,rfl⟩:=PK.1 hv;exact h x hx hk
theorem Fa(p:aj)(w:World)(hw:WP w p)(hT:cZ w):Calls prog 72 #[al p] w (dq (eR 8 p.arg.2 (p.args.xs.map Prod.snd) p.n) (p.args.n+1) w):=by
 have HT:=qD hT;have W:=qD hw.open;have haz:p.args.n<=1048576:=W.out.few;clear hw hT;go_enter func72,ntmps72;go_upto_region 1 with fail
 refine ml (bL p) 38 ?_;intro wa B0 BE;obtain⟨_,_,_,_,d7,_,_,_⟩:=aU B0.out;go_upto_region 3 with fail
 go_loopw [4,6,10] (fun v4 _ v10 wr=>∃(i:Nat) (b:Bool),i<=p.args.n/\v10=.int .i64 i/\v4=.bool b/\(∀x∈p.args.xs.take i,x.2.k≠6)/\(b=true↔∀x∈p.args.xs.take i,x.2.k≠2)/\aG wr w.heap.size 38 (bL p)/\Bl w wr) (fun _ _ v10 _=>p.args.n-(intOf v10).toNat)
 ·exact⟨0,true,ON _,rfl,rfl,by simp,by simp,B0.out,BE.out⟩
 case round=>
  obtain⟨i,bx,hi,rfl,rfl,h6,h2,hB0,hBE⟩:=hrel;clear B0 BE d7;have B0:=qD hB0;have BE:=qD hBE;have H6:=qD h6;have H2:=qD h2;obtain⟨_,_,_,_,d7,_,_,_⟩:=aU B0.out;clear hB0 hBE h6 h2;by_cases hlt:i<p.args.n
  ·obtain⟨b,off,x,hA,hb,hx,hm,hrg⟩:=W.out.args.sr.row hlt;have HX:=qD hx;have RG:=qD (bB hrg BE.out hb);have HM:=qD hm;have HK:Hid (x.1.k=x.2.k):=qD (W.out.args.rv x hm).open.k;have i0:(0:Int)<=(i:Int):=oM
   have i1:(i:Int)<(p.args.n:Int):=oM
   clear hrg hx hm;have q0:=RG.out 0 _ rfl;have q1:=RG.out 1 _ rfl;have q2:=RG.out 2 _ rfl;have q3:=RG.out 3 _ rfl;have q4:=RG.out 4 _ rfl;simp only[QW] at q0;have HA:=qD hA;rw[hA];clear hA d7;go_upto_region 5 with fail
   change Code.wp _ _ _ _ (wr.alloc (.cells x.1.arr 29));have JB:Hid (aG (wr.alloc (.cells x.1.arr 29)) wr.heap.size 29 x.1.arr):=aG.Mm rfl;replace B0:=qD (B0.out.alloc (.cells x.1.arr 29));replace BE:=qD (BE.out.alloc BE.out.size (Obj.cells x.1.arr 29));generalize wr.alloc (.cells x.1.arr 29)=wb at*;generalize wr.heap.size=ga at*;clear q0 q1 q2 q3 q4 RG;have q0:=JB.out.cell 0;simp at q0;obtain⟨kk,hkk⟩:∃k,k=x.1.k:=⟨_,rfl⟩;rw[<-hkk] at q0 HK;have HKK:=qD hkk;clear hkk;cases h6:(kk==6)
   ·have n6:x.2.k≠6:=by rw[<-HK.out];simpa using h6
    have N6:=qD n6;clear n6;have tk:p.args.xs.take (i+1)=p.args.xs.take i++[x]:=by rw[Pf,HX.out];rfl
    have TK:=qD tk;clear tk;cases bx
    ·go_wp2_with fail;go_roundw
     case rel=>
      refine⟨i+1,false,by omega,by go_num,rfl,fun y hy=>?_,?_,B0.out,BE.out⟩
      ·rw[TK.out] at hy;rcases OP.1 hy with hy|hy
       ·exact H6.out y hy
       ·obtain rfl:y=x:=by simpa using hy
        exact N6.out
      ·rw[TK.out];refine⟨fun h=>by simp at h,fun h=>?_⟩;exact H2.out.2 fun y hy=>h y (by simp[hy])
     case measure=>exact iO
    ·go_wp2_with fail;go_roundw
     case rel=>
      refine⟨i+1,(kk != 2),by omega,by go_num,rfl,fun y hy=>?_,?_,B0.out,BE.out⟩
      ·rw[TK.out] at hy;rcases OP.1 hy with hy|hy
       ·exact H6.out y hy
       ·obtain rfl:y=x:=by simpa using hy
        exact N6.out
      ·rw[TK.out];have e:(kk != 2)=true↔x.2.k≠2:=by rw[<-HK.out];simp
       rw[e];refine⟨fun h y hy=>?_,fun h=>h x sM⟩;rcases OP.1 hy with hy|hy
       ·exact H2.out.1 rfl y hy
       ·obtain rfl:y=x:=by simpa using hy
        exact h
     case measure=>exact iO
   ·have e6:x.2.k=6:=by rw[<-HK.out];simpa using h6
    have E6:=qD e6;clear e6;have HL:Hid (eR 8 p.arg.2 (p.args.xs.map Prod.snd) p.n=(fe,false)):=qD (dp (tg ⟨x.2,PD HM.out,E6.out⟩));go_wp2_with fail;refine(fm wb).mono ?_;rintro e w3 ⟨A3,m3,c3,ys,nf,rfl,hy,hnf,hmk,hsi,hb3,hfr⟩;have HNO:=qD (show dq (fe,false) 1 wb (.returned (.tuple #[.slice A3 m3 c3,.bool false])) w3 from⟨A3,m3,c3,ys,nf,rfl,hy,hnf,hmk,hsi,hb3,hfr⟩);clear hy hnf hmk hsi hb3 hfr;go_wp2;go_ret2;rw[HL.out];exact HNO.out.up BE.out oM
  ·obtain rfl:i=p.args.n:=oM
   have htk:p.args.xs.take p.args.n=p.args.xs:=OS (by have:=W.out.args.sr.ln;omega)
   have HL:Hid (eR 8 p.arg.2 (p.args.xs.map Prod.snd) p.n=(fun a=>ei aq a (aV (p.args.xs.map fun q=>eZ q.2)),bx)):=by
    have h6:=H6.out;have h2:=H2.out;rw[htk] at h6 h2;rw[Hid,dD (FZ h6 h2),Rc];rfl
   go_wp2_with fail;refine(ld p.args.xs _ _ _ wr (HT.out.step BE.out) (W.out.args.step BE.out) oM).mono ?_;rintro e w3 ⟨A3,m3,c3,ys,nf,rfl,hy,hnf,hmk,hsi,hb3,hfr⟩;have HNO:=qD (show dq ((fun a=>ei aq a (aV (p.args.xs.map fun q=>eZ q.2))),bx) _ wr (.returned (.tuple #[.slice A3 m3 c3,.bool bx])) w3 from⟨A3,m3,c3,ys,nf,rfl,hy,hnf,hmk,hsi,hb3,hfr⟩);clear hy hnf hmk hsi hb3 hfr htk;go_wp2;go_ret2;rw[HL.out];exact HNO.out.up BE.out oM
theorem ll{v:PI}(h:aG w g 85 (ae v)):w.rangeAt g 0 (ae v).toList:=
 cC h _ _ fun j x hj=>by rw[OX,<-hj,PN]
theorem xK{t:ByteArray}(h:gM t=some s):s.size<=t.size:=by
 have hl:=tT t t.size;unfold gM at h;cases hn:dK t t.size with
 | zero=>rw[hn] at h;simp at h
 | succ n=>
  rw[hn] at h hl;simp only[PU] at h;subst h;rw[Pn,Qp];show min n t.size-0+1<=t.size;omega
theorem Fb{x:aC}(h:gM x.t=some s)(hv:aJ (.mk 4 0 s [] [])=true):nI x=(⟨x,.mk 4 0 s [] [],true,false⟩,true):=by
 unfold nI;rw[h];simp only[hv,Rr]
theorem IK{x:aC}(h:gM x.t=some s)(hv:aJ (.mk 4 0 s [] [])=false):nI x=(⟨x,jZ 5,true,false⟩,decide (x.t=empty)):=by
 unfold nI;rw[h];simp[hv]
theorem Fc{x:aC}(h:gM x.t=none):nI x=(⟨x,jZ 5,true,false⟩,decide (x.t=empty)):=by
 unfold nI;rw[h]
theorem Fe{ops:Array Oper}{rest:List Oper}{o:Oper}{a:Act}{p:PI}{c:VC}(hgd:o.guard=none)(x y:Operand)(ho:o.op=.store 29 x y)(hx:a.eval x=.pointer (some ⟨g,0,none⟩))(hy:a.eval y=.agg c.arr)(h1:aG w g 85 (ae p))(hb:Below B W w)(hB:B<=g)(v:aC)(h:∀w6,aG w6 g 85 (ae (((c,v),p.1.2),p.2))->(∀(b:Nat) (t:TypeId) (cs:Array Value),b≠g->aG w b t cs->aG w6 b t cs)->Below B W w6->wpList prog ops Q rest (a.put o.dst undef) w6):wpList prog ops Q (o::rest) a w:=
  Sa hgd 29 x y ho g 0 c.arr hx hy (oK h1 sM) kR (by simp[Value.oneCell']) (h _ (JE h1 c v) (fun _ _ _ hne k=>kD k hne _ _) (ke hb hB _ _))
theorem Ff{ops:Array Oper}{rest:List Oper}{o:Oper}{a:Act}{p:PI}{c:VC}(hgd:o.guard=none)(x y:Operand)(ho:o.op=.store 29 x y)(hx:a.eval x=.pointer (some ⟨g,5,none⟩))(hy:a.eval y=.agg c.arr)(h1:aG w g 85 (ae p))(hb:Below B W w)(hB:B<=g)(v:aC)(h:∀w6,aG w6 g 85 (ae ((p.1.1,(c,v)),p.2))->(∀(b:Nat) (t:TypeId) (cs:Array Value),b≠g->aG w b t cs->aG w6 b t cs)->Below B W w6->wpList prog ops Q rest (a.put o.dst undef) w6):wpList prog ops Q (o::rest) a w:=
  Sa hgd 29 x y ho g 5 c.arr hx hy (oK h1 sM) kR (by simp[Value.oneCell']) (h _ (JF h1 c v) (fun _ _ _ hne k=>kD k hne _ _) (ke hb hB _ _))
theorem ul(p:aj)(w:World)(hw:WP w p)(hT:cZ w):Calls prog 73 #[al p] w (dq (eR 16 p.arg.2 (p.args.xs.map Prod.snd) p.n) 1 w):=by
 have HT:=qD hT;have W:=qD hw.open;have HKT:Hid (p.arg.1.t=p.arg.2.t):=qD hw.open.arg.open.t;have HTZ:Hid (p.arg.1.t.size<=aF):=by have:=hw.open.arg.open.tsz;exact qD (by rw[hw.open.arg.open.t];exact this)
 clear hw hT;go_enter func73,ntmps73;go_upto_region 1 with fail
 refine ml (bL p) 38 ?_;intro wa B0 BE;go_wp2_with fail;refine(ja 4 wa oM oM).mono ?_;rintro e w1 ⟨rfl,hb⟩;replace B0:=qD (B0.out.step hb);replace BE:=qD (BE.out.Ml hb);clear hb;go_upto_region 2 with fail
 change Code.wp _ _ _ _ (w1.alloc (.cells (ae (df 4)) 85));have J:Hid (aG (w1.alloc (.cells (ae (df 4)) 85)) w1.heap.size 85 (ae (df 4))):=aG.Mm rfl;have HGJ:Hid (w.heap.size<w1.heap.size):=qD B0.out.lt;replace B0:=qD (B0.out.alloc (.cells (ae (df 4)) 85));replace BE:=qD (BE.out.alloc BE.out.size (Obj.cells (ae (df 4)) 85));generalize w1.alloc (.cells (ae (df 4)) 85)=w2 at*;generalize w1.heap.size=gj at*;have RA:=qD (bZ B0.out);have gle:=HGJ.out
 go_upto_region 3 with(first
  | ((with_reducible show wpList _ _ _ (⟨_,.load 29 _,_,_,_,_⟩::_) _ _);refine aH rfl 29 _ rfl w.heap.size 2 rfl _ _ RA.out Pj rfl kR ?_)
  | ((with_reducible show wpList _ _ _ (⟨_,.store 29 _ _,_,_,_,_⟩::_) _ _);refine Fe (c:=p.arg.1) rfl _ _ rfl rfl rfl J.out BE.out oM p.arg.2 ?_;intro w6 hJ hfar hBE;have B6:=qD (hfar _ _ _ oM B0.out);clear J BE B0 RA hfar;have J:=qD hJ;have BE:=qD hBE;have B0:=qD B6.out;clear hJ hBE B6))
 obtain⟨_,_,_,d4,_,_,_,_⟩:=aU B0.out;obtain⟨tx,htx⟩:∃t,t=p.arg.1.t:=⟨_,rfl⟩;rw[<-htx] at d4 HKT HTZ;have HTX:=qD htx;clear htx;have HAR:Hid (RW w p.arg.1 p.arg.2):=W.out.arg
 have hEd:decide (p.arg.2.t=empty)=tx.toList.isEmpty:=by
  rw[<-HKT.out,Ob,Py,SZ,PO];constructor
  ·rintro rfl;rfl
  ·intro h;exact QO (QD.1 h)
 have HED:=qD hEd;clear hEd;have e0:dC.size<=aF:=by decide
 cases hA:gM tx with
 | none=>
  have hq:nI p.arg.2=(⟨p.arg.2,jZ 5,true,false⟩,decide (p.arg.2.t=empty)):=Fc (by rw[<-HKT.out];exact hA);have hE:iq tx=.returned (.tuple #[.string empty,.bool false]):=by unfold iq;rw[hA];rfl
  have hAf:=kC tx w6 HTZ.out;rw[hE] at hAf;have HAF:=qD hAf;have HPQ:=qD hq;clear hAf hE hq hA;go_wp2_with fail;refine HAF.out.mono ?_;rintro e w3 ⟨rfl,hb⟩;replace J:=qD (J.out.step hb);replace B0:=qD (B0.out.step hb);replace BE:=qD (BE.out.Ml hb);clear hb d4 HAF;go_upto_region 5 with fail
  change Code.wp _ _ _ _ (w3.alloc (.cells (bO 4 0 empty).arr 29));replace J:=qD (J.out.alloc (.cells (bO 4 0 empty).arr 29));replace B0:=qD (B0.out.alloc (.cells (bO 4 0 empty).arr 29));replace BE:=qD (BE.out.alloc BE.out.size (Obj.cells (bO 4 0 empty).arr 29));generalize w3.alloc (.cells (bO 4 0 empty).arr 29)=w4 at*;generalize w3.heap.size=gv at*;obtain⟨_,_,_,d4,_,_,_,_⟩:=aU B0.out;rw[<-HTX.out] at d4;have okQ:Hid (∀wr,Bl w wr->qd wr ((p.arg,(df 4).1.2),(df 4).2)):=qD fun wr hb=>⟨HAR.out.step hb,(qG 4 wr).2⟩;obtain⟨be,hbe⟩:∃b,b=tx.toList.isEmpty:=⟨_,rfl⟩
  have HL:Hid (eR 16 p.arg.2 (p.args.xs.map Prod.snd) p.n=((fun a=>ei aq a (aV ([((p.arg,(df 4).1.2),(df 4).2)].map dg))),be)):=by
   rw[Hid,dD mc,HPQ.out,HED.out,hbe];rfl
  replace hbe:=hbe.symm;cases be
  ·have RGJ:=qD (ll J.out);go_wp2_with ((with_reducible show wpList _ _ _ (⟨_,.load 85 _,_,_,_,_⟩::_) _ _);refine aH rfl 85 _ rfl gj 0 rfl _ _ RGJ.out Ph rfl kR ?_);refine(eB [((p.arg,(df 4).1.2),(df 4).2)] _ 1 1 _ (HT.out.step (BE.out.alloc BE.out.size _)) (lh (aG.Mm rfl) ((okQ.out _ (BE.out.alloc BE.out.size _)))) oM).mono ?_;rintro e w9 ⟨A3,m3,c3,ys,nf,rfl,hy,hnf,hmk,hsi,hb3,hfr⟩;have HNO:=qD (show dq ((fun a=>ei aq a (aV ([((p.arg,(df 4).1.2),(df 4).2)].map dg))),false) 1 _ (.returned (.tuple #[.slice A3 m3 c3,.bool (false)])) w9 from⟨A3,m3,c3,ys,nf,rfl,hy,hnf,hmk,hsi,hb3,hfr⟩);clear hy hnf hmk hsi hb3 hfr;go_wp2;go_ret2;rw[HL.out];exact HNO.out.up (BE.out.alloc BE.out.size _) oM
  ·have RGJ:=qD (ll J.out);go_wp2_with ((with_reducible show wpList _ _ _ (⟨_,.load 85 _,_,_,_,_⟩::_) _ _);refine aH rfl 85 _ rfl gj 0 rfl _ _ RGJ.out Ph rfl kR ?_);refine(eB [((p.arg,(df 4).1.2),(df 4).2)] _ 1 1 _ (HT.out.step (BE.out.alloc BE.out.size _)) (lh (aG.Mm rfl) ((okQ.out _ (BE.out.alloc BE.out.size _)))) oM).mono ?_;rintro e w9 ⟨A3,m3,c3,ys,nf,rfl,hy,hnf,hmk,hsi,hb3,hfr⟩;have HNO:=qD (show dq ((fun a=>ei aq a (aV ([((p.arg,(df 4).1.2),(df 4).2)].map dg))),true) 1 _ (.returned (.tuple #[.slice A3 m3 c3,.bool (true)])) w9 from⟨A3,m3,c3,ys,nf,rfl,hy,hnf,hmk,hsi,hb3,hfr⟩);clear hy hnf hmk hsi hb3 hfr;go_wp2;go_ret2;rw[HL.out];exact HNO.out.up (BE.out.alloc BE.out.size _) oM
 | some s=>
  have hE:iq tx=.returned (.tuple #[.string s,.bool true]):=by unfold iq;rw[hA];rfl
  have hAf:=kC tx w6 HTZ.out;rw[hE] at hAf;have HAF:=qD hAf;have HSZ:Hid (s.size<=aF):=qD (OU (xK hA) HTZ.out);have HAS:=qD hA;clear hAf hE hA;go_wp2_with fail;refine HAF.out.mono ?_;rintro e w3 ⟨rfl,hb⟩;replace J:=qD (J.out.step hb);replace B0:=qD (B0.out.step hb);replace BE:=qD (BE.out.Ml hb);have HJ3:Hid (gj<w3.heap.size):=qD J.out.lt;clear hb d4 HAF;go_upto_region 5 with fail
  change Code.wp _ _ _ _ (w3.alloc (.cells (bO 4 0 s).arr 29));have JB:Hid (aG (w3.alloc (.cells (bO 4 0 s).arr 29)) w3.heap.size 29 (bO 4 0 s).arr):=aG.Mm rfl;replace J:=qD (J.out.alloc (.cells (bO 4 0 s).arr 29));replace B0:=qD (B0.out.alloc (.cells (bO 4 0 s).arr 29));replace BE:=qD (BE.out.alloc BE.out.size (Obj.cells (bO 4 0 s).arr 29));generalize w3.alloc (.cells (bO 4 0 s).arr 29)=w4 at*;generalize w3.heap.size=gv at*;obtain⟨_,_,_,d4,_,_,_,_⟩:=aU B0.out;rw[<-HTX.out] at d4;obtain⟨q0,q1,q2,q3,q4⟩:=aO.Mp JB.out;obtain⟨vb,hvb⟩:∃b,b=aJ (.mk 4 0 s [] []):=⟨_,rfl⟩
  have HVC:Hid (∀wr,Bl w wr->Calls prog 35 #[(bO 4 0 s).val] wr (Rt wr (.bool vb))):=qD fun wr hb=>by
   rw[hvb];exact iX (.mk 4 0 s [] []) (bO 4 0 s) wr (HT.out.step hb) (qF _ _ _ HSZ.out)
  obtain⟨be,hbe⟩:∃b,b=tx.toList.isEmpty:=⟨_,rfl⟩;have HBE:=qD hbe;have HVB:=qD hvb;replace hbe:=hbe.symm;clear hvb
  go_upto_if 34 with(go_at_call 35;refine(HVC.out _ BE.out).mono ?_;rintro e w5 ⟨rfl,hb⟩;replace J:=qD (J.out.step hb);replace JB:=qD (JB.out.step hb);replace BE:=qD (BE.out.Ml hb);clear hb d4 q0 q1 q2 q3 q4 B0;obtain⟨q0,q1,q2,q3,q4⟩:=aO.Mn JB.out;simp only[OX] at q0 q1 q2 q3 q4)
  cases vb
  ·have okQ:Hid (∀wr,Bl w wr->qd wr ((p.arg,(df 4).1.2),(df 4).2)):=qD fun wr hb=>⟨HAR.out.step hb,(qG 4 wr).2⟩
   have HL:Hid (eR 16 p.arg.2 (p.args.xs.map Prod.snd) p.n=((fun a=>ei aq a (aV ([((p.arg,(df 4).1.2),(df 4).2)].map dg))),be)):=by
    rw[Hid,dD mc,IK (x:=p.arg.2) (s:=s) (by rw[<-HKT.out];exact HAS.out) HVB.out.symm,HED.out,HBE.out];rfl
   clear HBE;cases be
   ·have RGJ:=qD (ll J.out);go_wp2_with ((with_reducible show wpList _ _ _ (⟨_,.load 85 _,_,_,_,_⟩::_) _ _);refine aH rfl 85 _ rfl gj 0 rfl _ _ RGJ.out Ph rfl kR ?_);refine(eB [((p.arg,(df 4).1.2),(df 4).2)] _ 1 1 _ (HT.out.step (BE.out.alloc BE.out.size _)) (lh (aG.Mm rfl) ((okQ.out _ (BE.out.alloc BE.out.size _)))) oM).mono ?_;rintro e w9 ⟨A3,m3,c3,ys,nf,rfl,hy,hnf,hmk,hsi,hb3,hfr⟩;have HNO:=qD (show dq ((fun a=>ei aq a (aV ([((p.arg,(df 4).1.2),(df 4).2)].map dg))),false) 1 _ (.returned (.tuple #[.slice A3 m3 c3,.bool (false)])) w9 from⟨A3,m3,c3,ys,nf,rfl,hy,hnf,hmk,hsi,hb3,hfr⟩);clear hy hnf hmk hsi hb3 hfr;go_wp2;go_ret2;rw[HL.out];exact HNO.out.up (BE.out.alloc BE.out.size _) oM
   ·have RGJ:=qD (ll J.out);go_wp2_with ((with_reducible show wpList _ _ _ (⟨_,.load 85 _,_,_,_,_⟩::_) _ _);refine aH rfl 85 _ rfl gj 0 rfl _ _ RGJ.out Ph rfl kR ?_);refine(eB [((p.arg,(df 4).1.2),(df 4).2)] _ 1 1 _ (HT.out.step (BE.out.alloc BE.out.size _)) (lh (aG.Mm rfl) ((okQ.out _ (BE.out.alloc BE.out.size _)))) oM).mono ?_;rintro e w9 ⟨A3,m3,c3,ys,nf,rfl,hy,hnf,hmk,hsi,hb3,hfr⟩;have HNO:=qD (show dq ((fun a=>ei aq a (aV ([((p.arg,(df 4).1.2),(df 4).2)].map dg))),true) 1 _ (.returned (.tuple #[.slice A3 m3 c3,.bool (true)])) w9 from⟨A3,m3,c3,ys,nf,rfl,hy,hnf,hmk,hsi,hb3,hfr⟩);clear hy hnf hmk hsi hb3 hfr;go_wp2;go_ret2;rw[HL.out];exact HNO.out.up (BE.out.alloc BE.out.size _) oM
  ·have okQ:Hid (∀wr,Bl w wr->qd wr ((p.arg,(bO 4 0 s,.mk 4 0 s [] [])),(true,false))):=qD fun wr hb=>⟨HAR.out.step hb,qF _ _ _ HSZ.out⟩
   have HL:Hid (eR 16 p.arg.2 (p.args.xs.map Prod.snd) p.n=((fun a=>ei aq a (aV ([((p.arg,(bO 4 0 s,.mk 4 0 s [] [])),(true,false))].map dg))),true)):=by
    rw[Hid,dD mc,Fb (x:=p.arg.2) (s:=s) (by rw[<-HKT.out];exact HAS.out) HVB.out.symm];rfl
   go_upto_region 9 with((with_reducible show wpList _ _ _ (⟨_,.store 29 _ _,_,_,_,_⟩::_) _ _);refine Ff (c:=bO 4 0 s) rfl _ _ rfl rfl rfl J.out BE.out oM (.mk 4 0 s [] []) ?_;intro w7 hJ hfar hBE;clear J BE hfar q0 q1 q2 q3 q4 JB;have J:=qD hJ;have BE:=qD hBE;have z0:=J.out.frozen;have c11:=(J.out.cell 11).trans rfl;clear hJ hBE)
   refine Bc ?_;intro w9 hw9
   replace J:Hid (aG w9 gj 85 (ae ((p.arg,(bO 4 0 s,.mk 4 0 s [] [])),(true,false)))):=by
    rw[Hid,hw9];exact aG.NB ⟨_,J.out.Mo _ _,rfl⟩
   replace BE:Hid (Bl w w9):=by
    rw[Hid,hw9];exact QE BE.out (by show w.heap.size<=gj;omega) _
   clear hw9 z0 c11;have RGJ:=qD (ll J.out);go_wp2_with ((with_reducible show wpList _ _ _ (⟨_,.load 85 _,_,_,_,_⟩::_) _ _);refine aH rfl 85 _ rfl gj 0 rfl _ _ RGJ.out Ph rfl kR ?_);refine(eB [((p.arg,(bO 4 0 s,.mk 4 0 s [] [])),(true,false))] _ 1 1 _ (HT.out.step (BE.out.alloc BE.out.size _)) (lh (aG.Mm rfl) ((okQ.out _ (BE.out.alloc BE.out.size _)))) oM).mono ?_;rintro e w9 ⟨A3,m3,c3,ys,nf,rfl,hy,hnf,hmk,hsi,hb3,hfr⟩;have HNO:=qD (show dq ((fun a=>ei aq a (aV ([((p.arg,(bO 4 0 s,.mk 4 0 s [] [])),(true,false))].map dg))),true) 1 _ (.returned (.tuple #[.slice A3 m3 c3,.bool (true)])) w9 from⟨A3,m3,c3,ys,nf,rfl,hy,hnf,hmk,hsi,hb3,hfr⟩);clear hy hnf hmk hsi hb3 hfr;go_wp2;go_ret2;rw[HL.out];exact HNO.out.up (BE.out.alloc BE.out.size _) oM
def ze(k:aj):Prop:=∀(A:Option Addr) (n c:Nat) (l:List ByteArray) (w:World),WP w k->oZ k->cZ w->ST w A n c l->k.sz<=300000000->
 Calls prog 22 #[al k,.slice A n c] w (dq (gN l k) k.sz w)
theorem xL(r:iz)(rs:List iz):fO (r::rs)=if fk r.1 then fO rs else(r.1,false):=rfl
theorem DQ{rs:List iz}(h:rs.length≠1):rB rs=fO rs:=by
 unfold rB;split
 ·simp at h
 ·rfl
theorem ti(p:aj):(bL p).all (·.oneCell')=true:=by simp[Value.oneCell']
theorem DR(p:aj)(ih:∀k∈p.kids,ze k)(A:Option Addr)(n c:Nat)(l:List ByteArray)(w:World)(hw:WP w p)(hk:∀k∈p.kids,oZ k)(hT:cZ w)(hl:ST w A n c l)(hz:p.sz<=300000000):
 Calls prog 64 #[al p,.slice A n c] w (dq (rB (p.kids.map (gN l))) p.sz w):=by
 have HT:=qD hT;have W:=qD hw.open;have HL:=qD hl
 have IH:Hid (∀k∈p.kids,∀wr,Bl w wr->Calls prog 22 #[al k,.slice A n c] wr (dq (gN l k) p.sz wr)):=qD fun k hkm wr hb=>by
  have hs:k.sz<=p.sz:=by rw[p.Mx];have:=FC hkm;omega
  exact(ih k hkm A n c l wr ((W.out.kids k hkm).step hb) (hk k hkm) (HT.out.step hb) (HL.out.step hb) oM).mono fun e w' h=>h.up (OG _ _) hs
 have hkz:p.kn<=140737488355328:=by have:=W.out.ksz;unfold aF at this;omega
 have HKN:=qD W.out.sr.ln;have HSZ:Hid (1<=p.sz):=by rw[Hid,p.Mx];omega
 clear hw hk hT hl hz ih;go_enter func64,ntmps64;go_upto_region 1 with fail
 refine ml (bL p) 38 ?_;intro wa B0 BE;obtain⟨_,_,_,_,_,_,_,d24⟩:=aU B0.out;by_cases h1:p.kn=1
 ·obtain⟨b,off,k,hA,hb,hx,hm,hrg⟩:=W.out.sr.row (i:=0) oM;have RG:=qD (bB hrg BE.out hb);have HM:=qD hm
  have HAND:Hid (rB (p.kids.map (gN l))=gN l k):=by
   obtain⟨y,hy⟩:=QY.1 (show p.kids.length=1 by have:=HKN.out;omega);rw[hy] at hx ⊢;obtain rfl:y=k:=by simpa using hx
   rfl
  rw[Rp,QW] at RG;rw[hA,h1] at d24;clear hrg hx hm hA
  go_wp2_with (first
   | ((with_reducible show wpList _ _ _ (⟨_,.load 38 _,_,_,_,_⟩::_) _ _);refine aH rfl 38 _ rfl b off rfl _ _ RG.out Oq rfl kR ?_)
   | (go_at_call 22;refine(IH.out k HM.out _ BE.out).mono ?_;rintro e w1 ⟨A3,m3,c3,ys,nf,rfl,hy,hnf,hmk,hsi,hb3,hfr⟩;have HNO:=qD (show dq (gN l k) p.sz _ (.returned (.tuple #[.slice A3 m3 c3,.bool (gN l k).2])) w1 from⟨A3,m3,c3,ys,nf,rfl,hy,hnf,hmk,hsi,hb3,hfr⟩);clear hy hnf hmk hsi hb3 hfr))
  go_ret2;rw[HAND.out];exact HNO.out.up BE.out (qL)
 ·have HAND:Hid (rB (p.kids.map (gN l))=fO (p.kids.map (gN l))):=qD (DQ (by rw[Oe];have:=HKN.out;omega));have h1b:((p.kn:Int)==1)=false:=by simp;omega
  clear h1;go_upto_region 4 with fail
  go_loopw [7,8,9,25] (fun _ _ _ v wr=>∃i:Nat,i<=p.kn/\v=.int .i64 i/\fO (p.kids.map (gN l))=fO ((p.kids.drop i).map (gN l))/\Bl w wr) (fun _ _ _ v _=>p.kn-(intOf v).toNat)
  ·exact⟨0,ON _,rfl,rfl,BE.out⟩
  case round=>
   obtain⟨i,hi,rfl,hf,hBE⟩:=hrel;clear B0 BE d24;have BE:=qD hBE;have HF:=qD hf;clear hf hBE;by_cases hlt:i<p.kn
   ·obtain⟨b,off,k,hA,hb,hx,hm,hrg⟩:=W.out.sr.row hlt;have RG:=qD (bB hrg BE.out hb);have HX:=qD (cU hx);have HM:=qD hm;have i0:(0:Int)<=(i:Int):=oM
    have i1:(i:Int)<(p.kn:Int):=oM
    rw[hA];clear hrg hx hm hA
    go_upto_region 6 with(first
     | ((with_reducible show wpList _ _ _ (⟨_,.load 38 _,_,_,_,_⟩::_) _ _);refine aH rfl 38 _ rfl b (off+i*25) rfl _ _ RG.out Oq rfl kR ?_)
     | ((with_reducible show wpList _ _ _ (⟨_,.store 38 _ _,_,_,_,_⟩::_) _ _);refine Pr rfl 38 _ _ rfl wr.heap.size (bL k) rfl rfl 38 _ (aG.Mm rfl) kR rfl (ti k) ?_;refine eK ?_;intro w4 hw4;have JB:Hid (aG w4 wr.heap.size 38 (bL k)):=(by rw[Hid,hw4];exact eS (aG.Mm rfl) _);have BE4:Hid (Bl w w4):=(by rw[Hid,hw4];exact eT (BE.out.alloc BE.out.size _) BE.out.size _);clear hw4 BE RG))
    generalize wr.heap.size=gk at*;have RJ:=qD (cg JB.out);clear JB
    go_upto_region 7 with(first
     | ((with_reducible show wpList _ _ _ (⟨_,.load 38 _,_,_,_,_⟩::_) _ _);refine aH rfl 38 _ rfl gk 0 rfl _ _ RJ.out Oq rfl kR ?_)
     | (go_at_call 22;refine(IH.out k HM.out _ BE4.out).mono ?_;rintro e w5 ⟨A3,m3,c3,ys,nf,rfl,hy,hnf,hmk,hsi,hb3,hfr⟩;have HY:=qD hy;have HNF:=qD hnf;have HMK:=qD hmk;have HSI:=qD hsi;have BE5:=qD (BE4.out.Ml hb3);have HFR:=qD (fun y hy=>(hfr y hy).low BE4.out.size);clear hy hnf hmk hsi hb3 hfr RJ BE4))
    obtain⟨ab,hab⟩:∃b,b=fk (gN l k).1:=⟨_,rfl⟩;have HIA:=qD (th ys A3 m3 c3 w5 HSI.out HY.out HNF.out);rw[<-hab] at HIA;have HAB:=qD hab;clear hab;go_wp2_with fail;refine HIA.out.mono ?_;rintro e w6 ⟨rfl,hb⟩;have BE6:=qD (BE5.out.Ml hb);have HSI6:=qD (HSI.out.step hb);have HFR6:=qD (fun y hy=>(HFR.out y hy).step hb);clear hb HIA
    have HFC:Hid (fO (p.kids.map (gN l))=if ab then fO ((p.kids.drop (i+1)).map (gN l)) else((gN l k).1,false)):=by
     rw[Hid,HF.out,HX.out,Pp,xL,HAB.out]
    cases ab
    ·go_wp2;go_ret2;rw[HAND.out,HFC.out];exact⟨A3,m3,c3,ys,nf,rfl,HY.out,HNF.out,HMK.out,HSI6.out,BE6.out,HFR6.out⟩
    ·go_wp2_with fail;go_roundw
     ·exact⟨i+1,by omega,by go_num,(by simpa using HFC.out),BE6.out⟩
     ·exact iO
   ·obtain rfl:i=p.kn:=oM
    have HE:Hid (fO (p.kids.map (gN l))=(fe,false)):=by
     rw[Hid,HF.out,Og (by have:=HKN.out;omega)];rfl
    go_wp2_with fail;refine(fm wr).mono ?_;rintro e w3 ⟨A3,m3,c3,ys,nf,rfl,hy,hnf,hmk,hsi,hb3,hfr⟩;have HNO:=qD (show dq (fe,false) 1 wr (.returned (.tuple #[.slice A3 m3 c3,.bool false])) w3 from⟨A3,m3,c3,ys,nf,rfl,hy,hnf,hmk,hsi,hb3,hfr⟩);clear hy hnf hmk hsi hb3 hfr;go_wp2;go_ret2;rw[HAND.out,HE.out];exact HNO.out.up BE.out HSZ.out
theorem SI.reads{xs:List PI}(h:SI w A n c xs):dz w w.heap.size 12 A n (aN jm xs):=by
 refine⟨by rw[bv jD,h.sr.ln],fun hp=>?_⟩;obtain⟨b,off,e,hb,hel⟩:=h.sr.el hp;cases e;refine⟨_,rfl,hb,fun j u hu=>?_⟩;have hj:=(OI.1 hu).1;rw[bv jD] at hj;obtain⟨a,v,g1,g2,g3⟩:=flat_at' jD oM xs j hj;have:=hel (j/12) a g1 (j%12) v g2;rw[cW];rw[g3] at hu;cases hu;rw[show off+j=off+j/12*12+j%12 by omega];exact this
end
structure Jp(l:List ByteArray)(p:aj)(w:World)(i m:Nat)(v:Value)(b:Bool)(xs:List PI)(wr:World):Prop where
 own:wr.ownsRow w.heap.size 85 12 v m (aN jm xs)
 ln:xs.length=m
 le:m<=aj.sz.szL (p.kids.take i)
 fr:∀x∈xs,RV (fun b=>w.heap.size<=b/\v.ownBlock≠some b) wr x.1.1.1 x.1.1.2/\RV (fun b=>w.heap.size<=b/\v.ownBlock≠some b) wr x.1.2.1 x.1.2.2
 set:∀a,ei aq a (aV (xs.map dg))↔∃r∈(p.kids.take i).map (gN l),r.1 a
 no:∀r∈(p.kids.take i).map (gN l),fk r.1=false
 ex:b=((p.kids.take i).map (gN l)).all fun r=>r.2
 bel:Bl w wr
section
variable {k b n m i lo b' c size S:Nat} {w w' wr w3 w4:World} {a op x y:Int} {l r ys:List ByteArray} {v v':Value} {A:Option Addr} {ha:Bool} {xs:List Value}
theorem Jp.step{p:aj}{b:Bool}{xs:List PI}(h:Jp l p w i m v b xs wr)(hb:Bl wr w'):Jp l p w i m v b xs w':=
 ⟨af h.own hb,h.ln,h.le,fun x hx=>⟨(h.fr x hx).1.step hb,(h.fr x hx).2.step hb⟩,h.set,h.no,h.ex,h.bel.Ml hb⟩
theorem Fg{S:cx->Prop}{ys:List PI}{nf:List (cx×cx)}(hy:ys.map dg=nf.map fa)(hn:jw S nf)(a:cx):ei aq a (aV (ys.map dg))↔S a:=by
 rw[hy,Ct fun s hs=>hn.1.ne s hs,hn.2 a]
theorem tj{c:VC}{x:aC}(hr:RV (fun b=>lo<=b/\v.ownBlock≠some b) w3 c x)(hg:w3.grownBy w4 v.ownBlock)(hat:v'.ownBlock=v.ownBlock\/v'.ownBlock=some w3.heap.size):
 RV (fun b=>lo<=b/\v'.ownBlock≠some b) w4 c x:=hr.Mr fun b hb hl=>by
 refine⟨⟨hb.1,fun e=>?_⟩,hg.block b hl (fun e=>hb.2 e.symm)⟩;rcases hat with h|h
 ·rw[h] at e;exact hb.2 e
 ·rw[h] at e;injection e with e;omega
theorem Jp.next{p k:aj}{m3:Nat}{b b':Bool}{xs ys:List PI}{nf:List (cx×cx)}{w5 w6:World}(h:Jp l p w i m v b xs w5)(hk:p.kids[i]?=some k)(hy:ys.map dg=nf.map fa)(hn:jw (gN l k).1 nf)(h3:ys.length=m3)(hm:m3<=k.sz)(hfr:∀y∈ys,RV (fun b=>w.heap.size<=b/\v.ownBlock≠some b) w5 y.1.1.1 y.1.1.2/\RV (fun b=>w.heap.size<=b/\v.ownBlock≠some b) w5 y.1.2.1 y.1.2.2)(hall:fk (gN l k).1=false)(hb':b'=(b&&(gN l k).2))(ho:w6.ownsRow w.heap.size 85 12 v' (m+m3) (aN jm xs++aN jm ys))(hg:w5.grownBy w6 v.ownBlock)(hat:v'.ownBlock=v.ownBlock\/v'.ownBlock=some w5.heap.size):Jp l p w (i+1) (m+m3) v' b' (xs++ys) w6:=by
  have tk:p.kids.take (i+1)=p.kids.take i++[k]:=by rw[Pf,hk];rfl
  refine⟨by rw[dT];exact ho,by rw[OK,h.ln,h3],by rw[wS _ _ hk];have:=h.le;omega,fun x hx=>?_,fun a=>?_,fun r hr=>?_,?_,h.bel.grown hg h.bel.size (ak h.own)⟩
  ·have hx':RV (fun b=>w.heap.size<=b/\v.ownBlock≠some b) w5 x.1.1.1 x.1.1.2/\RV (fun b=>w.heap.size<=b/\v.ownBlock≠some b) w5 x.1.2.1 x.1.2.2:=by
    rcases OP.1 hx with hx|hx
    ·exact h.fr x hx
    ·exact hfr x hx
   exact⟨tj hx'.1 hg hat,tj hx'.2 hg hat⟩
  ·rw[Oo,qx,iN,h.set a,Fg hy hn a,tk,Oo];constructor
   ·rintro(⟨r,hr,ha⟩|ha)
    ·exact⟨r,Sf _ hr,ha⟩
    ·exact⟨gN l k,by simp,ha⟩
   ·rintro⟨r,hr,ha⟩;rcases OP.1 hr with hr|hr
    ·exact .inl ⟨r,hr,ha⟩
    ·obtain rfl:r=gN l k:=by simpa using hr
     exact .inr ha
  ·rw[tk,Oo] at hr;rcases OP.1 hr with hr|hr
   ·exact h.no r hr
   ·obtain rfl:r=gN l k:=by simpa using hr
    exact hall
  ·rw[hb',h.ex,tk,Oo,Rz];simp
theorem zg(xs:List PI):∀u∈aN jm xs,u.oneCell'=true:=by
 intro u hu;obtain⟨p,_,h⟩:=SX.1 hu;exact vp p u h
theorem IL{rs:List iz}{r:iz}(h:r∈rs)(ha:fk r.1=true):Cu rs=(fe,false):=by
 unfold Cu;rw[OW (RX.2 ⟨r,h,ha⟩)]
theorem Fh{rs:List iz}(h:∀r∈rs,fk r.1=false):Cu rs=(fun a=>∃r∈rs,r.1 a,rs.all fun r=>r.2):=by
 unfold Cu;rw[OQ];intro k;obtain⟨r,hr,ha⟩:=RX.1 k;rw[h r hr] at ha;exact absurd ha dE
theorem Fi(p:aj)(ih:∀k∈p.kids,ze k)(A:Option Addr)(n c:Nat)(l:List ByteArray)(w:World)(hw:WP w p)(hk:∀k∈p.kids,oZ k)(hT:cZ w)(hl:ST w A n c l)(hz:p.sz<=300000000)(hne:p.kids≠[]):
 Calls prog 65 #[al p,.slice A n c] w (dq (Cu (p.kids.map (gN l))) p.sz w):=by
 obtain⟨j0,hj0,hy0,hy1,hy2⟩:=Pb mn;have HT:=qD hT;have W:=qD hw.open;have HL:=qD hl
 have IH:Hid (∀k∈p.kids,∀wr,Bl w wr->Calls prog 22 #[al k,.slice A n c] wr (dq (gN l k) k.sz wr)):=qD fun k hkm wr hb=>by
  have hs:k.sz<=p.sz:=by rw[p.Mx];have:=FC hkm;omega
  exact ih k hkm A n c l wr ((W.out.kids k hkm).step hb) (hk k hkm) (HT.out.step hb) (HL.out.step hb) oM
 have hkz:p.kn<=140737488355328:=by have:=W.out.ksz;unfold aF at this;omega
 have HKN:=qD W.out.sr.ln;have HSZ:Hid (aj.sz.szL p.kids+1<=p.sz):=by rw[Hid,p.Mx];omega
 have HZ:=qD hz
 have hk0:0<p.kn:=by
  have:=W.out.sr.ln;have h0:0<p.kids.length:=List.length_pos_iff.2 hne;omega
 clear hw hk hT hl hz ih hne;go_enter func65,ntmps65;go_upto_region 1 with fail
 refine ml (bL p) 38 ?_;intro wa B0 BE;obtain⟨_,_,_,_,_,_,_,d24⟩:=aU B0.out;have h1b:((p.kn:Int)==0)=false:=by simp;omega
 clear hk0;go_upto_region 6 with fail
 go_loopw [6,7,9,10,11,20] (fun v6 v7 _ _ _ v wr=>∃(i m:Nat) (b:Bool) (xs:List PI),i<=p.kn/\v=.int .i64 i/\v7=.bool b/\Jp l p w i m v6 b xs wr) (fun _ _ _ _ _ v _=>p.kn-(intOf v).toNat)
 case atStart=>
  refine⟨0,0,true,[],ON _,rfl,rfl,bP _ _ _ _,rfl,ON _,by simp,fun a=>?_,by simp,rfl,BE.out⟩;constructor
  ·rintro⟨s,hs,_⟩;simp[aV] at hs
  ·rintro⟨r,hr,_⟩;simp at hr
 case round=>
  obtain⟨i,m,bx,xs,hi,rfl,rfl,hI⟩:=hrel;clear B0 BE d24;have HI:=qD hI;obtain⟨A6,c6,rfl,hmc⟩:=aY hI.own
  have HM:Hid (m+1<=p.sz):=by
   have h1:=hI.le;have h2:=pQ p.kids i;have h3:=HSZ.out;exact qD oM
  clear hI;by_cases hlt:i<p.kn
  ·obtain⟨b,off,k,hA,hb,hx,hm,hrg⟩:=W.out.sr.row hlt;have RG:=qD (bB hrg HI.out.bel hb);have HX:=qD hx;have HMK:=qD hm
   have HMZ:Hid (m+k.sz<=300000000):=by
    have h1:=HI.out.le;have h2:=pQ p.kids (i+1);rw[wS _ _ hx] at h2;have h3:=HSZ.out;have h4:=HZ.out;exact qD oM
   have i0:(0:Int)<=(i:Int):=oM
   have i1:(i:Int)<(p.kn:Int):=oM
   rw[hA];clear hrg hx hm hA
   go_upto_region 8 with(first
    | ((with_reducible show wpList _ _ _ (⟨_,.load 38 _,_,_,_,_⟩::_) _ _);refine aH rfl 38 _ rfl b (off+i*25) rfl _ _ RG.out Oq rfl kR ?_)
    | ((with_reducible show wpList _ _ _ (⟨_,.store 38 _ _,_,_,_,_⟩::_) _ _);refine Pr rfl 38 _ _ rfl wr.heap.size (bL k) rfl rfl 38 _ (aG.Mm rfl) kR rfl (ti k) ?_;refine eK ?_;intro w4 hw4;have JB:Hid (aG w4 wr.heap.size 38 (bL k)):=(by rw[Hid,hw4];exact eS (aG.Mm rfl) _);have BW4:Hid (Bl wr w4):=(by rw[Hid,hw4];exact eT ((OG _ _).alloc (qL) _) (qL) _);clear hw4 RG))
   replace HI:=qD (HI.out.step BW4.out);generalize wr.heap.size=gk at*;have RJ:=qD (cg JB.out);clear JB BW4
   go_upto_region 9 with(first
    | ((with_reducible show wpList _ _ _ (⟨_,.load 38 _,_,_,_,_⟩::_) _ _);refine aH rfl 38 _ rfl gk 0 rfl _ _ RJ.out Oq rfl kR ?_)
    | (go_at_call 22;refine(IH.out k HMK.out _ HI.out.bel).mono ?_;rintro e w5 ⟨A3,m3,c3,ys,nf,rfl,hy,hnf,hmk,hsi,hb3,hfr⟩;have HY:=qD hy;have HNF:=qD hnf;have HM3:=qD hmk;have HSI:=qD hsi;have HB5:=qD hb3;have HFR:=qD hfr;clear hy hnf hmk hsi hb3 hfr RJ))
   have HOL:Hid (∀g,(Value.slice A6 m c6).ownBlock=some g->g<w4.heap.size):=qD fun g hg=>eO HI.out.own hg;have HW4:Hid (w.heap.size<=w4.heap.size):=qD HI.out.bel.size;replace HI:=qD (HI.out.step HB5.out);obtain⟨ab,hab⟩:∃b,b=fk (gN l k).1:=⟨_,rfl⟩;have HIA:=qD (th ys A3 m3 c3 w5 HSI.out HY.out HNF.out);rw[<-hab] at HIA;have HAB:=qD hab;clear hab;go_wp2_with fail;refine HIA.out.mono ?_;rintro e w6 ⟨rfl,hb6⟩;replace HI:=qD (HI.out.step hb6);have HSI6:=qD (HSI.out.step hb6)
   have HFR6:Hid (∀y∈ys,RV (fun b=>w.heap.size<=b/\(Value.slice A6 m c6).ownBlock≠some b) w6 y.1.1.1 y.1.1.2/\RV (fun b=>w.heap.size<=b/\(Value.slice A6 m c6).ownBlock≠some b) w6 y.1.2.1 y.1.2.2):=qD fun y hy=>by
    have key:∀q,w4.heap.size<=q->w.heap.size<=q/\(Value.slice A6 m c6).ownBlock≠some q:=fun q hq=>⟨OU HW4.out hq,fun e=>by have:=HOL.out q e;omega⟩;exact⟨((HFR.out y hy).1.step hb6).mono key,((HFR.out y hy).2.step hb6).mono key⟩
   clear hb6 HIA HSI HFR HOL HW4 HB5;cases ab
   ·have hml:ys.length=m3:=HSI6.out.sr.ln.symm;have HML:=qD hml;have HRD:=qD HSI6.out.reads;have hm3:m3<=k.sz:=HM3.out;have hmz:=HMZ.out;have z1:m+m3<=maxLen:=by unfold maxLen;omega
    have z2:(m+m3)*168<=140737488355328:=oM
    clear hml;cases bx
    all_goals
     go_wp2_with (at_builtin;refine aE _ rfl _ _ 63 rfl w.heap.size 85 j0 (jY (((VC.zero,aC.zero),(VC.zero,aC.zero)),(false,false))) 12 168 underlying63 hj0 hy0 hy1 hy2 rfl dE (.slice A6 m c6) m (aN jm xs) rfl HI.out.own _ _ m3 _ (aN jm ys) rfl HRD.out ?c1 z1 z2 HI.out.bel.size ?_)
     case c1=>exact zg _
     intro v7 w7 hown hgr hat
    ·have HN:=qD (HI.out.next (b':=false) HX.out HY.out HNF.out HML.out hm3 HFR6.out HAB.out.symm (Sr _).symm hown hgr hat);clear hown hgr hat;go_wp2_with fail;go_roundw
     ·exact⟨i+1,m+m3,_,_,by omega,by go_num,rfl,HN.out⟩
     ·exact iO
    ·have HN:=qD (HI.out.next (b':=(gN l k).2) HX.out HY.out HNF.out HML.out hm3 HFR6.out HAB.out.symm (Rw _).symm hown hgr hat);clear hown hgr hat;go_wp2_with fail;go_roundw
     ·exact⟨i+1,m+m3,_,_,by omega,by go_num,rfl,HN.out⟩
     ·exact iO
   ·have HE:Hid (Cu (p.kids.map (gN l))=(fe,false)):=qD (IL (PD HMK.out) HAB.out.symm);go_wp2_with fail;refine(fm w6).mono ?_;rintro e w3 ⟨A9,m9,c9,zs,nf9,rfl,hy,hnf,hmk,hsi,hb3,hfr⟩;have HNO:=qD (show dq (fe,false) 1 w6 (.returned (.tuple #[.slice A9 m9 c9,.bool false])) w3 from⟨A9,m9,c9,zs,nf9,rfl,hy,hnf,hmk,hsi,hb3,hfr⟩);clear hy hnf hmk hsi hb3 hfr;go_wp2;go_ret2;rw[HE.out];exact HNO.out.up HI.out.bel (by have:=HSZ.out;omega)
  ·obtain rfl:i=p.kn:=oM
   have HTK:p.kids.take p.kn=p.kids:=OS (by have:=HKN.out;omega)
   have HE:Hid (Cu (p.kids.map (gN l))=(fun a=>ei aq a (aV (xs.map dg)),bx)):=by
    have h1:=HI.out.no;have h2:=HI.out.set;have h3:=HI.out.ex;rw[HTK] at h1 h2 h3;rw[Hid,Fh h1,<-h3];exact congrArg (fun s=>(s,bx)) (funext fun a=>propext (h2 a).symm)
   obtain⟨A7,c7,e7,hs7⟩:=SI.Mq HI.out.own HI.out.ln (by have h4:=HZ.out;have h5:=HM.out;unfold aF;omega) (fun x hx=>⟨(HI.out.fr x hx).1.mono fun _ _=>trivial,(HI.out.fr x hx).2.mono fun _ _=>trivial⟩);injection e7 with e7a _ e7c
   subst e7a e7c;have HSI:=qD hs7;have HMZ:Hid (m<=1000000000):=qD (by have h4:=HZ.out;have h5:=HM.out;omega);have BE:=qD HI.out.bel;clear hs7 HI HTK;go_wp2_with fail;refine(eB xs _ m _ wr (HT.out.step BE.out) HSI.out HMZ.out).mono ?_;rintro e w3 ⟨A9,m9,c9,zs,nf9,rfl,hy,hnf,hmk,hsi,hb3,hfr⟩;have HNO:=qD (show dq (fun a=>ei aq a (aV (xs.map dg)),bx) m wr (.returned (.tuple #[.slice A9 m9 c9,.bool bx])) w3 from⟨A9,m9,c9,zs,nf9,rfl,hy,hnf,hmk,hsi,hb3,hfr⟩);clear hy hnf hmk hsi hb3 hfr;go_wp2;go_ret2;rw[HE.out];exact HNO.out.up BE.out (by have:=HM.out;omega)
theorem rc(w:World):Calls prog 69 #[.int .i64 6] w (Rt w (.tuple #[jY zI,.bool false])):=by
 go_enter func69,ntmps69;go_upto_region 2 with fail
 refine yS (ae zI) 85 (ae (((bO 6 0 empty,jZ 6),(bO 6 0 empty,jZ 6)),(true,true))) 85 ?_;intro wa B0 _ BE;have hmk:=FW wa;have hcv:=FX wa;go_upto_region 3 with fail
 change Code.wp _ _ _ _ ((wa.alloc (.cells dt 5)).alloc (.cells (bO 8 0 dC).arr 29));replace B0:=qD ((B0.out.alloc (.cells dt 5)).alloc (.cells (bO 8 0 dC).arr 29));replace BE:=qD ((BE.out.alloc BE.out.size (.cells dt 5)).alloc (by have:=BE.out.size;simp;omega) (Obj.cells (bO 8 0 dC).arr 29));clear hmk hcv;generalize ((wa.alloc (.cells dt 5)).alloc (.cells (bO 8 0 dC).arr 29))=wb at*;have HALL:Hid ((ae zI).all (·.oneCell')=true):=by rw[Hid];simp[Value.oneCell']
 go_wp2_with ((with_reducible show wpList _ _ _ (⟨_,.store 85 _ _,_,_,_,_⟩::_) _ _);refine Pr rfl 85 _ _ rfl w.heap.size (ae zI) rfl rfl 85 _ B0.out kR rfl HALL.out ?_);exact OO (cu rfl _ _ rfl _ rfl _ (ae zI) rfl (eS B0.out (ae zI))) rfl ⟨rfl,eT BE.out (qL) _⟩
theorem Jq(p:aj)(ih:∀k∈p.kids,ze k)(h:p.op=20):ze p:=by
 intro A n c l w hw hv hT hl hz;rw[ui h];have HA:=qD fun(wr:World) (hb:Bl w wr)=>DR p ih A n c l wr (hw.step hb) (hv.open.kids (.inl h)) (hT.step hb) (hl.step hb) hz;clear hw hv hT hl hz ih;obtain⟨r,hr⟩:∃r,r=rB (p.kids.map (gN l)):=⟨_,rfl⟩;rw[<-hr] at HA ⊢;clear hr;go_enter RN,Qq;go_upto_region 1 with fail
 refine ml (bL p) 38 ?_;intro wa B0 BE;obtain⟨d0,d1,_,_,_,_,_,_⟩:=aU B0.out;rw[h] at d0;have RG:=qD (cg B0.out);go_wp2_with ((with_reducible show wpList _ _ _ (⟨_,.load 38 _,_,_,_,_⟩::_) _ _);refine aH rfl 38 _ rfl w.heap.size 0 rfl _ _ RG.out Oq rfl kR ?_);refine(HA.out _ BE.out).mono ?_;rintro e w1 ⟨A3,m3,c3,ys,nf,rfl,hy,hnf,hmk,hsi,hb3,hfr⟩;have HNO:=qD (show dq r p.sz wa (.returned (.tuple #[.slice A3 m3 c3,.bool r.2])) w1 from⟨A3,m3,c3,ys,nf,rfl,hy,hnf,hmk,hsi,hb3,hfr⟩);clear hy hnf hmk hsi hb3 hfr;go_wp2;go_ret2;exact HNO.out.up BE.out (qL)
theorem LM(p:aj)(ih:∀k∈p.kids,ze k)(h:p.op=21):ze p:=by
 intro A n c l w hw hv hT hl hz;rw[zP h];have HA:=qD fun(wr:World) (hb:Bl w wr)=>Fi p ih A n c l wr (hw.step hb) (hv.open.kids (.inr h)) (hT.step hb) (hl.step hb) hz (hv.open.ne (.inr h));clear hw hv hT hl hz ih;obtain⟨r,hr⟩:∃r,r=Cu (p.kids.map (gN l)):=⟨_,rfl⟩;rw[<-hr] at HA ⊢;clear hr;go_enter RN,Qq;go_upto_region 1 with fail
 refine ml (bL p) 38 ?_;intro wa B0 BE;obtain⟨d0,d1,_,_,_,_,_,_⟩:=aU B0.out;rw[h] at d0;have RG:=qD (cg B0.out);go_wp2_with ((with_reducible show wpList _ _ _ (⟨_,.load 38 _,_,_,_,_⟩::_) _ _);refine aH rfl 38 _ rfl w.heap.size 0 rfl _ _ RG.out Oq rfl kR ?_);refine(HA.out _ BE.out).mono ?_;rintro e w1 ⟨A3,m3,c3,ys,nf,rfl,hy,hnf,hmk,hsi,hb3,hfr⟩;have HNO:=qD (show dq r p.sz wa (.returned (.tuple #[.slice A3 m3 c3,.bool r.2])) w1 from⟨A3,m3,c3,ys,nf,rfl,hy,hnf,hmk,hsi,hb3,hfr⟩);clear hy hnf hmk hsi hb3 hfr;go_wp2;go_ret2;exact HNO.out.up BE.out (qL)
theorem gO{m:List ByteArray}:bK l m=true↔l=m:=by
 induction l generalizing m with
 | nil=>cases m<;>simp[bK]
 | cons x r ih=>
  cases m with
  | nil=>simp[bK]
  | cons y s=>
   rw[bK,Ov,ih,Pu,QR];constructor
   ·rintro⟨h1,h2⟩;exact⟨QO (QD.1 (by rw[PO,PO] at h1;exact h1)),h2⟩
   ·rintro⟨rfl,rfl⟩;exact⟨rfl,rfl⟩
theorem IM(p:aj)(h:p.op≠20)(h':p.op≠21)(A:Option Addr)(n c:Nat)(l:List ByteArray)(w:World)(hw:WP w p)(hl:ST w A n c l)(hp:p.path.xs≠l):
 Calls prog 22 #[al p,.slice A n c] w (dq (fe,false) p.sz w):=by
 have HE:=qD fun(wr:World) (hb:Bl w wr)=>eu p.path.xs l p.path.A A p.path.n p.path.c n c wr (hw.open.path.step hb) (hl.step hb)
 have hs:bK p.path.xs l=false:=by
  rw[<-Bool.not_eq_true,gO];exact hp
 rw[hs] at HE;have HSZ:Hid (1<=p.sz):=by rw[Hid,p.Mx];omega
 clear hw hl hs hp;go_enter RN,Qq;go_upto_region 1 with fail
 refine ml (bL p) 38 ?_;intro wa B0 BE;obtain⟨d0,d1,_,_,_,_,_,_⟩:=aU B0.out;have g20:(p.op==20)=false:=by simpa using h
 have g21:(p.op==21)=false:=by simpa using h'
 clear h h';go_wp2_with fail;refine(HE.out _ BE.out).mono ?_;rintro e w1 ⟨rfl,hb⟩;replace BE:=qD (BE.out.Ml hb);clear hb d0 d1 HE B0;go_wp2_with fail;refine(fm _).mono ?_;rintro e w2 ⟨A3,m3,c3,ys,nf,rfl,hy,hnf,hmk,hsi,hb3,hfr⟩;have HNO:=qD (show dq (fe,false) 1 w1 (.returned (.tuple #[.slice A3 m3 c3,.bool false])) w2 from⟨A3,m3,c3,ys,nf,rfl,hy,hnf,hmk,hsi,hb3,hfr⟩);clear hy hnf hmk hsi hb3 hfr;go_wp2;go_ret2;exact HNO.out.up BE.out HSZ.out
theorem LN(p:aj)(h:p.op=8)(A:Option Addr)(n c:Nat)(l:List ByteArray)(w:World)(hw:WP w p)(hl:ST w A n c l)(hp:p.path.xs=l)(r:iz)(hr:∀wr,Bl w wr->Calls prog 72 #[al p] wr (dq r p.sz wr)):
 Calls prog 22 #[al p,.slice A n c] w (dq r p.sz w):=by
 have HE:=qD fun(wr:World) (hb:Bl w wr)=>eu p.path.xs l p.path.A A p.path.n p.path.c n c wr (hw.open.path.step hb) (hl.step hb);rw[gO.2 hp] at HE;have HA:=qD hr;clear hw hl hp hr;go_enter RN,Qq;go_upto_region 1 with fail
 refine ml (bL p) 38 ?_;intro wa B0 BE;obtain⟨d0,d1,_,_,_,_,_,_⟩:=aU B0.out;rw[h] at d0;go_wp2_with fail;refine(HE.out _ BE.out).mono ?_;rintro e w1 ⟨rfl,hb⟩;replace BE:=qD (BE.out.Ml hb);replace B0:=qD (B0.out.step hb);clear hb d0 d1 HE;obtain⟨d0,_,_,_,_,_,_,_⟩:=aU B0.out;rw[h] at d0;have RG:=qD (cg B0.out);go_wp2_with ((with_reducible show wpList _ _ _ (⟨_,.load 38 _,_,_,_,_⟩::_) _ _);refine aH rfl 38 _ rfl w.heap.size 0 rfl _ _ RG.out Oq rfl kR ?_);refine(HA.out _ BE.out).mono ?_;rintro e w2 ⟨A3,m3,c3,ys,nf,rfl,hy,hnf,hmk,hsi,hb3,hfr⟩;have HNO:=qD (show dq r p.sz w1 (.returned (.tuple #[.slice A3 m3 c3,.bool r.2])) w2 from⟨A3,m3,c3,ys,nf,rfl,hy,hnf,hmk,hsi,hb3,hfr⟩);clear hy hnf hmk hsi hb3 hfr;go_wp2;go_ret2;exact HNO.out.up BE.out (qL)
theorem Jr(p:aj)(h:p.op=16)(A:Option Addr)(n c:Nat)(l:List ByteArray)(w:World)(hw:WP w p)(hl:ST w A n c l)(hp:p.path.xs=l)(r:iz)(hr:∀wr,Bl w wr->Calls prog 73 #[al p] wr (dq r p.sz wr)):
 Calls prog 22 #[al p,.slice A n c] w (dq r p.sz w):=by
 have HE:=qD fun(wr:World) (hb:Bl w wr)=>eu p.path.xs l p.path.A A p.path.n p.path.c n c wr (hw.open.path.step hb) (hl.step hb);rw[gO.2 hp] at HE;have HA:=qD hr;clear hw hl hp hr;go_enter RN,Qq;go_upto_region 1 with fail
 refine ml (bL p) 38 ?_;intro wa B0 BE;obtain⟨d0,d1,_,_,_,_,_,_⟩:=aU B0.out;rw[h] at d0;go_wp2_with fail;refine(HE.out _ BE.out).mono ?_;rintro e w1 ⟨rfl,hb⟩;replace BE:=qD (BE.out.Ml hb);replace B0:=qD (B0.out.step hb);clear hb d0 d1 HE;obtain⟨d0,_,_,_,_,_,_,_⟩:=aU B0.out;rw[h] at d0;have RG:=qD (cg B0.out);go_wp2_with ((with_reducible show wpList _ _ _ (⟨_,.load 38 _,_,_,_,_⟩::_) _ _);refine aH rfl 38 _ rfl w.heap.size 0 rfl _ _ RG.out Oq rfl kR ?_);refine(HA.out _ BE.out).mono ?_;rintro e w2 ⟨A3,m3,c3,ys,nf,rfl,hy,hnf,hmk,hsi,hb3,hfr⟩;have HNO:=qD (show dq r p.sz w1 (.returned (.tuple #[.slice A3 m3 c3,.bool r.2])) w2 from⟨A3,m3,c3,ys,nf,rfl,hy,hnf,hmk,hsi,hb3,hfr⟩);clear hy hnf hmk hsi hb3 hfr;go_wp2;go_ret2;exact HNO.out.up BE.out (qL)
theorem Fj(p:aj)(h:p.op≠20/\p.op≠21/\p.op≠2/\p.op≠4/\p.op≠5/\p.op≠6/\p.op≠7/\p.op≠8/\p.op≠16/\p.op≠11)(A:Option Addr)(n c:Nat)(l:List ByteArray)(w:World)(hw:WP w p)(hl:ST w A n c l)(hp:p.path.xs=l):
 Calls prog 22 #[al p,.slice A n c] w (dq (fe,false) p.sz w):=by
 have HE:=qD fun(wr:World) (hb:Bl w wr)=>eu p.path.xs l p.path.A A p.path.n p.path.c n c wr (hw.open.path.step hb) (hl.step hb);rw[gO.2 hp] at HE;have HSZ:Hid (1<=p.sz):=by rw[Hid,p.Mx];omega
 clear hw hl hp;go_enter RN,Qq;go_upto_region 1 with fail
 refine ml (bL p) 38 ?_;intro wa B0 BE;obtain⟨d0,d1,_,_,_,_,_,_⟩:=aU B0.out;obtain⟨h1,h2,h3,h4,h5,h6,h7,h8,h9,h10⟩:=h;have g1:(p.op==20)=false:=by simpa using h1
 have g2:(p.op==21)=false:=by simpa using h2
 have g3:(p.op==2)=false:=by simpa using h3
 have g4:(p.op==4)=false:=by simpa using h4
 have g5:(p.op==5)=false:=by simpa using h5
 have g6:(p.op==6)=false:=by simpa using h6
 have g7:(p.op==7)=false:=by simpa using h7
 have g8:(p.op==8)=false:=by simpa using h8
 have g9:(p.op==16)=false:=by simpa using h9
 have g10:(p.op==11)=false:=by simpa using h10
 clear h1 h2 h3 h4 h5 h6 h7 h8 h9 h10;go_wp2_with fail;refine(HE.out _ BE.out).mono ?_;rintro e w1 ⟨rfl,hb⟩;replace BE:=qD (BE.out.Ml hb);replace B0:=qD (B0.out.step hb);clear hb d0 d1 HE;obtain⟨d0,_,_,_,_,_,_,_⟩:=aU B0.out;go_wp2_with fail;refine(fm _).mono ?_;rintro e w2 ⟨A3,m3,c3,ys,nf,rfl,hy,hnf,hmk,hsi,hb3,hfr⟩;have HNO:=qD (show dq (fe,false) 1 w1 (.returned (.tuple #[.slice A3 m3 c3,.bool false])) w2 from⟨A3,m3,c3,ys,nf,rfl,hy,hnf,hmk,hsi,hb3,hfr⟩);clear hy hnf hmk hsi hb3 hfr;go_wp2;go_ret2;exact HNO.out.up BE.out HSZ.out
theorem Js(p:aj)(h:p.op=2)(A:Option Addr)(n c:Nat)(l:List ByteArray)(w:World)(hw:WP w p)(hT:cZ w)(hl:ST w A n c l)(hp:p.path.xs=l):
 Calls prog 22 #[al p,.slice A n c] w (dq (eR 2 p.arg.2 (p.args.xs.map Prod.snd) p.n) p.sz w):=by
 have HE:=qD fun(wr:World) (hb:Bl w wr)=>eu p.path.xs l p.path.A A p.path.n p.path.c n c wr (hw.open.path.step hb) (hl.step hb);rw[gO.2 hp] at HE;have HT:=qD hT;have HSZ:Hid (1<=p.sz):=by rw[Hid,p.Mx];omega
 have HX:=qD hw.open.arg;have HK:Hid (p.arg.1.k=p.arg.2.k):=qD hw.open.arg.open.k;clear hw hT hl hp;go_enter RN,Qq;go_upto_region 1 with fail
 refine ml (bL p) 38 ?_;intro wa B0 BE;obtain⟨d0,d1,_,_,_,_,_,_⟩:=aU B0.out;rw[h] at d0;go_wp2_with fail;refine(HE.out _ BE.out).mono ?_;rintro e w1 ⟨rfl,hb⟩;replace BE:=qD (BE.out.Ml hb);replace B0:=qD (B0.out.step hb);clear hb d0 d1 HE;obtain⟨d0,_,_,_,_,_,_,_⟩:=aU B0.out;rw[h] at d0;clear h;have f2:=(bZ B0.out) 0 _ rfl;have f3:=(bZ B0.out) 1 _ rfl;have f4:=(bZ B0.out) 2 _ rfl;have f5:=(bZ B0.out) 3 _ rfl;have f6:=(bZ B0.out) 4 _ rfl;simp only[Nat.reduceAdd] at f2 f3 f4 f5 f6;by_cases h6:p.arg.1.k=6
 ·have HL:Hid (eR 2 p.arg.2 (p.args.xs.map Prod.snd) p.n=(fe,false)):=qD (dp (te (by rw[<-HK.out];exact h6)));have k6:(p.arg.1.k != 6)=false:=by simpa using h6
  clear h6;go_wp2_with fail;refine(fm _).mono ?_;rintro e w2 ⟨A3,m3,c3,ys,nf,rfl,hy,hnf,hmk,hsi,hb3,hfr⟩;have HNO:=qD (show dq (fe,false) 1 w1 (.returned (.tuple #[.slice A3 m3 c3,.bool false])) w2 from⟨A3,m3,c3,ys,nf,rfl,hy,hnf,hmk,hsi,hb3,hfr⟩);clear hy hnf hmk hsi hb3 hfr;go_wp2;go_ret2;rw[HL.out];exact HNO.out.up BE.out HSZ.out
 ·have HL:Hid (eR 2 p.arg.2 (p.args.xs.map Prod.snd) p.n=((fun a=>ei aq a (aV ([p.arg].map fun q=>eZ q.2))),decide (p.arg.2.k≠2))):=by
   rw[Hid,dD (xB (by rw[<-HK.out];exact h6))];rfl
  have k6:(p.arg.1.k != 6)=true:=by simpa using h6
  clear h6;obtain⟨b2,hb2⟩:∃b,b=decide (p.arg.2.k≠2):=⟨_,rfl⟩;rw[<-hb2] at HL;have k2:(p.arg.1.k != 2)=b2:=by rw[hb2,HK.out,Ob];simp
  clear hb2;go_upto_region 11 with fail
  have B:=qD ((OG w1.heap.size w1).drewN 1);have KS:Hid (∀w',Bl w1 w'->w'.cell? ⟨w.heap.size,2,none⟩=some (.int .i64 p.arg.1.k)/\w'.cell? ⟨w.heap.size,3,none⟩=some (.int .i64 p.arg.1.n)/\w'.cell? ⟨w.heap.size,4,none⟩=some (.string p.arg.1.t)/\w'.cell? ⟨w.heap.size,5,none⟩=some (.slice p.arg.1.LA p.arg.1.ln p.arg.1.lc)/\w'.cell? ⟨w.heap.size,6,none⟩=some (.slice p.arg.1.DA p.arg.1.dn p.arg.1.dc)):=qD fun w' hb=>⟨(hb.cell (p:=⟨w.heap.size,2,none⟩) B0.out.lt).trans f2,(hb.cell (p:=⟨w.heap.size,3,none⟩) B0.out.lt).trans f3,(hb.cell (p:=⟨w.heap.size,4,none⟩) B0.out.lt).trans f4,(hb.cell (p:=⟨w.heap.size,5,none⟩) B0.out.lt).trans f5,(hb.cell (p:=⟨w.heap.size,6,none⟩) B0.out.lt).trans f6⟩;clear f2 f3 f4 f5 f6 d0
  go_region_held3 (fun w'=>w'.cell? ⟨w.heap.size,2,none⟩=some (.int .i64 p.arg.1.k)/\w'.cell? ⟨w.heap.size,3,none⟩=some (.int .i64 p.arg.1.n)/\w'.cell? ⟨w.heap.size,4,none⟩=some (.string p.arg.1.t)/\w'.cell? ⟨w.heap.size,5,none⟩=some (.slice p.arg.1.LA p.arg.1.ln p.arg.1.lc)/\w'.cell? ⟨w.heap.size,6,none⟩=some (.slice p.arg.1.DA p.arg.1.dn p.arg.1.dc))
   (first|exact KS.out _ B.out|exact KS.out _ (B.out.alloc B.out.size _)|((try dsimp only);assumption)|go_keep)
   ((go_at_call 68;refine(ld [p.arg] _ 1 1 _ (HT.out.step (BE.out.Ml (B.out.alloc B.out.size _))) (yp (aG.Mm rfl) (HX.out.step (BE.out.Ml (B.out.alloc B.out.size _)))) oM).mono ?_;rintro e3 w3 ⟨A3,m3,c3,ys,nf,rfl,hy,hnf,hmk,hsi,hb3,hfr⟩;have HNO:=qD (show dq ((fun a=>ei aq a (aV ([p.arg].map fun q=>eZ q.2))),b2) 1 _ (.returned (.tuple #[.slice A3 m3 c3,.bool b2])) w3 from⟨A3,m3,c3,ys,nf,rfl,hy,hnf,hmk,hsi,hb3,hfr⟩);replace HNO:=qD (HNO.out.up (B.out.alloc B.out.size _) (qL));replace B:=qD ((B.out.alloc B.out.size _).Ml hb3);clear hy hnf hmk hsi hb3 hfr))
  all_goals
   go_wp2;go_ret2;rw[HL.out];exact HNO.out.up BE.out HSZ.out
theorem IN(p:aj)(h:p.op=11)(hn:1<=p.n/\p.n<=11)(A:Option Addr)(n c:Nat)(l:List ByteArray)(w:World)(hw:WP w p)(hT:cZ w)(hl:ST w A n c l)(hp:p.path.xs=l):
 Calls prog 22 #[al p,.slice A n c] w (dq (eR 11 p.arg.2 (p.args.xs.map Prod.snd) p.n) p.sz w):=by
 have HE:=qD fun(wr:World) (hb:Bl w wr)=>eu p.path.xs l p.path.A A p.path.n p.path.c n c wr (hw.open.path.step hb) (hl.step hb);rw[gO.2 hp] at HE;have HT:=qD hT;have HSZ:Hid (1<=p.sz):=by rw[Hid,p.Mx];omega
 have HN:=qD hn;clear hw hT hl hp hn;go_enter RN,Qq;go_upto_region 1 with fail
 refine ml (bL p) 38 ?_;intro wa B0 BE;obtain⟨d0,d1,_,_,_,_,_,_⟩:=aU B0.out;rw[h] at d0;go_wp2_with fail;refine(HE.out _ BE.out).mono ?_;rintro e w1 ⟨rfl,hb⟩;replace BE:=qD (BE.out.Ml hb);replace B0:=qD (B0.out.step hb);clear hb d0 d1 HE;obtain⟨d0,_,_,_,_,d8,_,_⟩:=aU B0.out;rw[h] at d0;clear h;by_cases h6:p.n=6
 ·have HL:Hid (eR 11 p.arg.2 (p.args.xs.map Prod.snd) p.n=(fe,false)):=qD (dp (by rw[h6];exact pU));rw[h6] at d8;clear h6;go_wp2_with fail;refine(rc w1).mono ?_;rintro e w2 ⟨rfl,hb⟩;replace BE:=qD (BE.out.Ml hb);clear hb B0 d0 d8;go_upto_region 25 with fail
  change Code.wp _ _ _ _ (w2.alloc (.cells (ae zI) 85));replace BE:=qD (BE.out.alloc BE.out.size (Obj.cells (ae zI) 85));generalize w2.alloc (.cells (ae zI) 85)=w3 at*;go_wp2_with fail;refine(fm _).mono ?_;rintro e w4 ⟨A3,m3,c3,ys,nf,rfl,hy,hnf,hmk,hsi,hb3,hfr⟩;have HNO:=qD (show dq (fe,false) 1 w3 (.returned (.tuple #[.slice A3 m3 c3,.bool false])) w4 from⟨A3,m3,c3,ys,nf,rfl,hy,hnf,hmk,hsi,hb3,hfr⟩);clear hy hnf hmk hsi hb3 hfr;go_wp2;go_ret2;rw[HL.out];exact HNO.out.up BE.out HSZ.out
 ·have HL:Hid (eR 11 p.arg.2 (p.args.xs.map Prod.snd) p.n=((fun a=>ei aq a (aV ([df p.n].map dg))),decide (p.n≠2))):=by
   rw[Hid,dD (rZ h6),Pv,Bd HN.out h6]
  have KR:=qD (ja p.n w1 HN.out h6);clear h6;obtain⟨b2,hb2⟩:∃b,b=decide (p.n≠2):=⟨_,rfl⟩;rw[<-hb2] at HL;have k2:(p.n != 2)=b2:=by rw[hb2,Ob];simp
  clear hb2;have HQ:Hid (∀wq:World,qd wq (df p.n)):=qD fun wq=>qG p.n wq;go_wp2_with fail;refine KR.out.mono ?_;obtain⟨q,hq⟩:∃q,q=df p.n:=⟨_,rfl⟩;rw[<-hq] at HL HQ;rintro e w2 ⟨rfl,hb⟩;rw[<-hq];clear hq KR;replace BE:=qD (BE.out.Ml hb);replace B0:=qD (B0.out.step hb);clear hb d0 d8;go_upto_region 25 with fail
  change Code.wp _ _ _ _ (w2.alloc (.cells (ae q) 85));have J:Hid (aG (w2.alloc (.cells (ae q) 85)) w2.heap.size 85 (ae q)):=aG.Mm rfl;replace BE:=qD (BE.out.alloc BE.out.size (Obj.cells (ae q) 85));replace B0:=qD (B0.out.alloc (.cells (ae q) 85));generalize w2.alloc (.cells (ae q) 85)=w3 at*;generalize w2.heap.size=gj at*;obtain⟨_,_,_,_,_,d8,_,_⟩:=aU B0.out;go_upto_region 26 with fail
  have B:=qD ((OG w3.heap.size w3).drewN 1);obtain⟨⟨a0,a1,a2,a3,a4⟩,⟨b0,b1,b2',b3,b4⟩,b5,b6⟩:=jE.Mn J.out;simp only[OX] at a0 a1 a2 a3 a4 b0 b1 b2' b3 b4 b5 b6
  have KS:Hid (∀w',Bl w3 w'->(fun w'=>w'.cell? ⟨gj,0,none⟩=some (.int .i64 q.1.1.1.k)/\w'.cell? ⟨gj,1,none⟩=some (.int .i64 q.1.1.1.n)/\w'.cell? ⟨gj,2,none⟩=some (.string q.1.1.1.t)/\w'.cell? ⟨gj,3,none⟩=some (.slice q.1.1.1.LA q.1.1.1.ln q.1.1.1.lc)/\w'.cell? ⟨gj,4,none⟩=some (.slice q.1.1.1.DA q.1.1.1.dn q.1.1.1.dc)/\w'.cell? ⟨gj,5,none⟩=some (.int .i64 q.1.2.1.k)/\w'.cell? ⟨gj,6,none⟩=some (.int .i64 q.1.2.1.n)/\w'.cell? ⟨gj,7,none⟩=some (.string q.1.2.1.t)/\w'.cell? ⟨gj,8,none⟩=some (.slice q.1.2.1.LA q.1.2.1.ln q.1.2.1.lc)/\w'.cell? ⟨gj,9,none⟩=some (.slice q.1.2.1.DA q.1.2.1.dn q.1.2.1.dc)/\w'.cell? ⟨gj,10,none⟩=some (.bool q.2.1)/\w'.cell? ⟨gj,11,none⟩=some (.bool q.2.2)/\w'.cell? ⟨w.heap.size,8,none⟩=some (.int .i64 p.n)) w'):=qD fun w' hb=>⟨(hb.cell (p:=⟨gj,0,none⟩) J.out.lt).trans a0,(hb.cell (p:=⟨gj,1,none⟩) J.out.lt).trans a1,(hb.cell (p:=⟨gj,2,none⟩) J.out.lt).trans a2,(hb.cell (p:=⟨gj,3,none⟩) J.out.lt).trans a3,(hb.cell (p:=⟨gj,4,none⟩) J.out.lt).trans a4,(hb.cell (p:=⟨gj,5,none⟩) J.out.lt).trans b0,(hb.cell (p:=⟨gj,6,none⟩) J.out.lt).trans b1,(hb.cell (p:=⟨gj,7,none⟩) J.out.lt).trans b2',(hb.cell (p:=⟨gj,8,none⟩) J.out.lt).trans b3,(hb.cell (p:=⟨gj,9,none⟩) J.out.lt).trans b4,(hb.cell (p:=⟨gj,10,none⟩) J.out.lt).trans b5,(hb.cell (p:=⟨gj,11,none⟩) J.out.lt).trans b6,(hb.cell (p:=⟨w.heap.size,8,none⟩) B0.out.lt).trans d8⟩;clear a0 a1 a2 a3 a4 b0 b1 b2' b3 b4 b5 b6 d8
  go_region_held3 (fun w'=>w'.cell? ⟨gj,0,none⟩=some (.int .i64 q.1.1.1.k)/\w'.cell? ⟨gj,1,none⟩=some (.int .i64 q.1.1.1.n)/\w'.cell? ⟨gj,2,none⟩=some (.string q.1.1.1.t)/\w'.cell? ⟨gj,3,none⟩=some (.slice q.1.1.1.LA q.1.1.1.ln q.1.1.1.lc)/\w'.cell? ⟨gj,4,none⟩=some (.slice q.1.1.1.DA q.1.1.1.dn q.1.1.1.dc)/\w'.cell? ⟨gj,5,none⟩=some (.int .i64 q.1.2.1.k)/\w'.cell? ⟨gj,6,none⟩=some (.int .i64 q.1.2.1.n)/\w'.cell? ⟨gj,7,none⟩=some (.string q.1.2.1.t)/\w'.cell? ⟨gj,8,none⟩=some (.slice q.1.2.1.LA q.1.2.1.ln q.1.2.1.lc)/\w'.cell? ⟨gj,9,none⟩=some (.slice q.1.2.1.DA q.1.2.1.dn q.1.2.1.dc)/\w'.cell? ⟨gj,10,none⟩=some (.bool q.2.1)/\w'.cell? ⟨gj,11,none⟩=some (.bool q.2.2)/\w'.cell? ⟨w.heap.size,8,none⟩=some (.int .i64 p.n))
   (first|exact KS.out _ B.out|exact KS.out _ (B.out.alloc B.out.size _)|((try dsimp only);assumption)|go_keep)
   ((go_at_call 70;refine(eB [q] _ 1 1 _ (HT.out.step (BE.out.Ml (B.out.alloc B.out.size _))) (lh (aG.Mm rfl) (HQ.out _)) oM).mono ?_;rintro e3 w5 ⟨A3,m3,c3,ys,nf,rfl,hy,hnf,hmk,hsi,hb3,hfr⟩;have HNO:=qD (show dq ((fun a=>ei aq a (aV ([q].map dg))),b2) 1 _ (.returned (.tuple #[.slice A3 m3 c3,.bool b2])) w5 from⟨A3,m3,c3,ys,nf,rfl,hy,hnf,hmk,hsi,hb3,hfr⟩);replace HNO:=qD (HNO.out.up (B.out.alloc B.out.size _) (qL));replace B:=qD ((B.out.alloc B.out.size _).Ml hb3);clear hy hnf hmk hsi hb3 hfr))
  all_goals
   go_wp2;go_ret2;rw[HL.out];exact HNO.out.up BE.out HSZ.out
end
end Go.Proofs.YtgfoliedmhgpnaaGreatDoor
