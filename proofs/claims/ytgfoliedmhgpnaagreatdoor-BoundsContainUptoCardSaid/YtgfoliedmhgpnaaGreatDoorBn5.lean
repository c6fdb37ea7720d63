/- A part of the proof. -/
import Derived.Test.YtgfoliedmhgpnaaGreatDoorBn4
set_option maxRecDepth 100000
set_option maxHeartbeats 16000000
set_option linter.unusedSimpArgs false
open Go.Proofs.Tryz
open ByteArray (empty)
namespace Go.Proofs.YtgfoliedmhgpnaaGreatDoor
open Go.RowKit
section
variable {xs:List ByteArray} {b c k g n off B size:Nat} {op:Int} {s:ByteArray} {w w':World} {A:Option Addr} {e t:TypeId}
theorem yC{op:Int}{p:aX}(h:Lf op p)(ho:nz op)(w:World):Calls prog 316 #[aW p] w fun e w'=>e=.returned (.bool true)/\Below w.heap.size w w':=by
 have B0:Hid (aG (w.alloc (.cells (aD p) 38)) w.heap.size 38 (aD p)):=aG.Ii rfl;have BE:=qD ((Ju w.heap.size w).alloc (qL) (Obj.cells (aD p) 38));have HZ:=qD fun w=>qW h w;go_enter func316,ntmps316;go_upto_region 2 with fail
 change Code.wp _ _ _ _ (w.alloc (.cells (aD p) 38));generalize w.alloc (.cells (aD p) 38)=wa at*;obtain⟨d0,d1,_,_,d7,d8,d9,_⟩:=aR B0.out;have c10:=(B0.out.cell 10).trans (show _=some (Value.int .i64 p.sk) from rfl);have c11:=(B0.out.cell 11).trans (show _=some (Value.slice p.pts.A p.pts.n p.pts.c) from rfl);have c12:=(B0.out.cell 12).trans (show _=some (Value.int .i64 p.sr) from rfl);have RX:=qD (gp B0.out);rw[h.op_] at d0;rw[h.argn] at d7;rw[h.n0] at d8;rw[h.m0] at d9;rw[h.sk] at c10;rw[h.pn] at c11;rw[h.sr] at c12;clear h;have t2:nz 2:=.inl rfl;have t5:nz 5:=.inr rfl;have T2:=qD t2;have T5:=qD t5;clear t2 t5;rcases ho with rfl|rfl
 ·go_wp2_with (first
   | ((with_reducible show wpList _ _ _ (⟨_,.load 35 _,_,_,_,_⟩::_) _ _);refine aE rfl 35 _ rfl w.heap.size 13 rfl _ _ RX.out Kw rfl (by kernel_rfl) ?_)
   | (go_at_call 230;refine(iL T2.out _).mono ?_;rintro e w1 ⟨rfl,rfl⟩)
   | (go_at_call 313;refine(gh T2.out _).mono ?_;rintro e w1 ⟨rfl,rfl⟩)
   | (go_at_call 311;refine(eA T2.out _).mono ?_;rintro e w1 ⟨rfl,rfl⟩)
   | (go_at_call 336;refine(pV T2.out _).mono ?_;rintro e w1 ⟨rfl,rfl⟩))
  refine(HZ.out _).mono ?_;rintro e w1 ⟨rfl,hb⟩;have CE:=qD (BE.out.Ih hb);clear hb d0 d1 d7 d8 d9 c10 c11 c12;go_wp2_with fail;go_ret;exact⟨rfl,CE.out⟩
 ·go_wp2_with (first
   | ((with_reducible show wpList _ _ _ (⟨_,.load 35 _,_,_,_,_⟩::_) _ _);refine aE rfl 35 _ rfl w.heap.size 13 rfl _ _ RX.out Kw rfl (by kernel_rfl) ?_)
   | (go_at_call 230;refine(iL T5.out _).mono ?_;rintro e w1 ⟨rfl,rfl⟩)
   | (go_at_call 313;refine(gh T5.out _).mono ?_;rintro e w1 ⟨rfl,rfl⟩)
   | (go_at_call 311;refine(eA T5.out _).mono ?_;rintro e w1 ⟨rfl,rfl⟩)
   | (go_at_call 336;refine(pV T5.out _).mono ?_;rintro e w1 ⟨rfl,rfl⟩))
  refine(HZ.out _).mono ?_;rintro e w1 ⟨rfl,hb⟩;have CE:=qD (BE.out.Ih hb);clear hb d0 d1 d7 d8 d9 c10 c11 c12;go_wp2_with fail;go_ret;exact⟨rfl,CE.out⟩
theorem Aa:aL (.mk 3 1 empty [] [])=true:=by
 refine fk ?_ ?_ ?_
 ·rw[dA];unfold aC.parts;rw[KU (by show ¬(3:Int)=6;omega),KU (by show ¬(3:Int)=5;omega)];simp[bN]
 ·rw[ci];unfold aC.parts;rw[KU (by show ¬(3:Int)=6;omega),KU (by show ¬(3:Int)=5;omega)];simp[ak]
 ·exact(al _ _).2 ⟨by simp[dl,aC.k,aC.n,aC.t,aC.l,aC.d],by simp[aC.l],by simp[aC.d],by simp[aC.d,iV]⟩
abbrev pq:VC:=⟨3,1,empty,none,0,0,none,0,0⟩
theorem tO(w:World):RW w pq (.mk 3 1 empty [] []):=sK.shut ⟨rfl,rfl,rfl,by show ByteArray.empty.size<=aH;decide,rfl,qL,by show 0*80<=aH;decide,fun h=>absurd h (by show ¬0<0;omega),rfl,qL,by show 0*96<=aH;decide,fun h=>absurd h (by show ¬0<0;omega)⟩
theorem pu(w:World)(hT:cY w):Calls prog 35 #[.agg #[.int .i64 3,.int .i64 1,.string empty,.slice none 0 0,.slice none 0 0]] w fun e w'=>e=.returned (.bool true)/\Below w.heap.size w w':=by
 have:=iy (.mk 3 1 empty [] []) pq w hT (tO w);rw[Aa] at this;exact this
theorem Ab:dk [(⟨#[97]⟩:ByteArray)]=true:=by kernel_rfl
theorem Ac{op:Int}{p:aX}(h:Lf op p)(ho:nz op)(w:World)(hT:cY w)(hl:ST w p.path.A p.path.n p.path.c p.path.xs):
 Calls prog 283 #[aW p,.bool false] w fun e w'=>e=.returned (.int .i64 0)/\Below w.heap.size w w':=by
 have HT:=qD hT;have B0:Hid (aG (w.alloc (.cells (aD p) 38)) w.heap.size 38 (aD p)):=aG.Ii rfl;have BE:=qD ((Ju w.heap.size w).alloc (qL) (Obj.cells (aD p) 38));have HC:=qD fun w=>yC h ho w;have HR:=qD fun w=>tB h ho w
 have HP:Hid (∀wr,Below w.heap.size w wr->Calls prog 148 #[.slice p.path.A p.path.n p.path.c] wr fun e w'=>e=.returned (.bool true)/\w'=wr):=qD fun wr hb=>by
  have:=Bn p.path.xs _ _ _ wr (hl.step hb);rw[h.xs,Ab] at this;exact this
 clear hT hl;have t2:nz 2:=.inl rfl;have t5:nz 5:=.inr rfl;have T2:=qD t2;have T5:=qD t5;clear t2 t5;go_enter func283,ntmps283;go_upto_region 1 with fail
 change Code.wp _ _ _ _ (w.alloc (.cells (aD p) 38));generalize w.alloc (.cells (aD p) 38)=wa at*;have d0:=(aR B0.out).d0;have d1:=(aR B0.out).d1;have d24:=(aR B0.out).d24;have c2:=(B0.out.cell 2).trans (show _=some (Value.int .i64 p.arg.1.k) from rfl);have c3:=(B0.out.cell 3).trans (show _=some (Value.int .i64 p.arg.1.n) from rfl);have c4:=(B0.out.cell 4).trans (show _=some (Value.string p.arg.1.t) from rfl);have c5:=(B0.out.cell 5).trans (show _=some (Value.slice p.arg.1.LA p.arg.1.ln p.arg.1.lc) from rfl);have c6:=(B0.out.cell 6).trans (show _=some (Value.slice p.arg.1.DA p.arg.1.dn p.arg.1.dc) from rfl);rw[h.op_] at d0;rw[h.kn] at d24;rw[h.arg] at c2 c3 c4 c5 c6;simp only at c2 c3 c4 c5 c6;clear h;have RF:=qD (ae B0.out);rcases ho with rfl|rfl
 ·go_upto_region 3 with(first
   | (go_at_call 310;refine(mf T2.out _).mono ?_;rintro e w1 ⟨rfl,rfl⟩))
  go_upto_region 5 with(first
   | ((with_reducible show wpList _ _ _ (⟨_,.load 38 _,_,_,_,_⟩::_) _ _);refine aE rfl 38 _ rfl w.heap.size 0 rfl _ _ RF.out KH rfl (by kernel_rfl) ?_)
   | (go_at_call 311;refine(eA T2.out _).mono ?_;rintro e w1 ⟨rfl,rfl⟩)
   | (go_at_call 312;refine(HR.out _).mono ?_;rintro e w1 ⟨rfl,hb1⟩))
  have CE:=qD (BE.out.Ih hb1);have C0:=qD (B0.out.step hb1);replace d0:=(hb1.cell (p:=⟨w.heap.size,0,none⟩) B0.out.lt).trans d0;replace d1:=(hb1.cell (p:=⟨w.heap.size,1,none⟩) B0.out.lt).trans d1;replace c2:=(hb1.cell (p:=⟨w.heap.size,2,none⟩) B0.out.lt).trans c2;replace c3:=(hb1.cell (p:=⟨w.heap.size,3,none⟩) B0.out.lt).trans c3;replace c4:=(hb1.cell (p:=⟨w.heap.size,4,none⟩) B0.out.lt).trans c4;replace c5:=(hb1.cell (p:=⟨w.heap.size,5,none⟩) B0.out.lt).trans c5;replace c6:=(hb1.cell (p:=⟨w.heap.size,6,none⟩) B0.out.lt).trans c6;clear hb1 d24 B0 BE RF HR
  go_upto_region 7 with(first
   | (go_at_call 230;refine(iL T2.out _).mono ?_;rintro e w2 ⟨rfl,rfl⟩)
   | (go_at_call 148;refine(HP.out _ CE.out).mono ?_;rintro e w2 ⟨rfl,rfl⟩))
  go_upto_region 9 with(first
   | (go_at_call 313;refine(gh T2.out _).mono ?_;rintro e w2 ⟨rfl,rfl⟩)
   | (go_at_call 314;refine(mc T2.out _).mono ?_;rintro e w2 ⟨rfl,rfl⟩)
   | (go_at_call 35;refine(pu _ (HT.out.step CE.out)).mono ?_;rintro e w2 ⟨rfl,hb2⟩;replace d0:=(hb2.cell (p:=⟨w.heap.size,0,none⟩) C0.out.lt).trans d0;have DE:=qD (CE.out.Ih hb2);have D0:=qD (C0.out.step hb2);clear hb2))
  clear CE C0 c2 c3 c4 c5 c6 d1 HP;have RF:=qD (ae D0.out)
  go_wp2_with (first
   | ((with_reducible show wpList _ _ _ (⟨_,.load 38 _,_,_,_,_⟩::_) _ _);refine aE rfl 38 _ rfl w.heap.size 0 rfl _ _ RF.out KH rfl (by kernel_rfl) ?_)
   | (go_at_call 311;refine(eA T2.out _).mono ?_;rintro e w3 ⟨rfl,rfl⟩)
   | (go_at_call 316;refine(HC.out _).mono ?_;rintro e w3 ⟨rfl,hb3⟩;replace d0:=(hb3.cell (p:=⟨w.heap.size,0,none⟩) D0.out.lt).trans d0;have EE:=qD (DE.out.Ih hb3);clear hb3))
  go_ret;exact⟨rfl,EE.out⟩
 ·go_upto_region 3 with(first
   | (go_at_call 310;refine(mf T5.out _).mono ?_;rintro e w1 ⟨rfl,rfl⟩))
  go_upto_region 5 with(first
   | ((with_reducible show wpList _ _ _ (⟨_,.load 38 _,_,_,_,_⟩::_) _ _);refine aE rfl 38 _ rfl w.heap.size 0 rfl _ _ RF.out KH rfl (by kernel_rfl) ?_)
   | (go_at_call 311;refine(eA T5.out _).mono ?_;rintro e w1 ⟨rfl,rfl⟩)
   | (go_at_call 312;refine(HR.out _).mono ?_;rintro e w1 ⟨rfl,hb1⟩))
  have CE:=qD (BE.out.Ih hb1);have C0:=qD (B0.out.step hb1);replace d0:=(hb1.cell (p:=⟨w.heap.size,0,none⟩) B0.out.lt).trans d0;replace d1:=(hb1.cell (p:=⟨w.heap.size,1,none⟩) B0.out.lt).trans d1;replace c2:=(hb1.cell (p:=⟨w.heap.size,2,none⟩) B0.out.lt).trans c2;replace c3:=(hb1.cell (p:=⟨w.heap.size,3,none⟩) B0.out.lt).trans c3;replace c4:=(hb1.cell (p:=⟨w.heap.size,4,none⟩) B0.out.lt).trans c4;replace c5:=(hb1.cell (p:=⟨w.heap.size,5,none⟩) B0.out.lt).trans c5;replace c6:=(hb1.cell (p:=⟨w.heap.size,6,none⟩) B0.out.lt).trans c6;clear hb1 d24 B0 BE RF HR
  go_upto_region 7 with(first
   | (go_at_call 230;refine(iL T5.out _).mono ?_;rintro e w2 ⟨rfl,rfl⟩)
   | (go_at_call 148;refine(HP.out _ CE.out).mono ?_;rintro e w2 ⟨rfl,rfl⟩))
  go_upto_region 9 with(first
   | (go_at_call 313;refine(gh T5.out _).mono ?_;rintro e w2 ⟨rfl,rfl⟩)
   | (go_at_call 314;refine(mc T5.out _).mono ?_;rintro e w2 ⟨rfl,rfl⟩)
   | (go_at_call 35;refine(pu _ (HT.out.step CE.out)).mono ?_;rintro e w2 ⟨rfl,hb2⟩;replace d0:=(hb2.cell (p:=⟨w.heap.size,0,none⟩) C0.out.lt).trans d0;have DE:=qD (CE.out.Ih hb2);have D0:=qD (C0.out.step hb2);clear hb2))
  clear CE C0 c2 c3 c4 c5 c6 d1 HP;have RF:=qD (ae D0.out)
  go_wp2_with (first
   | ((with_reducible show wpList _ _ _ (⟨_,.load 38 _,_,_,_,_⟩::_) _ _);refine aE rfl 38 _ rfl w.heap.size 0 rfl _ _ RF.out KH rfl (by kernel_rfl) ?_)
   | (go_at_call 311;refine(eA T5.out _).mono ?_;rintro e w3 ⟨rfl,rfl⟩)
   | (go_at_call 316;refine(HC.out _).mono ?_;rintro e w3 ⟨rfl,hb3⟩;replace d0:=(hb3.cell (p:=⟨w.heap.size,0,none⟩) D0.out.lt).trans d0;have EE:=qD (DE.out.Ih hb3);clear hb3))
  go_ret;exact⟨rfl,EE.out⟩
theorem yD{op:Int}{p:aX}(h:Lf op p)(ho:nz op)(w:World)(hT:cY w)(hl:ST w p.path.A p.path.n p.path.c p.path.xs):
 Calls prog 223 #[aW p,.bool false] w fun e w'=>e=.returned (.int .i64 0)/\Below w.heap.size w w':=by
 have B0:Hid (aG (w.alloc (.cells (aD p) 38)) w.heap.size 38 (aD p)):=aG.Ii rfl;have BE:=qD ((Ju w.heap.size w).alloc (qL) (Obj.cells (aD p) 38));have HN:=qD (Ac h ho _ (hT.step BE.out) (hl.step BE.out));have HKN:=qD h.kn;clear hT hl h ho;go_enter func223,ntmps223;go_upto_region 1 with fail
 change Code.wp _ _ _ _ (w.alloc (.cells (aD p) 38));generalize w.alloc (.cells (aD p) 38)=wa at*;have RF:=qD (ae B0.out)
 go_upto_region 4 with(first
  | ((with_reducible show wpList _ _ _ (⟨_,.load 38 _,_,_,_,_⟩::_) _ _);refine aE rfl 38 _ rfl w.heap.size 0 rfl _ _ RF.out KH rfl (by kernel_rfl) ?_)
  | (go_at_call 283;refine HN.out.mono ?_;rintro e w1 ⟨rfl,hb1⟩))
 have CE:=qD (BE.out.Ih hb1);have d24:=(hb1.cell (p:=⟨w.heap.size,24,none⟩) B0.out.lt).trans (aR B0.out).d24;rw[HKN.out] at d24;clear hb1 HN RF B0 BE;go_upto_region 5 with fail
 go_loopw [18] (fun v wr=>v=.int .i64 0/\wr=w1) (fun _ _=>0)
 ·exact⟨rfl,rfl⟩
 case round=>
  obtain⟨rfl,rfl⟩:=hrel;go_wp2_with fail;go_ret;exact⟨rfl,CE.out⟩
theorem ry{op:Int}{p:aX}(h:Lf op p)(g:Nat)(w:World)(hg:aG w g 3 #[.int .i64 0])(B:Nat)(hB:B<=g):
 Calls prog 222 #[aW p,.int .i64 1,.pointer (some ⟨g,0,none⟩)] w fun e w'=>e=.returned (.bool true)/\Below B w w':=by
 have hgl:=hg.lt;have B0:Hid (aG (w.alloc (.cells (aD p) 38)) w.heap.size 38 (aD p)):=aG.Ii rfl;have G0:=qD (hg.alloc (.cells (aD p) 38));have BE:=qD ((Ju B w).alloc (by omega) (Obj.cells (aD p) 38));have HKN:=qD h.kn;clear h hg;go_enter func222,ntmps222;go_upto_region 1 with fail
 change Code.wp _ _ _ _ (w.alloc (.cells (aD p) 38));generalize w.alloc (.cells (aD p) 38)=wa at*;have e0:=G0.out.cell 0;simp at e0;have gz:=G0.out.frozen 0;go_upto_region 4 with fail
 have d24:=(B0.out.Ip (p:=⟨g,0,none⟩) (by show w.heap.size≠g;omega) (.int .i64 1)).cell 24;have CE:Hid (Below B w (wa.setCell ⟨g,0,none⟩ (.int .i64 1))):=qD (BE.out.setCell hB _);change Code.wp _ _ _ _ (wa.setCell ⟨g,0,none⟩ (.int .i64 1));generalize wa.setCell ⟨g,0,none⟩ (.int .i64 1)=wb at*;replace d24:=d24.trans (show _=some (Value.slice p.kA p.kn p.kc) from rfl);rw[HKN.out] at d24;clear e0 gz G0 B0 BE;go_upto_region 5 with fail
 go_loopw [25] (fun v wr=>v=.int .i64 0/\wr=wb) (fun _ _=>0)
 ·exact⟨rfl,rfl⟩
 case round=>
  obtain⟨rfl,rfl⟩:=hrel;go_wp2_with fail;go_ret;exact⟨rfl,CE.out⟩
theorem yE{op:Int}{p:aX}(h:Lf op p)(ho:nz op)(w:World)(hT:cY w)(hl:ST w p.path.A p.path.n p.path.c p.path.xs):
 Calls prog 180 #[aW p] w fun e w'=>e=.returned (.int .i64 0)/\Below w.heap.size w w':=by
 have B0:Hid (aG ((w.alloc (.cells (aD p) 38)).alloc (.cells #[.int .i64 0] 3)) w.heap.size 38 (aD p)):=(aG.Ii rfl).alloc _;have G0:Hid (aG ((w.alloc (.cells (aD p) 38)).alloc (.cells #[.int .i64 0] 3)) (w.heap.size+1) 3 #[.int .i64 0]):=aG.Ii (by simp);have BE:Hid (Below w.heap.size w ((w.alloc (.cells (aD p) 38)).alloc (.cells #[.int .i64 0] 3))):=((Ju _ _).alloc (qL) _).alloc (by simp) _;have HF:=qD fun w hg=>ry h (w.heap.size+1) w hg;have HT:=qD hT;have HL:=qD hl;have H:=qD h;have HO:=qD ho;clear hT hl h ho HF;go_enter func180,ntmps180;go_upto_region 2 with fail
 change Code.wp _ _ _ _ ((w.alloc (.cells (aD p) 38)).alloc (.cells #[.int .i64 0] 3));generalize (w.alloc (.cells (aD p) 38)).alloc (.cells #[.int .i64 0] 3)=wa at*;have RF:=qD (ae B0.out)
 go_upto_region 4 with(first
  | ((with_reducible show wpList _ _ _ (⟨_,.load 38 _,_,_,_,_⟩::_) _ _);refine aE rfl 38 _ rfl w.heap.size 0 rfl _ _ RF.out KH rfl (by kernel_rfl) ?_)
  | (go_at_call 222;refine(ry H.out (w.heap.size+1) _ G0.out (w.heap.size+1) (qL)).mono ?_;rintro e w1 ⟨rfl,hb1⟩))
 have C0:=qD (B0.out.below hb1 (Km _));have CE:Hid (Below w.heap.size w w1):=qD (BE.out.trans (hb1.mono (Nu _)));clear hb1 RF B0 G0 BE;have RF:=qD (ae C0.out)
 go_wp2_with (first
  | ((with_reducible show wpList _ _ _ (⟨_,.load 38 _,_,_,_,_⟩::_) _ _);refine aE rfl 38 _ rfl w.heap.size 0 rfl _ _ RF.out KH rfl (by kernel_rfl) ?_)
  | (go_at_call 223;refine(yD H.out HO.out _ (HT.out.step CE.out) (HL.out.step CE.out)).mono ?_;rintro e w2 ⟨rfl,hb2⟩))
 have DE:=qD (CE.out.Ih hb2);clear hb2;go_wp2_with fail;go_ret;exact⟨rfl,DE.out⟩
theorem lK(A:Option Addr)(c:Nat)(w:World):Calls prog 226 #[.slice A 0 c] w fun e w'=>e=.returned (.slice none 0 0)/\w'=w:=by
 go_enter func226,ntmps226;go_upto_region 3 with fail
 go_loopw [3,8] (fun v3 v wr=>v3=.slice none 0 0/\v=.int .i64 0/\wr=w) (fun _ _ _=>0)
 ·exact⟨rfl,rfl,rfl⟩
 case round=>
  obtain⟨rfl,rfl,rfl⟩:=hrel;go_wp2_with fail;go_ret;exact⟨rfl,rfl⟩
abbrev mw(k n:Int):VC:=⟨k,n,empty,none,0,0,none,0,0⟩
theorem lz(k n:Int)(w:World):Calls prog 225 #[.agg #[.int .i64 k,.int .i64 n,.string empty,.slice none 0 0,.slice none 0 0]] w fun e w'=>e=.returned (.agg #[.int .i64 k,.int .i64 n,.string empty,.slice none 0 0,.slice none 0 0])/\Below w.heap.size w w':=by
 have B0:Hid (aG ((w.alloc (.cells (mw k n).arr 29)).alloc (.cells VC.zero.arr 29)) w.heap.size 29 (mw k n).arr):=(aG.Ii rfl).alloc _;have B1:Hid (aG ((w.alloc (.cells (mw k n).arr 29)).alloc (.cells VC.zero.arr 29)) (w.heap.size+1) 29 VC.zero.arr):=aG.Ii (by simp);have BE:Hid (Below w.heap.size w ((w.alloc (.cells (mw k n).arr 29)).alloc (.cells VC.zero.arr 29))):=((Ju _ _).alloc (qL) _).alloc (by simp) _;go_enter func225,ntmps225;go_upto_region 1 with fail
 change Code.wp _ _ _ _ ((w.alloc (.cells (mw k n).arr 29)).alloc (.cells VC.zero.arr 29));generalize (w.alloc (.cells (mw k n).arr 29)).alloc (.cells VC.zero.arr 29)=wa at*;obtain⟨a0,a1,a2,a3,a4⟩:=aS.Ig B0.out;simp only[Jw] at a0 a1 a2 a3 a4;have B:=qD ((Ju wa.heap.size wa).drewN 1);have KS:Hid (∀w',Below wa.heap.size wa w'->(fun w'=>w'.cell? ⟨w.heap.size,0,none⟩=some (.int .i64 k)/\w'.cell? ⟨w.heap.size,1,none⟩=some (.int .i64 n)/\w'.cell? ⟨w.heap.size,2,none⟩=some (.string empty)/\w'.cell? ⟨w.heap.size,3,none⟩=some (.slice none 0 0)) w'):=qD fun w' hb=>⟨(hb.cell (p:=⟨w.heap.size,0,none⟩) B0.out.lt).trans a0,(hb.cell (p:=⟨w.heap.size,1,none⟩) B0.out.lt).trans a1,(hb.cell (p:=⟨w.heap.size,2,none⟩) B0.out.lt).trans a2,(hb.cell (p:=⟨w.heap.size,3,none⟩) B0.out.lt).trans a3⟩;clear a0 a1 a2 a3 a4
 go_region_held3 (fun w'=>w'.cell? ⟨w.heap.size,0,none⟩=some (.int .i64 k)/\w'.cell? ⟨w.heap.size,1,none⟩=some (.int .i64 n)/\w'.cell? ⟨w.heap.size,2,none⟩=some (.string empty)/\w'.cell? ⟨w.heap.size,3,none⟩=some (.slice none 0 0))
  (first|exact KS.out _ B.out|exact KS.out _ (B.out.alloc B.out.size _)|((try dsimp only);assumption)|go_keep)
  (first
    | (go_at_call 226;refine(lK _ _ _).mono ?_;rintro e3 w3 ⟨rfl,rfl⟩))
 all_goals
  change Exit.then _ _ _ _ ((wa.alloc (.cells (mw k n).arr 29)).drew);have C0:Hid (aG ((wa.alloc (.cells (mw k n).arr 29)).drew) w.heap.size 29 (mw k n).arr):=(B0.out.alloc _).step ((Ju _ _).drew);have C1:Hid (aG ((wa.alloc (.cells (mw k n).arr 29)).drew) (w.heap.size+1) 29 VC.zero.arr):=(B1.out.alloc _).step ((Ju _ _).drew);have C3:Hid (aG ((wa.alloc (.cells (mw k n).arr 29)).drew) wa.heap.size 29 (mw k n).arr):=(aG.Ii rfl:aG (wa.alloc (.cells (mw k n).arr 29)) wa.heap.size 29 (mw k n).arr).step ((Ju _ _).drew);have CE:Hid (Below w.heap.size w ((wa.alloc (.cells (mw k n).arr 29)).drew)):=(BE.out.alloc BE.out.size _).drew;generalize (wa.alloc (.cells (mw k n).arr 29)).drew=wb at*;generalize wa.heap.size=g3 at*;clear B KS B0 B1 BE;obtain⟨c0,c1,c2,c3,c4⟩:=aS.Ig C3.out;simp only[Jw] at c0 c1 c2 c3 c4;obtain⟨b0,b1,b2,b3,b4⟩:=aS.Ig C1.out;simp only[Jw] at b0 b1 b2 b3 b4;have z:=C1.out.frozen;have d4:=(aS.Ig C0.out).2.2.2.2;simp only[Jw] at d4;go_wp2_with fail
  go_loopw [19] (fun v wr=>v=.int .i64 0/\wr=wb) (fun _ _=>0)
  ·exact⟨rfl,rfl⟩
  case round=>
   obtain⟨rfl,rfl⟩:=hrel;go_wp2_with fail;have q:=aS.Ig (C1.out.putV ⟨k,n,empty,none,0,0,none,0,0⟩);have bb:=af CE.out (show w.heap.size<=w.heap.size+1 by omega) 0 ⟨k,n,empty,none,0,0,none,0,0⟩;change bodyPost _ _ _ _ _ (bH wr (w.heap.size+1) 0 ⟨k,n,empty,none,0,0,none,0,0⟩);generalize bH wr (w.heap.size+1) 0 ⟨k,n,empty,none,0,0,none,0,0⟩=wz at*;exact Jz (aF rfl _ _ _ rfl _ ⟨k,n,empty,none,0,0,none,0,0⟩ q) rfl ⟨rfl,bb⟩
abbrev tY(g:Nat):VC:=⟨5,0,empty,none,0,0,some ⟨g,0,none⟩,1,1⟩
theorem ke(s:ByteArray)(c:VC)(w:World):Calls prog 233 #[.string s,c.val] w fun e w'=>∃g,e=.returned (tY g).val/\Below w.heap.size w w':=by
 obtain⟨ck,cn,ct,cLA,cln,clc,cDA,cdn,cdc⟩:=c;go_enter func233,ntmps233;go_wp2_with fail;have B:Below w.heap.size w (((w.alloc (.cells #[.int .i64 ck,.int .i64 cn,.string ct,.slice cLA cln clc,.slice cDA cdn cdc] 29)).alloc (.cells (tY (w.heap.size+1+1)).arr 29)).alloc (.cells #[.string s,.int .i64 ck,.int .i64 cn,.string ct,.slice cLA cln clc,.slice cDA cdn cdc] 77)):=(((Ju _ _).alloc (qL) _).alloc (by simp) _).alloc (by simp;omega) _;have q:aS (((w.alloc (.cells #[.int .i64 ck,.int .i64 cn,.string ct,.slice cLA cln clc,.slice cDA cdn cdc] 29)).alloc (.cells (tY (w.heap.size+1+1)).arr 29)).alloc (.cells #[.string s,.int .i64 ck,.int .i64 cn,.string ct,.slice cLA cln clc,.slice cDA cdn cdc] 77)) (w.heap.size+1) 0 (tY (w.heap.size+1+1)):=aS.Ig ((aG.Ii (by simp)).alloc _);exact Jz (aF rfl _ _ _ rfl _ (tY (w.heap.size+1+1)) q) rfl ⟨_,rfl,B⟩
theorem Ad(b off c:Nat)(s:ByteArray)(w:World)(h:w.cell? ⟨b,off,none⟩=some (.string s))(t:ByteArray):Calls prog 307 #[.slice (some ⟨b,off,none⟩) 1 c,.string t] w fun e w'=>e=.returned (.string s)/\w'=w:=by
 go_enter func307,ntmps307;go_wp2_with fail;go_ret;exact⟨rfl,rfl⟩
theorem Ae(b off c:Nat)(s:ByteArray)(w:World)(h:w.cell? ⟨b,off,none⟩=some (.string s)):Calls prog 279 #[.slice (some ⟨b,off,none⟩) 1 c] w fun e w'=>e=.returned (.string s)/\w'=w:=by
 go_enter func279,ntmps279;go_wp2_with (go_at_call 307;refine(Ad b off c s _ h _).mono ?_;rintro e w1 ⟨rfl,rfl⟩);go_ret;exact⟨rfl,rfl⟩
theorem yy(b off c:Nat)(s:ByteArray)(k:Nat)(w:World)(h:w.cell? ⟨b,off,none⟩=some (.string s)):Calls prog 232 #[.slice (some ⟨b,off,none⟩) 1 c,(tY k).val] w fun e w'=>∃g,e=.returned (tY g).val/\Below w.heap.size w w':=by
 have hb0:b<w.heap.size:=KY w _ h;have B0:Hid (aG ((w.alloc (.cells (tY k).arr 29)).alloc (.cells VC.zero.arr 29)) w.heap.size 29 (tY k).arr):=(aG.Ii rfl).alloc _;have B1:Hid (aG ((w.alloc (.cells (tY k).arr 29)).alloc (.cells VC.zero.arr 29)) (w.heap.size+1) 29 VC.zero.arr):=aG.Ii (by simp);have BE:Hid (Below w.heap.size w ((w.alloc (.cells (tY k).arr 29)).alloc (.cells VC.zero.arr 29))):=((Ju _ _).alloc (qL) _).alloc (by simp) _;go_enter func232,ntmps232;go_upto_region 3 with fail
 change Code.wp _ _ _ _ ((w.alloc (.cells (tY k).arr 29)).alloc (.cells VC.zero.arr 29));generalize (w.alloc (.cells (tY k).arr 29)).alloc (.cells VC.zero.arr 29)=wa at*;have H:=(BE.out.cell (p:=⟨b,off,none⟩) hb0).trans h;have hba:b<wa.heap.size:=Ka hb0 BE.out.size;obtain⟨a0,a1,a2,a3,a4⟩:=aS.Ig B0.out;simp only[Jw] at a0 a1 a2 a3 a4;have B:=qD ((Ju wa.heap.size wa).drewN 1);have KS:Hid (∀w',Below wa.heap.size wa w'->(fun w'=>w'.cell? ⟨w.heap.size,0,none⟩=some (.int .i64 5)/\w'.cell? ⟨w.heap.size,1,none⟩=some (.int .i64 0)/\w'.cell? ⟨w.heap.size,2,none⟩=some (.string empty)/\w'.cell? ⟨w.heap.size,3,none⟩=some (.slice none 0 0)/\w'.cell? ⟨w.heap.size,4,none⟩=some (.slice (some ⟨k,0,none⟩) 1 1)) w'):=qD fun w' hb=>⟨(hb.cell (p:=⟨w.heap.size,0,none⟩) B0.out.lt).trans a0,(hb.cell (p:=⟨w.heap.size,1,none⟩) B0.out.lt).trans a1,(hb.cell (p:=⟨w.heap.size,2,none⟩) B0.out.lt).trans a2,(hb.cell (p:=⟨w.heap.size,3,none⟩) B0.out.lt).trans a3,(hb.cell (p:=⟨w.heap.size,4,none⟩) B0.out.lt).trans a4⟩;clear a0 a1 a2 a3 a4
 go_region_held3 (fun w'=>w'.cell? ⟨w.heap.size,0,none⟩=some (.int .i64 5)/\w'.cell? ⟨w.heap.size,1,none⟩=some (.int .i64 0)/\w'.cell? ⟨w.heap.size,2,none⟩=some (.string empty)/\w'.cell? ⟨w.heap.size,3,none⟩=some (.slice none 0 0)/\w'.cell? ⟨w.heap.size,4,none⟩=some (.slice (some ⟨k,0,none⟩) 1 1))
  (first|exact KS.out _ B.out|((try dsimp only);assumption)|go_keep)
  (first
    | (go_at_call 279;refine(Ae b off c s _ ((B.out.cell (p:=⟨b,off,none⟩) hba).trans H)).mono ?_;rintro e3 w3 ⟨rfl,rfl⟩)
    | (go_at_call 233;refine(ke s (tY k) _).mono ?_;rintro e3 w3 ⟨g3,rfl,hb3⟩;replace B:=qD (B.out.Ih hb3);clear hb3;have C1:=qD (B1.out.step B.out);obtain⟨b0,b1,b2,b3,b4⟩:=aS.Ig C1.out;simp only[Jw] at b0 b1 b2 b3 b4;have z:=C1.out.frozen))
 all_goals
  have q:=aS.Ig (C1.out.putV ⟨5,0,empty,none,0,0,some ⟨g3,0,none⟩,1,1⟩);have bb:=af (BE.out.Ih B.out) (show w.heap.size<=w.heap.size+1 by omega) 0 ⟨5,0,empty,none,0,0,some ⟨g3,0,none⟩,1,1⟩;change Exit.then _ _ _ _ (bH w3 (w.heap.size+1) 0 ⟨5,0,empty,none,0,0,some ⟨g3,0,none⟩,1,1⟩);generalize bH w3 (w.heap.size+1) 0 ⟨5,0,empty,none,0,0,some ⟨g3,0,none⟩,1,1⟩=wz at*;go_wp2_with fail;exact Jz (aF rfl _ _ _ rfl _ ⟨5,0,empty,none,0,0,some ⟨g3,0,none⟩,1,1⟩ q) rfl ⟨_,rfl,bb⟩
end
structure Db(w:World):Prop where
 n2:w.cell? ⟨2,2,none⟩=some (.string ⟨#[36,101,113]⟩)
 n5:w.cell? ⟨2,5,none⟩=some (.string ⟨#[36,103,101]⟩)
section
variable {l xs:List ByteArray} {c i g o n q size:Nat} {op:Int} {w w' W:World} {A:Option Addr} {e:TypeId} {v:Value}
theorem Db.step{w w':World}(h:Db w)(hb:Below w.heap.size w w'):Db w':=
 ⟨(hb.cell (KY w _ h.n2)).trans h.n2,(hb.cell (KY w _ h.n5)).trans h.n5⟩
theorem tP{l rest:List Oper}{i:Nat}{o:Oper}(h:l.drop i=o::rest):l.toArray[i]?=some o:=by
 have:=congrArg List.head? h;rw[List.head?_drop] at this;simpa using this
theorem kf{fn:Func}{p u:Tmp}(h:fn.results=#[.cell p 29,.tmp u])(tmps:Array Value)(g1:Nat)(h1:tmps[p]?.getD undef=.pointer (some ⟨g1,0,none⟩))(e:Value)(h2:tmps[u]?.getD undef=e)(W:World)(v:VC)(q:aS W g1 0 v):(results fn tmps).run prog W=.ok (.tuple #[v.val,e]) W:=by
 obtain⟨q0,q1,q2,q3,q4⟩:=q;simp only[Jw] at q0 q1 q2 q3 q4;simp[results,h,h1,h2,asAddr,go_sem,q0,q1,q2,q3,q4]
theorem qd{op:Int}{p:aX}(h:Lf op p)(ho:nz op)(w:World):Calls prog 231 #[aW p] w fun e w'=>e=.returned (.tuple #[.agg #[.int .i64 3,.int .i64 1,.string empty,.slice none 0 0,.slice none 0 0],.int .i64 0])/\Below w.heap.size w w':=by
 have B0:Hid (aG ((w.alloc (.cells (aD p) 38)).alloc (.cells VC.zero.arr 29)) w.heap.size 38 (aD p)):=(aG.Ii rfl).alloc _;have B1:Hid (aG ((w.alloc (.cells (aD p) 38)).alloc (.cells VC.zero.arr 29)) (w.heap.size+1) 29 VC.zero.arr):=aG.Ii (by simp);have BE:Hid (Below w.heap.size w ((w.alloc (.cells (aD p) 38)).alloc (.cells VC.zero.arr 29))):=((Ju _ _).alloc (qL) _).alloc (by simp) _;go_enter func231,ntmps231;go_upto_region 1 with fail
 change Code.wp _ _ _ _ ((w.alloc (.cells (aD p) 38)).alloc (.cells VC.zero.arr 29));generalize (w.alloc (.cells (aD p) 38)).alloc (.cells VC.zero.arr 29)=wa at*;have d0:=(aR B0.out).d0;have c2:=(B0.out.cell 2).trans (show _=some (Value.int .i64 p.arg.1.k) from rfl);have c3:=(B0.out.cell 3).trans (show _=some (Value.int .i64 p.arg.1.n) from rfl);have c4:=(B0.out.cell 4).trans (show _=some (Value.string p.arg.1.t) from rfl);have c5:=(B0.out.cell 5).trans (show _=some (Value.slice p.arg.1.LA p.arg.1.ln p.arg.1.lc) from rfl);have c6:=(B0.out.cell 6).trans (show _=some (Value.slice p.arg.1.DA p.arg.1.dn p.arg.1.dc) from rfl);rw[h.op_] at d0;rw[h.arg] at c2 c3 c4 c5 c6;simp only at c2 c3 c4 c5 c6;clear h;rcases ho with rfl|rfl
 all_goals
  go_wp2_with fail;refine(lz 3 1 _).mono ?_;rintro e w1 ⟨rfl,hb⟩;have C1:=qD (B1.out.step hb);have CE:=qD (BE.out.Ih hb);clear hb c2 c3 c4 c5 c6 d0 B0 B1 BE;obtain⟨b0,b1,b2,b3,b4⟩:=aS.Ig C1.out;simp only[Jw] at b0 b1 b2 b3 b4;have z:=C1.out.frozen;have q:=aS.Ig (C1.out.putV ⟨3,1,empty,none,0,0,none,0,0⟩);have bb:=af CE.out (show w.heap.size<=w.heap.size+1 by omega) 0 ⟨3,1,empty,none,0,0,none,0,0⟩;go_wp2_with fail;change bodyPost _ _ _ _ _ (bH w1 (w.heap.size+1) 0 ⟨3,1,empty,none,0,0,none,0,0⟩);generalize bH w1 (w.heap.size+1) 0 ⟨3,1,empty,none,0,0,none,0,0⟩=wz at*;exact Jz (kf rfl _ _ rfl _ rfl _ ⟨3,1,empty,none,0,0,none,0,0⟩ q) rfl ⟨rfl,bb⟩
theorem Af{op:Int}{p:aX}(h:Lf op p)(ho:nz op)(w:World)(hN:Db w)(hl:ST w p.path.A p.path.n p.path.c p.path.xs):Calls prog 182 #[aW p] w fun e w'=>∃g,e=.returned (.tuple #[(tY g).val,.int .i64 0])/\Below w.heap.size w w':=by
 have hpn:p.path.n=1:=by have:=hl.sr.ln;rw[h.xs] at this;exact this
 obtain⟨b,off,s,hA,hb0,hx,hrg⟩:∃b off s,p.path.A=some ⟨b,off,none⟩/\b<w.heap.size/\p.path.xs[0]?=some s/\w.cell? ⟨b,off,none⟩=some (.string s):=by
  obtain⟨b,off,s,e1,e2,e3,_,e5⟩:=hl.sr.row (i:=0) (by omega);refine⟨b,off,s,e1,e2,e3,?_⟩;have:=e5 0 _ rfl
  rwa [Ll,MG] at this
 have HN:=qD hN;have HA:=qD fun w=>qd h ho w;have B0:Hid (aG ((w.alloc (.cells (aD p) 38)).alloc (.cells VC.zero.arr 29)) w.heap.size 38 (aD p)):=(aG.Ii rfl).alloc _;have B1:Hid (aG ((w.alloc (.cells (aD p) 38)).alloc (.cells VC.zero.arr 29)) (w.heap.size+1) 29 VC.zero.arr):=aG.Ii (by simp);have BE:Hid (Below w.heap.size w ((w.alloc (.cells (aD p) 38)).alloc (.cells VC.zero.arr 29))):=((Ju _ _).alloc (qL) _).alloc (by simp) _;clear hN;go_enter func182,ntmps182;go_upto_region 1 with fail
 change Code.wp _ _ _ _ ((w.alloc (.cells (aD p) 38)).alloc (.cells VC.zero.arr 29));generalize (w.alloc (.cells (aD p) 38)).alloc (.cells VC.zero.arr 29)=wa at*;have d0:=(aR B0.out).d0;have d1:=(aR B0.out).d1;rw[h.op_] at d0;rw[hA,hpn] at d1;have RF:=qD (ae B0.out);have HH:=qD ((BE.out.cell (p:=⟨b,off,none⟩) hb0).trans hrg);have hba:b<wa.heap.size:=Ka hb0 BE.out.size;clear h hl hpn hA hx hrg;have NM:=qD (HN.out.step BE.out);rcases ho with rfl|rfl
 ·go_upto_region 20 with(first
   | ((with_reducible show wpList _ _ _ (⟨_,.load 38 _,_,_,_,_⟩::_) _ _);refine aE rfl 38 _ rfl w.heap.size 0 rfl _ _ RF.out KH rfl (by kernel_rfl) ?_)
   | (go_at_call 231;refine(HA.out _).mono ?_;rintro e w1 ⟨rfl,hb1⟩))
  change Code.wp _ _ _ _ (w1.alloc (.cells (mw 3 1).arr 29));have hb2:Below wa.heap.size wa (w1.alloc (.cells (mw 3 1).arr 29)):=hb1.alloc hb1.size _;have D9:Hid (aG (w1.alloc (.cells (mw 3 1).arr 29)) w1.heap.size 29 (mw 3 1).arr):=aG.Ii rfl;have G9:Hid (w.heap.size+2<=w1.heap.size):=qD (KM (Nat.succ_le_of_lt B1.out.lt) hb1.size);generalize w1.alloc (.cells (mw 3 1).arr 29)=wb at*;generalize w1.heap.size=g9 at*;have C1:=qD (B1.out.step hb2);have CE:=qD (BE.out.Ih hb2);replace d0:=(hb2.cell (p:=⟨w.heap.size,0,none⟩) B0.out.lt).trans d0;replace d1:=(hb2.cell (p:=⟨w.heap.size,1,none⟩) B0.out.lt).trans d1;have C0:=qD (B0.out.step hb2);have HC:=qD ((hb2.cell (p:=⟨b,off,none⟩) hba).trans HH.out);have hbc:b<wb.heap.size:=Ka hba hb2.size;have NC:=(NM.out.step hb2).n2;have NL:Hid (2<w.heap.size):=qD (KY w _ HN.out.n2);clear hb1 hb2 B0 B1 BE HH NM hba RF HA HN;obtain⟨a0,a1,a2,a3,a4⟩:=aS.Ig D9.out;simp only[Jw] at a0 a1 a2 a3 a4;have B:=qD ((Ju wb.heap.size wb).drewN 1)
  have KS:Hid (∀w',Below wb.heap.size wb w'->(fun w'=>w'.cell? ⟨w.heap.size,0,none⟩=some (.int .i64 2)/\w'.cell? ⟨w.heap.size,1,none⟩=some (.slice (some ⟨b,off,none⟩) 1 p.path.c)/\w'.cell? ⟨2,2,none⟩=some (.string ⟨#[36,101,113]⟩)/\w'.cell? ⟨g9,0,none⟩=some (.int .i64 3)/\w'.cell? ⟨g9,1,none⟩=some (.int .i64 1)/\w'.cell? ⟨g9,2,none⟩=some (.string empty)/\w'.cell? ⟨g9,3,none⟩=some (.slice none 0 0)/\w'.cell? ⟨g9,4,none⟩=some (.slice none 0 0)) w'):=qD fun w' hb=>⟨(hb.cell (p:=⟨w.heap.size,0,none⟩) C0.out.lt).trans d0,(hb.cell (p:=⟨w.heap.size,1,none⟩) C0.out.lt).trans d1,(hb.cell (KY wb _ NC)).trans NC,(hb.cell (p:=⟨g9,0,none⟩) D9.out.lt).trans a0,(hb.cell (p:=⟨g9,1,none⟩) D9.out.lt).trans a1,(hb.cell (p:=⟨g9,2,none⟩) D9.out.lt).trans a2,(hb.cell (p:=⟨g9,3,none⟩) D9.out.lt).trans a3,(hb.cell (p:=⟨g9,4,none⟩) D9.out.lt).trans a4⟩
  have KZ:Hid (∀w',Below wb.heap.size wb w'->∀v:VC,(fun w'=>w'.cell? ⟨w.heap.size,0,none⟩=some (.int .i64 2)/\w'.cell? ⟨w.heap.size,1,none⟩=some (.slice (some ⟨b,off,none⟩) 1 p.path.c)/\w'.cell? ⟨2,2,none⟩=some (.string ⟨#[36,101,113]⟩)/\w'.cell? ⟨g9,0,none⟩=some (.int .i64 3)/\w'.cell? ⟨g9,1,none⟩=some (.int .i64 1)/\w'.cell? ⟨g9,2,none⟩=some (.string empty)/\w'.cell? ⟨g9,3,none⟩=some (.slice none 0 0)/\w'.cell? ⟨g9,4,none⟩=some (.slice none 0 0)) (bH w' (w.heap.size+1) 0 v)):=qD fun w' hb v=>by
   obtain⟨h1,h2,h3,h4,h5,h6,h7,h8⟩:=KS.out w' hb;have hg:=G9.out;have hn:=NL.out;have e:∀(g o:Nat),g≠w.heap.size+1->(bH w' (w.heap.size+1) 0 v).cell? ⟨g,o,none⟩=w'.cell? ⟨g,o,none⟩:=fun g o hne=>Kh (a:=⟨g,o,none⟩) (bO hne);exact⟨(e _ _ (by omega)).trans h1,(e _ _ (by omega)).trans h2,(e _ _ (by omega)).trans h3,(e _ _ (by omega)).trans h4,(e _ _ (by omega)).trans h5,(e _ _ (by omega)).trans h6,(e _ _ (by omega)).trans h7,(e _ _ (by omega)).trans h8⟩
  clear a0 a1 a2 a3 a4 d0 d1 NC;refine Kn ?_;refine Kg (S:=(fun w'=>w'.cell? ⟨w.heap.size,0,none⟩=some (.int .i64 2)/\w'.cell? ⟨w.heap.size,1,none⟩=some (.slice (some ⟨b,off,none⟩) 1 p.path.c)/\w'.cell? ⟨2,2,none⟩=some (.string ⟨#[36,101,113]⟩)/\w'.cell? ⟨g9,0,none⟩=some (.int .i64 3)/\w'.cell? ⟨g9,1,none⟩=some (.int .i64 1)/\w'.cell? ⟨g9,2,none⟩=some (.string empty)/\w'.cell? ⟨g9,3,none⟩=some (.slice none 0 0)/\w'.cell? ⟨g9,4,none⟩=some (.slice none 0 0))) (by kernel_rfl) ?_ (fun hHeld=>?_)
  ·(try dsimp only);exact KS.out _ B.out
  refine rU 0 rfl ?_
  try go_frame
  refine rU 1 rfl ?_
  try go_frame
  refine rU 2 rfl ?_
  try go_frame
  refine rU 3 rfl ?_
  try go_frame
  refine rU 4 rfl ?_
  try go_frame
  refine rU 5 rfl ?_
  try go_frame
  refine rU 6 rfl ?_
  try go_frame
  refine rU 9 rfl ?_
  try go_frame
  refine rY 7 rfl fun K hK=>?_;go_simp;refine(ke _ (mw 3 1) _).mono ?_;rintro e3 w3 ⟨g3,rfl,hb3⟩;replace B:=qD (B.out.Ih hb3);clear hb3
  (try go_wp2_with fail)
  clear hHeld;refine hK.out _ _ (KS.out _ B.out) fun hHeld=>?_;clear hK K
  try go_frame
  refine rY 8 rfl fun K hK=>?_;go_simp;refine(yy b off p.path.c s g3 _ ((B.out.cell (p:=⟨b,off,none⟩) hbc).trans HC.out)).mono ?_;rintro e4 w4 ⟨g4,rfl,hb3⟩;replace B:=qD (B.out.Ih hb3);clear hb3
  (try go_wp2_with fail)
  clear hHeld;refine hK.out _ _ (KS.out _ B.out) fun hHeld=>?_;clear hK K
  try go_frame
  refine rY 10 rfl fun K hK=>?_;have E1:=qD (C1.out.step B.out);obtain⟨b0,b1,b2,b3,b4⟩:=aS.Ig E1.out;simp only[Jw] at b0 b1 b2 b3 b4;have z:=E1.out.frozen;go_simp;have q:=qD (aS.Ig (E1.out.putV ⟨5,0,empty,none,0,0,some ⟨g4,0,none⟩,1,1⟩));have bb:=qD (af (CE.out.Ih B.out) (show w.heap.size<=w.heap.size+1 by omega) 0 ⟨5,0,empty,none,0,0,some ⟨g4,0,none⟩,1,1⟩);have KZ:=KZ.out _ B.out ⟨5,0,empty,none,0,0,some ⟨g4,0,none⟩,1,1⟩;clear b0 b1 b2 b3 b4 z E1;change K _ (bH w4 (w.heap.size+1) 0 ⟨5,0,empty,none,0,0,some ⟨g4,0,none⟩,1,1⟩);generalize bH w4 (w.heap.size+1) 0 ⟨5,0,empty,none,0,0,some ⟨g4,0,none⟩,1,1⟩=wz at*;clear hHeld;refine hK.out _ _ (KZ) fun hHeld=>?_;clear hK K
  try go_frame
  refine rU 11 rfl ?_
  try go_frame
  refine rD ?_ _;refine Kq ?_;clear hHeld;go_wp2_with fail;exact Jz (kf rfl _ _ rfl _ rfl _ ⟨5,0,empty,none,0,0,some ⟨g4,0,none⟩,1,1⟩ q.out) rfl ⟨_,rfl,bb.out⟩
 ·go_upto_region 20 with(first
   | ((with_reducible show wpList _ _ _ (⟨_,.load 38 _,_,_,_,_⟩::_) _ _);refine aE rfl 38 _ rfl w.heap.size 0 rfl _ _ RF.out KH rfl (by kernel_rfl) ?_)
   | (go_at_call 231;refine(HA.out _).mono ?_;rintro e w1 ⟨rfl,hb1⟩))
  change Code.wp _ _ _ _ (w1.alloc (.cells (mw 3 1).arr 29));have hb2:Below wa.heap.size wa (w1.alloc (.cells (mw 3 1).arr 29)):=hb1.alloc hb1.size _;have D9:Hid (aG (w1.alloc (.cells (mw 3 1).arr 29)) w1.heap.size 29 (mw 3 1).arr):=aG.Ii rfl;have G9:Hid (w.heap.size+2<=w1.heap.size):=qD (KM (Nat.succ_le_of_lt B1.out.lt) hb1.size);generalize w1.alloc (.cells (mw 3 1).arr 29)=wb at*;generalize w1.heap.size=g9 at*;have C1:=qD (B1.out.step hb2);have CE:=qD (BE.out.Ih hb2);replace d0:=(hb2.cell (p:=⟨w.heap.size,0,none⟩) B0.out.lt).trans d0;replace d1:=(hb2.cell (p:=⟨w.heap.size,1,none⟩) B0.out.lt).trans d1;have C0:=qD (B0.out.step hb2);have HC:=qD ((hb2.cell (p:=⟨b,off,none⟩) hba).trans HH.out);have hbc:b<wb.heap.size:=Ka hba hb2.size;have NC:=(NM.out.step hb2).n5;have NL:Hid (2<w.heap.size):=qD (KY w _ HN.out.n5);clear hb1 hb2 B0 B1 BE HH NM hba RF HA HN;obtain⟨a0,a1,a2,a3,a4⟩:=aS.Ig D9.out;simp only[Jw] at a0 a1 a2 a3 a4;have B:=qD ((Ju wb.heap.size wb).drewN 1)
  have KS:Hid (∀w',Below wb.heap.size wb w'->(fun w'=>w'.cell? ⟨w.heap.size,0,none⟩=some (.int .i64 5)/\w'.cell? ⟨w.heap.size,1,none⟩=some (.slice (some ⟨b,off,none⟩) 1 p.path.c)/\w'.cell? ⟨2,5,none⟩=some (.string ⟨#[36,103,101]⟩)/\w'.cell? ⟨g9,0,none⟩=some (.int .i64 3)/\w'.cell? ⟨g9,1,none⟩=some (.int .i64 1)/\w'.cell? ⟨g9,2,none⟩=some (.string empty)/\w'.cell? ⟨g9,3,none⟩=some (.slice none 0 0)/\w'.cell? ⟨g9,4,none⟩=some (.slice none 0 0)) w'):=qD fun w' hb=>⟨(hb.cell (p:=⟨w.heap.size,0,none⟩) C0.out.lt).trans d0,(hb.cell (p:=⟨w.heap.size,1,none⟩) C0.out.lt).trans d1,(hb.cell (KY wb _ NC)).trans NC,(hb.cell (p:=⟨g9,0,none⟩) D9.out.lt).trans a0,(hb.cell (p:=⟨g9,1,none⟩) D9.out.lt).trans a1,(hb.cell (p:=⟨g9,2,none⟩) D9.out.lt).trans a2,(hb.cell (p:=⟨g9,3,none⟩) D9.out.lt).trans a3,(hb.cell (p:=⟨g9,4,none⟩) D9.out.lt).trans a4⟩
  have KZ:Hid (∀w',Below wb.heap.size wb w'->∀v:VC,(fun w'=>w'.cell? ⟨w.heap.size,0,none⟩=some (.int .i64 5)/\w'.cell? ⟨w.heap.size,1,none⟩=some (.slice (some ⟨b,off,none⟩) 1 p.path.c)/\w'.cell? ⟨2,5,none⟩=some (.string ⟨#[36,103,101]⟩)/\w'.cell? ⟨g9,0,none⟩=some (.int .i64 3)/\w'.cell? ⟨g9,1,none⟩=some (.int .i64 1)/\w'.cell? ⟨g9,2,none⟩=some (.string empty)/\w'.cell? ⟨g9,3,none⟩=some (.slice none 0 0)/\w'.cell? ⟨g9,4,none⟩=some (.slice none 0 0)) (bH w' (w.heap.size+1) 0 v)):=qD fun w' hb v=>by
   obtain⟨h1,h2,h3,h4,h5,h6,h7,h8⟩:=KS.out w' hb;have hg:=G9.out;have hn:=NL.out;have e:∀(g o:Nat),g≠w.heap.size+1->(bH w' (w.heap.size+1) 0 v).cell? ⟨g,o,none⟩=w'.cell? ⟨g,o,none⟩:=fun g o hne=>Kh (a:=⟨g,o,none⟩) (bO hne);exact⟨(e _ _ (by omega)).trans h1,(e _ _ (by omega)).trans h2,(e _ _ (by omega)).trans h3,(e _ _ (by omega)).trans h4,(e _ _ (by omega)).trans h5,(e _ _ (by omega)).trans h6,(e _ _ (by omega)).trans h7,(e _ _ (by omega)).trans h8⟩
  clear a0 a1 a2 a3 a4 d0 d1 NC;refine Kn ?_;refine Kg (S:=(fun w'=>w'.cell? ⟨w.heap.size,0,none⟩=some (.int .i64 5)/\w'.cell? ⟨w.heap.size,1,none⟩=some (.slice (some ⟨b,off,none⟩) 1 p.path.c)/\w'.cell? ⟨2,5,none⟩=some (.string ⟨#[36,103,101]⟩)/\w'.cell? ⟨g9,0,none⟩=some (.int .i64 3)/\w'.cell? ⟨g9,1,none⟩=some (.int .i64 1)/\w'.cell? ⟨g9,2,none⟩=some (.string empty)/\w'.cell? ⟨g9,3,none⟩=some (.slice none 0 0)/\w'.cell? ⟨g9,4,none⟩=some (.slice none 0 0))) (by kernel_rfl) ?_ (fun hHeld=>?_)
  ·(try dsimp only);exact KS.out _ B.out
  refine rU 0 rfl ?_
  try go_frame
  refine rU 1 rfl ?_
  try go_frame
  refine rU 2 rfl ?_
  try go_frame
  refine rU 3 rfl ?_
  try go_frame
  refine rU 4 rfl ?_
  try go_frame
  refine rU 5 rfl ?_
  try go_frame
  refine rU 6 rfl ?_
  try go_frame
  refine rU 9 rfl ?_
  try go_frame
  refine rY 7 rfl fun K hK=>?_;go_simp;refine(ke _ (mw 3 1) _).mono ?_;rintro e3 w3 ⟨g3,rfl,hb3⟩;replace B:=qD (B.out.Ih hb3);clear hb3
  (try go_wp2_with fail)
  clear hHeld;refine hK.out _ _ (KS.out _ B.out) fun hHeld=>?_;clear hK K
  try go_frame
  refine rY 8 rfl fun K hK=>?_;go_simp;refine(yy b off p.path.c s g3 _ ((B.out.cell (p:=⟨b,off,none⟩) hbc).trans HC.out)).mono ?_;rintro e4 w4 ⟨g4,rfl,hb3⟩;replace B:=qD (B.out.Ih hb3);clear hb3
  (try go_wp2_with fail)
  clear hHeld;refine hK.out _ _ (KS.out _ B.out) fun hHeld=>?_;clear hK K
  try go_frame
  refine rY 10 rfl fun K hK=>?_;have E1:=qD (C1.out.step B.out);obtain⟨b0,b1,b2,b3,b4⟩:=aS.Ig E1.out;simp only[Jw] at b0 b1 b2 b3 b4;have z:=E1.out.frozen;go_simp;have q:=qD (aS.Ig (E1.out.putV ⟨5,0,empty,none,0,0,some ⟨g4,0,none⟩,1,1⟩));have bb:=qD (af (CE.out.Ih B.out) (show w.heap.size<=w.heap.size+1 by omega) 0 ⟨5,0,empty,none,0,0,some ⟨g4,0,none⟩,1,1⟩);have KZ:=KZ.out _ B.out ⟨5,0,empty,none,0,0,some ⟨g4,0,none⟩,1,1⟩;clear b0 b1 b2 b3 b4 z E1;change K _ (bH w4 (w.heap.size+1) 0 ⟨5,0,empty,none,0,0,some ⟨g4,0,none⟩,1,1⟩);generalize bH w4 (w.heap.size+1) 0 ⟨5,0,empty,none,0,0,some ⟨g4,0,none⟩,1,1⟩=wz at*;clear hHeld;refine hK.out _ _ (KZ) fun hHeld=>?_;clear hK K
  try go_frame
  refine rU 11 rfl ?_
  try go_frame
  refine rD ?_ _;refine Kq ?_;clear hHeld;go_wp2_with fail;exact Jz (kf rfl _ _ rfl _ rfl _ ⟨5,0,empty,none,0,0,some ⟨g4,0,none⟩,1,1⟩ q.out) rfl ⟨_,rfl,bb.out⟩
end
structure db{α:Type}(cm:α->α->Int):Prop where
 anti:∀x y,cm y x=-cm x y
 tr:∀x y z,TR (cm x y) (cm y z) (cm x z)
section
variable {l xs:List ByteArray} {b c i n off j base size:Nat} {a x y:Int} {s:ByteArray} {w w':World} {A:Option Addr} {t:TypeId} {P:Program} {v:Value}
section
variable {α:Type} (cm:α->α->Int)
def RT(x y:α×Nat):Prop:=cm x.1 y.1<0\/cm x.1 y.1=0/\x.2<y.2
variable {cm}
theorem RT.trans(H:db cm){x y z:α×Nat}(h1:RT cm x y)(h2:RT cm y z):RT cm x z:=by
 unfold RT at*;have:=H.tr x.1 y.1 z.1 (by omega) (by omega);omega
def kg(l:List (α×Nat)):Prop:=l.Pairwise fun x y=>x.2<y.2
structure ah(cm:α->α->Int)(l S:List (α×Nat)):Prop where
 perm:S.Perm l
 ord:S.Pairwise (RT cm)
theorem ah.nil:ah cm ([]:List (α×Nat)) []:=⟨.nil,.nil⟩
theorem ah.one(x:α×Nat):ah cm [x] [x]:=⟨.refl _,by simp⟩
theorem ah.insert(H:db cm){P S1 S2:List (α×Nat)}{x:α×Nat}(h:ah cm P (S1++S2))(ht:∀y∈P,y.2<x.2)(h2:∀y∈S2,cm x.1 y.1<0)(h1:∀y,S1.getLast?=some y->¬cm x.1 y.1<0):ah cm (P++[x]) (S1++x::S2):=by
 refine⟨?_,?_⟩
 ·have e1:(S1++x::S2).Perm (x::(S1++S2)):=Np;have e2:(x::(S1++S2)).Perm (x::P):=h.perm.cons x;have e3:(x::P).Perm (P++[x]):=(Mw x P).symm;exact e1.trans (e2.trans e3)
 ·have ho:=h.ord;rw[Ky] at ho ⊢;refine⟨ho.1,?_,?_⟩
  ·rw[NY];exact⟨fun y hy=>.inl (h2 y hy),ho.2.1⟩
  ·intro y hy z hz;rcases LG.1 hz with rfl|hz
   ·have hyP:y∈P:=h.perm.subset (by simp[hy]);rcases Mc S1 with rfl|⟨S,q,rfl⟩
    ·simp at hy
    ·have hq:¬cm z.1 q.1<0:=h1 q (by simp);have hqP:q∈P:=h.perm.subset (by simp)
     have hqz:RT cm q z:=by
      unfold RT;have:=H.anti z.1 q.1;have:=ht q hqP;omega
     simp only[MP,KI,Kf] at hy;rcases hy with hy|rfl
     ·have:RT cm y q:=by
       have h3:=ho.1;simp only[MP] at h3;rw[Ky] at h3;exact h3.2.2 y hy q (by simp)
      exact RT.trans H this hqz
     ·exact hqz
   ·exact ho.2.2 y hy z hz
def cq:Nat->List α->List (α×Nat)
 | _,[]=>[]
 | n,x::r=>(x,n)::cq (n+1) r
theorem oI(l:List α):∀n,(cq n l).map Prod.fst=l:=by
 induction l with
 | nil=>intro n;rfl
 | cons x r ih=>intro n;simp[cq,ih]
theorem yF(l:List α):∀n,∀y∈cq n l,n<=y.2:=by
 induction l with
 | nil=>intro n y hy;simp[cq] at hy
 | cons x r ih=>
  intro n y hy;simp only[cq,LG] at hy;rcases hy with rfl|hy
  ·exact qL
  ·have:=ih (n+1) y hy;omega
theorem pv(l:List α):∀n,kg (cq n l):=by
 induction l with
 | nil=>intro n;simp[cq,kg]
 | cons x r ih=>
  intro n;simp only[cq,kg,NY];exact⟨fun y hy=>by have:=yF r (n+1) y hy;show n<y.2;omega,ih (n+1)⟩
theorem kh(l:List α):∀n,(cq n l).length=l.length:=by
 induction l with
 | nil=>intro n;rfl
 | cons x r ih=>intro n;simp[cq,ih]
end
theorem DK{α:Type}{rec:α->List Value}{s:Nat}(hs:∀a,(rec a).length=s):∀(l:List α) (j:Nat) (a:α),j<l.length->aO rec (l.set j a)=dZ (aO rec l) (j*s) (rec a):=by
 intro l
 induction l with
 | nil=>intro j a h;simp at h
 | cons x r ih=>
  intro j a h;have e:∀(y:α) (t:List α),aO rec (y::t)=rec y++aO rec t:=fun _ _=>rfl;have hl:=cA hs (x::r);have hlr:=cA hs r;simp only[Ks] at hl h;have hm:(j+1)*s<=(r.length+1)*s:=Ki s (by omega);rw[Lk] at hm;rw[lW _ _ _ (by rw[hs,hl];omega),hs];cases j with
  | zero=>
   rw[List.set_cons_zero,e,e];simp[hs]
  | succ j=>
   have hm2:(j+1)*s<=r.length*s:=Ki s (by omega);rw[Lk] at hm2;rw[List.set_cons_succ,e,e,ih j a (by omega),lW _ _ _ (by rw[hs,hlr];omega),hs,show(j+1)*s=s+j*s by rw[Lk];omega]
   have e1:(rec x++aO rec r).take (s+j*s)=rec x++(aO rec r).take (j*s):=by
    have:=OB (l₁:=rec x) (l₂:=aO rec r) (j*s)
    rwa [hs] at this
   have e2:(rec x++aO rec r).drop (s+j*s+s)=(aO rec r).drop (j*s+s):=by
    have:=Mu (l₁:=rec x) (l₂:=aO rec r) (j*s+s);rw[hs] at this;rw[show s+j*s+s=s+(j*s+s) by omega];exact this
   rw[e1,e2];simp only[LN]
abbrev PC:=PV×Bool
abbrev PS:=PC×PC
abbrev PI:=(PV×PV)×(Bool×Bool)
def ki(p:PC):List Value:=bC p.1++[.bool p.2]
def cr(p:PS):List Value:=ki p.1++ki p.2
def iz(p:PI):List Value:=bC p.1.1++bC p.1.2++[.bool p.2.1,.bool p.2.2]
theorem bp(p:PC):(ki p).length=6:=rfl
theorem dU(p:PS):(cr p).length=12:=rfl
theorem iQ(p:PI):(iz p).length=12:=rfl
theorem jA(p:PS):∀u∈cr p,u.oneCell'=true:=by simp[cr,ki,bC,VC.list,Value.oneCell']
theorem vT(p:PI):∀u∈iz p,u.oneCell'=true:=by simp[iz,bC,VC.list,Value.oneCell']
def cP(p:PC):cy:=(p.1.2,p.2)
def ai(p:PS):cy×cy:=(cP p.1,cP p.2)
def cB(p:PI):Iv:=⟨p.1.1.2,p.1.2.2,p.2.1,p.2.2⟩
def gV(p:PI):PS:=((p.1.1,!p.2.1),(p.1.2,p.2.2))
abbrev oR(p:PC):Value:=.agg #[.int .i64 p.1.1.k,.int .i64 p.1.1.n,.string p.1.1.t,.slice p.1.1.LA p.1.1.ln p.1.1.lc,.slice p.1.1.DA p.1.1.dn p.1.1.dc,.bool p.2]
abbrev tQ(p:PS):Value:=.agg #[.int .i64 p.1.1.1.k,.int .i64 p.1.1.1.n,.string p.1.1.1.t,.slice p.1.1.1.LA p.1.1.1.ln p.1.1.1.lc,.slice p.1.1.1.DA p.1.1.1.dn p.1.1.1.dc,.bool p.1.2,.int .i64 p.2.1.1.k,.int .i64 p.2.1.1.n,.string p.2.1.1.t,.slice p.2.1.1.LA p.2.1.1.ln p.2.1.1.lc,.slice p.2.1.1.DA p.2.1.1.dn p.2.1.1.dc,.bool p.2.2]
abbrev jf(p:PI):Value:=.agg #[.int .i64 p.1.1.1.k,.int .i64 p.1.1.1.n,.string p.1.1.1.t,.slice p.1.1.1.LA p.1.1.1.ln p.1.1.1.lc,.slice p.1.1.1.DA p.1.1.1.dn p.1.1.1.dc,.int .i64 p.1.2.1.k,.int .i64 p.1.2.1.n,.string p.1.2.1.t,.slice p.1.2.1.LA p.1.2.1.ln p.1.2.1.lc,.slice p.1.2.1.DA p.1.2.1.dn p.1.2.1.dc,.bool p.2.1,.bool p.2.2]
abbrev tR(p:PC):Array Value:=#[.int .i64 p.1.1.k,.int .i64 p.1.1.n,.string p.1.1.t,.slice p.1.1.LA p.1.1.ln p.1.1.lc,.slice p.1.1.DA p.1.1.dn p.1.1.dc,.bool p.2]
abbrev fp(p:PS):Array Value:=#[.int .i64 p.1.1.1.k,.int .i64 p.1.1.1.n,.string p.1.1.1.t,.slice p.1.1.1.LA p.1.1.1.ln p.1.1.1.lc,.slice p.1.1.1.DA p.1.1.1.dn p.1.1.1.dc,.bool p.1.2,.int .i64 p.2.1.1.k,.int .i64 p.2.1.1.n,.string p.2.1.1.t,.slice p.2.1.1.LA p.2.1.1.ln p.2.1.1.lc,.slice p.2.1.1.DA p.2.1.1.dn p.2.1.1.dc,.bool p.2.2]
abbrev aa(p:PI):Array Value:=#[.int .i64 p.1.1.1.k,.int .i64 p.1.1.1.n,.string p.1.1.1.t,.slice p.1.1.1.LA p.1.1.1.ln p.1.1.1.lc,.slice p.1.1.1.DA p.1.1.1.dn p.1.1.1.dc,.int .i64 p.1.2.1.k,.int .i64 p.1.2.1.n,.string p.1.2.1.t,.slice p.1.2.1.LA p.1.2.1.ln p.1.2.1.lc,.slice p.1.2.1.DA p.1.2.1.dn p.1.2.1.dc,.bool p.2.1,.bool p.2.2]
def Ag(w:World)(b off:Nat)(p:PC):Prop:=aS w b off p.1.1/\w.cell? ⟨b,off+5,none⟩=some (.bool p.2)
def qG(w:World)(b off:Nat)(p:PS):Prop:=Ag w b off p.1/\Ag w b (off+6) p.2
def jb(w:World)(b off:Nat)(p:PI):Prop:=aS w b off p.1.1.1/\aS w b (off+5) p.1.2.1/\w.cell? ⟨b,off+10,none⟩=some (.bool p.2.1)/\w.cell? ⟨b,off+11,none⟩=some (.bool p.2.2)
section
variable {w w':World} {b off:Nat}
theorem tS{p:PC}(h:∀(j:Nat) (v:Value),(ki p)[j]?=some v->w.cell? ⟨b,off+j,none⟩=some v):Ag w b off p:=
 ⟨⟨h 0 _ rfl,h 1 _ rfl,h 2 _ rfl,h 3 _ rfl,h 4 _ rfl⟩,h 5 _ rfl⟩
theorem yG{p:PS}(h:∀(j:Nat) (v:Value),(cr p)[j]?=some v->w.cell? ⟨b,off+j,none⟩=some v):qG w b off p:=
 ⟨⟨⟨h 0 _ rfl,h 1 _ rfl,h 2 _ rfl,h 3 _ rfl,h 4 _ rfl⟩,h 5 _ rfl⟩,⟨⟨h 6 _ rfl,h 7 _ rfl,h 8 _ rfl,h 9 _ rfl,h 10 _ rfl⟩,h 11 _ rfl⟩⟩
theorem DM{p:PI}(h:∀(j:Nat) (v:Value),(iz p)[j]?=some v->w.cell? ⟨b,off+j,none⟩=some v):jb w b off p:=
 ⟨⟨h 0 _ rfl,h 1 _ rfl,h 2 _ rfl,h 3 _ rfl,h 4 _ rfl⟩,⟨h 5 _ rfl,h 6 _ rfl,h 7 _ rfl,h 8 _ rfl,h 9 _ rfl⟩,h 10 _ rfl,h 11 _ rfl⟩
theorem Ag.Ig{t:TypeId}{p:PC}(h:aG w b t (tR p)):Ag w b 0 p:=tS fun j v hj=>by rw[Jw,h.cell,<-Kx];exact hj
theorem qG.Ig{t:TypeId}{p:PS}(h:aG w b t (fp p)):qG w b 0 p:=yG fun j v hj=>by rw[Jw,h.cell,<-Kx];exact hj
theorem jb.Ig{t:TypeId}{p:PI}(h:aG w b t (aa p)):jb w b 0 p:=DM fun j v hj=>by rw[Jw,h.cell,<-Kx];exact hj
theorem Ag.keep{p:PC}(h:Ag w b off p)(hb:w'.heap[b]?=w.heap[b]?):Ag w' b off p:=⟨h.1.keep hb,(Kh (w:=w) (a:=⟨b,off+5,none⟩) hb).trans h.2⟩
theorem qG.keep{p:PS}(h:qG w b off p)(hb:w'.heap[b]?=w.heap[b]?):qG w' b off p:=⟨h.1.keep hb,h.2.keep hb⟩
theorem jb.keep{p:PI}(h:jb w b off p)(hb:w'.heap[b]?=w.heap[b]?):jb w' b off p:=
 ⟨h.1.keep hb,h.2.1.keep hb,(Kh (w:=w) (a:=⟨b,off+10,none⟩) hb).trans h.2.2.1,(Kh (w:=w) (a:=⟨b,off+11,none⟩) hb).trans h.2.2.2⟩
end
def Ec(w:World)(p:PC):Prop:=RW w p.1.1 p.1.2
def rz(w:World)(p:PS):Prop:=Ec w p.1/\Ec w p.2
def qe(w:World)(p:PI):Prop:=RW w p.1.1.1 p.1.1.2/\RW w p.1.2.1 p.1.2.2
section
variable {w w':World}
theorem Ec.step{p:PC}(h:Ec w p)(hb:Below w.heap.size w w'):Ec w' p:=RV.step h hb
theorem rz.step{p:PS}(h:rz w p)(hb:Below w.heap.size w w'):rz w' p:=⟨h.1.step hb,h.2.step hb⟩
theorem qe.step{p:PI}(h:qe w p)(hb:Below w.heap.size w w'):qe w' p:=⟨h.1.step hb,h.2.step hb⟩
theorem qe.span{p:PI}(h:qe w p):rz w (gV p):=⟨h.1,h.2⟩
structure SS(w:World)(A:Option Addr)(n c:Nat)(xs:List PS):Prop where
 sr:SR 12 cr w A n c xs
 sz:n*176<=aH
 ok:∀x∈xs,rz w x
structure SI(w:World)(A:Option Addr)(n c:Nat)(xs:List PI):Prop where
 sr:SR 12 iz w A n c xs
 sz:n*168<=aH
 ok:∀x∈xs,qe w x
variable {A:Option Addr} {n c:Nat}
theorem SS.step{xs:List PS}(h:SS w A n c xs)(hb:Below w.heap.size w w'):SS w' A n c xs:=⟨h.sr.step hb,h.sz,fun x hx=>(h.ok x hx).step hb⟩
theorem SI.step{xs:List PI}(h:SI w A n c xs)(hb:Below w.heap.size w w'):SI w' A n c xs:=⟨h.sr.step hb,h.sz,fun x hx=>(h.ok x hx).step hb⟩
theorem SS.at{xs:List PS}(h:SS w A n c xs){i:Nat}{p:PS}(hi:xs[i]?=some p):∃b off,A=some ⟨b,off,none⟩/\b<w.heap.size/\qG w b (off+i*12) p/\rz w p:=by
 have hn:0<n:=by have:=(KF.1 hi).1;have:=h.sr.ln;omega
 obtain⟨b,off,e,hb,hel⟩:=h.sr.el hn;exact⟨b,off,e,hb,yG fun j v hj=>hel i p hi j v hj,h.ok p (Jx hi)⟩
theorem SI.at{xs:List PI}(h:SI w A n c xs){i:Nat}{p:PI}(hi:xs[i]?=some p):∃b off,A=some ⟨b,off,none⟩/\b<w.heap.size/\jb w b (off+i*12) p/\qe w p:=by
 have hn:0<n:=by have:=(KF.1 hi).1;have:=h.sr.ln;omega
 obtain⟨b,off,e,hb,hel⟩:=h.sr.el hn;exact⟨b,off,e,hb,DM fun j v hj=>hel i p hi j v hj,h.ok p (Jx hi)⟩
theorem SS.Ik{base:Nat}{t:TypeId}{v:Value}{xs:List PS}(h:w.ownsRow base t 12 v n (aO cr xs))(hl:xs.length=n)(hz:n*176<=aH)(hr:∀p∈xs,rz w p):∃A c,v=.slice A n c/\SS w A n c xs:=by
 obtain⟨A,c,rfl,hs⟩:=SR.Ik dU h hl;exact⟨A,c,rfl,hs,hz,hr⟩
theorem SI.Ik{base:Nat}{t:TypeId}{v:Value}{xs:List PI}(h:w.ownsRow base t 12 v n (aO iz xs))(hl:xs.length=n)(hz:n*168<=aH)(hr:∀p∈xs,qe w p):∃A c,v=.slice A n c/\SI w A n c xs:=by
 obtain⟨A,c,rfl,hs⟩:=SR.Ik iQ h hl;exact⟨A,c,rfl,hs,hz,hr⟩
end
theorem jB:(Tryz.prog.info? 167).map (fun i=>(i.zero,i.size,i.bytes))=some (some (tQ (((VC.zero,aC.zero),false),((VC.zero,aC.zero),false))),12,176):=by kernel_rfl
theorem lL:(Tryz.prog.info? 85).map (fun i=>(i.zero,i.size,i.bytes))=some (some (jf (((VC.zero,aC.zero),(VC.zero,aC.zero)),(false,false))),12,168):=by kernel_rfl
end
end Go.Proofs.YtgfoliedmhgpnaaGreatDoor
