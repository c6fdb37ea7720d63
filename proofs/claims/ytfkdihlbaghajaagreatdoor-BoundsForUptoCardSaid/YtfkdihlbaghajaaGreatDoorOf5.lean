/- Parts of the proof, joined: LfCheck, LfForm, ValTake, LfForm2, SortPure, IvRec. -/
import Derived.Test.YtfkdihlbaghajaaGreatDoorOf1
import Derived.Test.YtfkdihlbaghajaaGreatDoorOf3
import Derived.Test.YtfkdihlbaghajaaGreatDoorOf4
import Derived.Test.YtfkdihlbaghajaaGreatDoorOf2
set_option maxRecDepth 100000
set_option maxHeartbeats 16000000
set_option linter.unusedSimpArgs false
namespace Go.Proofs.YtfkdihlbaghajaaGreatDoor
open Go.RowKit
theorem pClean_any{op:Int}{p:PrT}(h:Lf op p)(ho:Two op)(w:World):Calls Tryz.prog 276 #[aggPr p] w fun e w'=>e=.returned (.bool true)∧Below w.heap.size w w':=by
 have B0:Hid (Blk (w.alloc (.cells (arrPr p) 41)) w.heap.size 41 (arrPr p)):=Blk.new_at rfl
 have BE:=qD ((Below.refl w.heap.size w).alloc (qL) (Obj.cells (arrPr p) 41))
 have HZ:=qD fun w=>pZeroExpr_any h w
 go_enter Tryz.func276,Tryz.ntmps276
 go_upto_region 2 with fail
 change Code.wp _ _ _ _ (w.alloc (.cells (arrPr p) 41))
 generalize w.alloc (.cells (arrPr p) 41)=wa at*
 obtain⟨d0,d1,_,_,d7,d8,d9,_⟩:=pr_cells B0.out
 have c10:=(B0.out.cell 10).trans (show _=some (Value.int .i64 p.sk) from rfl)
 have c11:=(B0.out.cell 11).trans (show _=some (Value.slice p.pts.A p.pts.n p.pts.c) from rfl)
 have c12:=(B0.out.cell 12).trans (show _=some (Value.int .i64 p.sr) from rfl)
 have RX:=qD (range_pex B0.out)
 rw[h.op_] at d0
 rw[h.argn] at d7
 rw[h.n0] at d8
 rw[h.m0] at d9
 rw[h.sk] at c10
 rw[h.pn] at c11
 rw[h.sr] at c12
 clear h
 have t2:Two 2:=.inl rfl
 have t5:Two 5:=.inr rfl
 have T2:=qD t2
 have T5:=qD t5
 clear t2 t5
 rcases ho with rfl|rfl
 ·go_wp2_with (first
   | ((with_reducible show wpList _ _ _ (⟨_,.load 38 _,_,_,_,_⟩::_) _ _);refine wpList_mid_w rfl 38 _ rfl w.heap.size 13 rfl _ _ RX.out Tryz.underlying38 rfl (by kernel_rfl) ?_)
   | (go_at_call 211;refine(pOnPath_any T2.out _).mono ?_;rintro e w1 ⟨rfl,rfl⟩)
   | (go_at_call 273;refine(pUsesArg_any T2.out _).mono ?_;rintro e w1 ⟨rfl,rfl⟩)
   | (go_at_call 270;refine(pUsesArgs_any T2.out _).mono ?_;rintro e w1 ⟨rfl,rfl⟩)
   | (go_at_call 294;refine(pUsesN_any T2.out _).mono ?_;rintro e w1 ⟨rfl,rfl⟩))
  refine(HZ.out _).mono ?_
  rintro e w1 ⟨rfl,hb⟩
  have CE:=qD (BE.out.step' hb)
  clear hb d0 d1 d7 d8 d9 c10 c11 c12
  go_wp2_with fail
  go_ret
  exact⟨rfl,CE.out⟩
 ·go_wp2_with (first
   | ((with_reducible show wpList _ _ _ (⟨_,.load 38 _,_,_,_,_⟩::_) _ _);refine wpList_mid_w rfl 38 _ rfl w.heap.size 13 rfl _ _ RX.out Tryz.underlying38 rfl (by kernel_rfl) ?_)
   | (go_at_call 211;refine(pOnPath_any T5.out _).mono ?_;rintro e w1 ⟨rfl,rfl⟩)
   | (go_at_call 273;refine(pUsesArg_any T5.out _).mono ?_;rintro e w1 ⟨rfl,rfl⟩)
   | (go_at_call 270;refine(pUsesArgs_any T5.out _).mono ?_;rintro e w1 ⟨rfl,rfl⟩)
   | (go_at_call 294;refine(pUsesN_any T5.out _).mono ?_;rintro e w1 ⟨rfl,rfl⟩))
  refine(HZ.out _).mono ?_
  rintro e w1 ⟨rfl,hb⟩
  have CE:=qD (BE.out.step' hb)
  clear hb d0 d1 d7 d8 d9 c10 c11 c12
  go_wp2_with fail
  go_ret
  exact⟨rfl,CE.out⟩
theorem valid_one:validV (.mk 3 1 ByteArray.empty [] [])=true:=by
 refine validV_of ?_ ?_ ?_
 ·rw[size_parts];unfold Val.parts;rw[if_neg (by show ¬(3:Int)=6;omega),if_neg (by show ¬(3:Int)=5;omega)];simp[sizeL]
 ·rw[height_parts];unfold Val.parts;rw[if_neg (by show ¬(3:Int)=6;omega),if_neg (by show ¬(3:Int)=5;omega)];simp[heightL]
 ·exact(SoundV_iff _ _).2 ⟨by simp[HeadP,Val.k,Val.n,Val.t,Val.l,Val.d],by simp[Val.l],by simp[Val.d],by simp[Val.d,NamesP]⟩
abbrev cOne:VC:=⟨3,1,ByteArray.empty,none,0,0,none,0,0⟩
theorem rw_one(w:World):RW w cOne (.mk 3 1 ByteArray.empty [] []):=RVs.shut ⟨rfl,rfl,rfl,by show ByteArray.empty.size≤reach;decide,rfl,qL,by show 0*80≤reach;decide,fun h=>absurd h (by show ¬0<0;omega),rfl,qL,by show 0*96≤reach;decide,fun h=>absurd h (by show ¬0<0;omega)⟩
theorem valid1_any(w:World)(hT:Tabs w):Calls Tryz.prog 105 #[.agg #[.int .i64 3,.int .i64 1,.string ByteArray.empty,.slice none 0 0,.slice none 0 0]] w fun e w'=>e=.returned (.bool true)∧Below w.heap.size w w':=by
 have:=valid_any (.mk 3 1 ByteArray.empty [] []) cOne w hT (rw_one w)
 rw[valid_one] at this
 exact this
theorem pathB_one:pathB [(⟨#[97]⟩:ByteArray)]=true:=by kernel_rfl
theorem pNode_any{op:Int}{p:PrT}(h:Lf op p)(ho:Two op)(w:World)(hT:Tabs w)(hl:ST w p.path.A p.path.n p.path.c p.path.xs):
 Calls Tryz.prog 245 #[aggPr p,.bool false] w fun e w'=>e=.returned (.int .i64 0)∧Below w.heap.size w w':=by
 have HT:=qD hT
 have B0:Hid (Blk (w.alloc (.cells (arrPr p) 41)) w.heap.size 41 (arrPr p)):=Blk.new_at rfl
 have BE:=qD ((Below.refl w.heap.size w).alloc (qL) (Obj.cells (arrPr p) 41))
 have HC:=qD fun w=>pClean_any h ho w
 have HR:=qD fun w=>pInRange_any h ho w
 have HP:Hid (∀wr,Below w.heap.size w wr→Calls Tryz.prog 272 #[.slice p.path.A p.path.n p.path.c] wr fun e w'=>e=.returned (.bool true)∧w'=wr):=qD fun wr hb=>by
  have:=path_any p.path.xs _ _ _ wr (hl.step hb)
  rw[h.xs,pathB_one] at this
  exact this
 clear hT hl
 have t2:Two 2:=.inl rfl
 have t5:Two 5:=.inr rfl
 have T2:=qD t2
 have T5:=qD t5
 clear t2 t5
 go_enter Tryz.func245,Tryz.ntmps245
 go_upto_region 1 with fail
 change Code.wp _ _ _ _ (w.alloc (.cells (arrPr p) 41))
 generalize w.alloc (.cells (arrPr p) 41)=wa at*
 have d0:=(pr_cells B0.out).d0
 have d1:=(pr_cells B0.out).d1
 have d24:=(pr_cells B0.out).d24
 have c2:=(B0.out.cell 2).trans (show _=some (Value.int .i64 p.arg.1.k) from rfl)
 have c3:=(B0.out.cell 3).trans (show _=some (Value.int .i64 p.arg.1.n) from rfl)
 have c4:=(B0.out.cell 4).trans (show _=some (Value.string p.arg.1.t) from rfl)
 have c5:=(B0.out.cell 5).trans (show _=some (Value.slice p.arg.1.LA p.arg.1.ln p.arg.1.lc) from rfl)
 have c6:=(B0.out.cell 6).trans (show _=some (Value.slice p.arg.1.DA p.arg.1.dn p.arg.1.dc) from rfl)
 rw[h.op_] at d0
 rw[h.kn] at d24
 rw[h.arg] at c2 c3 c4 c5 c6
 simp only at c2 c3 c4 c5 c6
 clear h
 have RF:=qD (pr_full B0.out)
 rcases ho with rfl|rfl
 ·go_upto_region 3 with(first
   | (go_at_call 269;refine(pHasKids_any T2.out _).mono ?_;rintro e w1 ⟨rfl,rfl⟩))
  go_upto_region 5 with(first
   | ((with_reducible show wpList _ _ _ (⟨_,.load 41 _,_,_,_,_⟩::_) _ _);refine wpList_mid_w rfl 41 _ rfl w.heap.size 0 rfl _ _ RF.out Tryz.underlying41 rfl (by kernel_rfl) ?_)
   | (go_at_call 270;refine(pUsesArgs_any T2.out _).mono ?_;rintro e w1 ⟨rfl,rfl⟩)
   | (go_at_call 271;refine(HR.out _).mono ?_;rintro e w1 ⟨rfl,hb1⟩))
  have CE:=qD (BE.out.step' hb1)
  have C0:=qD (B0.out.step hb1)
  replace d0:=(hb1.cell (p:=⟨w.heap.size,0,none⟩) B0.out.lt).trans d0
  replace d1:=(hb1.cell (p:=⟨w.heap.size,1,none⟩) B0.out.lt).trans d1
  replace c2:=(hb1.cell (p:=⟨w.heap.size,2,none⟩) B0.out.lt).trans c2
  replace c3:=(hb1.cell (p:=⟨w.heap.size,3,none⟩) B0.out.lt).trans c3
  replace c4:=(hb1.cell (p:=⟨w.heap.size,4,none⟩) B0.out.lt).trans c4
  replace c5:=(hb1.cell (p:=⟨w.heap.size,5,none⟩) B0.out.lt).trans c5
  replace c6:=(hb1.cell (p:=⟨w.heap.size,6,none⟩) B0.out.lt).trans c6
  clear hb1 d24 B0 BE RF HR
  go_upto_region 7 with(first
   | (go_at_call 211;refine(pOnPath_any T2.out _).mono ?_;rintro e w2 ⟨rfl,rfl⟩)
   | (go_at_call 272;refine(HP.out _ CE.out).mono ?_;rintro e w2 ⟨rfl,rfl⟩))
  go_upto_region 9 with(first
   | (go_at_call 273;refine(pUsesArg_any T2.out _).mono ?_;rintro e w2 ⟨rfl,rfl⟩)
   | (go_at_call 274;refine(pOfTexts_any T2.out _).mono ?_;rintro e w2 ⟨rfl,rfl⟩)
   | (go_at_call 105;refine(valid1_any _ (HT.out.step CE.out)).mono ?_;rintro e w2 ⟨rfl,hb2⟩;replace d0:=(hb2.cell (p:=⟨w.heap.size,0,none⟩) C0.out.lt).trans d0;have DE:=qD (CE.out.step' hb2);have D0:=qD (C0.out.step hb2);clear hb2))
  clear CE C0 c2 c3 c4 c5 c6 d1 HP
  have RF:=qD (pr_full D0.out)
  go_wp2_with (first
   | ((with_reducible show wpList _ _ _ (⟨_,.load 41 _,_,_,_,_⟩::_) _ _);refine wpList_mid_w rfl 41 _ rfl w.heap.size 0 rfl _ _ RF.out Tryz.underlying41 rfl (by kernel_rfl) ?_)
   | (go_at_call 270;refine(pUsesArgs_any T2.out _).mono ?_;rintro e w3 ⟨rfl,rfl⟩)
   | (go_at_call 276;refine(HC.out _).mono ?_;rintro e w3 ⟨rfl,hb3⟩;replace d0:=(hb3.cell (p:=⟨w.heap.size,0,none⟩) D0.out.lt).trans d0;have EE:=qD (DE.out.step' hb3);clear hb3))
  go_ret
  exact⟨rfl,EE.out⟩
 ·go_upto_region 3 with(first
   | (go_at_call 269;refine(pHasKids_any T5.out _).mono ?_;rintro e w1 ⟨rfl,rfl⟩))
  go_upto_region 5 with(first
   | ((with_reducible show wpList _ _ _ (⟨_,.load 41 _,_,_,_,_⟩::_) _ _);refine wpList_mid_w rfl 41 _ rfl w.heap.size 0 rfl _ _ RF.out Tryz.underlying41 rfl (by kernel_rfl) ?_)
   | (go_at_call 270;refine(pUsesArgs_any T5.out _).mono ?_;rintro e w1 ⟨rfl,rfl⟩)
   | (go_at_call 271;refine(HR.out _).mono ?_;rintro e w1 ⟨rfl,hb1⟩))
  have CE:=qD (BE.out.step' hb1)
  have C0:=qD (B0.out.step hb1)
  replace d0:=(hb1.cell (p:=⟨w.heap.size,0,none⟩) B0.out.lt).trans d0
  replace d1:=(hb1.cell (p:=⟨w.heap.size,1,none⟩) B0.out.lt).trans d1
  replace c2:=(hb1.cell (p:=⟨w.heap.size,2,none⟩) B0.out.lt).trans c2
  replace c3:=(hb1.cell (p:=⟨w.heap.size,3,none⟩) B0.out.lt).trans c3
  replace c4:=(hb1.cell (p:=⟨w.heap.size,4,none⟩) B0.out.lt).trans c4
  replace c5:=(hb1.cell (p:=⟨w.heap.size,5,none⟩) B0.out.lt).trans c5
  replace c6:=(hb1.cell (p:=⟨w.heap.size,6,none⟩) B0.out.lt).trans c6
  clear hb1 d24 B0 BE RF HR
  go_upto_region 7 with(first
   | (go_at_call 211;refine(pOnPath_any T5.out _).mono ?_;rintro e w2 ⟨rfl,rfl⟩)
   | (go_at_call 272;refine(HP.out _ CE.out).mono ?_;rintro e w2 ⟨rfl,rfl⟩))
  go_upto_region 9 with(first
   | (go_at_call 273;refine(pUsesArg_any T5.out _).mono ?_;rintro e w2 ⟨rfl,rfl⟩)
   | (go_at_call 274;refine(pOfTexts_any T5.out _).mono ?_;rintro e w2 ⟨rfl,rfl⟩)
   | (go_at_call 105;refine(valid1_any _ (HT.out.step CE.out)).mono ?_;rintro e w2 ⟨rfl,hb2⟩;replace d0:=(hb2.cell (p:=⟨w.heap.size,0,none⟩) C0.out.lt).trans d0;have DE:=qD (CE.out.step' hb2);have D0:=qD (C0.out.step hb2);clear hb2))
  clear CE C0 c2 c3 c4 c5 c6 d1 HP
  have RF:=qD (pr_full D0.out)
  go_wp2_with (first
   | ((with_reducible show wpList _ _ _ (⟨_,.load 41 _,_,_,_,_⟩::_) _ _);refine wpList_mid_w rfl 41 _ rfl w.heap.size 0 rfl _ _ RF.out Tryz.underlying41 rfl (by kernel_rfl) ?_)
   | (go_at_call 270;refine(pUsesArgs_any T5.out _).mono ?_;rintro e w3 ⟨rfl,rfl⟩)
   | (go_at_call 276;refine(HC.out _).mono ?_;rintro e w3 ⟨rfl,hb3⟩;replace d0:=(hb3.cell (p:=⟨w.heap.size,0,none⟩) D0.out.lt).trans d0;have EE:=qD (DE.out.step' hb3);clear hb3))
  go_ret
  exact⟨rfl,EE.out⟩
theorem pCheck_any{op:Int}{p:PrT}(h:Lf op p)(ho:Two op)(w:World)(hT:Tabs w)(hl:ST w p.path.A p.path.n p.path.c p.path.xs):
 Calls Tryz.prog 204 #[aggPr p,.bool false] w fun e w'=>e=.returned (.int .i64 0)∧Below w.heap.size w w':=by
 have B0:Hid (Blk (w.alloc (.cells (arrPr p) 41)) w.heap.size 41 (arrPr p)):=Blk.new_at rfl
 have BE:=qD ((Below.refl w.heap.size w).alloc (qL) (Obj.cells (arrPr p) 41))
 have HN:=qD (pNode_any h ho _ (hT.step BE.out) (hl.step BE.out))
 have HKN:=qD h.kn
 clear hT hl h ho
 go_enter Tryz.func204,Tryz.ntmps204
 go_upto_region 1 with fail
 change Code.wp _ _ _ _ (w.alloc (.cells (arrPr p) 41))
 generalize w.alloc (.cells (arrPr p) 41)=wa at*
 have RF:=qD (pr_full B0.out)
 go_upto_region 4 with(first
  | ((with_reducible show wpList _ _ _ (⟨_,.load 41 _,_,_,_,_⟩::_) _ _);refine wpList_mid_w rfl 41 _ rfl w.heap.size 0 rfl _ _ RF.out Tryz.underlying41 rfl (by kernel_rfl) ?_)
  | (go_at_call 245;refine HN.out.mono ?_;rintro e w1 ⟨rfl,hb1⟩))
 have CE:=qD (BE.out.step' hb1)
 have d24:=(hb1.cell (p:=⟨w.heap.size,24,none⟩) B0.out.lt).trans (pr_cells B0.out).d24
 rw[HKN.out] at d24
 clear hb1 HN RF B0 BE
 go_upto_region 5 with fail
 go_loopw [18] (fun v wr=>v=.int .i64 0∧wr=w1) (fun _ _=>0)
 case atStart=>exact⟨rfl,rfl⟩
 case round=>
  obtain⟨rfl,rfl⟩:=hrel
  go_wp2_with fail
  go_ret
  exact⟨rfl,CE.out⟩
theorem pFits_any{op:Int}{p:PrT}(h:Lf op p)(g:Nat)(w:World)(hg:Blk w g 3 #[.int .i64 0])(B:Nat)(hB:B≤g):
 Calls Tryz.prog 203 #[aggPr p,.int .i64 1,.pointer (some ⟨g,0,none⟩)] w fun e w'=>e=.returned (.bool true)∧Below B w w':=by
 have hgl:=hg.lt
 have B0:Hid (Blk (w.alloc (.cells (arrPr p) 41)) w.heap.size 41 (arrPr p)):=Blk.new_at rfl
 have G0:=qD (hg.alloc (.cells (arrPr p) 41))
 have BE:=qD ((Below.refl B w).alloc (by omega) (Obj.cells (arrPr p) 41))
 have HKN:=qD h.kn
 clear h hg
 go_enter Tryz.func203,Tryz.ntmps203
 go_upto_region 1 with fail
 change Code.wp _ _ _ _ (w.alloc (.cells (arrPr p) 41))
 generalize w.alloc (.cells (arrPr p) 41)=wa at*
 have e0:=G0.out.cell 0
 simp at e0
 have gz:=G0.out.frozen 0
 go_upto_region 4 with fail
 have d24:=(B0.out.far (p:=⟨g,0,none⟩) (by show w.heap.size≠g;omega) (.int .i64 1)).cell 24
 have CE:Hid (Below B w (wa.setCell ⟨g,0,none⟩ (.int .i64 1))):=qD (BE.out.setCell hB _)
 change Code.wp _ _ _ _ (wa.setCell ⟨g,0,none⟩ (.int .i64 1))
 generalize wa.setCell ⟨g,0,none⟩ (.int .i64 1)=wb at*
 replace d24:=d24.trans (show _=some (Value.slice p.kA p.kn p.kc) from rfl)
 rw[HKN.out] at d24
 clear e0 gz G0 B0 BE
 go_upto_region 5 with fail
 go_loopw [25] (fun v wr=>v=.int .i64 0∧wr=wb) (fun _ _=>0)
 case atStart=>exact⟨rfl,rfl⟩
 case round=>
  obtain⟨rfl,rfl⟩:=hrel
  go_wp2_with fail
  go_ret
  exact⟨rfl,CE.out⟩
theorem pValid_any{op:Int}{p:PrT}(h:Lf op p)(ho:Two op)(w:World)(hT:Tabs w)(hl:ST w p.path.A p.path.n p.path.c p.path.xs):
 Calls Tryz.prog 164 #[aggPr p] w fun e w'=>e=.returned (.int .i64 0)∧Below w.heap.size w w':=by
 have B0:Hid (Blk ((w.alloc (.cells (arrPr p) 41)).alloc (.cells #[.int .i64 0] 3)) w.heap.size 41 (arrPr p)):=(Blk.new_at rfl).alloc _
 have G0:Hid (Blk ((w.alloc (.cells (arrPr p) 41)).alloc (.cells #[.int .i64 0] 3)) (w.heap.size+1) 3 #[.int .i64 0]):=Blk.new_at (by simp)
 have BE:Hid (Below w.heap.size w ((w.alloc (.cells (arrPr p) 41)).alloc (.cells #[.int .i64 0] 3))):=((Below.refl _ _).alloc (qL) _).alloc (by simp) _
 have HF:=qD fun w hg=>pFits_any h (w.heap.size+1) w hg
 have HT:=qD hT
 have HL:=qD hl
 have H:=qD h
 have HO:=qD ho
 clear hT hl h ho HF
 go_enter Tryz.func164,Tryz.ntmps164
 go_upto_region 2 with fail
 change Code.wp _ _ _ _ ((w.alloc (.cells (arrPr p) 41)).alloc (.cells #[.int .i64 0] 3))
 generalize (w.alloc (.cells (arrPr p) 41)).alloc (.cells #[.int .i64 0] 3)=wa at*
 have RF:=qD (pr_full B0.out)
 go_upto_region 4 with(first
  | ((with_reducible show wpList _ _ _ (⟨_,.load 41 _,_,_,_,_⟩::_) _ _);refine wpList_mid_w rfl 41 _ rfl w.heap.size 0 rfl _ _ RF.out Tryz.underlying41 rfl (by kernel_rfl) ?_)
  | (go_at_call 203;refine(pFits_any H.out (w.heap.size+1) _ G0.out (w.heap.size+1) (qL)).mono ?_;rintro e w1 ⟨rfl,hb1⟩))
 have C0:=qD (B0.out.below hb1 (Nat.lt_succ_self _))
 have CE:Hid (Below w.heap.size w w1):=qD (BE.out.trans (hb1.mono (Nat.le_succ _)))
 clear hb1 RF B0 G0 BE
 have RF:=qD (pr_full C0.out)
 go_wp2_with (first
  | ((with_reducible show wpList _ _ _ (⟨_,.load 41 _,_,_,_,_⟩::_) _ _);refine wpList_mid_w rfl 41 _ rfl w.heap.size 0 rfl _ _ RF.out Tryz.underlying41 rfl (by kernel_rfl) ?_)
  | (go_at_call 204;refine(pCheck_any H.out HO.out _ (HT.out.step CE.out) (HL.out.step CE.out)).mono ?_;rintro e w2 ⟨rfl,hb2⟩))
 have DE:=qD (CE.out.step' hb2)
 clear hb2
 go_wp2_with fail
 go_ret
 exact⟨rfl,DE.out⟩
theorem pCloneNil_any(A:Option Addr)(c:Nat)(w:World):Calls Tryz.prog 207 #[.slice A 0 c] w fun e w'=>e=.returned (.slice none 0 0)∧w'=w:=by
 go_enter Tryz.func207,Tryz.ntmps207
 go_upto_region 3 with fail
 go_loopw [3,8] (fun v3 v wr=>v3=.slice none 0 0∧v=.int .i64 0∧wr=w) (fun _ _ _=>0)
 case atStart=>exact⟨rfl,rfl,rfl⟩
 case round=>
  obtain⟨rfl,rfl,rfl⟩:=hrel
  go_wp2_with fail
  go_ret
  exact⟨rfl,rfl⟩
abbrev vcN(k n:Int):VC:=⟨k,n,ByteArray.empty,none,0,0,none,0,0⟩
theorem pClone_any(k n:Int)(w:World):Calls Tryz.prog 206 #[.agg #[.int .i64 k,.int .i64 n,.string ByteArray.empty,.slice none 0 0,.slice none 0 0]] w fun e w'=>e=.returned (.agg #[.int .i64 k,.int .i64 n,.string ByteArray.empty,.slice none 0 0,.slice none 0 0])∧Below w.heap.size w w':=by
 have B0:Hid (Blk ((w.alloc (.cells (vcN k n).arr 32)).alloc (.cells VC.zero.arr 32)) w.heap.size 32 (vcN k n).arr):=(Blk.new_at rfl).alloc _
 have B1:Hid (Blk ((w.alloc (.cells (vcN k n).arr 32)).alloc (.cells VC.zero.arr 32)) (w.heap.size+1) 32 VC.zero.arr):=Blk.new_at (by simp)
 have BE:Hid (Below w.heap.size w ((w.alloc (.cells (vcN k n).arr 32)).alloc (.cells VC.zero.arr 32))):=((Below.refl _ _).alloc (qL) _).alloc (by simp) _
 go_enter Tryz.func206,Tryz.ntmps206
 go_upto_region 1 with fail
 change Code.wp _ _ _ _ ((w.alloc (.cells (vcN k n).arr 32)).alloc (.cells VC.zero.arr 32))
 generalize (w.alloc (.cells (vcN k n).arr 32)).alloc (.cells VC.zero.arr 32)=wa at*
 obtain⟨a0,a1,a2,a3,a4⟩:=VAt.of_blk B0.out
 simp only[Nat.zero_add] at a0 a1 a2 a3 a4
 have B:=qD ((Below.refl wa.heap.size wa).drewN 1)
 have KS:Hid (∀w',Below wa.heap.size wa w'→(fun w'=>w'.cell? ⟨w.heap.size,0,none⟩=some (.int .i64 k)∧w'.cell? ⟨w.heap.size,1,none⟩=some (.int .i64 n)∧w'.cell? ⟨w.heap.size,2,none⟩=some (.string ByteArray.empty)∧w'.cell? ⟨w.heap.size,3,none⟩=some (.slice none 0 0)) w'):=qD fun w' hb=>⟨(hb.cell (p:=⟨w.heap.size,0,none⟩) B0.out.lt).trans a0,(hb.cell (p:=⟨w.heap.size,1,none⟩) B0.out.lt).trans a1,(hb.cell (p:=⟨w.heap.size,2,none⟩) B0.out.lt).trans a2,(hb.cell (p:=⟨w.heap.size,3,none⟩) B0.out.lt).trans a3⟩
 clear a0 a1 a2 a3 a4
 go_region_held3 (fun w'=>w'.cell? ⟨w.heap.size,0,none⟩=some (.int .i64 k)∧w'.cell? ⟨w.heap.size,1,none⟩=some (.int .i64 n)∧w'.cell? ⟨w.heap.size,2,none⟩=some (.string ByteArray.empty)∧w'.cell? ⟨w.heap.size,3,none⟩=some (.slice none 0 0))
  (first|exact KS.out _ B.out|exact KS.out _ (B.out.alloc B.out.size _)|((try dsimp only);assumption)|go_keep)
  (first
    | (go_at_call 207;refine(pCloneNil_any _ _ _).mono ?_;rintro e3 w3 ⟨rfl,rfl⟩))
 all_goals
  change Exit.then _ _ _ _ ((wa.alloc (.cells (vcN k n).arr 32)).drew)
  have C0:Hid (Blk ((wa.alloc (.cells (vcN k n).arr 32)).drew) w.heap.size 32 (vcN k n).arr):=(B0.out.alloc _).step ((Below.refl _ _).drew)
  have C1:Hid (Blk ((wa.alloc (.cells (vcN k n).arr 32)).drew) (w.heap.size+1) 32 VC.zero.arr):=(B1.out.alloc _).step ((Below.refl _ _).drew)
  have C3:Hid (Blk ((wa.alloc (.cells (vcN k n).arr 32)).drew) wa.heap.size 32 (vcN k n).arr):=(Blk.new_at rfl:Blk (wa.alloc (.cells (vcN k n).arr 32)) wa.heap.size 32 (vcN k n).arr).step ((Below.refl _ _).drew)
  have CE:Hid (Below w.heap.size w ((wa.alloc (.cells (vcN k n).arr 32)).drew)):=(BE.out.alloc BE.out.size _).drew
  generalize (wa.alloc (.cells (vcN k n).arr 32)).drew=wb at*
  generalize wa.heap.size=g3 at*
  clear B KS B0 B1 BE
  obtain⟨c0,c1,c2,c3,c4⟩:=VAt.of_blk C3.out
  simp only[Nat.zero_add] at c0 c1 c2 c3 c4
  obtain⟨b0,b1,b2,b3,b4⟩:=VAt.of_blk C1.out
  simp only[Nat.zero_add] at b0 b1 b2 b3 b4
  have z:=C1.out.frozen
  have d4:=(VAt.of_blk C0.out).2.2.2.2
  simp only[Nat.zero_add] at d4
  go_wp2_with fail
  go_loopw [19] (fun v wr=>v=.int .i64 0∧wr=wb) (fun _ _=>0)
  case atStart=>exact⟨rfl,rfl⟩
  case round=>
   obtain⟨rfl,rfl⟩:=hrel
   go_wp2_with fail
   have q:=VAt.of_blk (C1.out.putV ⟨k,n,ByteArray.empty,none,0,0,none,0,0⟩)
   have bb:=below_setV CE.out (show w.heap.size≤w.heap.size+1 by omega) 0 ⟨k,n,ByteArray.empty,none,0,0,none,0,0⟩
   change bodyPost _ _ _ _ _ (setV wr (w.heap.size+1) 0 ⟨k,n,ByteArray.empty,none,0,0,none,0,0⟩)
   generalize setV wr (w.heap.size+1) 0 ⟨k,n,ByteArray.empty,none,0,0,none,0,0⟩=wz at*
   exact bodyPost_ret (results_val rfl _ _ _ rfl _ ⟨k,n,ByteArray.empty,none,0,0,none,0,0⟩ q) rfl ⟨rfl,bb⟩
abbrev vcS(g:Nat):VC:=⟨5,0,ByteArray.empty,none,0,0,some ⟨g,0,none⟩,1,1⟩
theorem pSingle_any(s:ByteArray)(c:VC)(w:World):Calls Tryz.prog 214 #[.string s,c.val] w fun e w'=>∃g,e=.returned (vcS g).val∧Below w.heap.size w w':=by
 obtain⟨ck,cn,ct,cLA,cln,clc,cDA,cdn,cdc⟩:=c
 go_enter Tryz.func214,Tryz.ntmps214
 go_wp2_with fail
 have B:Below w.heap.size w (((w.alloc (.cells #[.int .i64 ck,.int .i64 cn,.string ct,.slice cLA cln clc,.slice cDA cdn cdc] 32)).alloc (.cells (vcS (w.heap.size+1+1)).arr 32)).alloc (.cells #[.string s,.int .i64 ck,.int .i64 cn,.string ct,.slice cLA cln clc,.slice cDA cdn cdc] 120)):=(((Below.refl _ _).alloc (qL) _).alloc (by simp) _).alloc (by simp;omega) _
 have q:VAt (((w.alloc (.cells #[.int .i64 ck,.int .i64 cn,.string ct,.slice cLA cln clc,.slice cDA cdn cdc] 32)).alloc (.cells (vcS (w.heap.size+1+1)).arr 32)).alloc (.cells #[.string s,.int .i64 ck,.int .i64 cn,.string ct,.slice cLA cln clc,.slice cDA cdn cdc] 120)) (w.heap.size+1) 0 (vcS (w.heap.size+1+1)):=VAt.of_blk ((Blk.new_at (by simp)).alloc _)
 exact bodyPost_ret (results_val rfl _ _ _ rfl _ (vcS (w.heap.size+1+1)) q) rfl ⟨_,rfl,B⟩
theorem pJoin_any(b off c:Nat)(s:ByteArray)(w:World)(h:w.cell? ⟨b,off,none⟩=some (.string s))(t:ByteArray):Calls Tryz.prog 266 #[.slice (some ⟨b,off,none⟩) 1 c,.string t] w fun e w'=>e=.returned (.string s)∧w'=w:=by
 go_enter Tryz.func266,Tryz.ntmps266
 go_wp2_with fail
 go_ret
 exact⟨rfl,rfl⟩
theorem pText_any(b off c:Nat)(s:ByteArray)(w:World)(h:w.cell? ⟨b,off,none⟩=some (.string s)):Calls Tryz.prog 241 #[.slice (some ⟨b,off,none⟩) 1 c] w fun e w'=>e=.returned (.string s)∧w'=w:=by
 go_enter Tryz.func241,Tryz.ntmps241
 go_wp2_with (go_at_call 266;refine(pJoin_any b off c s _ h _).mono ?_;rintro e w1 ⟨rfl,rfl⟩)
 go_ret
 exact⟨rfl,rfl⟩
theorem pAt_any(b off c:Nat)(s:ByteArray)(k:Nat)(w:World)(h:w.cell? ⟨b,off,none⟩=some (.string s)):Calls Tryz.prog 213 #[.slice (some ⟨b,off,none⟩) 1 c,(vcS k).val] w fun e w'=>∃g,e=.returned (vcS g).val∧Below w.heap.size w w':=by
 have hb0:b<w.heap.size:=World.block_lt_of_cell? w _ h
 have B0:Hid (Blk ((w.alloc (.cells (vcS k).arr 32)).alloc (.cells VC.zero.arr 32)) w.heap.size 32 (vcS k).arr):=(Blk.new_at rfl).alloc _
 have B1:Hid (Blk ((w.alloc (.cells (vcS k).arr 32)).alloc (.cells VC.zero.arr 32)) (w.heap.size+1) 32 VC.zero.arr):=Blk.new_at (by simp)
 have BE:Hid (Below w.heap.size w ((w.alloc (.cells (vcS k).arr 32)).alloc (.cells VC.zero.arr 32))):=((Below.refl _ _).alloc (qL) _).alloc (by simp) _
 go_enter Tryz.func213,Tryz.ntmps213
 go_upto_region 3 with fail
 change Code.wp _ _ _ _ ((w.alloc (.cells (vcS k).arr 32)).alloc (.cells VC.zero.arr 32))
 generalize (w.alloc (.cells (vcS k).arr 32)).alloc (.cells VC.zero.arr 32)=wa at*
 have H:=(BE.out.cell (p:=⟨b,off,none⟩) hb0).trans h
 have hba:b<wa.heap.size:=Nat.lt_of_lt_of_le hb0 BE.out.size
 obtain⟨a0,a1,a2,a3,a4⟩:=VAt.of_blk B0.out
 simp only[Nat.zero_add] at a0 a1 a2 a3 a4
 have B:=qD ((Below.refl wa.heap.size wa).drewN 1)
 have KS:Hid (∀w',Below wa.heap.size wa w'→(fun w'=>w'.cell? ⟨w.heap.size,0,none⟩=some (.int .i64 5)∧w'.cell? ⟨w.heap.size,1,none⟩=some (.int .i64 0)∧w'.cell? ⟨w.heap.size,2,none⟩=some (.string ByteArray.empty)∧w'.cell? ⟨w.heap.size,3,none⟩=some (.slice none 0 0)∧w'.cell? ⟨w.heap.size,4,none⟩=some (.slice (some ⟨k,0,none⟩) 1 1)) w'):=qD fun w' hb=>⟨(hb.cell (p:=⟨w.heap.size,0,none⟩) B0.out.lt).trans a0,(hb.cell (p:=⟨w.heap.size,1,none⟩) B0.out.lt).trans a1,(hb.cell (p:=⟨w.heap.size,2,none⟩) B0.out.lt).trans a2,(hb.cell (p:=⟨w.heap.size,3,none⟩) B0.out.lt).trans a3,(hb.cell (p:=⟨w.heap.size,4,none⟩) B0.out.lt).trans a4⟩
 clear a0 a1 a2 a3 a4
 go_region_held3 (fun w'=>w'.cell? ⟨w.heap.size,0,none⟩=some (.int .i64 5)∧w'.cell? ⟨w.heap.size,1,none⟩=some (.int .i64 0)∧w'.cell? ⟨w.heap.size,2,none⟩=some (.string ByteArray.empty)∧w'.cell? ⟨w.heap.size,3,none⟩=some (.slice none 0 0)∧w'.cell? ⟨w.heap.size,4,none⟩=some (.slice (some ⟨k,0,none⟩) 1 1))
  (first|exact KS.out _ B.out|((try dsimp only);assumption)|go_keep)
  (first
    | (go_at_call 241;refine(pText_any b off c s _ ((B.out.cell (p:=⟨b,off,none⟩) hba).trans H)).mono ?_;rintro e3 w3 ⟨rfl,rfl⟩)
    | (go_at_call 214;refine(pSingle_any s (vcS k) _).mono ?_;rintro e3 w3 ⟨g3,rfl,hb3⟩;replace B:=qD (B.out.step' hb3);clear hb3;have C1:=qD (B1.out.step B.out);obtain⟨b0,b1,b2,b3,b4⟩:=VAt.of_blk C1.out;simp only[Nat.zero_add] at b0 b1 b2 b3 b4;have z:=C1.out.frozen))
 all_goals
  have q:=VAt.of_blk (C1.out.putV ⟨5,0,ByteArray.empty,none,0,0,some ⟨g3,0,none⟩,1,1⟩)
  have bb:=below_setV (BE.out.step' B.out) (show w.heap.size≤w.heap.size+1 by omega) 0 ⟨5,0,ByteArray.empty,none,0,0,some ⟨g3,0,none⟩,1,1⟩
  change Exit.then _ _ _ _ (setV w3 (w.heap.size+1) 0 ⟨5,0,ByteArray.empty,none,0,0,some ⟨g3,0,none⟩,1,1⟩)
  generalize setV w3 (w.heap.size+1) 0 ⟨5,0,ByteArray.empty,none,0,0,some ⟨g3,0,none⟩,1,1⟩=wz at*
  go_wp2_with fail
  exact bodyPost_ret (results_val rfl _ _ _ rfl _ ⟨5,0,ByteArray.empty,none,0,0,some ⟨g3,0,none⟩,1,1⟩ q) rfl ⟨_,rfl,bb⟩
structure NmT(w:World):Prop where
 n2:w.cell? ⟨0,2,none⟩=some (.string ⟨#[36,101,113]⟩)
 n5:w.cell? ⟨0,5,none⟩=some (.string ⟨#[36,103,101]⟩)
theorem NmT.step{w w':World}(h:NmT w)(hb:Below w.heap.size w w'):NmT w':=
 ⟨(hb.cell (World.block_lt_of_cell? w _ h.n2)).trans h.n2,(hb.cell (World.block_lt_of_cell? w _ h.n5)).trans h.n5⟩
theorem take_at{l rest:List Oper}{i:Nat}{o:Oper}(h:l.drop i=o::rest):l.toArray[i]?=some o:=by
 have:=congrArg List.head? h
 rw[List.head?_drop] at this
 simpa using this
theorem results_vok{fn:Func}{p u:Tmp}(h:fn.results=#[.cell p 32,.tmp u])(tmps:Array Value)(g1:Nat)(h1:tmps[p]?.getD undef=.pointer (some ⟨g1,0,none⟩))(e:Value)(h2:tmps[u]?.getD undef=e)(W:World)(v:VC)(q:VAt W g1 0 v):(results fn tmps).run Tryz.prog W=.ok (.tuple #[v.val,e]) W:=by
 obtain⟨q0,q1,q2,q3,q4⟩:=q
 simp only[Nat.zero_add] at q0 q1 q2 q3 q4
 simp[results,h,h1,h2,asAddr,go_sem,q0,q1,q2,q3,q4]
theorem pArgument_any{op:Int}{p:PrT}(h:Lf op p)(ho:Two op)(w:World):Calls Tryz.prog 212 #[aggPr p] w fun e w'=>e=.returned (.tuple #[.agg #[.int .i64 3,.int .i64 1,.string ByteArray.empty,.slice none 0 0,.slice none 0 0],.int .i64 0])∧Below w.heap.size w w':=by
 have B0:Hid (Blk ((w.alloc (.cells (arrPr p) 41)).alloc (.cells VC.zero.arr 32)) w.heap.size 41 (arrPr p)):=(Blk.new_at rfl).alloc _
 have B1:Hid (Blk ((w.alloc (.cells (arrPr p) 41)).alloc (.cells VC.zero.arr 32)) (w.heap.size+1) 32 VC.zero.arr):=Blk.new_at (by simp)
 have BE:Hid (Below w.heap.size w ((w.alloc (.cells (arrPr p) 41)).alloc (.cells VC.zero.arr 32))):=((Below.refl _ _).alloc (qL) _).alloc (by simp) _
 go_enter Tryz.func212,Tryz.ntmps212
 go_upto_region 1 with fail
 change Code.wp _ _ _ _ ((w.alloc (.cells (arrPr p) 41)).alloc (.cells VC.zero.arr 32))
 generalize (w.alloc (.cells (arrPr p) 41)).alloc (.cells VC.zero.arr 32)=wa at*
 have d0:=(pr_cells B0.out).d0
 have c2:=(B0.out.cell 2).trans (show _=some (Value.int .i64 p.arg.1.k) from rfl)
 have c3:=(B0.out.cell 3).trans (show _=some (Value.int .i64 p.arg.1.n) from rfl)
 have c4:=(B0.out.cell 4).trans (show _=some (Value.string p.arg.1.t) from rfl)
 have c5:=(B0.out.cell 5).trans (show _=some (Value.slice p.arg.1.LA p.arg.1.ln p.arg.1.lc) from rfl)
 have c6:=(B0.out.cell 6).trans (show _=some (Value.slice p.arg.1.DA p.arg.1.dn p.arg.1.dc) from rfl)
 rw[h.op_] at d0
 rw[h.arg] at c2 c3 c4 c5 c6
 simp only at c2 c3 c4 c5 c6
 clear h
 rcases ho with rfl|rfl
 all_goals
  go_wp2_with fail
  refine(pClone_any 3 1 _).mono ?_
  rintro e w1 ⟨rfl,hb⟩
  have C1:=qD (B1.out.step hb)
  have CE:=qD (BE.out.step' hb)
  clear hb c2 c3 c4 c5 c6 d0 B0 B1 BE
  obtain⟨b0,b1,b2,b3,b4⟩:=VAt.of_blk C1.out
  simp only[Nat.zero_add] at b0 b1 b2 b3 b4
  have z:=C1.out.frozen
  have q:=VAt.of_blk (C1.out.putV ⟨3,1,ByteArray.empty,none,0,0,none,0,0⟩)
  have bb:=below_setV CE.out (show w.heap.size≤w.heap.size+1 by omega) 0 ⟨3,1,ByteArray.empty,none,0,0,none,0,0⟩
  go_wp2_with fail
  change bodyPost _ _ _ _ _ (setV w1 (w.heap.size+1) 0 ⟨3,1,ByteArray.empty,none,0,0,none,0,0⟩)
  generalize setV w1 (w.heap.size+1) 0 ⟨3,1,ByteArray.empty,none,0,0,none,0,0⟩=wz at*
  exact bodyPost_ret (results_vok rfl _ _ rfl _ rfl _ ⟨3,1,ByteArray.empty,none,0,0,none,0,0⟩ q) rfl ⟨rfl,bb⟩
theorem pForm_any{op:Int}{p:PrT}(h:Lf op p)(ho:Two op)(w:World)(hN:NmT w)(hl:ST w p.path.A p.path.n p.path.c p.path.xs):Calls Tryz.prog 166 #[aggPr p] w fun e w'=>∃g,e=.returned (.tuple #[(vcS g).val,.int .i64 0])∧Below w.heap.size w w':=by
 have hpn:p.path.n=1:=by have:=hl.sr.ln;rw[h.xs] at this;exact this
 obtain⟨b,off,s,hA,hb0,hx,hrg⟩:∃b off s,p.path.A=some ⟨b,off,none⟩∧b<w.heap.size∧p.path.xs[0]?=some s∧w.cell? ⟨b,off,none⟩=some (.string s):=by
  obtain⟨b,off,s,e1,e2,e3,_,e5⟩:=hl.sr.row (i:=0) (by omega)
  refine⟨b,off,s,e1,e2,e3,?_⟩
  have:=e5 0 _ rfl
  rwa [Nat.zero_mul,Nat.add_zero] at this
 have HN:=qD hN
 have HA:=qD fun w=>pArgument_any h ho w
 have B0:Hid (Blk ((w.alloc (.cells (arrPr p) 41)).alloc (.cells VC.zero.arr 32)) w.heap.size 41 (arrPr p)):=(Blk.new_at rfl).alloc _
 have B1:Hid (Blk ((w.alloc (.cells (arrPr p) 41)).alloc (.cells VC.zero.arr 32)) (w.heap.size+1) 32 VC.zero.arr):=Blk.new_at (by simp)
 have BE:Hid (Below w.heap.size w ((w.alloc (.cells (arrPr p) 41)).alloc (.cells VC.zero.arr 32))):=((Below.refl _ _).alloc (qL) _).alloc (by simp) _
 clear hN
 go_enter Tryz.func166,Tryz.ntmps166
 go_upto_region 1 with fail
 change Code.wp _ _ _ _ ((w.alloc (.cells (arrPr p) 41)).alloc (.cells VC.zero.arr 32))
 generalize (w.alloc (.cells (arrPr p) 41)).alloc (.cells VC.zero.arr 32)=wa at*
 have d0:=(pr_cells B0.out).d0
 have d1:=(pr_cells B0.out).d1
 rw[h.op_] at d0
 rw[hA,hpn] at d1
 have RF:=qD (pr_full B0.out)
 have HH:=qD ((BE.out.cell (p:=⟨b,off,none⟩) hb0).trans hrg)
 have hba:b<wa.heap.size:=Nat.lt_of_lt_of_le hb0 BE.out.size
 clear h hl hpn hA hx hrg
 have NM:=qD (HN.out.step BE.out)
 rcases ho with rfl|rfl
 ·go_upto_region 20 with(first
   | ((with_reducible show wpList _ _ _ (⟨_,.load 41 _,_,_,_,_⟩::_) _ _);refine wpList_mid_w rfl 41 _ rfl w.heap.size 0 rfl _ _ RF.out Tryz.underlying41 rfl (by kernel_rfl) ?_)
   | (go_at_call 212;refine(HA.out _).mono ?_;rintro e w1 ⟨rfl,hb1⟩))
  change Code.wp _ _ _ _ (w1.alloc (.cells (vcN 3 1).arr 32))
  have hb2:Below wa.heap.size wa (w1.alloc (.cells (vcN 3 1).arr 32)):=hb1.alloc hb1.size _
  have D9:Hid (Blk (w1.alloc (.cells (vcN 3 1).arr 32)) w1.heap.size 32 (vcN 3 1).arr):=Blk.new_at rfl
  have G9:Hid (w.heap.size+2≤w1.heap.size):=qD (Nat.le_trans (Nat.succ_le_of_lt B1.out.lt) hb1.size)
  generalize w1.alloc (.cells (vcN 3 1).arr 32)=wb at*
  generalize w1.heap.size=g9 at*
  have C1:=qD (B1.out.step hb2)
  have CE:=qD (BE.out.step' hb2)
  replace d0:=(hb2.cell (p:=⟨w.heap.size,0,none⟩) B0.out.lt).trans d0
  replace d1:=(hb2.cell (p:=⟨w.heap.size,1,none⟩) B0.out.lt).trans d1
  have C0:=qD (B0.out.step hb2)
  have HC:=qD ((hb2.cell (p:=⟨b,off,none⟩) hba).trans HH.out)
  have hbc:b<wb.heap.size:=Nat.lt_of_lt_of_le hba hb2.size
  have NC:=(NM.out.step hb2).n2
  have NL:Hid (0<w.heap.size):=qD (World.block_lt_of_cell? w _ HN.out.n2)
  clear hb1 hb2 B0 B1 BE HH NM hba RF HA HN
  obtain⟨a0,a1,a2,a3,a4⟩:=VAt.of_blk D9.out
  simp only[Nat.zero_add] at a0 a1 a2 a3 a4
  have B:=qD ((Below.refl wb.heap.size wb).drewN 1)
  have KS:Hid (∀w',Below wb.heap.size wb w'→(fun w'=>w'.cell? ⟨w.heap.size,0,none⟩=some (.int .i64 2)∧w'.cell? ⟨w.heap.size,1,none⟩=some (.slice (some ⟨b,off,none⟩) 1 p.path.c)∧w'.cell? ⟨0,2,none⟩=some (.string ⟨#[36,101,113]⟩)∧w'.cell? ⟨g9,0,none⟩=some (.int .i64 3)∧w'.cell? ⟨g9,1,none⟩=some (.int .i64 1)∧w'.cell? ⟨g9,2,none⟩=some (.string ByteArray.empty)∧w'.cell? ⟨g9,3,none⟩=some (.slice none 0 0)∧w'.cell? ⟨g9,4,none⟩=some (.slice none 0 0)) w'):=qD fun w' hb=>⟨(hb.cell (p:=⟨w.heap.size,0,none⟩) C0.out.lt).trans d0,(hb.cell (p:=⟨w.heap.size,1,none⟩) C0.out.lt).trans d1,(hb.cell (World.block_lt_of_cell? wb _ NC)).trans NC,(hb.cell (p:=⟨g9,0,none⟩) D9.out.lt).trans a0,(hb.cell (p:=⟨g9,1,none⟩) D9.out.lt).trans a1,(hb.cell (p:=⟨g9,2,none⟩) D9.out.lt).trans a2,(hb.cell (p:=⟨g9,3,none⟩) D9.out.lt).trans a3,(hb.cell (p:=⟨g9,4,none⟩) D9.out.lt).trans a4⟩
  have KZ:Hid (∀w',Below wb.heap.size wb w'→∀v:VC,(fun w'=>w'.cell? ⟨w.heap.size,0,none⟩=some (.int .i64 2)∧w'.cell? ⟨w.heap.size,1,none⟩=some (.slice (some ⟨b,off,none⟩) 1 p.path.c)∧w'.cell? ⟨0,2,none⟩=some (.string ⟨#[36,101,113]⟩)∧w'.cell? ⟨g9,0,none⟩=some (.int .i64 3)∧w'.cell? ⟨g9,1,none⟩=some (.int .i64 1)∧w'.cell? ⟨g9,2,none⟩=some (.string ByteArray.empty)∧w'.cell? ⟨g9,3,none⟩=some (.slice none 0 0)∧w'.cell? ⟨g9,4,none⟩=some (.slice none 0 0)) (setV w' (w.heap.size+1) 0 v)):=qD fun w' hb v=>by
   obtain⟨h1,h2,h3,h4,h5,h6,h7,h8⟩:=KS.out w' hb
   have hg:=G9.out
   have hn:=NL.out
   have e:∀(g o:Nat),g≠w.heap.size+1→(setV w' (w.heap.size+1) 0 v).cell? ⟨g,o,none⟩=w'.cell? ⟨g,o,none⟩:=fun g o hne=>World.cell?_of_block (a:=⟨g,o,none⟩) (heap_setV hne)
   exact⟨(e _ _ (by omega)).trans h1,(e _ _ (by omega)).trans h2,(e _ _ (by omega)).trans h3,(e _ _ (by omega)).trans h4,(e _ _ (by omega)).trans h5,(e _ _ (by omega)).trans h6,(e _ _ (by omega)).trans h7,(e _ _ (by omega)).trans h8⟩
  clear a0 a1 a2 a3 a4 d0 d1 NC
  refine wp_region_noPanic ?_
  refine wp_region_held_drew (S:=(fun w'=>w'.cell? ⟨w.heap.size,0,none⟩=some (.int .i64 2)∧w'.cell? ⟨w.heap.size,1,none⟩=some (.slice (some ⟨b,off,none⟩) 1 p.path.c)∧w'.cell? ⟨0,2,none⟩=some (.string ⟨#[36,101,113]⟩)∧w'.cell? ⟨g9,0,none⟩=some (.int .i64 3)∧w'.cell? ⟨g9,1,none⟩=some (.int .i64 1)∧w'.cell? ⟨g9,2,none⟩=some (.string ByteArray.empty)∧w'.cell? ⟨g9,3,none⟩=some (.slice none 0 0)∧w'.cell? ⟨g9,4,none⟩=some (.slice none 0 0))) (by kernel_rfl) ?_ (fun hHeld=>?_)
  ·(try dsimp only);exact KS.out _ B.out
  refine rU 0 rfl ?_
  try go_frame
  refine rU 1 rfl ?_
  try go_frame
  refine rU 2 rfl ?_
  try go_frame
  refine rU 3 rfl ?_
  try go_frame
  refine rU 4 rfl ?_
  try go_frame
  refine rU 5 rfl ?_
  try go_frame
  refine rU 6 rfl ?_
  try go_frame
  refine rU 9 rfl ?_
  try go_frame
  refine rY 7 rfl fun K hK=>?_
  go_simp
  refine(pSingle_any _ (vcN 3 1) _).mono ?_
  rintro e3 w3 ⟨g3,rfl,hb3⟩
  replace B:=qD (B.out.step' hb3)
  clear hb3
  (try go_wp2_with fail)
  clear hHeld
  refine hK.out _ _ ?_ fun hHeld=>?_
  ·(try dsimp only);exact KS.out _ B.out
  clear hK K
  try go_frame
  refine rY 8 rfl fun K hK=>?_
  go_simp
  refine(pAt_any b off p.path.c s g3 _ ((B.out.cell (p:=⟨b,off,none⟩) hbc).trans HC.out)).mono ?_
  rintro e4 w4 ⟨g4,rfl,hb3⟩
  replace B:=qD (B.out.step' hb3)
  clear hb3
  (try go_wp2_with fail)
  clear hHeld
  refine hK.out _ _ ?_ fun hHeld=>?_
  ·(try dsimp only);exact KS.out _ B.out
  clear hK K
  try go_frame
  refine rY 10 rfl fun K hK=>?_
  have E1:=qD (C1.out.step B.out)
  obtain⟨b0,b1,b2,b3,b4⟩:=VAt.of_blk E1.out
  simp only[Nat.zero_add] at b0 b1 b2 b3 b4
  have z:=E1.out.frozen
  go_simp
  have q:=qD (VAt.of_blk (E1.out.putV ⟨5,0,ByteArray.empty,none,0,0,some ⟨g4,0,none⟩,1,1⟩))
  have bb:=qD (below_setV (CE.out.step' B.out) (show w.heap.size≤w.heap.size+1 by omega) 0 ⟨5,0,ByteArray.empty,none,0,0,some ⟨g4,0,none⟩,1,1⟩)
  have KZ:=KZ.out _ B.out ⟨5,0,ByteArray.empty,none,0,0,some ⟨g4,0,none⟩,1,1⟩
  clear b0 b1 b2 b3 b4 z E1
  change K _ (setV w4 (w.heap.size+1) 0 ⟨5,0,ByteArray.empty,none,0,0,some ⟨g4,0,none⟩,1,1⟩)
  generalize setV w4 (w.heap.size+1) 0 ⟨5,0,ByteArray.empty,none,0,0,some ⟨g4,0,none⟩,1,1⟩=wz at*
  clear hHeld
  refine hK.out _ _ ?_ fun hHeld=>?_
  ·(try dsimp only);exact KZ
  clear hK K
  try go_frame
  refine rU 11 rfl ?_
  try go_frame
  refine rD ?_ _
  refine NoPanic.normal ?_
  clear hHeld
  go_wp2_with fail
  exact bodyPost_ret (results_vok rfl _ _ rfl _ rfl _ ⟨5,0,ByteArray.empty,none,0,0,some ⟨g4,0,none⟩,1,1⟩ q.out) rfl ⟨_,rfl,bb.out⟩
 ·go_upto_region 20 with(first
   | ((with_reducible show wpList _ _ _ (⟨_,.load 41 _,_,_,_,_⟩::_) _ _);refine wpList_mid_w rfl 41 _ rfl w.heap.size 0 rfl _ _ RF.out Tryz.underlying41 rfl (by kernel_rfl) ?_)
   | (go_at_call 212;refine(HA.out _).mono ?_;rintro e w1 ⟨rfl,hb1⟩))
  change Code.wp _ _ _ _ (w1.alloc (.cells (vcN 3 1).arr 32))
  have hb2:Below wa.heap.size wa (w1.alloc (.cells (vcN 3 1).arr 32)):=hb1.alloc hb1.size _
  have D9:Hid (Blk (w1.alloc (.cells (vcN 3 1).arr 32)) w1.heap.size 32 (vcN 3 1).arr):=Blk.new_at rfl
  have G9:Hid (w.heap.size+2≤w1.heap.size):=qD (Nat.le_trans (Nat.succ_le_of_lt B1.out.lt) hb1.size)
  generalize w1.alloc (.cells (vcN 3 1).arr 32)=wb at*
  generalize w1.heap.size=g9 at*
  have C1:=qD (B1.out.step hb2)
  have CE:=qD (BE.out.step' hb2)
  replace d0:=(hb2.cell (p:=⟨w.heap.size,0,none⟩) B0.out.lt).trans d0
  replace d1:=(hb2.cell (p:=⟨w.heap.size,1,none⟩) B0.out.lt).trans d1
  have C0:=qD (B0.out.step hb2)
  have HC:=qD ((hb2.cell (p:=⟨b,off,none⟩) hba).trans HH.out)
  have hbc:b<wb.heap.size:=Nat.lt_of_lt_of_le hba hb2.size
  have NC:=(NM.out.step hb2).n5
  have NL:Hid (0<w.heap.size):=qD (World.block_lt_of_cell? w _ HN.out.n5)
  clear hb1 hb2 B0 B1 BE HH NM hba RF HA HN
  obtain⟨a0,a1,a2,a3,a4⟩:=VAt.of_blk D9.out
  simp only[Nat.zero_add] at a0 a1 a2 a3 a4
  have B:=qD ((Below.refl wb.heap.size wb).drewN 1)
  have KS:Hid (∀w',Below wb.heap.size wb w'→(fun w'=>w'.cell? ⟨w.heap.size,0,none⟩=some (.int .i64 5)∧w'.cell? ⟨w.heap.size,1,none⟩=some (.slice (some ⟨b,off,none⟩) 1 p.path.c)∧w'.cell? ⟨0,5,none⟩=some (.string ⟨#[36,103,101]⟩)∧w'.cell? ⟨g9,0,none⟩=some (.int .i64 3)∧w'.cell? ⟨g9,1,none⟩=some (.int .i64 1)∧w'.cell? ⟨g9,2,none⟩=some (.string ByteArray.empty)∧w'.cell? ⟨g9,3,none⟩=some (.slice none 0 0)∧w'.cell? ⟨g9,4,none⟩=some (.slice none 0 0)) w'):=qD fun w' hb=>⟨(hb.cell (p:=⟨w.heap.size,0,none⟩) C0.out.lt).trans d0,(hb.cell (p:=⟨w.heap.size,1,none⟩) C0.out.lt).trans d1,(hb.cell (World.block_lt_of_cell? wb _ NC)).trans NC,(hb.cell (p:=⟨g9,0,none⟩) D9.out.lt).trans a0,(hb.cell (p:=⟨g9,1,none⟩) D9.out.lt).trans a1,(hb.cell (p:=⟨g9,2,none⟩) D9.out.lt).trans a2,(hb.cell (p:=⟨g9,3,none⟩) D9.out.lt).trans a3,(hb.cell (p:=⟨g9,4,none⟩) D9.out.lt).trans a4⟩
  have KZ:Hid (∀w',Below wb.heap.size wb w'→∀v:VC,(fun w'=>w'.cell? ⟨w.heap.size,0,none⟩=some (.int .i64 5)∧w'.cell? ⟨w.heap.size,1,none⟩=some (.slice (some ⟨b,off,none⟩) 1 p.path.c)∧w'.cell? ⟨0,5,none⟩=some (.string ⟨#[36,103,101]⟩)∧w'.cell? ⟨g9,0,none⟩=some (.int .i64 3)∧w'.cell? ⟨g9,1,none⟩=some (.int .i64 1)∧w'.cell? ⟨g9,2,none⟩=some (.string ByteArray.empty)∧w'.cell? ⟨g9,3,none⟩=some (.slice none 0 0)∧w'.cell? ⟨g9,4,none⟩=some (.slice none 0 0)) (setV w' (w.heap.size+1) 0 v)):=qD fun w' hb v=>by
   obtain⟨h1,h2,h3,h4,h5,h6,h7,h8⟩:=KS.out w' hb
   have hg:=G9.out
   have hn:=NL.out
   have e:∀(g o:Nat),g≠w.heap.size+1→(setV w' (w.heap.size+1) 0 v).cell? ⟨g,o,none⟩=w'.cell? ⟨g,o,none⟩:=fun g o hne=>World.cell?_of_block (a:=⟨g,o,none⟩) (heap_setV hne)
   exact⟨(e _ _ (by omega)).trans h1,(e _ _ (by omega)).trans h2,(e _ _ (by omega)).trans h3,(e _ _ (by omega)).trans h4,(e _ _ (by omega)).trans h5,(e _ _ (by omega)).trans h6,(e _ _ (by omega)).trans h7,(e _ _ (by omega)).trans h8⟩
  clear a0 a1 a2 a3 a4 d0 d1 NC
  refine wp_region_noPanic ?_
  refine wp_region_held_drew (S:=(fun w'=>w'.cell? ⟨w.heap.size,0,none⟩=some (.int .i64 5)∧w'.cell? ⟨w.heap.size,1,none⟩=some (.slice (some ⟨b,off,none⟩) 1 p.path.c)∧w'.cell? ⟨0,5,none⟩=some (.string ⟨#[36,103,101]⟩)∧w'.cell? ⟨g9,0,none⟩=some (.int .i64 3)∧w'.cell? ⟨g9,1,none⟩=some (.int .i64 1)∧w'.cell? ⟨g9,2,none⟩=some (.string ByteArray.empty)∧w'.cell? ⟨g9,3,none⟩=some (.slice none 0 0)∧w'.cell? ⟨g9,4,none⟩=some (.slice none 0 0))) (by kernel_rfl) ?_ (fun hHeld=>?_)
  ·(try dsimp only);exact KS.out _ B.out
  refine rU 0 rfl ?_
  try go_frame
  refine rU 1 rfl ?_
  try go_frame
  refine rU 2 rfl ?_
  try go_frame
  refine rU 3 rfl ?_
  try go_frame
  refine rU 4 rfl ?_
  try go_frame
  refine rU 5 rfl ?_
  try go_frame
  refine rU 6 rfl ?_
  try go_frame
  refine rU 9 rfl ?_
  try go_frame
  refine rY 7 rfl fun K hK=>?_
  go_simp
  refine(pSingle_any _ (vcN 3 1) _).mono ?_
  rintro e3 w3 ⟨g3,rfl,hb3⟩
  replace B:=qD (B.out.step' hb3)
  clear hb3
  (try go_wp2_with fail)
  clear hHeld
  refine hK.out _ _ ?_ fun hHeld=>?_
  ·(try dsimp only);exact KS.out _ B.out
  clear hK K
  try go_frame
  refine rY 8 rfl fun K hK=>?_
  go_simp
  refine(pAt_any b off p.path.c s g3 _ ((B.out.cell (p:=⟨b,off,none⟩) hbc).trans HC.out)).mono ?_
  rintro e4 w4 ⟨g4,rfl,hb3⟩
  replace B:=qD (B.out.step' hb3)
  clear hb3
  (try go_wp2_with fail)
  clear hHeld
  refine hK.out _ _ ?_ fun hHeld=>?_
  ·(try dsimp only);exact KS.out _ B.out
  clear hK K
  try go_frame
  refine rY 10 rfl fun K hK=>?_
  have E1:=qD (C1.out.step B.out)
  obtain⟨b0,b1,b2,b3,b4⟩:=VAt.of_blk E1.out
  simp only[Nat.zero_add] at b0 b1 b2 b3 b4
  have z:=E1.out.frozen
  go_simp
  have q:=qD (VAt.of_blk (E1.out.putV ⟨5,0,ByteArray.empty,none,0,0,some ⟨g4,0,none⟩,1,1⟩))
  have bb:=qD (below_setV (CE.out.step' B.out) (show w.heap.size≤w.heap.size+1 by omega) 0 ⟨5,0,ByteArray.empty,none,0,0,some ⟨g4,0,none⟩,1,1⟩)
  have KZ:=KZ.out _ B.out ⟨5,0,ByteArray.empty,none,0,0,some ⟨g4,0,none⟩,1,1⟩
  clear b0 b1 b2 b3 b4 z E1
  change K _ (setV w4 (w.heap.size+1) 0 ⟨5,0,ByteArray.empty,none,0,0,some ⟨g4,0,none⟩,1,1⟩)
  generalize setV w4 (w.heap.size+1) 0 ⟨5,0,ByteArray.empty,none,0,0,some ⟨g4,0,none⟩,1,1⟩=wz at*
  clear hHeld
  refine hK.out _ _ ?_ fun hHeld=>?_
  ·(try dsimp only);exact KZ
  clear hK K
  try go_frame
  refine rU 11 rfl ?_
  try go_frame
  refine rD ?_ _
  refine NoPanic.normal ?_
  clear hHeld
  go_wp2_with fail
  exact bodyPost_ret (results_vok rfl _ _ rfl _ rfl _ ⟨5,0,ByteArray.empty,none,0,0,some ⟨g4,0,none⟩,1,1⟩ q.out) rfl ⟨_,rfl,bb.out⟩
structure Ordered{α:Type}(cm:α→α→Int):Prop where
 anti:∀x y,cm y x=-cm x y
 tr:∀x y z,TR (cm x y) (cm y z) (cm x z)
section
variable {α:Type} (cm:α→α→Int)
def RT(x y:α×Nat):Prop:=cm x.1 y.1<0∨cm x.1 y.1=0∧x.2<y.2
variable {cm}
theorem RT.trans(H:Ordered cm){x y z:α×Nat}(h1:RT cm x y)(h2:RT cm y z):RT cm x z:=by
 unfold RT at*
 have:=H.tr x.1 y.1 z.1 (by omega) (by omega)
 omega
def Tagged(l:List (α×Nat)):Prop:=l.Pairwise fun x y=>x.2<y.2
structure Sorted(cm:α→α→Int)(l S:List (α×Nat)):Prop where
 perm:S.Perm l
 ord:S.Pairwise (RT cm)
theorem Sorted.nil:Sorted cm ([]:List (α×Nat)) []:=⟨.nil,.nil⟩
theorem Sorted.one(x:α×Nat):Sorted cm [x] [x]:=⟨.refl _,by simp⟩
theorem Sorted.insert(H:Ordered cm){P S1 S2:List (α×Nat)}{x:α×Nat}(h:Sorted cm P (S1++S2))(ht:∀y∈P,y.2<x.2)(h2:∀y∈S2,cm x.1 y.1<0)(h1:∀y,S1.getLast?=some y→¬cm x.1 y.1<0):Sorted cm (P++[x]) (S1++x::S2):=by
 refine⟨?_,?_⟩
 ·have e1:(S1++x::S2).Perm (x::(S1++S2)):=List.perm_middle
  have e2:(x::(S1++S2)).Perm (x::P):=h.perm.cons x
  have e3:(x::P).Perm (P++[x]):=(List.perm_append_singleton x P).symm
  exact e1.trans (e2.trans e3)
 ·have ho:=h.ord
  rw[List.pairwise_append] at ho ⊢
  refine⟨ho.1,?_,?_⟩
  ·rw[List.pairwise_cons]
   exact⟨fun y hy=>.inl (h2 y hy),ho.2.1⟩
  ·intro y hy z hz
   rcases List.mem_cons.1 hz with rfl|hz
   ·have hyP:y∈P:=h.perm.subset (by simp[hy])
    rcases List.eq_nil_or_concat S1 with rfl|⟨S,q,rfl⟩
    ·simp at hy
    ·have hq:¬cm z.1 q.1<0:=h1 q (by simp)
     have hqP:q∈P:=h.perm.subset (by simp)
     have hqz:RT cm q z:=by
      unfold RT
      have:=H.anti z.1 q.1
      have:=ht q hqP
      omega
     simp only[List.concat_eq_append,List.mem_append,List.mem_singleton] at hy
     rcases hy with hy|rfl
     ·have:RT cm y q:=by
       have h3:=ho.1
       simp only[List.concat_eq_append] at h3
       rw[List.pairwise_append] at h3
       exact h3.2.2 y hy q (by simp)
      exact RT.trans H this hqz
     ·exact hqz
   ·exact ho.2.2 y hy z hz
def tagFrom:Nat→List α→List (α×Nat)
 | _,[]=>[]
 | n,x::r=>(x,n)::tagFrom (n+1) r
theorem tagFrom_map(l:List α):∀n,(tagFrom n l).map Prod.fst=l:=by
 induction l with
 | nil=>intro n;rfl
 | cons x r ih=>intro n;simp[tagFrom,ih]
theorem tagFrom_ge(l:List α):∀n,∀y∈tagFrom n l,n≤y.2:=by
 induction l with
 | nil=>intro n y hy;simp[tagFrom] at hy
 | cons x r ih=>
  intro n y hy
  simp only[tagFrom,List.mem_cons] at hy
  rcases hy with rfl|hy
  ·exact qL
  ·have:=ih (n+1) y hy;omega
theorem tagFrom_tagged(l:List α):∀n,Tagged (tagFrom n l):=by
 induction l with
 | nil=>intro n;simp[tagFrom,Tagged]
 | cons x r ih=>
  intro n
  simp only[tagFrom,Tagged,List.pairwise_cons]
  exact⟨fun y hy=>by have:=tagFrom_ge r (n+1) y hy;show n<y.2;omega,ih (n+1)⟩
theorem tagFrom_length(l:List α):∀n,(tagFrom n l).length=l.length:=by
 induction l with
 | nil=>intro n;rfl
 | cons x r ih=>intro n;simp[tagFrom,ih]
end
theorem flat_set{α:Type}{rec:α→List Value}{s:Nat}(hs:∀a,(rec a).length=s):∀(l:List α) (j:Nat) (a:α),j<l.length→flat rec (l.set j a)=setList (flat rec l) (j*s) (rec a):=by
 intro l
 induction l with
 | nil=>intro j a h;simp at h
 | cons x r ih=>
  intro j a h
  have e:∀(y:α) (t:List α),flat rec (y::t)=rec y++flat rec t:=fun _ _=>rfl
  have hl:=flat_length hs (x::r)
  have hlr:=flat_length hs r
  simp only[List.length_cons] at hl h
  have hm:(j+1)*s≤(r.length+1)*s:=Nat.mul_le_mul_right s (by omega)
  rw[Nat.add_mul] at hm
  rw[setList_eq _ _ _ (by rw[hs,hl];omega),hs]
  cases j with
  | zero=>
   rw[List.set_cons_zero,e,e]
   simp[hs]
  | succ j=>
   have hm2:(j+1)*s≤r.length*s:=Nat.mul_le_mul_right s (by omega)
   rw[Nat.add_mul] at hm2
   rw[List.set_cons_succ,e,e,ih j a (by omega),setList_eq _ _ _ (by rw[hs,hlr];omega),hs,show(j+1)*s=s+j*s by rw[Nat.add_mul];omega]
   have e1:(rec x++flat rec r).take (s+j*s)=rec x++(flat rec r).take (j*s):=by
    have:=List.take_length_add_append (l₁:=rec x) (l₂:=flat rec r) (j*s)
    rwa [hs] at this
   have e2:(rec x++flat rec r).drop (s+j*s+s)=(flat rec r).drop (j*s+s):=by
    have:=List.drop_length_add_append (l₁:=rec x) (l₂:=flat rec r) (j*s+s)
    rw[hs] at this
    rw[show s+j*s+s=s+(j*s+s) by omega]
    exact this
   rw[e1,e2]
   simp only[List.append_assoc]
abbrev PC:=PV×Bool
abbrev PS:=PC×PC
abbrev PI:=(PV×PV)×(Bool×Bool)
def recK(p:PC):List Value:=recV p.1++[.bool p.2]
def recS(p:PS):List Value:=recK p.1++recK p.2
def recI(p:PI):List Value:=recV p.1.1++recV p.1.2++[.bool p.2.1,.bool p.2.2]
theorem recK_length(p:PC):(recK p).length=6:=rfl
theorem recS_length(p:PS):(recS p).length=12:=rfl
theorem recI_length(p:PI):(recI p).length=12:=rfl
theorem recS_one(p:PS):∀u∈recS p,u.oneCell'=true:=by simp[recS,recK,recV,VC.list,Value.oneCell']
theorem recI_one(p:PI):∀u∈recI p,u.oneCell'=true:=by simp[recI,recV,VC.list,Value.oneCell']
def cutP(p:PC):Cut:=(p.1.2,p.2)
def spP(p:PS):Cut×Cut:=(cutP p.1,cutP p.2)
def ivP(p:PI):Iv:=⟨p.1.1.2,p.1.2.2,p.2.1,p.2.2⟩
def spanP(p:PI):PS:=((p.1.1,!p.2.1),(p.1.2,p.2.2))
abbrev aggK(p:PC):Value:=.agg #[.int .i64 p.1.1.k,.int .i64 p.1.1.n,.string p.1.1.t,.slice p.1.1.LA p.1.1.ln p.1.1.lc,.slice p.1.1.DA p.1.1.dn p.1.1.dc,.bool p.2]
abbrev aggS(p:PS):Value:=.agg #[.int .i64 p.1.1.1.k,.int .i64 p.1.1.1.n,.string p.1.1.1.t,.slice p.1.1.1.LA p.1.1.1.ln p.1.1.1.lc,.slice p.1.1.1.DA p.1.1.1.dn p.1.1.1.dc,.bool p.1.2,.int .i64 p.2.1.1.k,.int .i64 p.2.1.1.n,.string p.2.1.1.t,.slice p.2.1.1.LA p.2.1.1.ln p.2.1.1.lc,.slice p.2.1.1.DA p.2.1.1.dn p.2.1.1.dc,.bool p.2.2]
abbrev aggI(p:PI):Value:=.agg #[.int .i64 p.1.1.1.k,.int .i64 p.1.1.1.n,.string p.1.1.1.t,.slice p.1.1.1.LA p.1.1.1.ln p.1.1.1.lc,.slice p.1.1.1.DA p.1.1.1.dn p.1.1.1.dc,.int .i64 p.1.2.1.k,.int .i64 p.1.2.1.n,.string p.1.2.1.t,.slice p.1.2.1.LA p.1.2.1.ln p.1.2.1.lc,.slice p.1.2.1.DA p.1.2.1.dn p.1.2.1.dc,.bool p.2.1,.bool p.2.2]
abbrev arrC(p:PC):Array Value:=#[.int .i64 p.1.1.k,.int .i64 p.1.1.n,.string p.1.1.t,.slice p.1.1.LA p.1.1.ln p.1.1.lc,.slice p.1.1.DA p.1.1.dn p.1.1.dc,.bool p.2]
abbrev arrS(p:PS):Array Value:=#[.int .i64 p.1.1.1.k,.int .i64 p.1.1.1.n,.string p.1.1.1.t,.slice p.1.1.1.LA p.1.1.1.ln p.1.1.1.lc,.slice p.1.1.1.DA p.1.1.1.dn p.1.1.1.dc,.bool p.1.2,.int .i64 p.2.1.1.k,.int .i64 p.2.1.1.n,.string p.2.1.1.t,.slice p.2.1.1.LA p.2.1.1.ln p.2.1.1.lc,.slice p.2.1.1.DA p.2.1.1.dn p.2.1.1.dc,.bool p.2.2]
abbrev arrI(p:PI):Array Value:=#[.int .i64 p.1.1.1.k,.int .i64 p.1.1.1.n,.string p.1.1.1.t,.slice p.1.1.1.LA p.1.1.1.ln p.1.1.1.lc,.slice p.1.1.1.DA p.1.1.1.dn p.1.1.1.dc,.int .i64 p.1.2.1.k,.int .i64 p.1.2.1.n,.string p.1.2.1.t,.slice p.1.2.1.LA p.1.2.1.ln p.1.2.1.lc,.slice p.1.2.1.DA p.1.2.1.dn p.1.2.1.dc,.bool p.2.1,.bool p.2.2]
def CAt(w:World)(b off:Nat)(p:PC):Prop:=VAt w b off p.1.1∧w.cell? ⟨b,off+5,none⟩=some (.bool p.2)
def SAt(w:World)(b off:Nat)(p:PS):Prop:=CAt w b off p.1∧CAt w b (off+6) p.2
def IAt(w:World)(b off:Nat)(p:PI):Prop:=VAt w b off p.1.1.1∧VAt w b (off+5) p.1.2.1∧w.cell? ⟨b,off+10,none⟩=some (.bool p.2.1)∧w.cell? ⟨b,off+11,none⟩=some (.bool p.2.2)
section
variable {w w':World} {b off:Nat}
theorem cat_of{p:PC}(h:∀(j:Nat) (v:Value),(recK p)[j]?=some v→w.cell? ⟨b,off+j,none⟩=some v):CAt w b off p:=
 ⟨⟨h 0 _ rfl,h 1 _ rfl,h 2 _ rfl,h 3 _ rfl,h 4 _ rfl⟩,h 5 _ rfl⟩
theorem sat_of{p:PS}(h:∀(j:Nat) (v:Value),(recS p)[j]?=some v→w.cell? ⟨b,off+j,none⟩=some v):SAt w b off p:=
 ⟨⟨⟨h 0 _ rfl,h 1 _ rfl,h 2 _ rfl,h 3 _ rfl,h 4 _ rfl⟩,h 5 _ rfl⟩,⟨⟨h 6 _ rfl,h 7 _ rfl,h 8 _ rfl,h 9 _ rfl,h 10 _ rfl⟩,h 11 _ rfl⟩⟩
theorem iat_of{p:PI}(h:∀(j:Nat) (v:Value),(recI p)[j]?=some v→w.cell? ⟨b,off+j,none⟩=some v):IAt w b off p:=
 ⟨⟨h 0 _ rfl,h 1 _ rfl,h 2 _ rfl,h 3 _ rfl,h 4 _ rfl⟩,⟨h 5 _ rfl,h 6 _ rfl,h 7 _ rfl,h 8 _ rfl,h 9 _ rfl⟩,h 10 _ rfl,h 11 _ rfl⟩
theorem CAt.of_blk{t:TypeId}{p:PC}(h:Blk w b t (arrC p)):CAt w b 0 p:=cat_of fun j v hj=>by rw[Nat.zero_add,h.cell,←Array.getElem?_toList];exact hj
theorem SAt.of_blk{t:TypeId}{p:PS}(h:Blk w b t (arrS p)):SAt w b 0 p:=sat_of fun j v hj=>by rw[Nat.zero_add,h.cell,←Array.getElem?_toList];exact hj
theorem IAt.of_blk{t:TypeId}{p:PI}(h:Blk w b t (arrI p)):IAt w b 0 p:=iat_of fun j v hj=>by rw[Nat.zero_add,h.cell,←Array.getElem?_toList];exact hj
theorem CAt.keep{p:PC}(h:CAt w b off p)(hb:w'.heap[b]?=w.heap[b]?):CAt w' b off p:=⟨h.1.keep hb,(World.cell?_of_block (w:=w) (a:=⟨b,off+5,none⟩) hb).trans h.2⟩
theorem SAt.keep{p:PS}(h:SAt w b off p)(hb:w'.heap[b]?=w.heap[b]?):SAt w' b off p:=⟨h.1.keep hb,h.2.keep hb⟩
theorem IAt.keep{p:PI}(h:IAt w b off p)(hb:w'.heap[b]?=w.heap[b]?):IAt w' b off p:=
 ⟨h.1.keep hb,h.2.1.keep hb,(World.cell?_of_block (w:=w) (a:=⟨b,off+10,none⟩) hb).trans h.2.2.1,(World.cell?_of_block (w:=w) (a:=⟨b,off+11,none⟩) hb).trans h.2.2.2⟩
end
def okC(w:World)(p:PC):Prop:=RW w p.1.1 p.1.2
def okS(w:World)(p:PS):Prop:=okC w p.1∧okC w p.2
def okI(w:World)(p:PI):Prop:=RW w p.1.1.1 p.1.1.2∧RW w p.1.2.1 p.1.2.2
section
variable {w w':World}
theorem okC.step{p:PC}(h:okC w p)(hb:Below w.heap.size w w'):okC w' p:=RV.step h hb
theorem okS.step{p:PS}(h:okS w p)(hb:Below w.heap.size w w'):okS w' p:=⟨h.1.step hb,h.2.step hb⟩
theorem okI.step{p:PI}(h:okI w p)(hb:Below w.heap.size w w'):okI w' p:=⟨h.1.step hb,h.2.step hb⟩
theorem okI.span{p:PI}(h:okI w p):okS w (spanP p):=⟨h.1,h.2⟩
structure SS(w:World)(A:Option Addr)(n c:Nat)(xs:List PS):Prop where
 sr:SR 12 recS w A n c xs
 sz:n*176≤reach
 ok:∀x∈xs,okS w x
structure SI(w:World)(A:Option Addr)(n c:Nat)(xs:List PI):Prop where
 sr:SR 12 recI w A n c xs
 sz:n*168≤reach
 ok:∀x∈xs,okI w x
variable {A:Option Addr} {n c:Nat}
theorem SS.step{xs:List PS}(h:SS w A n c xs)(hb:Below w.heap.size w w'):SS w' A n c xs:=⟨h.sr.step hb,h.sz,fun x hx=>(h.ok x hx).step hb⟩
theorem SI.step{xs:List PI}(h:SI w A n c xs)(hb:Below w.heap.size w w'):SI w' A n c xs:=⟨h.sr.step hb,h.sz,fun x hx=>(h.ok x hx).step hb⟩
theorem SS.at{xs:List PS}(h:SS w A n c xs){i:Nat}{p:PS}(hi:xs[i]?=some p):∃b off,A=some ⟨b,off,none⟩∧b<w.heap.size∧SAt w b (off+i*12) p∧okS w p:=by
 have hn:0<n:=by have:=(List.getElem?_eq_some_iff.1 hi).1;have:=h.sr.ln;omega
 obtain⟨b,off,e,hb,hel⟩:=h.sr.el hn
 exact⟨b,off,e,hb,sat_of fun j v hj=>hel i p hi j v hj,h.ok p (List.mem_of_getElem? hi)⟩
theorem SI.at{xs:List PI}(h:SI w A n c xs){i:Nat}{p:PI}(hi:xs[i]?=some p):∃b off,A=some ⟨b,off,none⟩∧b<w.heap.size∧IAt w b (off+i*12) p∧okI w p:=by
 have hn:0<n:=by have:=(List.getElem?_eq_some_iff.1 hi).1;have:=h.sr.ln;omega
 obtain⟨b,off,e,hb,hel⟩:=h.sr.el hn
 exact⟨b,off,e,hb,iat_of fun j v hj=>hel i p hi j v hj,h.ok p (List.mem_of_getElem? hi)⟩
theorem SS.of_own{base:Nat}{t:TypeId}{v:Value}{xs:List PS}(h:w.ownsRow base t 12 v n (flat recS xs))(hl:xs.length=n)(hz:n*176≤reach)(hr:∀p∈xs,okS w p):∃A c,v=.slice A n c∧SS w A n c xs:=by
 obtain⟨A,c,rfl,hs⟩:=SR.of_own recS_length h hl
 exact⟨A,c,rfl,hs,hz,hr⟩
theorem SI.of_own{base:Nat}{t:TypeId}{v:Value}{xs:List PI}(h:w.ownsRow base t 12 v n (flat recI xs))(hl:xs.length=n)(hz:n*168≤reach)(hr:∀p∈xs,okI w p):∃A c,v=.slice A n c∧SI w A n c xs:=by
 obtain⟨A,c,rfl,hs⟩:=SR.of_own recI_length h hl
 exact⟨A,c,rfl,hs,hz,hr⟩
end
theorem info_span:(Tryz.prog.info? 140).map (fun i=>(i.zero,i.size,i.bytes))=some (some (aggS (((VC.zero,Val.zero),false),((VC.zero,Val.zero),false))),12,176):=by kernel_rfl
theorem info_interval:(Tryz.prog.info? 93).map (fun i=>(i.zero,i.size,i.bytes))=some (some (aggI (((VC.zero,Val.zero),(VC.zero,Val.zero)),(false,false))),12,168):=by kernel_rfl
end Go.Proofs.YtfkdihlbaghajaaGreatDoor
