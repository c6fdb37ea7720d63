/- Parts of the proof, joined: RfSingle, RfOf, RfSpan. -/
import Derived.Test.YtfkapannahcjiaaGreatDoorRa1
import Derived.Test.YtfkapannahcjiaaGreatDoorRa26
import Derived.Test.YtfkapannahcjiaaGreatDoorRa27
import Derived.Test.YtfkapannahcjiaaGreatDoorRa25
import Derived.Test.YtfkapannahcjiaaGreatDoorRa23
import Derived.Test.YtfkapannahcjiaaGreatDoorRa12
import Derived.Test.YtfkapannahcjiaaGreatDoorRa22
import Derived.Test.YtfkapannahcjiaaGreatDoorRa15
set_option maxRecDepth 100000
set_option maxHeartbeats 16000000
set_option linter.unusedSimpArgs false
namespace Go.Proofs.YtfkapannahcjiaaGreatDoor
open Go.RowKit
def ROf(r:PSet)(k:Nat)(w:World)(e:Ending)(w':World):Prop:=
 ∃(A:Option Addr) (m c:Nat) (ys:List PI) (nf:List (Cut×Cut)),e=.returned (.tuple #[.slice A m c,.bool r.2])∧ys.map ivP=nf.map ivOf∧IsNF r.1 nf∧m≤k∧SI w' A m c ys∧Below w.heap.size w w'
theorem ROf.up{r:PSet}{k k':Nat}{w0 w w':World}{e:Ending}(h:ROf r k w e w')(hb:Below w0.heap.size w0 w)(hk:k≤k'):ROf r k' w0 e w':=by
 obtain⟨A,m,c,ys,nf,h1,h2,h3,h4,h5,h6⟩:=h
 exact⟨A,m,c,ys,nf,h1,h2,h3,Nat.le_trans h4 hk,h5,hb.step' h6⟩
def hasB(xs:List PV)(k:Int):Bool:=xs.any fun x=>x.1.k==k
theorem hasB_false{xs:List PV}{k:Int}(h:hasB xs k=false):∀x∈xs,x.1.k≠k:=by
 intro x hx e
 have:hasB xs k=true:=List.any_eq_true.2 ⟨x,hx,by simp[e]⟩
 rw[h] at this
 cases this
theorem hasB_true{xs:List PV}{k:Int}(h:hasB xs k=true):∃x∈xs,x.1.k=k:=by
 obtain⟨x,hx,e⟩:=List.any_eq_true.1 h
 exact⟨x,hx,by simpa using e⟩
theorem rhas25_any(xs:List PV)(A:Option Addr)(n c:Nat)(k:Int)(w:World)(h:SL (fun _=>True) w A n c xs):
 Calls Tryz.prog 120 #[.slice A n c,.int .i64 k] w fun e w'=>e=.returned (.bool (hasB xs k))∧Below w.heap.size w w':=by
 have hz:n≤140737488355328:=by have:=h.sz;unfold reach at this;omega
 have H:=qD h
 have HL:=qD h.sr.ln
 clear h
 go_enter Tryz.func120,Tryz.ntmps120
 go_upto_region 2 with fail
 go_loopw [5] (fun v wr=>∃i:Nat,i≤n∧v=.int .i64 i∧hasB xs k=hasB (xs.drop i) k∧Below w.heap.size w wr) (fun v _=>n-(intOf v).toNat)
 case atStart=>exact⟨0,Nat.zero_le _,rfl,rfl,Below.refl _ _⟩
 case round=>
  obtain⟨i,hi,rfl,ha,hbel⟩:=hrel
  have HA:=qD ha
  have HB:=qD hbel
  clear ha hbel
  by_cases hlt:i<n
  ·obtain⟨x,hx⟩:∃x,xs[i]?=some x:=⟨_,List.getElem?_eq_getElem (by have:=HL.out;omega)⟩
   obtain⟨b,off,rfl,_,hu,_⟩:=H.out.vat hx
   have HX:Hid (hasB (xs.drop i) k=((x.1.k==k)||hasB (xs.drop (i+1)) k)):=by
    rw[Hid,drop_of hx]
    rfl
   obtain⟨y0,_,_,_,_⟩:=hu.keep (HB.out.block b hu.lt)
   have i0:(0:Int)≤(i:Int):=by omega
   have i1:(i:Int)<(n:Int):=by omega
   obtain⟨q,hq⟩:∃q,(x.1.k==k)=q:=⟨_,rfl⟩
   rw[hq] at HX
   clear hx hu
   cases q
   ·go_wp2_with fail
    go_roundw
    case rel=>exact⟨i+1,by omega,by go_num,by rw[HA.out,HX.out];rfl,HB.out⟩
    case measure=>simp[intOf];omega
   ·go_wp2_with fail
    go_ret
    exact⟨by rw[HA.out,HX.out];rfl,HB.out⟩
  ·obtain rfl:i=n:=by omega
   go_wp2_with fail
   go_ret
   exact⟨by rw[HA.out,List.drop_of_length_le (by have:=HL.out;omega)];rfl,HB.out⟩
theorem rs_other(p:PrT)(h:p.op≠2∧p.op≠4∧p.op≠5∧p.op≠6∧p.op≠7∧p.op≠8∧p.op≠16∧p.op≠11)(w:World):
 Calls Tryz.prog 77 #[aggPr p] w (ROf (leafS p.op p.arg.2 (p.args.xs.map Prod.snd) p.n) (p.args.n+1) w):=by
 have HL:Hid (leafS p.op p.arg.2 (p.args.xs.map Prod.snd) p.n=(allS,false)):=qD (leafS_none (leafI_other (by omega)))
 have B0:Hid (Blk (w.alloc (.cells (arrPr p) 38)) w.heap.size 38 (arrPr p)):=Blk.new_at rfl
 have BE:=qD ((Below.refl w.heap.size w).alloc (qL) (Obj.cells (arrPr p) 38))
 go_enter Tryz.func77,Tryz.ntmps77
 go_upto_region 1 with fail
 change Code.wp _ _ _ _ (w.alloc (.cells (arrPr p) 38))
 generalize w.alloc (.cells (arrPr p) 38)=wa at*
 obtain⟨d0,-,-,-,d7,d8,-,-⟩:=pr_cells B0.out
 have f2:=(range_parg B0.out) 0 _ rfl
 simp only[Nat.reduceAdd] at f2
 obtain⟨h3,h4,h5,h6,h7,h8,h9,h10⟩:=h
 have g3:(p.op==2)=false:=by simpa using h3
 have g4:(p.op==4)=false:=by simpa using h4
 have g5:(p.op==5)=false:=by simpa using h5
 have g6:(p.op==6)=false:=by simpa using h6
 have g7:(p.op==7)=false:=by simpa using h7
 have g8:(p.op==8)=false:=by simpa using h8
 have g9:(p.op==16)=false:=by simpa using h9
 have g10:(p.op==11)=false:=by simpa using h10
 clear h3 h4 h5 h6 h7 h8 h9 h10
 go_wp2_with fail
 refine(rall_any _).mono ?_
 rintro e w9 ⟨A3,m3,c3,ys,nf,rfl,hy,hnf,hmk,hsi,hb3⟩
 have HNO:=qD (show ROf (allS,false) 1 wa (.returned (.tuple #[.slice A3 m3 c3,.bool false])) w9 from⟨A3,m3,c3,ys,nf,rfl,hy,hnf,hmk,hsi,hb3⟩)
 clear hy hnf hmk hsi hb3
 go_wp2_with fail
 go_ret2
 rw[HL.out]
 exact HNO.out.up BE.out (by omega)
theorem rs_eq(p:PrT)(h:p.op=2)(hv:validV p.arg.2=true)(w:World)(hw:WP w p):
 Calls Tryz.prog 77 #[aggPr p] w (ROf (leafS p.op p.arg.2 (p.args.xs.map Prod.snd) p.n) (p.args.n+1) w):=by
 have HX:=qD hw.open.arg
 have HK:Hid (p.arg.1.k=p.arg.2.k):=qD hw.open.arg.open.k
 have HV:=qD hv
 clear hw hv
 have B0:Hid (Blk (w.alloc (.cells (arrPr p) 38)) w.heap.size 38 (arrPr p)):=Blk.new_at rfl
 have BE:=qD ((Below.refl w.heap.size w).alloc (qL) (Obj.cells (arrPr p) 38))
 go_enter Tryz.func77,Tryz.ntmps77
 go_upto_region 1 with fail
 change Code.wp _ _ _ _ (w.alloc (.cells (arrPr p) 38))
 generalize w.alloc (.cells (arrPr p) 38)=wa at*
 obtain⟨d0,-,-,-,d7,d8,-,-⟩:=pr_cells B0.out
 have f2:=(range_parg B0.out) 0 _ rfl
 simp only[Nat.reduceAdd] at f2
 rw[h] at d0
 have HOPH:=qD h
 clear h
 by_cases h6:p.arg.1.k=6
 ·have HL:Hid (leafS 2 p.arg.2 (p.args.xs.map Prod.snd) p.n=(allS,false)):=qD (leafS_none (leafI_eq6 (by rw[←HK.out];exact h6)))
  rw[h6] at f2
  clear h6
  go_wp2_with fail
  refine(rall_any _).mono ?_
  rintro e w9 ⟨A3,m3,c3,ys,nf,rfl,hy,hnf,hmk,hsi,hb3⟩
  have HNO:=qD (show ROf (allS,false) 1 wa (.returned (.tuple #[.slice A3 m3 c3,.bool false])) w9 from⟨A3,m3,c3,ys,nf,rfl,hy,hnf,hmk,hsi,hb3⟩)
  clear hy hnf hmk hsi hb3
  go_wp2_with fail
  go_ret2
  rw[HOPH.out,HL.out]
  exact HNO.out.up BE.out (by omega)
 ·have h6':(p.arg.1.k != 6)=true:=by simpa using h6
  obtain⟨b2,hb2⟩:∃b,b=decide (p.arg.2.k≠2):=⟨_,rfl⟩
  have HL:Hid (leafS 2 p.arg.2 (p.args.xs.map Prod.snd) p.n=((fun a=>inS cmC a (spansL [ptIv p.arg.2])),b2)):=by
   rw[Hid,leafS_some (leafI_eq (by rw[←HK.out];exact h6)),hb2]
  have k2:(p.arg.1.k != 2)=b2:=by rw[hb2,HK.out,Bool.eq_iff_iff];simp
  have f3:=(range_parg B0.out) 1 _ rfl
  have f4:=(range_parg B0.out) 2 _ rfl
  have f5:=(range_parg B0.out) 3 _ rfl
  have f6:=(range_parg B0.out) 4 _ rfl
  simp only[Nat.reduceAdd] at f3 f4 f5 f6
  clear h6 hb2
  go_upto_region 4 with fail
  have B:=qD ((Below.refl wa.heap.size wa).drew)
  have KS:Hid (∀w',Below wa.heap.size wa w'→(fun w'=>w'.cell? ⟨w.heap.size,2,none⟩=some (.int .i64 p.arg.1.k)∧w'.cell? ⟨w.heap.size,3,none⟩=some (.int .i64 p.arg.1.n)∧w'.cell? ⟨w.heap.size,4,none⟩=some (.string p.arg.1.t)∧w'.cell? ⟨w.heap.size,5,none⟩=some (.slice p.arg.1.LA p.arg.1.ln p.arg.1.lc)∧w'.cell? ⟨w.heap.size,6,none⟩=some (.slice p.arg.1.DA p.arg.1.dn p.arg.1.dc)) w'):=qD fun w' hb=>⟨(hb.cell (p:=⟨w.heap.size,2,none⟩) B0.out.lt).trans f2,(hb.cell (p:=⟨w.heap.size,3,none⟩) B0.out.lt).trans f3,(hb.cell (p:=⟨w.heap.size,4,none⟩) B0.out.lt).trans f4,(hb.cell (p:=⟨w.heap.size,5,none⟩) B0.out.lt).trans f5,(hb.cell (p:=⟨w.heap.size,6,none⟩) B0.out.lt).trans f6⟩
  clear f2 f3 f4 f5 f6 d0 d7 d8
  refine wp_region_noPanic ?_
  refine wp_region_held_drew (S:=(fun w'=>w'.cell? ⟨w.heap.size,2,none⟩=some (.int .i64 p.arg.1.k)∧w'.cell? ⟨w.heap.size,3,none⟩=some (.int .i64 p.arg.1.n)∧w'.cell? ⟨w.heap.size,4,none⟩=some (.string p.arg.1.t)∧w'.cell? ⟨w.heap.size,5,none⟩=some (.slice p.arg.1.LA p.arg.1.ln p.arg.1.lc)∧w'.cell? ⟨w.heap.size,6,none⟩=some (.slice p.arg.1.DA p.arg.1.dn p.arg.1.dc))) (by kernel_rfl) ?_ (fun hHeld=>?_)
  ·(try dsimp only);exact KS.out _ B.out
  refine rT (v:=?_) 0 rfl ?_ ?_
  rotate_left
  ·intro w' hSw;(try dsimp only at hSw);obtain⟨hSw2,hSw3,hSw4,hSw5,hSw6⟩:=hSw;go_simp;(try with_reducible rfl)
  try go_frame
  refine rT (v:=?_) 1 rfl ?_ ?_
  rotate_left
  ·intro w' hSw;(try dsimp only at hSw);obtain⟨hSw2,hSw3,hSw4,hSw5,hSw6⟩:=hSw;go_simp;(try with_reducible rfl)
  try go_frame
  refine rT (v:=?_) 2 rfl ?_ ?_
  rotate_left
  ·intro w' hSw;(try dsimp only at hSw);obtain⟨hSw2,hSw3,hSw4,hSw5,hSw6⟩:=hSw;go_simp;(try with_reducible rfl)
  try go_frame
  refine rT (v:=?_) 3 rfl ?_ ?_
  rotate_left
  ·intro w' hSw;(try dsimp only at hSw);obtain⟨hSw2,hSw3,hSw4,hSw5,hSw6⟩:=hSw;go_simp;(try with_reducible rfl)
  try go_frame
  refine rT (v:=?_) 4 rfl ?_ ?_
  rotate_left
  ·intro w' hSw;(try dsimp only at hSw);obtain⟨hSw2,hSw3,hSw4,hSw5,hSw6⟩:=hSw;go_simp;(try with_reducible rfl)
  try go_frame
  refine rT (v:=?_) 6 rfl ?_ ?_
  rotate_left
  ·intro w' hSw;(try dsimp only at hSw);obtain⟨hSw2,hSw3,hSw4,hSw5,hSw6⟩:=hSw;go_simp;(try with_reducible rfl)
  try go_frame
  refine rT (v:=?_) 7 rfl ?_ ?_
  rotate_left
  ·intro w' hSw;(try dsimp only at hSw);obtain⟨hSw2,hSw3,hSw4,hSw5,hSw6⟩:=hSw;go_simp;(try with_reducible rfl)
  try go_frame
  refine rT (v:=?_) 8 rfl ?_ ?_
  rotate_left
  ·intro w' hSw;(try dsimp only at hSw);obtain⟨hSw2,hSw3,hSw4,hSw5,hSw6⟩:=hSw;go_simp;(try with_reducible rfl)
  try go_frame
  refine rT (v:=?_) 9 rfl ?_ ?_
  rotate_left
  ·intro w' hSw;(try dsimp only at hSw);obtain⟨hSw2,hSw3,hSw4,hSw5,hSw6⟩:=hSw;go_simp;(try with_reducible rfl)
  try go_frame
  refine rY 5 rfl fun K hK=>?_
  go_simp
  clear hHeld
  refine hK.out _ _ ?_ fun hHeld=>?_
  ·(try dsimp only);exact KS.out _ (B.out.alloc B.out.size _)
  clear hK K
  try go_frame
  refine rT (v:=?_) 10 rfl ?_ ?_
  rotate_left
  ·intro w' hSw;(try dsimp only at hSw);obtain⟨hSw2,hSw3,hSw4,hSw5,hSw6⟩:=hSw;go_simp;(try with_reducible rfl)
  try go_frame
  refine rT (v:=?_) 11 rfl ?_ ?_
  rotate_left
  ·intro w' hSw;(try dsimp only at hSw);obtain⟨hSw2,hSw3,hSw4,hSw5,hSw6⟩:=hSw;go_simp;(try with_reducible rfl)
  try go_frame
  refine rD ?_ _
  refine NoPanic.normal ?_
  clear hHeld
  go_wp2_with fail
  go_ret2
  rw[HOPH.out,HL.out]
  exact⟨_,1,1,[ptI p.arg],_,rfl,rfl,pt_nf HV.out,by omega,si_one (Blk.new_at rfl) ⟨HX.out.step (BE.out.step' (B.out.alloc B.out.size _)),HX.out.step (BE.out.step' (B.out.alloc B.out.size _))⟩,BE.out.step' (B.out.alloc B.out.size _)⟩
theorem rs_cmp(p:PrT)(ho:p.op=4∨p.op=5∨p.op=6∨p.op=7)(hv:validV p.arg.2=true)(w:World)(hw:WP w p):
 Calls Tryz.prog 77 #[aggPr p] w (ROf (leafS p.op p.arg.2 (p.args.xs.map Prod.snd) p.n) (p.args.n+1) w):=by
 have HX:=qD hw.open.arg
 have HK:Hid (p.arg.1.k=p.arg.2.k):=qD hw.open.arg.open.k
 have HN:Hid (1≤p.arg.1.k∧p.arg.1.k≤11):=by rw[HK.out];exact qD (kind_range hv)
 have HO:=qD ho
 clear hw hv
 have B0:Hid (Blk (w.alloc (.cells (arrPr p) 38)) w.heap.size 38 (arrPr p)):=Blk.new_at rfl
 have BE:=qD ((Below.refl w.heap.size w).alloc (qL) (Obj.cells (arrPr p) 38))
 go_enter Tryz.func77,Tryz.ntmps77
 go_upto_region 1 with fail
 change Code.wp _ _ _ _ (w.alloc (.cells (arrPr p) 38))
 generalize w.alloc (.cells (arrPr p) 38)=wa at*
 obtain⟨d0,-,-,-,d7,d8,-,-⟩:=pr_cells B0.out
 have f2:=(range_parg B0.out) 0 _ rfl
 simp only[Nat.reduceAdd] at f2
 obtain⟨op,hop⟩:∃op,op=p.op:=⟨_,rfl⟩
 rw[←hop] at d0 ho
 have HOP:=qD hop
 clear hop
 by_cases h6:p.arg.1.k=6
 ·have HL:Hid (leafS p.op p.arg.2 (p.args.xs.map Prod.snd) p.n=(allS,false)):=qD (leafS_none (leafI_cmp6 HO.out (by rw[←HK.out];exact h6)))
  rw[h6] at f2
  clear h6
  rcases ho with rfl|rfl|rfl|rfl
  all_goals
   go_wp2_with fail
   refine(rall_any _).mono ?_
   rintro e w9 ⟨A3,m3,c3,ys,nf,rfl,hy,hnf,hmk,hsi,hb3⟩
   have HNO:=qD (show ROf (allS,false) 1 wa (.returned (.tuple #[.slice A3 m3 c3,.bool false])) w9 from⟨A3,m3,c3,ys,nf,rfl,hy,hnf,hmk,hsi,hb3⟩)
   clear hy hnf hmk hsi hb3
   go_wp2_with fail
   go_ret2
   rw[HL.out]
   exact HNO.out.up BE.out (by omega)
 ·have h6':(p.arg.1.k != 6)=true:=by simpa using h6
  have HQI:Hid (ivP (rngP p.arg.1.k)=rangeI p.arg.2.k):=by rw[Hid,rngP_iv HN.out h6,HK.out]
  have H6:=qD h6
  obtain⟨q,hq⟩:∃q,q=limP p.op (rngP p.arg.1.k) p.arg:=⟨_,rfl⟩
  have HQE:=qD hq
  have HL:Hid (leafS p.op p.arg.2 (p.args.xs.map Prod.snd) p.n=((fun a=>inS cmC a (spansL ([q].map ivP))),decide (p.arg.2.k≠2))):=by
   rw[Hid,leafS_some (leafI_cmp HO.out (by rw[←HK.out];exact h6)),List.map_singleton,hq]
   rw[show ivP (limP p.op (rngP p.arg.1.k) p.arg)=limI p.op p.arg.2 from limP_iv (x:=p.arg.2) (c:=p.arg.1) HQI.out]
  have HQ:Hid (∀wq:World,Below w.heap.size w wq→okI wq q):=qD fun wq hb=>by
   rw[hq]
   unfold limP
   split
   ·exact⟨HX.out.step hb,(rngP_ok _ wq).2⟩
   ·exact⟨(rngP_ok _ wq).1,HX.out.step hb⟩
  obtain⟨b2,hb2⟩:∃b,b=decide (p.arg.2.k≠2):=⟨_,rfl⟩
  rw[←hb2] at HL
  have k2:(p.arg.1.k != 2)=b2:=by rw[hb2,HK.out,Bool.eq_iff_iff];simp
  clear h6 hb2 hq HQI
  rcases ho with rfl|rfl|rfl|rfl
  all_goals
   go_upto_region 10 with fail
   have B:=qD ((Below.refl wa.heap.size wa).drew)
   have KS:Hid (∀w',Below wa.heap.size wa w'→(fun w'=>(Instr.loadAt 38 (.pointer (some ⟨w.heap.size,0,none⟩))).run Tryz.prog w'=.ok (aggPr p) w'∧w'.cell? ⟨w.heap.size,2,none⟩=some (.int .i64 p.arg.1.k)) w'):=qD fun w' hb=>⟨load_pred (arrPr p) rfl _ _ (B0.out.step hb),(hb.cell (p:=⟨w.heap.size,2,none⟩) B0.out.lt).trans f2⟩
   clear f2 d0 d7 d8
   refine wp_region_noPanic ?_
   refine wp_region_held_drew (S:=(fun w'=>(Instr.loadAt 38 (.pointer (some ⟨w.heap.size,0,none⟩))).run Tryz.prog w'=.ok (aggPr p) w'∧w'.cell? ⟨w.heap.size,2,none⟩=some (.int .i64 p.arg.1.k))) (by kernel_rfl) ?_ (fun hHeld=>?_)
   ·(try dsimp only);exact KS.out _ B.out
   refine rT (v:=aggPr p) 0 rfl ?_ ?_
   (skip)
   ·intro w' hSw;exact exec_load (p:=.pointer (some ⟨w.heap.size,0,none⟩)) rfl rfl hSw.1
   try go_frame
   refine rT (v:=?_) 4 rfl ?_ ?_
   rotate_left
   ·intro w' hSw;(try dsimp only at hSw);obtain⟨_,hSwc⟩:=hSw;go_simp;(try with_reducible rfl)
   try go_frame
   refine rT (v:=?_) 5 rfl ?_ ?_
   rotate_left
   ·intro w' hSw;(try dsimp only at hSw);obtain⟨_,hSwc⟩:=hSw;go_simp;(try with_reducible rfl)
   try go_frame
   refine rT (v:=?_) 6 rfl ?_ ?_
   rotate_left
   ·intro w' hSw;(try dsimp only at hSw);obtain⟨_,hSwc⟩:=hSw;go_simp;(try with_reducible rfl)
   try go_frame
   refine rT (v:=?_) 7 rfl ?_ ?_
   rotate_left
   ·intro w' hSw;(try dsimp only at hSw);obtain⟨_,hSwc⟩:=hSw;go_simp;(try with_reducible rfl)
   try go_frame
   refine rY 1 rfl fun K hK=>?_
   go_simp
   refine(rcomparison_any p _ HO.out HN.out H6.out).mono ?_
   rintro e4 w4 ⟨rfl,hb⟩
   replace B:=qD (B.out.step' hb)
   clear hb
   rw[←HQE.out]
   (try go_wp2_with fail)
   clear hHeld
   refine hK.out _ _ ?_ fun hHeld=>?_
   ·(try dsimp only);exact KS.out _ B.out
   clear hK K
   try go_frame
   refine rY 2 rfl fun K hK=>?_
   go_simp
   clear hHeld
   refine hK.out _ _ ?_ fun hHeld=>?_
   ·(try dsimp only);exact KS.out _ (B.out.alloc B.out.size _)
   clear hK K
   try go_frame
   refine rY 3 rfl fun K hK=>?_
   go_simp
   refine(rnormal_any [q] _ 1 1 _ (si_one (Blk.new_at rfl) (HQ.out _ (BE.out.step' (B.out.alloc B.out.size _)))) (by omega)).mono ?_
   rintro e3 w5 ⟨A3,m3,c3,ys,nf,rfl,hy,hnf,hmk,hsi,hb3⟩
   have HNO:=qD (show ROf ((fun a=>inS cmC a (spansL ([q].map ivP))),b2) 1 _ (.returned (.tuple #[.slice A3 m3 c3,.bool b2])) w5 from⟨A3,m3,c3,ys,nf,rfl,hy,hnf,hmk,hsi,hb3⟩)
   replace HNO:=qD (HNO.out.up (B.out.alloc B.out.size _) (qL))
   replace B:=qD ((B.out.alloc B.out.size _).step' hb3)
   clear hy hnf hmk hsi hb3
   (try go_wp2_with fail)
   clear hHeld
   refine hK.out _ _ ?_ fun hHeld=>?_
   ·(try dsimp only);exact KS.out _ B.out
   clear hK K
   try go_frame
   refine rT (v:=?_) 8 rfl ?_ ?_
   rotate_left
   ·intro w' hSw;(try dsimp only at hSw);obtain⟨_,hSwc⟩:=hSw;go_simp;(try with_reducible rfl)
   try go_frame
   refine rT (v:=?_) 9 rfl ?_ ?_
   rotate_left
   ·intro w' hSw;(try dsimp only at hSw);obtain⟨_,hSwc⟩:=hSw;go_simp;(try with_reducible rfl)
   try go_frame
   refine rD ?_ _
   refine NoPanic.normal ?_
   clear hHeld
   go_wp2_with fail
   go_ret2
   rw[HL.out]
   exact HNO.out.up BE.out (by omega)
theorem rs_kind(p:PrT)(h:p.op=11)(hn:1≤p.n∧p.n≤11)(w:World):
 Calls Tryz.prog 77 #[aggPr p] w (ROf (leafS p.op p.arg.2 (p.args.xs.map Prod.snd) p.n) (p.args.n+1) w):=by
 have HN:=qD hn
 clear hn
 have B0:Hid (Blk (w.alloc (.cells (arrPr p) 38)) w.heap.size 38 (arrPr p)):=Blk.new_at rfl
 have BE:=qD ((Below.refl w.heap.size w).alloc (qL) (Obj.cells (arrPr p) 38))
 go_enter Tryz.func77,Tryz.ntmps77
 go_upto_region 1 with fail
 change Code.wp _ _ _ _ (w.alloc (.cells (arrPr p) 38))
 generalize w.alloc (.cells (arrPr p) 38)=wa at*
 obtain⟨d0,-,-,-,d7,d8,-,-⟩:=pr_cells B0.out
 have f2:=(range_parg B0.out) 0 _ rfl
 simp only[Nat.reduceAdd] at f2
 rw[h] at d0
 have HOPH:=qD h
 clear h
 by_cases h6:p.n=6
 ·have HL:Hid (leafS 11 p.arg.2 (p.args.xs.map Prod.snd) p.n=(allS,false)):=by rw[h6];exact qD (leafS_none leafI_kind6)
  rw[h6] at d8
  clear h6
  go_wp2_with fail
  refine(rall_any _).mono ?_
  rintro e w9 ⟨A3,m3,c3,ys,nf,rfl,hy,hnf,hmk,hsi,hb3⟩
  have HNO:=qD (show ROf (allS,false) 1 wa (.returned (.tuple #[.slice A3 m3 c3,.bool false])) w9 from⟨A3,m3,c3,ys,nf,rfl,hy,hnf,hmk,hsi,hb3⟩)
  clear hy hnf hmk hsi hb3
  go_wp2_with fail
  go_ret2
  rw[HOPH.out,HL.out]
  exact HNO.out.up BE.out (by omega)
 ·have h6':(p.n != 6)=true:=by simpa using h6
  have H6:=qD h6
  obtain⟨q,hq⟩:∃q,q=rngP p.n:=⟨_,rfl⟩
  have HQE:=qD hq
  have HL:Hid (leafS 11 p.arg.2 (p.args.xs.map Prod.snd) p.n=((fun a=>inS cmC a (spansL ([q].map ivP))),decide (p.n≠2))):=by
   rw[Hid,leafS_some (leafI_kind h6),List.map_singleton,hq,rngP_iv HN.out h6]
  have HQ:Hid (∀wq:World,Below w.heap.size w wq→okI wq q):=qD fun wq hb=>by
   rw[hq]
   exact rngP_ok _ wq
  obtain⟨b2,hb2⟩:∃b,b=decide (p.n≠2):=⟨_,rfl⟩
  rw[←hb2] at HL
  have k2:(p.n != 2)=b2:=by rw[hb2,Bool.eq_iff_iff];simp
  clear h6 hb2 hq
  go_upto_region 30 with fail
  have B:=qD ((Below.refl wa.heap.size wa).drew)
  have KS:Hid (∀w',Below wa.heap.size wa w'→(fun w'=>w'.cell? ⟨w.heap.size,8,none⟩=some (.int .i64 p.n)) w'):=qD fun w' hb=>(hb.cell (p:=⟨w.heap.size,8,none⟩) B0.out.lt).trans d8
  clear f2 d0 d7 d8
  refine wp_region_noPanic ?_
  refine wp_region_held_drew (S:=(fun w'=>w'.cell? ⟨w.heap.size,8,none⟩=some (.int .i64 p.n))) (by kernel_rfl) ?_ (fun hHeld=>?_)
  ·(try dsimp only);exact KS.out _ B.out
  refine rU 0 rfl ?_
  try go_frame
  refine rU 1 rfl ?_
  try go_frame
  refine rU 5 rfl ?_
  try go_frame
  refine rU 6 rfl ?_
  try go_frame
  refine rU 7 rfl ?_
  try go_frame
  refine rY 2 rfl fun K hK=>?_
  go_simp
  refine(rrange_any p.n _ HN.out H6.out).mono ?_
  rintro e4 w4 ⟨rfl,hb⟩
  replace B:=qD (B.out.step' hb)
  clear hb
  rw[←HQE.out]
  (try go_wp2_with fail)
  clear hHeld
  refine hK.out _ _ ?_ fun hHeld=>?_
  ·(try dsimp only);exact KS.out _ B.out
  clear hK K
  try go_frame
  refine rY 3 rfl fun K hK=>?_
  go_simp
  clear hHeld
  refine hK.out _ _ ?_ fun hHeld=>?_
  ·(try dsimp only);exact KS.out _ (B.out.alloc B.out.size _)
  clear hK K
  try go_frame
  refine rY 4 rfl fun K hK=>?_
  go_simp
  refine(rnormal_any [q] _ 1 1 _ (si_one (Blk.new_at rfl) (HQ.out _ (BE.out.step' (B.out.alloc B.out.size _)))) (by omega)).mono ?_
  rintro e3 w5 ⟨A3,m3,c3,ys,nf,rfl,hy,hnf,hmk,hsi,hb3⟩
  have HNO:=qD (show ROf ((fun a=>inS cmC a (spansL ([q].map ivP))),b2) 1 _ (.returned (.tuple #[.slice A3 m3 c3,.bool b2])) w5 from⟨A3,m3,c3,ys,nf,rfl,hy,hnf,hmk,hsi,hb3⟩)
  replace HNO:=qD (HNO.out.up (B.out.alloc B.out.size _) (qL))
  replace B:=qD ((B.out.alloc B.out.size _).step' hb3)
  clear hy hnf hmk hsi hb3
  (try go_wp2_with fail)
  clear hHeld
  refine hK.out _ _ ?_ fun hHeld=>?_
  ·(try dsimp only);exact KS.out _ B.out
  clear hK K
  try go_frame
  refine rU 8 rfl ?_
  try go_frame
  refine rU 9 rfl ?_
  try go_frame
  refine rD ?_ _
  refine NoPanic.normal ?_
  clear hHeld
  go_wp2_with fail
  go_ret2
  rw[HOPH.out,HL.out]
  exact HNO.out.up BE.out (by omega)
theorem rs_in(p:PrT)(h:p.op=8)(w:World)(hw:WP w p):
 Calls Tryz.prog 77 #[aggPr p] w (ROf (leafS p.op p.arg.2 (p.args.xs.map Prod.snd) p.n) (p.args.n+1) w):=by
 obtain⟨i0,hi0,hz0,hz1,hz2⟩:=info_parts info_interval
 have HAR:=qD hw.open.args
 have HLN:=qD hw.open.args.sr.ln
 have HNZ:Hid (p.args.n≤1000000000):=by have:=hw.open.few;exact qD (by omega)
 have HKK:Hid (∀x∈p.args.xs,x.1.k=x.2.k):=qD fun x hx=>(hw.open.args.rv x hx).open.k
 have haz:p.args.n≤1048576:=hw.open.few
 clear hw
 have B0:Hid (Blk (w.alloc (.cells (arrPr p) 38)) w.heap.size 38 (arrPr p)):=Blk.new_at rfl
 have BE:=qD ((Below.refl w.heap.size w).alloc (qL) (Obj.cells (arrPr p) 38))
 go_enter Tryz.func77,Tryz.ntmps77
 go_upto_region 1 with fail
 change Code.wp _ _ _ _ (w.alloc (.cells (arrPr p) 38))
 generalize w.alloc (.cells (arrPr p) 38)=wa at*
 obtain⟨d0,-,-,-,d7,d8,-,-⟩:=pr_cells B0.out
 have f2:=(range_parg B0.out) 0 _ rfl
 simp only[Nat.reduceAdd] at f2
 rw[h] at d0
 have HOPH:=qD h
 clear h
 go_wp2_with fail
 refine(rhas25_any p.args.xs _ _ _ 6 _ (HAR.out.step BE.out)).mono ?_
 rintro e w1 ⟨rfl,hb⟩
 replace B0:=qD (B0.out.step hb)
 replace BE:=qD (BE.out.step' hb)
 clear hb d0 d7 d8 f2
 cases hb6:hasB p.args.xs 6
 ·have H6:=qD (hasB_false hb6)
  clear hb6
  obtain⟨b2,hb2⟩:∃b,hasB p.args.xs 2=b:=⟨_,rfl⟩
  have HB2:=qD hb2
  have HL:Hid (leafS 8 p.arg.2 (p.args.xs.map Prod.snd) p.n=((fun a=>inS cmC a (spansL ((p.args.xs.map ptI).map ivP))),!b2)):=by
   have e:(p.args.xs.map ptI).map ivP=(p.args.xs.map Prod.snd).map ptIv:=by rw[List.map_map,List.map_map];rfl
   rw[Hid,leafS_some (in_exact (b:=!b2) (fun x hx=>by rw[←HKK.out x hx];exact H6.out x hx) ?_),e]
   rw[Bool.not_eq_true']
   constructor
   ·rintro rfl x hx
    rw[←HKK.out x hx]
    exact hasB_false hb2 x hx
   ·intro h
    cases b2
    ·rfl
    ·obtain⟨x,hx,e⟩:=hasB_true hb2
     exact absurd ((HKK.out x hx).symm.trans e) (h x hx)
  clear hb2
  go_upto_region 15 with fail
  go_loopw [4,5] (fun v4 v5 wr=>∃i:Nat,i≤p.args.n∧v5=.int .i64 i∧NxI w1 v4 i ((p.args.xs.take i).map ptI) wr) (fun _ v5 _=>p.args.n-(intOf v5).toNat)
  case atStart=>exact⟨0,Nat.zero_le _,rfl,⟨own_nil _ _ _ _,Below.refl _ _⟩⟩
  case round=>
   obtain⟨i,hi,rfl,I⟩:=hrel
   have J:=qD I
   have B5:=qD (B0.out.step I.bel)
   obtain⟨_,_,_,_,d7,_,_,_⟩:=pr_cells B5.out
   by_cases hlt:i<p.args.n
   ·obtain⟨x,hx⟩:∃x,p.args.xs[i]?=some x:=⟨_,List.getElem?_eq_getElem (by have:=HLN.out;omega)⟩
    have HT:Hid ((p.args.xs.take (i+1)).map ptI=(p.args.xs.take i).map ptI++[ptI x]):=by unfold Hid;rw[take_snoc' hx,List.map_append];rfl
    obtain⟨b,off,eA,_,hu,hr⟩:=(HAR.out.step BE.out).vat hx
    rw[eA] at d7
    have hbr:b<wr.heap.size:=by have:=hu.lt;have:=I.bel.size;omega
    have hlo:w1.heap.size≤wr.heap.size:=I.bel.size
    obtain⟨y0,y1,y2,y3,y4⟩:=hu.keep (I.bel.block b hu.lt)
    have i0':(0:Int)≤(i:Int):=by omega
    have i1':(i:Int)<(p.args.n:Int):=by omega
    have HEA:=qD eA
    clear hx hu hr I eA
    go_upto_region 17 with fail
    go_region_law ((refine step_append_any _ rfl (.tmp 58) (.tmp 70) 63 rfl w1.heap.size 67 i0 (aggI (((VC.zero,Val.zero),(VC.zero,Val.zero)),(false,false))) 12 168 Tryz.underlying63 hi0 hz0 hz1 hz2 rfl (by decide) u4 i (flat recI ((p.args.xs.take i).map ptI)) (by simp[Act.eval]) ((J.out.own.alloc _).drew) (wr.heap.size+1) (some ⟨wr.heap.size,0,none⟩) 1 1 (recI (ptI x)) (by simp[Act.eval]) ⟨rfl,fun _=>⟨_,rfl,by simp,news_at _ _ _⟩⟩ (recI_one _) (by simp only[maxLen];omega) (by omega) (by simp;omega) ?_;intro v' w' hown hgr hat))
    all_goals
     have HI:Hid (NxI w1 v' (i+1) ((p.args.xs.take i).map ptI++[ptI x]) w'):=qD ((J.out.alloc _).drew.next (ys:=[ptI x]) (by simp[flat]) rfl hown hgr)
     rw[←HT.out] at HI
     clear hown hgr hat y0 y1 y2 y3 y4 i0' i1' J HT d7
     go_wp2_with fail
     go_roundw
     case rel=>exact⟨i+1,by omega,by go_num,HI.out⟩
     case measure=>simp[intOf];omega
   ·obtain rfl:i=p.args.n:=by omega
    have hps:p.args.xs.take p.args.n=p.args.xs:=List.take_of_length_le (by have:=HLN.out;omega)
    rw[hps] at I
    obtain⟨A2,c2,rfl,hs⟩:=SI.of_own (xs:=p.args.xs.map ptI) I.own (by rw[List.length_map];exact HLN.out.symm) (by unfold reach;omega) (fun x hx=>by
     obtain⟨q,hq,rfl⟩:=List.mem_map.1 hx
     have:=((HAR.out.rv q hq).step BE.out).step I.bel
     exact⟨this,this⟩)
    have HSI:=qD hs
    replace BE:=qD (BE.out.step' I.bel)
    clear hs I J hps B0
    go_upto_region 18 with fail
    have B:=qD ((Below.refl wr.heap.size wr).drew)
    have KS:Hid (∀w',Below wr.heap.size wr w'→(fun w'=>w'.cell? ⟨w.heap.size,7,none⟩=some (.slice p.args.A p.args.n p.args.c)) w'):=qD fun w' hb=>(hb.cell (p:=⟨w.heap.size,7,none⟩) B5.out.lt).trans d7
    clear d7
    refine wp_region_noPanic ?_
    refine wp_region_held_drew (S:=(fun w'=>w'.cell? ⟨w.heap.size,7,none⟩=some (.slice p.args.A p.args.n p.args.c))) (by kernel_rfl) ?_ (fun hHeld=>?_)
    ·(try dsimp only);exact KS.out _ B.out
    refine rU 0 rfl ?_
    try go_frame
    refine rU 2 rfl ?_
    try go_frame
    refine rU 3 rfl ?_
    try go_frame
    refine rY 1 rfl fun K hK=>?_
    go_simp
    refine(rnormal_any (p.args.xs.map ptI) _ _ _ _ (HSI.out.step B.out) HNZ.out).mono ?_
    rintro e3 w5 ⟨A3,m3,c3,ys,nf,rfl,hy,hnf,hmk,hsi,hb3⟩
    have HNO:Hid (∀w6,Below w5.heap.size w5 w6→ROf ((fun a=>inS cmC a (spansL ((p.args.xs.map ptI).map ivP))),!b2) p.args.n w (.returned (.tuple #[.slice A3 m3 c3,.bool (!b2)])) w6):=qD fun w6 hb6=>⟨A3,m3,c3,ys,nf,rfl,hy,hnf,hmk,hsi.step hb6,(BE.out.step' (B.out.step' hb3)).step' hb6⟩
    replace B:=qD (B.out.step' hb3)
    clear hy hnf hmk hsi hb3
    (try go_wp2_with fail)
    clear hHeld
    refine hK.out _ _ ?_ fun hHeld=>?_
    ·(try dsimp only);exact KS.out _ B.out
    clear hK K
    try go_frame
    refine rY 4 rfl fun K hK=>?_
    go_simp
    refine(rhas25_any p.args.xs _ _ _ 2 _ (HAR.out.step (BE.out.step' B.out))).mono ?_
    rintro e4 w6 ⟨rfl,hb⟩
    rw[HB2.out]
    replace B:=qD (B.out.step' hb)
    replace HNO:=qD (HNO.out _ hb)
    clear hb
    (try go_wp2_with fail)
    clear hHeld
    refine hK.out _ _ ?_ fun hHeld=>?_
    ·(try dsimp only);exact KS.out _ B.out
    clear hK K
    try go_frame
    refine rU 5 rfl ?_
    try go_frame
    refine rU 6 rfl ?_
    try go_frame
    refine rU 7 rfl ?_
    try go_frame
    refine rD ?_ _
    refine NoPanic.normal ?_
    clear hHeld
    go_wp2_with fail
    go_ret2
    rw[HOPH.out,HL.out]
    exact HNO.out.up (Below.refl _ _) (by omega)
 ·have HL:Hid (leafS 8 p.arg.2 (p.args.xs.map Prod.snd) p.n=(allS,false)):=by
   obtain⟨x,hx,e⟩:=hasB_true hb6
   exact qD (leafS_none (leafI_in6 ⟨x.2,List.mem_map_of_mem hx,by rw[←HKK.out x hx];exact e⟩))
  clear hb6
  go_wp2_with fail
  refine(rall_any _).mono ?_
  rintro e w9 ⟨A3,m3,c3,ys,nf,rfl,hy,hnf,hmk,hsi,hb3⟩
  have HNO:=qD (show ROf (allS,false) 1 w1 (.returned (.tuple #[.slice A3 m3 c3,.bool false])) w9 from⟨A3,m3,c3,ys,nf,rfl,hy,hnf,hmk,hsi,hb3⟩)
  clear hy hnf hmk hsi hb3
  go_wp2_with fail
  go_ret2
  rw[HOPH.out,HL.out]
  exact HNO.out.up BE.out (by omega)
theorem rs_pre(p:PrT)(h:p.op=16)(w:World)(hw:WP w p)(hT:Tabs w):
 Calls Tryz.prog 77 #[aggPr p] w (ROf (leafS p.op p.arg.2 (p.args.xs.map Prod.snd) p.n) (p.args.n+1) w):=by
 have HT:=qD hT
 have W:=qD hw.open
 have HKT:Hid (p.arg.1.t=p.arg.2.t):=qD hw.open.arg.open.t
 have HTZ:Hid (p.arg.1.t.size≤reach):=by have:=hw.open.arg.open.tsz;exact qD (by rw[hw.open.arg.open.t];exact this)
 clear hw hT
 have B0:Hid (Blk (w.alloc (.cells (arrPr p) 38)) w.heap.size 38 (arrPr p)):=Blk.new_at rfl
 have BE:=qD ((Below.refl w.heap.size w).alloc (qL) (Obj.cells (arrPr p) 38))
 go_enter Tryz.func77,Tryz.ntmps77
 go_upto_region 1 with fail
 change Code.wp _ _ _ _ (w.alloc (.cells (arrPr p) 38))
 generalize w.alloc (.cells (arrPr p) 38)=wa at*
 obtain⟨d0,-,-,-,d7,d8,-,-⟩:=pr_cells B0.out
 have f2:=(range_parg B0.out) 0 _ rfl
 simp only[Nat.reduceAdd] at f2
 rw[h] at d0
 have HOPH:=qD h
 clear h
 go_wp2_with fail
 refine(rrange_any 4 wa (by omega) (by omega)).mono ?_
 rintro e w1 ⟨rfl,hb⟩
 replace B0:=qD (B0.out.step hb)
 replace BE:=qD (BE.out.step' hb)
 clear hb d0 d7 d8 f2
 go_upto_region 21 with fail
 change Code.wp _ _ _ _ (w1.alloc (.cells (arrI (rngP 4)) 67))
 have J:Hid (Blk (w1.alloc (.cells (arrI (rngP 4)) 67)) w1.heap.size 67 (arrI (rngP 4))):=Blk.new_at rfl
 have HGJ:Hid (w.heap.size<w1.heap.size):=qD B0.out.lt
 replace B0:=qD (B0.out.alloc (.cells (arrI (rngP 4)) 67))
 replace BE:=qD (BE.out.alloc BE.out.size (Obj.cells (arrI (rngP 4)) 67))
 generalize w1.alloc (.cells (arrI (rngP 4)) 67)=w2 at*
 generalize w1.heap.size=gj at*
 have RA:=qD (range_parg B0.out)
 have gle:=HGJ.out
 go_upto_region 22 with(first
  | ((with_reducible show wpList _ _ _ (⟨_,.load 29 _,_,_,_,_⟩::_) _ _);refine wpList_mid_w rfl 29 _ rfl w.heap.size 2 rfl _ _ RA.out Tryz.underlying29 rfl (by kernel_rfl) ?_)
  | ((with_reducible show wpList _ _ _ (⟨_,.store 29 _ _,_,_,_,_⟩::_) _ _);refine wpl_stLo (c:=p.arg.1) rfl _ _ rfl rfl rfl J.out BE.out (by omega) p.arg.2 ?_;intro w6 hJ hfar hBE;have B6:=qD (hfar _ _ _ (by omega) B0.out);clear J BE B0 RA hfar;have J:=qD hJ;have BE:=qD hBE;have B0:=qD B6.out;clear hJ hBE B6))
 obtain⟨_,_,_,d4,_,_,_,_⟩:=pr_cells B0.out
 obtain⟨tx,htx⟩:∃t,t=p.arg.1.t:=⟨_,rfl⟩
 rw[←htx] at d4 HKT HTZ
 have HTX:=qD htx
 clear htx
 have HAR:Hid (RW w p.arg.1 p.arg.2):=W.out.arg
 have hEd:decide (p.arg.2.t=ByteArray.empty)=tx.toList.isEmpty:=by
  rw[←HKT.out,Bool.eq_iff_iff,decide_eq_true_iff,List.isEmpty_iff,Go.ByteArray.toList_eq]
  constructor
  ·rintro rfl;rfl
  ·intro h;exact ByteArray.ext (Array.toList_inj.1 h)
 have HED:=qD hEd
 clear hEd
 cases hA:afterB tx with
 | none=>
  have hq:preI p.arg.2=(⟨p.arg.2,vKd 5,true,false⟩,decide (p.arg.2.t=ByteArray.empty)):=pre_none (by rw[←HKT.out];exact hA)
  have hE:afterE tx=.returned (.tuple #[.string ByteArray.empty,.bool false]):=by unfold afterE;rw[hA];rfl
  have hAf:=rafter_any tx w6 HTZ.out
  rw[hE] at hAf
  have HAF:=qD hAf
  have HPQ:=qD hq
  clear hAf hE hq hA
  go_wp2_with fail
  refine HAF.out.mono ?_
  rintro e w3 ⟨rfl,hb⟩
  replace J:=qD (J.out.step hb)
  replace B0:=qD (B0.out.step hb)
  replace BE:=qD (BE.out.step' hb)
  clear hb d4 HAF
  go_upto_region 24 with fail
  change Code.wp _ _ _ _ (w3.alloc (.cells (cLf 4 0 ByteArray.empty).arr 29))
  replace J:=qD (J.out.alloc (.cells (cLf 4 0 ByteArray.empty).arr 29))
  replace B0:=qD (B0.out.alloc (.cells (cLf 4 0 ByteArray.empty).arr 29))
  replace BE:=qD (BE.out.alloc BE.out.size (Obj.cells (cLf 4 0 ByteArray.empty).arr 29))
  generalize w3.alloc (.cells (cLf 4 0 ByteArray.empty).arr 29)=w4 at*
  generalize w3.heap.size=gv at*
  obtain⟨_,_,_,d4,_,_,_,_⟩:=pr_cells B0.out
  rw[←HTX.out] at d4
  have HQ:Hid (∀wr,Below w.heap.size w wr→okI wr ((p.arg,(rngP 4).1.2),(rngP 4).2)):=qD fun wr hb=>⟨HAR.out.step hb,(rngP_ok 4 wr).2⟩
  obtain⟨be,hbe⟩:∃b,b=tx.toList.isEmpty:=⟨_,rfl⟩
  have HL:Hid (leafS 16 p.arg.2 (p.args.xs.map Prod.snd) p.n=((fun a=>inS cmC a (spansL ([((p.arg,(rngP 4).1.2),(rngP 4).2)].map ivP))),be)):=by
   rw[Hid,leafS_some leafI_pre,HPQ.out,HED.out,hbe]
   rfl
  replace hbe:=hbe.symm
  go_upto_region 27 with fail
  have B:=qD ((Below.refl w4.heap.size w4).drew)
  have KS:Hid (∀w',Below w4.heap.size w4 w'→(fun w'=>(Instr.loadAt 67 (.pointer (some ⟨gj,0,none⟩))).run Tryz.prog w'=.ok (aggI ((p.arg,(rngP 4).1.2),(rngP 4).2)) w'∧w'.cell? ⟨w.heap.size,4,none⟩=some (.string tx)) w'):=qD fun w' hb=>⟨load_ivAt (J.out.step hb) rfl,(hb.cell (p:=⟨w.heap.size,4,none⟩) B0.out.lt).trans d4⟩
  clear d4
  refine wp_region_noPanic ?_
  refine wp_region_held_drew (S:=(fun w'=>(Instr.loadAt 67 (.pointer (some ⟨gj,0,none⟩))).run Tryz.prog w'=.ok (aggI ((p.arg,(rngP 4).1.2),(rngP 4).2)) w'∧w'.cell? ⟨w.heap.size,4,none⟩=some (.string tx))) (by kernel_rfl) ?_ (fun hHeld=>?_)
  ·(try dsimp only);exact KS.out _ B.out
  refine rT (v:=aggI ((p.arg,(rngP 4).1.2),(rngP 4).2)) 0 rfl ?_ ?_
  (skip)
  ·intro w' hSw;exact exec_load (p:=.pointer (some ⟨gj,0,none⟩)) rfl rfl hSw.1
  try go_frame
  refine rT (v:=?_) 3 rfl ?_ ?_
  rotate_left
  ·intro w' hSw;(try dsimp only at hSw);obtain⟨_,hSwc⟩:=hSw;go_simp;(try with_reducible rfl)
  try go_frame
  refine rT (v:=?_) 4 rfl ?_ ?_
  rotate_left
  ·intro w' hSw;(try dsimp only at hSw);obtain⟨_,hSwc⟩:=hSw;go_simp;(try with_reducible rfl)
  try go_frame
  refine rT (v:=?_) 5 rfl ?_ ?_
  rotate_left
  ·intro w' hSw;(try dsimp only at hSw);obtain⟨_,hSwc⟩:=hSw;go_simp;(try with_reducible rfl)
  try go_frame
  refine rT (v:=?_) 6 rfl ?_ ?_
  rotate_left
  ·intro w' hSw;(try dsimp only at hSw);obtain⟨_,hSwc⟩:=hSw;go_simp;(try with_reducible rfl)
  try go_frame
  refine rY 1 rfl fun K hK=>?_
  go_simp
  clear hHeld
  refine hK.out _ _ ?_ fun hHeld=>?_
  ·(try dsimp only);exact KS.out _ (B.out.alloc B.out.size _)
  clear hK K
  try go_frame
  refine rY 2 rfl fun K hK=>?_
  go_simp
  refine(rnormal_any [((p.arg,(rngP 4).1.2),(rngP 4).2)] _ 1 1 _ (si_one (Blk.new_at rfl) (HQ.out _ (BE.out.step' (B.out.alloc B.out.size _)))) (by omega)).mono ?_
  rintro e3 w5 ⟨A3,m3,c3,ys,nf,rfl,hy,hnf,hmk,hsi,hb3⟩
  have HNO:=qD (show ROf ((fun a=>inS cmC a (spansL ([((p.arg,(rngP 4).1.2),(rngP 4).2)].map ivP))),be) 1 _ (.returned (.tuple #[.slice A3 m3 c3,.bool be])) w5 from⟨A3,m3,c3,ys,nf,rfl,hy,hnf,hmk,hsi,hb3⟩)
  replace HNO:=qD (HNO.out.up (B.out.alloc B.out.size _) (qL))
  replace B:=qD ((B.out.alloc B.out.size _).step' hb3)
  clear hy hnf hmk hsi hb3
  (try go_wp2_with fail)
  clear hHeld
  refine hK.out _ _ ?_ fun hHeld=>?_
  ·(try dsimp only);exact KS.out _ B.out
  clear hK K
  try go_frame
  refine rT (v:=?_) 7 rfl ?_ ?_
  rotate_left
  ·intro w' hSw;(try dsimp only at hSw);obtain⟨_,hSwc⟩:=hSw;go_simp;(try with_reducible rfl)
  try go_frame
  refine rT (v:=?_) 8 rfl ?_ ?_
  rotate_left
  ·intro w' hSw;(try dsimp only at hSw);obtain⟨_,hSwc⟩:=hSw;go_simp;(try with_reducible rfl)
  try go_frame
  refine rD ?_ _
  refine NoPanic.normal ?_
  clear hHeld
  go_wp2_with fail
  go_ret2
  rw[HOPH.out,HL.out]
  exact HNO.out.up BE.out (by omega)
 | some s=>
  have hE:afterE tx=.returned (.tuple #[.string s,.bool true]):=by unfold afterE;rw[hA];rfl
  have hAf:=rafter_any tx w6 HTZ.out
  rw[hE] at hAf
  have HAF:=qD hAf
  have HSZ:Hid (s.size≤reach):=qD (Nat.le_trans (afterB_size hA) HTZ.out)
  have HAS:=qD hA
  clear hAf hE hA
  go_wp2_with fail
  refine HAF.out.mono ?_
  rintro e w3 ⟨rfl,hb⟩
  replace J:=qD (J.out.step hb)
  replace B0:=qD (B0.out.step hb)
  replace BE:=qD (BE.out.step' hb)
  have HJ3:Hid (gj<w3.heap.size):=qD J.out.lt
  clear hb d4 HAF
  go_upto_region 24 with fail
  change Code.wp _ _ _ _ (w3.alloc (.cells (cLf 4 0 s).arr 29))
  have JB:Hid (Blk (w3.alloc (.cells (cLf 4 0 s).arr 29)) w3.heap.size 29 (cLf 4 0 s).arr):=Blk.new_at rfl
  replace J:=qD (J.out.alloc (.cells (cLf 4 0 s).arr 29))
  replace B0:=qD (B0.out.alloc (.cells (cLf 4 0 s).arr 29))
  replace BE:=qD (BE.out.alloc BE.out.size (Obj.cells (cLf 4 0 s).arr 29))
  generalize w3.alloc (.cells (cLf 4 0 s).arr 29)=w4 at*
  generalize w3.heap.size=gv at*
  obtain⟨_,_,_,d4,_,_,_,_⟩:=pr_cells B0.out
  rw[←HTX.out] at d4
  obtain⟨q0,q1,q2,q3,q4⟩:=VAt.of_blk JB.out
  simp only[Nat.zero_add] at q0 q1 q2 q3 q4
  obtain⟨vb,hvb⟩:∃b,b=validV (.mk 4 0 s [] []):=⟨_,rfl⟩
  have HVC:Hid (∀wr,Below w.heap.size w wr→Calls Tryz.prog 11 #[(cLf 4 0 s).val] wr fun e w'=>e=.returned (.bool vb)∧Below wr.heap.size wr w'):=qD fun wr hb=>by
   rw[hvb]
   exact rvalid_any (.mk 4 0 s [] []) (cLf 4 0 s) wr (rw_leaf _ _ _ HSZ.out)
  obtain⟨be,hbe⟩:∃b,b=tx.toList.isEmpty:=⟨_,rfl⟩
  have HBE:=qD hbe
  have HVB:=qD hvb
  replace hbe:=hbe.symm
  clear hvb
  go_upto_if 97 with(go_at_call 11;refine(HVC.out _ BE.out).mono ?_;rintro e w5 ⟨rfl,hb⟩;replace J:=qD (J.out.step hb);replace JB:=qD (JB.out.step hb);replace BE:=qD (BE.out.step' hb);replace B0:=qD (B0.out.step hb);clear hb d4 q0 q1 q2 q3 q4;obtain⟨q0,q1,q2,q3,q4⟩:=VAt.of_blk JB.out;simp only[Nat.zero_add] at q0 q1 q2 q3 q4)
  cases vb
  ·have HQ:Hid (∀wr,Below w.heap.size w wr→okI wr ((p.arg,(rngP 4).1.2),(rngP 4).2)):=qD fun wr hb=>⟨HAR.out.step hb,(rngP_ok 4 wr).2⟩
   have HL:Hid (leafS 16 p.arg.2 (p.args.xs.map Prod.snd) p.n=((fun a=>inS cmC a (spansL ([((p.arg,(rngP 4).1.2),(rngP 4).2)].map ivP))),be)):=by
    rw[Hid,leafS_some leafI_pre,pre_bad (x:=p.arg.2) (s:=s) (by rw[←HKT.out];exact HAS.out) HVB.out.symm,HED.out,HBE.out]
    rfl
   clear HBE
   obtain⟨_,_,_,d4,_,_,_,_⟩:=pr_cells B0.out
   rw[←HTX.out] at d4
   go_upto_region 27 with fail
   have B:=qD ((Below.refl w5.heap.size w5).drew)
   have KS:Hid (∀w',Below w5.heap.size w5 w'→(fun w'=>(Instr.loadAt 67 (.pointer (some ⟨gj,0,none⟩))).run Tryz.prog w'=.ok (aggI ((p.arg,(rngP 4).1.2),(rngP 4).2)) w'∧w'.cell? ⟨w.heap.size,4,none⟩=some (.string tx)) w'):=qD fun w' hb=>⟨load_ivAt (J.out.step hb) rfl,(hb.cell (p:=⟨w.heap.size,4,none⟩) B0.out.lt).trans d4⟩
   clear d4
   refine wp_region_noPanic ?_
   refine wp_region_held_drew (S:=(fun w'=>(Instr.loadAt 67 (.pointer (some ⟨gj,0,none⟩))).run Tryz.prog w'=.ok (aggI ((p.arg,(rngP 4).1.2),(rngP 4).2)) w'∧w'.cell? ⟨w.heap.size,4,none⟩=some (.string tx))) (by kernel_rfl) ?_ (fun hHeld=>?_)
   ·(try dsimp only);exact KS.out _ B.out
   refine rT (v:=aggI ((p.arg,(rngP 4).1.2),(rngP 4).2)) 0 rfl ?_ ?_
   (skip)
   ·intro w' hSw;exact exec_load (p:=.pointer (some ⟨gj,0,none⟩)) rfl rfl hSw.1
   try go_frame
   refine rT (v:=?_) 3 rfl ?_ ?_
   rotate_left
   ·intro w' hSw;(try dsimp only at hSw);obtain⟨_,hSwc⟩:=hSw;go_simp;(try with_reducible rfl)
   try go_frame
   refine rT (v:=?_) 4 rfl ?_ ?_
   rotate_left
   ·intro w' hSw;(try dsimp only at hSw);obtain⟨_,hSwc⟩:=hSw;go_simp;(try with_reducible rfl)
   try go_frame
   refine rT (v:=?_) 5 rfl ?_ ?_
   rotate_left
   ·intro w' hSw;(try dsimp only at hSw);obtain⟨_,hSwc⟩:=hSw;go_simp;(try with_reducible rfl)
   try go_frame
   refine rT (v:=?_) 6 rfl ?_ ?_
   rotate_left
   ·intro w' hSw;(try dsimp only at hSw);obtain⟨_,hSwc⟩:=hSw;go_simp;(try with_reducible rfl)
   try go_frame
   refine rY 1 rfl fun K hK=>?_
   go_simp
   clear hHeld
   refine hK.out _ _ ?_ fun hHeld=>?_
   ·(try dsimp only);exact KS.out _ (B.out.alloc B.out.size _)
   clear hK K
   try go_frame
   refine rY 2 rfl fun K hK=>?_
   go_simp
   refine(rnormal_any [((p.arg,(rngP 4).1.2),(rngP 4).2)] _ 1 1 _ (si_one (Blk.new_at rfl) (HQ.out _ (BE.out.step' (B.out.alloc B.out.size _)))) (by omega)).mono ?_
   rintro e3 w5 ⟨A3,m3,c3,ys,nf,rfl,hy,hnf,hmk,hsi,hb3⟩
   have HNO:=qD (show ROf ((fun a=>inS cmC a (spansL ([((p.arg,(rngP 4).1.2),(rngP 4).2)].map ivP))),be) 1 _ (.returned (.tuple #[.slice A3 m3 c3,.bool be])) w5 from⟨A3,m3,c3,ys,nf,rfl,hy,hnf,hmk,hsi,hb3⟩)
   replace HNO:=qD (HNO.out.up (B.out.alloc B.out.size _) (qL))
   replace B:=qD ((B.out.alloc B.out.size _).step' hb3)
   clear hy hnf hmk hsi hb3
   (try go_wp2_with fail)
   clear hHeld
   refine hK.out _ _ ?_ fun hHeld=>?_
   ·(try dsimp only);exact KS.out _ B.out
   clear hK K
   try go_frame
   refine rT (v:=?_) 7 rfl ?_ ?_
   rotate_left
   ·intro w' hSw;(try dsimp only at hSw);obtain⟨_,hSwc⟩:=hSw;go_simp;(try with_reducible rfl)
   try go_frame
   refine rT (v:=?_) 8 rfl ?_ ?_
   rotate_left
   ·intro w' hSw;(try dsimp only at hSw);obtain⟨_,hSwc⟩:=hSw;go_simp;(try with_reducible rfl)
   try go_frame
   refine rD ?_ _
   refine NoPanic.normal ?_
   clear hHeld
   go_wp2_with fail
   go_ret2
   rw[HOPH.out,HL.out]
   exact HNO.out.up BE.out (by omega)
  ·have HQ:Hid (∀wr,Below w.heap.size w wr→okI wr ((p.arg,(cLf 4 0 s,.mk 4 0 s [] [])),(true,false))):=qD fun wr hb=>⟨HAR.out.step hb,rw_leaf _ _ _ HSZ.out⟩
   have HL:Hid (leafS 16 p.arg.2 (p.args.xs.map Prod.snd) p.n=((fun a=>inS cmC a (spansL ([((p.arg,(cLf 4 0 s,.mk 4 0 s [] [])),(true,false))].map ivP))),true)):=by
    rw[Hid,leafS_some leafI_pre,pre_some (x:=p.arg.2) (s:=s) (by rw[←HKT.out];exact HAS.out) HVB.out.symm]
    rfl
   go_upto_region 26 with((with_reducible show wpList _ _ _ (⟨_,.store 29 _ _,_,_,_,_⟩::_) _ _);refine wpl_stHi (c:=cLf 4 0 s) rfl _ _ rfl rfl rfl J.out BE.out (by omega) (.mk 4 0 s [] []) ?_;intro w7 hJ hfar hBE;clear J BE hfar q0 q1 q2 q3 q4 JB;have J:=qD hJ;have BE:=qD hBE;clear hJ hBE)
   have J2:Hid (Blk w7 gj 67 (arrI ((p.arg,(cLf 4 0 s,.mk 4 0 s [] [])),(true,false)))):=J
   have RGJ:=qD (iv_full2 J2.out)
   go_wp2_with ((with_reducible show wpList _ _ _ (⟨_,.load 67 _,_,_,_,_⟩::_) _ _);refine wpList_mid_w rfl 67 _ rfl gj 0 rfl _ _ RGJ.out Tryz.underlying67 rfl (by kernel_rfl) ?_)
   refine(rnormal_any [((p.arg,(cLf 4 0 s,.mk 4 0 s [] [])),(true,false))] _ 1 1 _ (si_one (Blk.new_at rfl) ((HQ.out _ (BE.out.alloc BE.out.size _)))) (by omega)).mono ?_
   rintro e w9 ⟨A3,m3,c3,ys,nf,rfl,hy,hnf,hmk,hsi,hb3⟩
   have HNO:=qD (show ROf ((fun a=>inS cmC a (spansL ([((p.arg,(cLf 4 0 s,.mk 4 0 s [] [])),(true,false))].map ivP))),true) 1 _ (.returned (.tuple #[.slice A3 m3 c3,.bool (true)])) w9 from⟨A3,m3,c3,ys,nf,rfl,hy,hnf,hmk,hsi,hb3⟩)
   clear hy hnf hmk hsi hb3
   go_wp2_with fail
   go_ret2
   rw[HOPH.out,HL.out]
   exact HNO.out.up (BE.out.alloc BE.out.size _) (by omega)
theorem rsingle_any(p:PrT)(w:World)(hw:WP w p)(hv:VPr p)(hT:Tabs w):
 Calls Tryz.prog 77 #[aggPr p] w (ROf (leafS p.op p.arg.2 (p.args.xs.map Prod.snd) p.n) (p.args.n+1) w):=by
 by_cases h2:p.op=2
 ·exact rs_eq p h2 (hv.open.arg (by omega)) w hw
 by_cases ho:p.op=4∨p.op=5∨p.op=6∨p.op=7
 ·exact rs_cmp p ho (hv.open.arg (by omega)) w hw
 by_cases h8:p.op=8
 ·exact rs_in p h8 w hw
 by_cases h16:p.op=16
 ·exact rs_pre p h16 w hw hT
 by_cases h11:p.op=11
 ·exact rs_kind p h11 (hv.open.kind h11) w
 exact rs_other p (by omega) w
theorem rsame25_any(l m:List ByteArray)(A B:Option Addr)(n c k d:Nat)(w:World)(h:ST w A n c l)(h':ST w B k d m):
 Calls Tryz.prog 76 #[.slice A n c,.slice B k d] w fun e w'=>e=.returned (.bool (sameP l m))∧Below w.heap.size w w':=by
 have hz:n≤140737488355328:=by have:=h.sz;unfold reach at this;omega
 have hk:k≤140737488355328:=by have:=h'.sz;unfold reach at this;omega
 have H:=qD h
 have H':=qD h'
 clear h h'
 by_cases hnk:n=k
 rotate_left
 ·have HF:Hid (sameP l m=false):=sameP_len (by have:=H.out.sr.ln;have:=H'.out.sr.ln;omega)
  have hnk':((n:Int) != (k:Int))=true:=by simp;omega
  go_enter Tryz.func76,Tryz.ntmps76
  go_wp2_with fail
  go_ret
  exact⟨by rw[HF.out];rfl,Below.refl _ _⟩
 subst hnk
 go_enter Tryz.func76,Tryz.ntmps76
 go_wp2_with fail
 go_loopw [5] (fun v wr=>∃i:Nat,i≤n∧v=.int .i64 i∧sameP l m=sameP (l.drop i) (m.drop i)∧Below w.heap.size w wr) (fun v _=>n-(intOf v).toNat)
 case atStart=>exact⟨0,Nat.zero_le _,rfl,rfl,Below.refl _ _⟩
 case round=>
  obtain⟨i,hi,rfl,ha,hbel⟩:=hrel
  have HA:=qD ha
  have HB:=qD hbel
  clear ha
  by_cases hlt:i<n
  ·obtain⟨b,off,x,hA,hb,hx,e0⟩:=H.out.sr.at1 hlt
   obtain⟨b',off',y,hA',hb',hy,f0⟩:=H'.out.sr.at1 hlt
   subst hA hA'
   have HX:=qD (sameP_at hx hy)
   have e1:=(hbel.cell (p:=⟨b,off+i,none⟩) hb).trans e0
   have f1:=(hbel.cell (p:=⟨b',off'+i,none⟩) hb').trans f0
   have X0:∀kk:BW wr,kk.val.cell? ⟨b,off+i,none⟩=some (.string x):=fun kk=>kk.cell e1
   have Y0:∀kk:BW wr,kk.val.cell? ⟨b',off'+i,none⟩=some (.string y):=fun kk=>kk.cell f1
   have i0:(0:Int)≤(i:Int):=by omega
   have i1:(i:Int)<(n:Int):=by omega
   clear hx hy e0 f0 hbel
   go_upto_region 6 with fail
   clear e1 f1
   refine wp_region_bw (by kernel_rfl) (by kernel_rfl) ?_
   repeat(go_big_quiet_step (fail))
   refine wpQuiet_nil ?_
   rintro _ ⟨kw,rfl⟩
   have HK:=qD kw.below
   generalize kw.val=w5 at*
   clear X0 Y0
   cases hq:(x.toList==y.toList)
   ·have HF:Hid (sameP l m=false):=by rw[Hid,HA.out,HX.out,hq];rfl
    go_wp2_with fail
    go_ret
    exact⟨by rw[HF.out];rfl,HB.out.step' HK.out⟩
   ·have HF:Hid (sameP l m=sameP (l.drop (i+1)) (m.drop (i+1))):=by rw[Hid,HA.out,HX.out,hq];rfl
    go_wp2_with fail
    go_roundw
    case rel=>exact⟨i+1,by omega,by go_num,HF.out,HB.out.step' HK.out⟩
    case measure=>simp[intOf];omega
  ·have HF:Hid (sameP l m=true):=by rw[Hid,HA.out];exact sameP_end (by have:=H.out.sr.ln;omega) (by have:=H'.out.sr.ln;omega)
   clear hbel
   go_wp2_with fail
   go_ret
   exact⟨by rw[HF.out];rfl,HB.out⟩
def ROfAt(p:PrT):Prop:=∀(A:Option Addr) (n c:Nat) (l:List ByteArray) (w:World),WP w p→VPr p→Tabs w→ST w A n c l→p.sz≤300000000→Calls Tryz.prog 26 #[aggPr p,.slice A n c] w (ROf (ofS l p) p.sz w)
theorem firstS_drop{l:List ByteArray}{ks:List PrT}{i:Nat}{k:PrT}(h:ks[i]?=some k):firstS ((ks.drop i).map (ofS l))=if isAllB (ofS l k).1 then firstS ((ks.drop (i+1)).map (ofS l)) else((ofS l k).1,false):=by
 rw[drop_of h,List.map_cons,firstS]
theorem rof_and(p:PrT)(ih:∀k∈p.kids,ROfAt k)(h:p.op=20):ROfAt p:=by
 intro A n c l w hw hv hT hl hz
 rw[ofS_and h]
 have HT:=qD hT
 have W:=qD hw.open
 have HL:=qD hl
 have HKV:=qD (hv.open.kids (.inl h))
 have IH:Hid (∀k∈p.kids,∀wr,Below w.heap.size w wr→Calls Tryz.prog 26 #[aggPr k,.slice A n c] wr (ROf (ofS l k) k.sz wr)):=qD fun k hkm wr hb=>by
  have hs:k.sz≤p.sz:=by rw[p.sz_eq];have:=szL_ge hkm;omega
  exact ih k hkm A n c l wr ((W.out.kids k hkm).step hb) (HKV.out k hkm) (HT.out.step hb) (HL.out.step hb) (by omega)
 have HSK:Hid (∀k∈p.kids,k.sz≤p.sz):=qD fun k hkm=>by rw[p.sz_eq];have:=szL_ge hkm;omega
 have HS1:Hid (1≤p.sz):=by rw[Hid,p.sz_eq];omega
 have hkz:p.kn≤140737488355328:=by have:=W.out.ksz;unfold reach at this;omega
 have HKN:=qD W.out.sr.ln
 clear hw hv hT hl hz ih
 have B0:Hid (Blk (w.alloc (.cells (arrPr p) 38)) w.heap.size 38 (arrPr p)):=Blk.new_at rfl
 have BE:=qD ((Below.refl w.heap.size w).alloc (qL) (Obj.cells (arrPr p) 38))
 go_enter Tryz.func26,Tryz.ntmps26
 go_upto_region 1 with fail
 change Code.wp _ _ _ _ (w.alloc (.cells (arrPr p) 38))
 generalize w.alloc (.cells (arrPr p) 38)=wa at*
 obtain⟨d0,_,_,_,_,_,_,d24⟩:=pr_cells B0.out
 rw[h] at d0
 clear h
 by_cases h1:p.kn=1
 ·obtain⟨b,off,k,hA,hb,hx,hm,hrg⟩:=W.out.sr.row (i:=0) (by omega)
  have HK1:Hid (p.kids=[k]):=by
   have:=HKN.out
   match hk:p.kids,this,hx with
   | [y],_,hx=>simp at hx;rw[hx];exact qD rfl
   | [],this,_=>simp at this;omega
   | _::_::_,this,_=>simp at this;omega
  have RG:=qD (range_step hrg BE.out hb)
  have HM:=qD hm
  rw[hA] at d24
  rw[h1] at d24
  have HAK:=qD hA
  clear hrg hx hm hA
  go_wp2_with ((with_reducible show wpList _ _ _ (⟨_,.load 38 _,_,_,_,_⟩::_) _ _);refine wpList_mid_w rfl 38 _ rfl b off rfl _ _ (by have:=RG.out;simpa using this) Tryz.underlying38 rfl (by kernel_rfl) ?_)
  refine(IH.out k HM.out _ BE.out).mono ?_
  rintro e w1 ⟨A3,m3,c3,ys,nf,rfl,hy,hnf,hmk,hsi,hb3⟩
  have HNO:=qD (show ROf (ofS l k) k.sz wa (.returned (.tuple #[.slice A3 m3 c3,.bool (ofS l k).2])) w1 from⟨A3,m3,c3,ys,nf,rfl,hy,hnf,hmk,hsi,hb3⟩)
  clear hy hnf hmk hsi hb3
  go_wp2_with fail
  go_ret2
  have e:andS (p.kids.map (ofS l))=ofS l k:=by rw[HK1.out];rfl
  rw[e]
  exact HNO.out.up BE.out (HSK.out k HM.out)
 ·have h1b:((p.kn:Int)==1)=false:=by simp;omega
  have HAN:Hid (andS (p.kids.map (ofS l))=firstS (p.kids.map (ofS l))):=by
   have:=HKN.out
   match hk:p.kids,this with
   | [y],this=>simp at this;omega
   | [],_=>exact qD rfl
   | _::_::_,_=>exact qD rfl
  clear h1
  go_upto_region 6 with fail
  go_loopw [6,7,8] (fun v6 _ _ wr=>∃i:Nat,i≤p.kn∧v6=.int .i64 i∧firstS (p.kids.map (ofS l))=firstS ((p.kids.drop i).map (ofS l))∧Blk wr w.heap.size 38 (arrPr p)∧Below w.heap.size w wr) (fun v6 _ _ _=>p.kn-(intOf v6).toNat)
  case atStart=>exact⟨0,Nat.zero_le _,rfl,rfl,B0.out,BE.out⟩
  case round=>
   obtain⟨i,hi,rfl,hf,hB0,hBE⟩:=hrel
   clear B0 BE d0 d24
   have B0:=qD hB0
   have BE:=qD hBE
   have HF:=qD hf
   obtain⟨_,_,_,_,_,_,_,d24⟩:=pr_cells B0.out
   clear hB0 hBE hf
   by_cases hlt:i<p.kn
   ·obtain⟨b,off,k,hA,hb,hx,hm,hrg⟩:=W.out.sr.row hlt
    have HX:=qD (firstS_drop (l:=l) hx)
    have RG:=qD (range_step hrg BE.out hb)
    have HM:=qD hm
    have i0:(0:Int)≤(i:Int):=by omega
    have i1:(i:Int)<(p.kn:Int):=by omega
    rw[hA] at d24
    have HAK:=qD hA
    clear hrg hx hm hA
    go_wp2_with ((with_reducible show wpList _ _ _ (⟨_,.load 38 _,_,_,_,_⟩::_) _ _);refine wpList_mid_w rfl 38 _ rfl b (off+i*25) rfl _ _ RG.out Tryz.underlying38 rfl (by kernel_rfl) ?_)
    refine(IH.out k HM.out _ BE.out).mono ?_
    rintro e w1 ⟨A3,m3,c3,ys,nf,rfl,hy,hnf,hmk,hsi,hb3⟩
    have HSI:=qD hsi
    have HY:=qD hy
    have HN:=qD hnf
    have HM3:Hid (m3≤p.sz):=qD (Nat.le_trans hmk (HSK.out k HM.out))
    replace B0:=qD (B0.out.step hb3)
    replace BE:=qD (BE.out.step' hb3)
    clear hy hnf hmk hsi hb3 d24
    obtain⟨bx,hbx⟩:∃b,b=isAllB (ofS l k).1:=⟨_,rfl⟩
    have HIA:Hid (Calls Tryz.prog 73 #[.slice A3 m3 c3] w1 fun e w'=>e=.returned (.bool bx)∧Below w1.heap.size w1 w'):=by
     rw[hbx]
     exact qD (risAll_any ys A3 m3 c3 w1 HSI.out HY.out HN.out)
    rw[←hbx] at HX
    clear hbx
    go_wp2_with fail
    refine HIA.out.mono ?_
    rintro e w2 ⟨rfl,hb⟩
    replace HSI:=qD (HSI.out.step hb)
    replace B0:=qD (B0.out.step hb)
    replace BE:=qD (BE.out.step' hb)
    clear hb HIA
    cases bx
    ·go_wp2_with fail
     go_ret2
     have e:andS (p.kids.map (ofS l))=((ofS l k).1,false):=by rw[HAN.out,HF.out,HX.out];rfl
     rw[e]
     exact⟨A3,m3,c3,ys,nf,rfl,HY.out,HN.out,HM3.out,HSI.out,BE.out⟩
    ·go_wp2_with fail
     go_roundw
     case rel=>exact⟨i+1,by omega,by go_num,by rw[HF.out,HX.out];rfl,B0.out,BE.out⟩
     case measure=>simp[intOf];omega
   ·obtain rfl:i=p.kn:=by omega
    go_wp2_with fail
    refine(rall_any _).mono ?_
    rintro e w9 ⟨A3,m3,c3,ys,nf,rfl,hy,hnf,hmk,hsi,hb3⟩
    have HNO:=qD (show ROf (allS,false) 1 wr (.returned (.tuple #[.slice A3 m3 c3,.bool false])) w9 from⟨A3,m3,c3,ys,nf,rfl,hy,hnf,hmk,hsi,hb3⟩)
    clear hy hnf hmk hsi hb3
    go_wp2_with fail
    go_ret2
    have e:andS (p.kids.map (ofS l))=(allS,false):=by rw[HAN.out,HF.out,List.drop_of_length_le (by have:=HKN.out;omega)];rfl
    rw[e]
    exact HNO.out.up BE.out HS1.out
structure ROrI(l:List ByteArray)(p:PrT)(w:World)(i m:Nat)(A:Option Addr)(c:Nat)(b:Bool)(ys:List PI)(nf:List (Cut×Cut))(wr:World):Prop where
 eq:ys.map ivP=nf.map ivOf
 nf:IsNF (fun a=>∃r∈(p.kids.take i).map (ofS l),r.1 a) nf
 le:m≤PrT.sz.szL (p.kids.take i)
 si:SI wr A m c ys
 no:∀r∈(p.kids.take i).map (ofS l),isAllB r.1=false
 ex:b=((p.kids.take i).map (ofS l)).all fun r=>r.2
 b0:Blk wr w.heap.size 38 (arrPr p)
 bel:Below w.heap.size w wr
theorem ROrI.step{l:List ByteArray}{p:PrT}{w:World}{i m:Nat}{A:Option Addr}{c:Nat}{b:Bool}{ys:List PI}{nf:List (Cut×Cut)}{wr w':World}(h:ROrI l p w i m A c b ys nf wr)(hb:Below wr.heap.size wr w'):ROrI l p w i m A c b ys nf w':=
 ⟨h.eq,h.nf,h.le,h.si.step hb,h.no,h.ex,h.b0.step hb,h.bel.step' hb⟩
theorem ROrI.next{l:List ByteArray}{p k:PrT}{w:World}{i m m3 m9:Nat}{A A9:Option Addr}{c c9:Nat}{b b':Bool}{ys zs:List PI}{nf nf9:List (Cut×Cut)}{wr:World}{T:Cut→Prop}(h:ROrI l p w i m A c b ys nf wr)(hk:p.kids[i]?=some k)(hall:isAllB (ofS l k).1=false)(hm3:m3≤k.sz)(hb':b'=(b&&(ofS l k).2))(he:zs.map ivP=nf9.map ivOf)(hn:IsNF (fun a=>inS cmC a (spansL (ys.map ivP))∨T a) nf9)(hT:∀a,T a↔(ofS l k).1 a)(hm:m9≤m+m3)(hsi:SI wr A9 m9 c9 zs):ROrI l p w (i+1) m9 A9 c9 b' zs nf9 wr:=by
 have tk:p.kids.take (i+1)=p.kids.take i++[k]:=by rw[List.take_add_one,hk];rfl
 refine⟨he,⟨hn.1,fun a=>?_⟩,by rw[szL_take _ _ hk];have:=h.le;omega,hsi,fun r hr=>?_,?_,h.b0,h.bel⟩
 ·rw[hn.2 a]
  show(inS cmC a (spansL (ys.map ivP))∨T a)↔∃r∈(p.kids.take (i+1)).map (ofS l),r.1 a
  rw[nf_spans h.eq h.nf a,hT a,tk,List.map_append]
  constructor
  ·rintro(⟨r,hr,ha⟩|ha)
   ·exact⟨r,List.mem_append_left _ hr,ha⟩
   ·exact⟨ofS l k,by simp,ha⟩
  ·rintro⟨r,hr,ha⟩
   rcases List.mem_append.1 hr with hr|hr
   ·exact .inl ⟨r,hr,ha⟩
   ·obtain rfl:r=ofS l k:=by simpa using hr
    exact .inr ha
 ·rw[tk,List.map_append] at hr
  rcases List.mem_append.1 hr with hr|hr
  ·exact h.no r hr
  ·obtain rfl:r=ofS l k:=by simpa using hr
   exact hall
 ·rw[hb',h.ex,tk,List.map_append,List.all_append]
  simp
theorem rof_or(p:PrT)(ih:∀k∈p.kids,ROfAt k)(h:p.op=21):ROfAt p:=by
 intro A n c l w hw hv hT hl hz
 rw[ofS_or h]
 have HT:=qD hT
 have W:=qD hw.open
 have HL:=qD hl
 have HKV:=qD (hv.open.kids (.inr h))
 have IH:Hid (∀k∈p.kids,∀wr,Below w.heap.size w wr→Calls Tryz.prog 26 #[aggPr k,.slice A n c] wr (ROf (ofS l k) k.sz wr)):=qD fun k hkm wr hb=>by
  have hs:k.sz≤p.sz:=by rw[p.sz_eq];have:=szL_ge hkm;omega
  exact ih k hkm A n c l wr ((W.out.kids k hkm).step hb) (HKV.out k hkm) (HT.out.step hb) (HL.out.step hb) (by omega)
 have HSK:Hid (∀k∈p.kids,k.sz≤p.sz):=qD fun k hkm=>by rw[p.sz_eq];have:=szL_ge hkm;omega
 have HSZ:Hid (PrT.sz.szL p.kids+1≤p.sz):=by rw[Hid,p.sz_eq];omega
 have HZ:=qD hz
 have hkz:p.kn≤140737488355328:=by have:=W.out.ksz;unfold reach at this;omega
 have HKN:=qD W.out.sr.ln
 clear hw hv hT hl hz ih
 have B0:Hid (Blk (w.alloc (.cells (arrPr p) 38)) w.heap.size 38 (arrPr p)):=Blk.new_at rfl
 have BE:=qD ((Below.refl w.heap.size w).alloc (qL) (Obj.cells (arrPr p) 38))
 go_enter Tryz.func26,Tryz.ntmps26
 go_upto_region 1 with fail
 change Code.wp _ _ _ _ (w.alloc (.cells (arrPr p) 38))
 generalize w.alloc (.cells (arrPr p) 38)=wa at*
 obtain⟨d0,_,_,_,_,_,_,d24⟩:=pr_cells B0.out
 rw[h] at d0
 clear h
 go_upto_region 16 with fail
 go_loopw [9,10,11,12,13] (fun v9 v10 v11 _ _ wr=>∃(i m:Nat) (A9:Option Addr) (c9:Nat) (bx:Bool) (ys:List PI) (nf:List (Cut×Cut)),i≤p.kn∧v11=.int .i64 i∧v10=.bool bx∧v9=.slice A9 m c9∧ROrI l p w i m A9 c9 bx ys nf wr) (fun _ _ v11 _ _ _=>p.kn-(intOf v11).toNat)
 case atStart=>
  refine⟨0,0,none,0,true,[],[],Nat.zero_le _,rfl,rfl,rfl,rfl,⟨NF.nil,fun a=>?_⟩,Nat.zero_le _,⟨SR.nil,by decide,by simp⟩,by simp,rfl,B0.out,BE.out⟩
  constructor
  ·rintro⟨s,hs,_⟩;simp at hs
  ·rintro⟨r,hr,_⟩;simp at hr
 case round=>
  obtain⟨i,m,A9,c9,bx,ys,nf,hi,rfl,rfl,rfl,hI⟩:=hrel
  clear B0 BE d0 d24
  have HI:=qD hI
  have HMZ:Hid (m≤300000000):=by have h1:=hI.le;have h2:=szL_take_le p.kids i;have h3:=HSZ.out;have h4:=HZ.out;exact qD (by omega)
  obtain⟨_,_,_,_,_,_,_,d24⟩:=pr_cells hI.b0
  clear hI
  by_cases hlt:i<p.kn
  ·obtain⟨b,off,k,hA,hb,hx,hm,hrg⟩:=W.out.sr.row hlt
   have HX:=qD hx
   have RG:=qD (range_step hrg HI.out.bel hb)
   have HM:=qD hm
   have i0:(0:Int)≤(i:Int):=by omega
   have i1:(i:Int)<(p.kn:Int):=by omega
   rw[hA] at d24
   have HAK:=qD hA
   clear hrg hx hm hA
   go_wp2_with ((with_reducible show wpList _ _ _ (⟨_,.load 38 _,_,_,_,_⟩::_) _ _);refine wpList_mid_w rfl 38 _ rfl b (off+i*25) rfl _ _ RG.out Tryz.underlying38 rfl (by kernel_rfl) ?_)
   refine(IH.out k HM.out _ HI.out.bel).mono ?_
   rintro e w1 ⟨A3,m3,c3,zs,n3,rfl,hy,hnf,hmk,hsi,hb3⟩
   have HSI:=qD hsi
   have HY:=qD hy
   have HN:=qD hnf
   have HM3:=qD hmk
   replace HI:=qD (HI.out.step hb3)
   clear hy hnf hmk hsi hb3 d24
   obtain⟨ba,hba⟩:∃b,b=isAllB (ofS l k).1:=⟨_,rfl⟩
   have HIA:Hid (Calls Tryz.prog 73 #[.slice A3 m3 c3] w1 fun e w'=>e=.returned (.bool ba)∧Below w1.heap.size w1 w'):=by
    rw[hba]
    exact qD (risAll_any zs A3 m3 c3 w1 HSI.out HY.out HN.out)
   have HAB:=qD hba
   clear hba
   obtain⟨be,hbe⟩:∃b,b=(ofS l k).2:=⟨_,rfl⟩
   rw[←hbe]
   have HBE:=qD hbe
   clear hbe
   go_wp2_with fail
   refine HIA.out.mono ?_
   rintro e w2 ⟨rfl,hb⟩
   replace HSI:=qD (HSI.out.step hb)
   replace HI:=qD (HI.out.step hb)
   clear hb HIA
   cases ba
   ·cases bx
    all_goals
     go_wp2_with fail
     refine(runion_any ys zs A9 A3 m c9 m3 c3 w2 HI.out.si HSI.out (by have:=HMZ.out;omega) (by have h1:=HM3.out;have h2:=HSK.out k HM.out;have h3:=HZ.out;omega)).mono ?_
     rintro e w3 ⟨A7,m7,c7,us,n7,rfl,he,hn7,hm7,hs7,hb7⟩
     have HNX:=qD (ROrI.next (b':=_&&be) (HI.out.step hb7) HX.out HAB.out.symm HM3.out (by rw[HBE.out]) he hn7 (fun a=>nf_spans HY.out HN.out a) hm7 hs7)
     clear he hn7 hm7 hs7 hb7
     go_wp2_with fail
     go_roundw
     case rel=>exact⟨i+1,m7,A7,c7,_,us,n7,by omega,by go_num,rfl,rfl,HNX.out⟩
     case measure=>simp[intOf];omega
   ·have HE:Hid (orS (p.kids.map (ofS l))=(allS,false)):=qD (orS_all (List.mem_map_of_mem HM.out) HAB.out.symm)
    go_wp2_with fail
    refine(rall_any w2).mono ?_
    rintro e w3 ⟨A7,m7,c7,us,n7,rfl,hy,hnf,hmk,hsi,hb3⟩
    have HNO:=qD (show ROf (allS,false) 1 w2 (.returned (.tuple #[.slice A7 m7 c7,.bool false])) w3 from⟨A7,m7,c7,us,n7,rfl,hy,hnf,hmk,hsi,hb3⟩)
    clear hy hnf hmk hsi hb3
    go_wp2_with fail
    go_ret2
    rw[HE.out]
    exact HNO.out.up HI.out.bel (by have:=HSZ.out;omega)
  ·obtain rfl:i=p.kn:=by omega
   have HTK:p.kids.take p.kn=p.kids:=List.take_of_length_le (by have:=HKN.out;omega)
   have HE:Hid (orS (p.kids.map (ofS l))=(fun a=>∃r∈p.kids.map (ofS l),r.1 a,bx)):=by
    have h1:=HI.out.no
    have h3:=HI.out.ex
    rw[HTK] at h1 h3
    rw[Hid,orS_none h1,←h3]
   have HNF:Hid (IsNF (fun a=>∃r∈p.kids.map (ofS l),r.1 a) nf):=by
    have:=HI.out.nf
    rw[HTK] at this
    exact qD this
   clear HTK
   go_wp2_with fail
   go_ret2
   rw[HE.out]
   exact⟨A9,m,c9,ys,nf,rfl,HI.out.eq,HNF.out,by have h1:=HI.out.le;have h2:=szL_take_le p.kids p.kn;have h3:=HSZ.out;omega,HI.out.si,HI.out.bel⟩
theorem rof_leaf(p:PrT)(h:p.op≠20)(h':p.op≠21):ROfAt p:=by
 intro A n c l w hw hv hT hl hz
 have HT:=qD hT
 have HW:=qD hw
 have HV:=qD hv
 have HS1:Hid (p.args.n+1≤p.sz):=by rw[Hid,p.sz_eq];omega
 have HSM:Hid (∀wr,Below w.heap.size w wr→Calls Tryz.prog 76 #[.slice p.path.A p.path.n p.path.c,.slice A n c] wr fun e w'=>e=.returned (.bool (sameP p.path.xs l))∧Below wr.heap.size wr w'):=qD fun wr hb=>rsame25_any _ _ _ _ _ _ _ _ _ (hw.open.path.step hb) (hl.step hb)
 have HSI:Hid (∀wr,Below w.heap.size w wr→Calls Tryz.prog 77 #[aggPr p] wr (ROf (leafS p.op p.arg.2 (p.args.xs.map Prod.snd) p.n) (p.args.n+1) wr)):=qD fun wr hb=>rsingle_any p wr (HW.out.step hb) HV.out (HT.out.step hb)
 have g20:(p.op==20)=false:=by simpa using h
 have g21:(p.op==21)=false:=by simpa using h'
 obtain⟨bs,hbs⟩:∃b,b=sameP p.path.xs l:=⟨_,rfl⟩
 rw[←hbs] at HSM
 obtain⟨bo,hbo⟩:∃b,b=onPathB p.op:=⟨_,rfl⟩
 have HE:Hid (ofS l p=if(bo&&bs)=true then leafS p.op p.arg.2 (p.args.xs.map Prod.snd) p.n else(allS,false)):=by
  rw[Hid]
  by_cases hp:p.path.xs=l
  ·have e:bs=true:=by rw[hbs,sameP_iff];exact hp
   rw[ofS_leaf h h' hp,e,Bool.and_true]
   cases bo
   ·rw[if_neg (by decide)]
    refine leafS_none (leafI_other ?_)
    have:onPathB p.op=false:=hbo.symm
    unfold onPathB at this
    simp at this
    omega
   ·rw[if_pos rfl]
  ·have e:bs=false:=by
    rw[hbs,←Bool.not_eq_true,sameP_iff]
    exact hp
   rw[ofS_else h h' hp,e,Bool.and_false,if_neg (by decide)]
 have HBO:=qD hbo
 clear hw hv hT hl hz h h' hbs hbo
 have B0:Hid (Blk (w.alloc (.cells (arrPr p) 38)) w.heap.size 38 (arrPr p)):=Blk.new_at rfl
 have BE:=qD ((Below.refl w.heap.size w).alloc (qL) (Obj.cells (arrPr p) 38))
 go_enter Tryz.func26,Tryz.ntmps26
 go_upto_region 1 with fail
 change Code.wp _ _ _ _ (w.alloc (.cells (arrPr p) 38))
 generalize w.alloc (.cells (arrPr p) 38)=wa at*
 obtain⟨d0,d1,_,_,_,_,_,_⟩:=pr_cells B0.out
 go_wp2_with fail
 refine(onPath_any _ _).mono ?_
 rintro e w1 ⟨rfl,rfl⟩
 rw[←HBO.out]
 cases bo
 ·go_wp2_with fail
  refine(rall_any _).mono ?_
  rintro e w9 ⟨A3,m3,c3,ys,nf,rfl,hy,hnf,hmk,hsi,hb3⟩
  have HNO:=qD (show ROf (allS,false) 1 w1 (.returned (.tuple #[.slice A3 m3 c3,.bool false])) w9 from⟨A3,m3,c3,ys,nf,rfl,hy,hnf,hmk,hsi,hb3⟩)
  clear hy hnf hmk hsi hb3
  go_wp2_with fail
  go_ret2
  rw[HE.out]
  exact HNO.out.up BE.out (by have:=HS1.out;omega)
 ·go_wp2_with fail
  refine(HSM.out _ BE.out).mono ?_
  rintro e w2 ⟨rfl,hb⟩
  replace B0:=qD (B0.out.step hb)
  replace BE:=qD (BE.out.step' hb)
  clear hb d0 d1 HSM
  cases bs
  ·go_wp2_with fail
   refine(rall_any _).mono ?_
   rintro e w9 ⟨A3,m3,c3,ys,nf,rfl,hy,hnf,hmk,hsi,hb3⟩
   have HNO:=qD (show ROf (allS,false) 1 w2 (.returned (.tuple #[.slice A3 m3 c3,.bool false])) w9 from⟨A3,m3,c3,ys,nf,rfl,hy,hnf,hmk,hsi,hb3⟩)
   clear hy hnf hmk hsi hb3
   go_wp2_with fail
   go_ret2
   rw[HE.out]
   exact HNO.out.up BE.out (by have:=HS1.out;omega)
  ·obtain⟨r,hr⟩:∃r,r=leafS p.op p.arg.2 (p.args.xs.map Prod.snd) p.n:=⟨_,rfl⟩
   rw[←hr] at HSI HE
   clear hr
   have RG:=qD (pr_full B0.out)
   go_wp2_with ((with_reducible show wpList _ _ _ (⟨_,.load 38 _,_,_,_,_⟩::_) _ _);refine wpList_mid_w rfl 38 _ rfl w.heap.size 0 rfl _ _ RG.out Tryz.underlying38 rfl (by kernel_rfl) ?_)
   refine(HSI.out _ BE.out).mono ?_
   rintro e w9 ⟨A3,m3,c3,ys,nf,rfl,hy,hnf,hmk,hsi,hb3⟩
   have HNO:=qD (show ROf r (p.args.n+1) w2 (.returned (.tuple #[.slice A3 m3 c3,.bool r.2])) w9 from⟨A3,m3,c3,ys,nf,rfl,hy,hnf,hmk,hsi,hb3⟩)
   clear hy hnf hmk hsi hb3
   go_wp2_with fail
   go_ret2
   rw[HE.out]
   exact HNO.out.up BE.out HS1.out
theorem rof_any:∀p,ROfAt p:=by
 refine PrT.ind fun p ih=>?_
 by_cases h20:p.op=20
 ·exact rof_and p ih h20
 by_cases h21:p.op=21
 ·exact rof_or p ih h21
 exact rof_leaf p h20 h21
theorem results_pair1{fn:Func}{p:Tmp}(h:fn.results=#[.cell p 45])(tmps:Array Value)(g1 off:Nat)(h1:tmps[p]?.getD undef=.pointer (some ⟨g1,off,none⟩))(W:World)(a b:ByteArray)(q0:W.cell? ⟨g1,off,none⟩=some (.string a))(q1:W.cell? ⟨g1,off+1,none⟩=some (.string b)):
 (results fn tmps).run Tryz.prog W=.ok (.agg #[.string a,.string b]) W:=by
 simp[results,h,h1,asAddr,go_sem,q0,q1]
theorem rafterS_any{l t:List Int}(h:Rng l)(ht:afterL l=some t)(hz:(strOfNums l).size≤reach)(w:World):Calls Tryz.prog 32 #[.string (strOfNums l)] w fun e w'=>e=.returned (.string (strOfNums t))∧Below w.heap.size w w':=by
 have:=rafter_any (strOfNums l) w hz
 rw[afterE_list h ht] at this
 have K:=qD this
 generalize strOfNums l=S at*
 generalize strOfNums t=T at*
 clear h ht hz this
 go_enter Tryz.func32,Tryz.ntmps32
 go_wp2_with fail
 refine K.out.mono ?_
 rintro e w1 ⟨rfl,hb⟩
 have HB:=qD hb
 clear hb
 go_wp2_with fail
 go_ret
 exact⟨rfl,HB.out⟩
theorem rspan_gen(p:PI)(S1 S2 T1 T2 KL KH:ByteArray)(w:World)(hp:okI w p)(h1:keyR [p.1.1.2]=(S1,0))(h2:keyR [p.1.2.2]=(S2,0))(hlo:((p.1.1.1.k==1)=true∧p.2.1=true∧KL=ByteArray.empty)∨((p.1.1.1.k==1)=false∧p.2.1=true∧KL=S1)∨((p.1.1.1.k==1)=true∧p.2.1=false∧KL=T1)∨((p.1.1.1.k==1)=false∧p.2.1=false∧KL=T1))(hhi:((p.1.2.1.k==11)=true∧p.2.2=true∧KH=ByteArray.empty)∨((p.1.2.1.k==11)=false∧p.2.2=true∧KH=T2)∨((p.1.2.1.k==11)=true∧p.2.2=false∧KH=S2)∨((p.1.2.1.k==11)=false∧p.2.2=false∧KH=S2))(hA1:∀w,Calls Tryz.prog 32 #[.string S1] w fun e w'=>e=.returned (.string T1)∧Below w.heap.size w w')(hA2:∀w,Calls Tryz.prog 32 #[.string S2] w fun e w'=>e=.returned (.string T2)∧Below w.heap.size w w'):
 Calls Tryz.prog 28 #[aggI p] w fun e w'=>e=.returned (.agg #[.string KL,.string KH])∧Below w.heap.size w w':=by
 obtain⟨⟨⟨c1,x1⟩,⟨c2,x2⟩⟩,⟨f1,f2⟩⟩:=p
 have R1:Hid (RW w c1 x1):=hp.1
 have R2:Hid (RW w c2 x2):=hp.2
 have HA1:=qD hA1
 have HA2:=qD hA2
 have HK1:Hid (keyR [x1]=(S1,0)):=h1
 have HK2:Hid (keyR [x2]=(S2,0)):=h2
 have HLO:=qD hlo
 have HHI:=qD hhi
 clear hp hA1 hA2 h1 h2 hlo hhi
 have hcode1:Hid (∀wr,Below w.heap.size w wr→Calls Tryz.prog 30 #[c1.val] wr fun e w'=>e=.returned (.tuple #[.string S1,.int .i64 0])∧Below wr.heap.size wr w'):=qD fun wr hb=>by
  have:=rcode_any x1 c1 wr (R1.out.step hb)
  rw[HK1.out] at this
  exact this
 have hcode2:Hid (∀wr,Below w.heap.size w wr→Calls Tryz.prog 30 #[c2.val] wr fun e w'=>e=.returned (.tuple #[.string S2,.int .i64 0])∧Below wr.heap.size wr w'):=qD fun wr hb=>by
  have:=rcode_any x2 c2 wr (R2.out.step hb)
  rw[HK2.out] at this
  exact this
 have B0:Hid (Blk ((w.alloc (.cells (arrI (((c1,x1),(c2,x2)),(f1,f2))) 67)).alloc (.cells #[.string ByteArray.empty,.string ByteArray.empty] 45)) w.heap.size 67 (arrI (((c1,x1),(c2,x2)),(f1,f2)))):=(Blk.new_at rfl).alloc _
 have B1:Hid (Blk ((w.alloc (.cells (arrI (((c1,x1),(c2,x2)),(f1,f2))) 67)).alloc (.cells #[.string ByteArray.empty,.string ByteArray.empty] 45)) (w.heap.size+1) 45 #[.string ByteArray.empty,.string ByteArray.empty]):=Blk.new_at (by simp)
 have BE:Hid (Below w.heap.size w ((w.alloc (.cells (arrI (((c1,x1),(c2,x2)),(f1,f2))) 67)).alloc (.cells #[.string ByteArray.empty,.string ByteArray.empty] 45))):=((Below.refl _ _).alloc (qL) _).alloc (by simp) _
 go_enter Tryz.func28,Tryz.ntmps28
 go_upto_region 1 with fail
 change Code.wp _ _ _ _ ((w.alloc (.cells (arrI (((c1,x1),(c2,x2)),(f1,f2))) 67)).alloc (.cells #[.string ByteArray.empty,.string ByteArray.empty] 45))
 generalize ((w.alloc (.cells (arrI (((c1,x1),(c2,x2)),(f1,f2))) 67)).alloc (.cells #[.string ByteArray.empty,.string ByteArray.empty] 45))=wa at*
 obtain⟨⟨a0,a1,a2,a3,a4⟩,⟨b0,b1,b2,b3,b4⟩,b5,b6⟩:=IAt.of_blk B0.out
 simp only[Nat.zero_add] at a0 a1 a2 a3 a4 b0 b1 b2 b3 b4 b5 b6
 go_wp2_with fail
 refine(hcode1.out _ BE.out).mono ?_
 rintro e w1 ⟨rfl,hb⟩
 replace B0:=qD (B0.out.step hb)
 replace B1:=qD (B1.out.step hb)
 replace BE:=qD (BE.out.step' hb)
 clear hb a0 a1 a2 a3 a4 b0 b1 b2 b3 b4 b5 b6 hcode1
 obtain⟨⟨a0,a1,a2,a3,a4⟩,⟨b0,b1,b2,b3,b4⟩,b5,b6⟩:=IAt.of_blk B0.out
 simp only[Nat.zero_add] at a0 a1 a2 a3 a4 b0 b1 b2 b3 b4 b5 b6
 go_wp2_with fail
 refine(hcode2.out _ BE.out).mono ?_
 rintro e w2 ⟨rfl,hb⟩
 replace B0:=qD (B0.out.step hb)
 replace B1:=qD (B1.out.step hb)
 replace BE:=qD (BE.out.step' hb)
 clear hb a0 a1 a2 a3 a4 b0 b1 b2 b3 b4 b5 b6 hcode2
 obtain⟨⟨a0,a1,a2,a3,a4⟩,⟨b0,b1,b2,b3,b4⟩,b5,b6⟩:=IAt.of_blk B0.out
 simp only[Nat.zero_add] at a0 a1 a2 a3 a4 b0 b1 b2 b3 b4 b5 b6
 have r0:=B1.out.cell 0
 have r1:=B1.out.cell 1
 have rz:=B1.out.frozen
 simp at r0 r1
 rcases HLO.out with⟨kb1,rfl,rfl⟩|⟨kb1,rfl,rfl⟩|⟨kb1,rfl,rfl⟩|⟨kb1,rfl,rfl⟩
 all_goals
  (try simp only at kb1)
  clear HLO
  rcases HHI.out with⟨kb2,rfl,rfl⟩|⟨kb2,rfl,rfl⟩|⟨kb2,rfl,rfl⟩|⟨kb2,rfl,rfl⟩
  all_goals
   (try simp only at kb2)
   clear HHI
   go_wp2_with (go_at_call 32;(first|with_reducible refine(HA1.out _).mono ?_|with_reducible refine(HA2.out _).mono ?_);rintro e w3 ⟨rfl,hb⟩;replace B0:=qD (B0.out.step hb);replace B1:=qD (B1.out.step hb);replace BE:=qD (BE.out.step' hb);clear hb a0 a1 a2 a3 a4 b0 b1 b2 b3 b4 b5 b6 r0 r1 rz;obtain⟨⟨a0,a1,a2,a3,a4⟩,⟨b0,b1,b2,b3,b4⟩,b5,b6⟩:=IAt.of_blk B0.out;simp only[Nat.zero_add] at a0 a1 a2 a3 a4 b0 b1 b2 b3 b4 b5 b6;have r0:=B1.out.cell 0;have r1:=B1.out.cell 1;have rz:=B1.out.frozen;simp at r0 r1)
   refine bodyPost_ret (results_pair1 rfl _ _ _ rfl _ _ _ (((B1.out.set_ 0 _).set_ 1 _).cell 0 |>.trans rfl) (((B1.out.set_ 0 _).set_ 1 _).cell 1 |>.trans rfl)) rfl ⟨rfl,(BE.out.setCell (by show w.heap.size≤w.heap.size+1;omega) _).setCell (by show w.heap.size≤w.heap.size+1;omega) _⟩
theorem rspan_nf(p:PI)(s:Cut×Cut)(w:World)(hp:okI w p)(hs:ivP p=ivOf s)(v1:VO s.1)(v2:VO s.2):
 Calls Tryz.prog 28 #[aggI p] w fun e w'=>e=.returned (.agg #[.string (keyP s).1,.string (keyP s).2])∧Below w.heap.size w w':=by
 obtain⟨⟨x1,i1⟩,⟨x2,i2⟩⟩:=s
 obtain⟨⟨⟨c1,y1⟩,⟨c2,y2⟩⟩,⟨f1,f2⟩⟩:=p
 simp only[ivP,ivOf,Iv.mk.injEq] at hs
 obtain⟨rfl,rfl,rfl,rfl⟩:=hs
 obtain⟨t1,ht1⟩:=v1.after
 obtain⟨t2,ht2⟩:=v2.after
 have k1:c1.k=y1.k:=hp.1.open.k
 have k2:c2.k=y2.k:=hp.2.open.k
 have z1:(strOfNums (encV y1)).size≤reach:=by
  have:=(allow_enc (vallow v1.1)).2
  rw[strOfNums_size];unfold reach;simp only at this;omega
 have z2:(strOfNums (encV y2)).size≤reach:=by
  have:=(allow_enc (vallow v2.1)).2
  rw[strOfNums_size];unfold reach;simp only at this;omega
 refine rspan_gen (((c1,y1),(c2,y2)),(!i1,f2)) (strOfNums (encV y1)) (strOfNums (encV y2)) (strOfNums t1) (strOfNums t2) _ _ w hp (keyR_one_yes (vallow v1.1)) (keyR_one_yes (vallow v2.1)) ?_ ?_ (fun w=>?_) (fun w=>?_)
 ·simp only
  rw[k1]
  show _∨_
  by_cases hk:y1.k=1
  ·have hb:(y1.k==1)=true:=by simpa using hk
   cases i1
   ·refine .inl ⟨hb,rfl,?_⟩
    show keyLo (y1,false)=_
    have e:=kind_min (x:=y1) v1.1 hk
    rw[e]
    exact if_pos rfl
   ·refine .inr (.inr (.inl ⟨hb,rfl,?_⟩))
    show keyLo (y1,true)=_
    unfold keyLo
    rw[if_neg (by simp)]
    unfold endL
    rw[if_pos rfl,ht1];rfl
  ·have hb:(y1.k==1)=false:=by simpa using hk
   cases i1
   ·refine .inr (.inl ⟨hb,rfl,?_⟩)
    show keyLo (y1,false)=_
    unfold keyLo
    rw[if_neg (by intro e;simp only[Prod.mk.injEq,and_true] at e;rw[e] at hk;exact hk rfl)]
    rfl
   ·refine .inr (.inr (.inr ⟨hb,rfl,?_⟩))
    show keyLo (y1,true)=_
    unfold keyLo
    rw[if_neg (by simp)]
    unfold endL
    rw[if_pos rfl,ht1];rfl
 ·simp only
  rw[k2]
  by_cases hk:y2.k=11
  ·have hb:(y2.k==11)=true:=by simpa using hk
   cases f2
   ·refine .inr (.inr (.inl ⟨hb,rfl,?_⟩))
    show keyHi (y2,false)=_
    unfold keyHi
    rw[if_neg (by simp)]
    rfl
   ·refine .inl ⟨hb,rfl,?_⟩
    show keyHi (y2,true)=_
    have e:=kind_max (x:=y2) v2.1 hk
    rw[e]
    exact if_pos rfl
  ·have hb:(y2.k==11)=false:=by simpa using hk
   cases f2
   ·refine .inr (.inr (.inr ⟨hb,rfl,?_⟩))
    show keyHi (y2,false)=_
    unfold keyHi
    rw[if_neg (by simp)]
    rfl
   ·refine .inr (.inl ⟨hb,rfl,?_⟩)
    show keyHi (y2,true)=_
    unfold keyHi
    rw[if_neg (by intro e;simp only[Prod.mk.injEq,and_true] at e;rw[e] at hk;exact hk rfl)]
    unfold endL
    rw[if_pos rfl,ht2];rfl
 ·exact rafterS_any v1.rng ht1 z1 w
 ·exact rafterS_any v2.rng ht2 z2 w
end Go.Proofs.YtfkapannahcjiaaGreatDoor
