/- Parts of the proof, joined: BoOfD, BoOf, RgRan, PrShape, PrExpr, PrUnused, PrCount, PrCheck, PrNode, PrValid. -/
import Derived.Test.YtfkapannahcjiaaGreatDoorRa1
import Derived.Test.YtfkapannahcjiaaGreatDoorRa23
import Derived.Test.YtfkapannahcjiaaGreatDoorRa24
import Derived.Test.YtfkapannahcjiaaGreatDoorRa18
import Derived.Test.YtfkapannahcjiaaGreatDoorRa21
import Derived.Test.YtfkapannahcjiaaGreatDoorRa22
import Derived.Test.YtfkapannahcjiaaGreatDoorRa4
import Derived.Test.YtfkapannahcjiaaGreatDoorRa12
import Derived.Test.YtfkapannahcjiaaGreatDoorRa11
import Derived.Deep.CutBlock
set_option maxRecDepth 100000
set_option maxHeartbeats 16000000
set_option linter.unusedSimpArgs false
namespace Go.Proofs.YtfkapannahcjiaaGreatDoor
open Go.RowKit
theorem load_ivAt{w:World}{g:Nat}{cs:Array Value}(h:Blk w g 67 cs)(hz:cs.size=12):(Instr.loadAt 67 (.pointer (some ⟨g,0,none⟩))).run Tryz.prog w=.ok (.agg cs) w:=by
 simp only[Instr.loadAt,Instr.sureAddr,Sem.run_bind,Sem.run_pure,Result.andThen_ok,load_iv h hz]
theorem of_cmp(p:PrT)(ho:p.op=4∨p.op=5∨p.op=6∨p.op=7)(hv:validV p.arg.2=true)(A:Option Addr)(n c:Nat)(l:List ByteArray)(w:World)(hw:WP w p)(hT:Tabs w)(hl:ST w A n c l)(hp:p.path.xs=l):
 Calls Tryz.prog 22 #[aggPr p,.slice A n c] w (OfOk (leafS p.op p.arg.2 (p.args.xs.map Prod.snd) p.n) p.sz w):=by
 have HE:Hid (∀wr,Below w.heap.size w wr→Calls Tryz.prog 57 #[.slice p.path.A p.path.n p.path.c,.slice A n c] wr fun e w'=>e=.returned (.bool (sameP p.path.xs l))∧Below wr.heap.size wr w'):=qD fun wr hb=>equal_any p.path.xs l p.path.A A p.path.n p.path.c n c wr (hw.open.path.step hb) (hl.step hb)
 rw[sameP_iff.2 hp] at HE
 have HT:=qD hT
 have HSZ:Hid (1≤p.sz):=by rw[Hid,p.sz_eq];omega
 have HX:=qD hw.open.arg
 have HK:Hid (p.arg.1.k=p.arg.2.k):=qD hw.open.arg.open.k
 have HN:Hid (1≤p.arg.1.k∧p.arg.1.k≤11):=by rw[HK.out];exact qD (kind_range hv)
 have HO:=qD ho
 clear hw hT hl hp hv
 have B0:Hid (Blk (w.alloc (.cells (arrPr p) 38)) w.heap.size 38 (arrPr p)):=Blk.new_at rfl
 have BE:=qD ((Below.refl w.heap.size w).alloc (qL) (Obj.cells (arrPr p) 38))
 go_enter Tryz.func22,Tryz.ntmps22
 go_upto_region 1 with fail
 change Code.wp _ _ _ _ (w.alloc (.cells (arrPr p) 38))
 generalize w.alloc (.cells (arrPr p) 38)=wa at*
 obtain⟨d0,d1,_,_,_,_,_,_⟩:=pr_cells B0.out
 obtain⟨op,hop⟩:∃op,op=p.op:=⟨_,rfl⟩
 rw[←hop] at d0 ho
 have HOP:=qD hop
 clear hop
 rcases ho with rfl|rfl|rfl|rfl
 all_goals
  go_wp2_with fail
  refine(HE.out _ BE.out).mono ?_
  rintro e w1 ⟨rfl,hb⟩
  replace BE:=qD (BE.out.step' hb)
  replace B0:=qD (B0.out.step hb)
  clear hb d0 d1 HE
  obtain⟨d0,_,_,_,_,_,_,_⟩:=pr_cells B0.out
  rw[←HOP.out] at d0
  have f2:=(range_parg B0.out) 0 _ rfl
  simp only[Nat.reduceAdd] at f2
  by_cases h6:p.arg.1.k=6
  ·have HL:Hid (leafS p.op p.arg.2 (p.args.xs.map Prod.snd) p.n=(allS,false)):=qD (leafS_none (leafI_cmp6 HO.out (by rw[←HK.out];exact h6)))
   have K6:Hid (Calls Tryz.prog 60 #[.int .i64 p.arg.1.k] w1 fun e w'=>e=.returned (.tuple #[aggI zI,.bool false])∧Below w1.heap.size w1 w'):=by rw[h6];exact qD (kindRange6 w1)
   clear h6
   go_wp2_with fail
   refine K6.out.mono ?_
   rintro e w2 ⟨rfl,hb⟩
   replace BE:=qD (BE.out.step' hb)
   clear hb B0 d0 f2
   go_upto_region 17 with fail
   change Code.wp _ _ _ _ (w2.alloc (.cells (arrI zI) 67))
   replace BE:=qD (BE.out.alloc BE.out.size (Obj.cells (arrI zI) 67))
   generalize w2.alloc (.cells (arrI zI) 67)=w3 at*
   go_wp2_with fail
   refine(allF_any _).mono ?_
   rintro e w4 ⟨A3,m3,c3,ys,nf,rfl,hy,hnf,hmk,hsi,hb3,hfr⟩
   have HNO:=qD (show OfOk (allS,false) 1 w3 (.returned (.tuple #[.slice A3 m3 c3,.bool false])) w4 from⟨A3,m3,c3,ys,nf,rfl,hy,hnf,hmk,hsi,hb3,hfr⟩)
   clear hy hnf hmk hsi hb3 hfr
   go_wp2_with fail
   go_ret2
   rw[HL.out]
   exact HNO.out.up BE.out HSZ.out
  ·have KR:=qD (kindRange_any p.arg.1.k w1 HN.out h6)
   have HQI:Hid (ivP (rngP p.arg.1.k)=rangeI p.arg.2.k):=by rw[Hid,rngP_iv HN.out h6,HK.out]
   have HQO:Hid (∀wq:World,okI wq (rngP p.arg.1.k)):=qD fun wq=>rngP_ok _ wq
   have HL:Hid (leafS p.op p.arg.2 (p.args.xs.map Prod.snd) p.n=((fun a=>inS cmC a (spansL ([limP p.op (rngP p.arg.1.k) p.arg].map ivP))),decide (p.arg.2.k≠2))):=by
    rw[Hid,leafS_some (leafI_cmp HO.out (by rw[←HK.out];exact h6)),List.map_singleton]
    rw[show ivP (limP p.op (rngP p.arg.1.k) p.arg)=limI p.op p.arg.2 from limP_iv (x:=p.arg.2) (c:=p.arg.1) HQI.out]
   clear h6
   obtain⟨b2,hb2⟩:∃b,b=decide (p.arg.2.k≠2):=⟨_,rfl⟩
   rw[←hb2] at HL
   have k2:(p.arg.1.k != 2)=b2:=by rw[hb2,HK.out,Bool.eq_iff_iff];simp
   clear hb2
   go_wp2_with fail
   refine KR.out.mono ?_
   obtain⟨q,hq⟩:∃q,q=rngP p.arg.1.k:=⟨_,rfl⟩
   rw[←hq] at HL HQO
   rintro e w2 ⟨rfl,hb⟩
   rw[←hq]
   clear hq KR HQI
   have HQ:Hid (∀wq:World,Below w.heap.size w wq→okI wq (limP p.op q p.arg)):=qD fun wq hb=>by
    unfold limP
    split
    ·exact⟨HX.out.step hb,(HQO.out wq).2⟩
    ·exact⟨(HQO.out wq).1,HX.out.step hb⟩
   replace BE:=qD (BE.out.step' hb)
   replace B0:=qD (B0.out.step hb)
   clear hb d0 f2
   go_upto_region 17 with fail
   change Code.wp _ _ _ _ (w2.alloc (.cells (arrI q) 67))
   have J:Hid (Blk (w2.alloc (.cells (arrI q) 67)) w2.heap.size 67 (arrI q)):=Blk.new_at rfl
   replace BE:=qD (BE.out.alloc BE.out.size (Obj.cells (arrI q) 67))
   replace B0:=qD (B0.out.alloc (.cells (arrI q) 67))
   generalize w2.alloc (.cells (arrI q) 67)=w3 at*
   generalize w2.heap.size=gj at*
   have f2:=(range_parg B0.out) 0 _ rfl
   simp only[Nat.reduceAdd] at f2
   go_upto_region 18 with fail
   have B:=qD ((Below.refl w3.heap.size w3).drew)
   have KS:Hid (∀w',Below w3.heap.size w3 w'→(fun w'=>(Instr.loadAt 67 (.pointer (some ⟨gj,0,none⟩))).run Tryz.prog w'=.ok (aggI q) w'∧(Instr.loadAt 38 (.pointer (some ⟨w.heap.size,0,none⟩))).run Tryz.prog w'=.ok (aggPr p) w'∧w'.cell? ⟨w.heap.size,2,none⟩=some (.int .i64 p.arg.1.k)) w'):=qD fun w' hb=>⟨load_ivAt (J.out.step hb) rfl,load_pred (arrPr p) rfl _ _ (B0.out.step hb),(hb.cell (p:=⟨w.heap.size,2,none⟩) B0.out.lt).trans f2⟩
   clear f2
   refine wp_region_noPanic ?_
   refine wp_region_held_drew (S:=(fun w'=>(Instr.loadAt 67 (.pointer (some ⟨gj,0,none⟩))).run Tryz.prog w'=.ok (aggI q) w'∧(Instr.loadAt 38 (.pointer (some ⟨w.heap.size,0,none⟩))).run Tryz.prog w'=.ok (aggPr p) w'∧w'.cell? ⟨w.heap.size,2,none⟩=some (.int .i64 p.arg.1.k))) (by kernel_rfl) ?_ (fun hHeld=>?_)
   ·(try dsimp only);exact KS.out _ B.out
   refine rT (v:=aggI q) 0 rfl ?_ ?_
   (skip)
   ·intro w' hSw;exact exec_load (p:=.pointer (some ⟨gj,0,none⟩)) rfl rfl hSw.1
   try go_frame
   refine rT (v:=aggPr p) 1 rfl ?_ ?_
   (skip)
   ·intro w' hSw;exact exec_load (p:=.pointer (some ⟨w.heap.size,0,none⟩)) rfl rfl hSw.2.1
   try go_frame
   refine rT (v:=?_) 5 rfl ?_ ?_
   rotate_left
   ·intro w' hSw;(try dsimp only at hSw);obtain⟨_,_,hSw2⟩:=hSw;go_simp;(try with_reducible rfl)
   try go_frame
   refine rT (v:=?_) 6 rfl ?_ ?_
   rotate_left
   ·intro w' hSw;(try dsimp only at hSw);obtain⟨_,_,hSw2⟩:=hSw;go_simp;(try with_reducible rfl)
   try go_frame
   refine rT (v:=?_) 7 rfl ?_ ?_
   rotate_left
   ·intro w' hSw;(try dsimp only at hSw);obtain⟨_,_,hSw2⟩:=hSw;go_simp;(try with_reducible rfl)
   try go_frame
   refine rT (v:=?_) 8 rfl ?_ ?_
   rotate_left
   ·intro w' hSw;(try dsimp only at hSw);obtain⟨_,_,hSw2⟩:=hSw;go_simp;(try with_reducible rfl)
   try go_frame
   refine rY 2 rfl fun K hK=>?_
   go_simp
   refine((limited_any q p _ HO.out)).mono ?_
   rintro e4 w4 ⟨rfl,hb⟩
   replace B:=qD (B.out.step' hb)
   clear hb
   (try go_wp2_with fail)
   clear hHeld
   refine hK.out _ _ ?_ fun hHeld=>?_
   ·(try dsimp only);exact KS.out _ B.out
   clear hK K
   try go_frame
   refine rY 3 rfl fun K hK=>?_
   go_simp
   clear hHeld
   refine hK.out _ _ ?_ fun hHeld=>?_
   ·(try dsimp only);exact KS.out _ (B.out.alloc B.out.size _)
   clear hK K
   try go_frame
   refine rY 4 rfl fun K hK=>?_
   go_simp
   refine(normalF_any [limP p.op q p.arg] _ 1 1 _ (HT.out.step (BE.out.step' (B.out.alloc B.out.size _))) (si_one (Blk.new_at rfl) (HQ.out _ (BE.out.step' (B.out.alloc B.out.size _)))) (by omega)).mono ?_
   rintro e3 w5 ⟨A3,m3,c3,ys,nf,rfl,hy,hnf,hmk,hsi,hb3,hfr⟩
   have HNO:=qD (show OfOk ((fun a=>inS cmC a (spansL ([limP p.op q p.arg].map ivP))),b2) 1 _ (.returned (.tuple #[.slice A3 m3 c3,.bool b2])) w5 from⟨A3,m3,c3,ys,nf,rfl,hy,hnf,hmk,hsi,hb3,hfr⟩)
   replace HNO:=qD (HNO.out.up (B.out.alloc B.out.size _) (qL))
   replace B:=qD ((B.out.alloc B.out.size _).step' hb3)
   clear hy hnf hmk hsi hb3 hfr
   (try go_wp2_with fail)
   clear hHeld
   refine hK.out _ _ ?_ fun hHeld=>?_
   ·(try dsimp only);exact KS.out _ B.out
   clear hK K
   try go_frame
   refine rT (v:=?_) 9 rfl ?_ ?_
   rotate_left
   ·intro w' hSw;(try dsimp only at hSw);obtain⟨_,_,hSw2⟩:=hSw;go_simp;(try with_reducible rfl)
   try go_frame
   refine rT (v:=?_) 10 rfl ?_ ?_
   rotate_left
   ·intro w' hSw;(try dsimp only at hSw);obtain⟨_,_,hSw2⟩:=hSw;go_simp;(try with_reducible rfl)
   try go_frame
   refine rD ?_ _
   refine NoPanic.normal ?_
   clear hHeld
   go_wp2_with fail
   go_ret2
   rw[HL.out]
   exact HNO.out.up BE.out HSZ.out
theorem of_any:∀p,OfAt p:=by
 refine PrT.ind fun p ih=>?_
 by_cases h20:p.op=20
 ·exact of_and p ih h20
 by_cases h21:p.op=21
 ·exact of_or p ih h21
 intro A n c l w hw hv hT hl hz
 by_cases hp:p.path.xs=l
 ·rw[ofS_leaf h20 h21 hp]
  by_cases h2:p.op=2
  ·rw[h2]
   exact of_eqv p h2 A n c l w hw hT hl hp
  by_cases ho:p.op=4∨p.op=5∨p.op=6∨p.op=7
  ·exact of_cmp p ho (hv.open.arg (by omega)) A n c l w hw hT hl hp
  by_cases h8:p.op=8
  ·rw[h8]
   exact of_in p h8 A n c l w hw hl hp _ fun wr hb=>(ofIn_any p wr (hw.step hb) (hT.step hb)).mono fun e w' h=>h.up (Below.refl _ _) (by rw[p.sz_eq];omega)
  by_cases h16:p.op=16
  ·rw[h16]
   exact of_pre p h16 A n c l w hw hl hp _ fun wr hb=>(ofPrefix_any p wr (hw.step hb) (hT.step hb)).mono fun e w' h=>h.up (Below.refl _ _) (by rw[p.sz_eq];omega)
  by_cases h11:p.op=11
  ·rw[h11]
   exact of_kind p h11 (hv.open.kind h11) A n c l w hw hT hl hp
  rw[leafS_none (leafI_other (by omega))]
  exact of_other p (by omega) A n c l w hw hl hp
 ·rw[ofS_else h20 h21 hp]
  exact of_else p h20 h21 A n c l w hw hl hp
theorem sr_oneB{w:World}{g:Nat}{t:TypeId}{q:B2}(h:Blk w g t #[.string q.1,.string q.2]):SR 2 recB2 w (some ⟨g,0,none⟩) 1 1 [q]:=by
 refine⟨rfl,qL,fun _=>⟨g,0,rfl,h.lt,fun i a hi j v hj=>?_⟩⟩
 match i,hi with
 | 0,hi=>
  obtain rfl:a=q:=by simpa using hi.symm
  match j,hj with
  | 0,hj=>
   obtain rfl:v=.string a.1:=by simpa[recB2] using hj.symm
   exact h.cell 0
  | 1,hj=>
   obtain rfl:v=.string a.2:=by simpa[recB2] using hj.symm
   exact h.cell 1
  | j+2,hj=>simp[recB2] at hj
 | i+1,hi=>simp at hi
def RangesOk(ha:Bool)(S:Cut→Prop)(w:World)(e:Ending)(w':World):Prop:=
 ∃A m c nf L,e=.returned (.slice A m c)∧IsNF S nf∧RanOk ha nf L∧SR 2 recB2 w' A m c L∧m≤1000000000∧Below w.heap.size w w'
theorem ranges_any(p:PrT)(ha:Bool)(l:List ByteArray)(o:OC)(kb ko kn kc:Nat)(w:World)(hT:Tabs w)(hk0:0<kn)(hko:w.cell? ⟨kb,ko,none⟩=some (.slice o.A o.n o.c))(hl:ST w o.A o.n o.c l)(hw:WP w p)(hv:VPr p)(hz:p.sz≤300000000)(hG:GoodS (ofS l p).1):
 Calls Tryz.prog 9 #[.agg #[.slice (some ⟨kb,ko,none⟩) kn kc,.bool ha],aggPr p] w (RangesOk ha (ofS l p).1 w):=by
 obtain⟨j0,hj0,hy0,hy1,hy2⟩:=info_parts info_pair
 have HT:=qD hT
 have HGO:=qD hG
 have HZ:=qD hz
 have HO:Hid (∀wr,Below w.heap.size w wr→Calls Tryz.prog 22 #[aggPr p,.slice o.A o.n o.c] wr (OfOk (ofS l p) p.sz wr)):=qD fun wr hb=>of_any p _ _ _ l wr (hw.step hb) hv (hT.step hb) (hl.step hb) hz
 have hbw:=World.block_lt_of_cell? w _ hko
 have hbw:kb<w.heap.size:=hbw
 have n0b:((kn:Int)==0)=false:=by simp;omega
 have i1':(0:Int)<(kn:Int):=by omega
 have B0:Hid (Blk ((w.alloc (.cells #[.slice (some ⟨kb,ko,none⟩) kn kc,.bool ha] 24)).alloc (.cells (arrPr p) 38)) w.heap.size 24 #[.slice (some ⟨kb,ko,none⟩) kn kc,.bool ha]):=(Blk.new_at rfl).alloc _
 have B1:Hid (Blk ((w.alloc (.cells #[.slice (some ⟨kb,ko,none⟩) kn kc,.bool ha] 24)).alloc (.cells (arrPr p) 38)) (w.heap.size+1) 38 (arrPr p)):=Blk.new_at (by simp)
 have BE:Hid (Below w.heap.size w ((w.alloc (.cells #[.slice (some ⟨kb,ko,none⟩) kn kc,.bool ha] 24)).alloc (.cells (arrPr p) 38))):=((Below.refl _ _).alloc (qL) _).alloc (by simp) _
 clear hT hl hw hv hz hG
 go_enter Tryz.func9,Tryz.ntmps9
 go_upto_region 1 with fail
 change Code.wp _ _ _ _ ((w.alloc (.cells #[.slice (some ⟨kb,ko,none⟩) kn kc,.bool ha] 24)).alloc (.cells (arrPr p) 38))
 generalize ((w.alloc (.cells #[.slice (some ⟨kb,ko,none⟩) kn kc,.bool ha] 24)).alloc (.cells (arrPr p) 38))=wa at*
 have k0:=B0.out.cell 0
 have k1:=B0.out.cell 1
 simp at k0 k1
 go_upto_region 3 with fail
 have eko:=(BE.out.cell (p:=⟨kb,ko,none⟩) hbw).trans hko
 have lbk:kb<wa.heap.size:=Nat.lt_of_lt_of_le hbw BE.out.size
 have B:=qD ((Below.refl wa.heap.size wa).drewN 1)
 have KS:Hid (∀w',Below wa.heap.size wa w'→(Instr.loadAt 38 (.pointer (some ⟨w.heap.size+1,0,none⟩))).run Tryz.prog w'=.ok (aggPr p) w'∧w'.cell? ⟨w.heap.size,0,none⟩=some (.slice (some ⟨kb,ko,none⟩) kn kc)∧w'.cell? ⟨kb,ko,none⟩=some (.slice o.A o.n o.c)):=qD fun w' hb=>⟨load_pred (arrPr p) rfl _ _ (B1.out.step hb),(hb.cell (p:=⟨w.heap.size,0,none⟩) B0.out.lt).trans k0,(hb.cell (p:=⟨kb,ko,none⟩) lbk).trans eko⟩
 clear k0 k1 eko
 go_cut [5] (fun v5 wx=>∃(A3:Option Addr) (m3 c3:Nat) (ys:List PI) (nf:List (Cut×Cut)),v5=.slice A3 m3 c3∧ys.map ivP=nf.map ivOf∧IsNF (ofS l p).1 nf∧m3≤p.sz∧SI wx A3 m3 c3 ys∧Below wa.heap.size wa wx)
 case first=>
  refine wp_region_noPanic ?_
  refine wp_region_held_drew (S:=(fun w'=>(Instr.loadAt 38 (.pointer (some ⟨w.heap.size+1,0,none⟩))).run Tryz.prog w'=.ok (aggPr p) w'∧w'.cell? ⟨w.heap.size,0,none⟩=some (.slice (some ⟨kb,ko,none⟩) kn kc)∧w'.cell? ⟨kb,ko,none⟩=some (.slice o.A o.n o.c))) (by kernel_rfl) ?_ (fun hHeld=>?_)
  ·(try dsimp only);exact KS.out _ B.out
  refine rT (v:=aggPr p) 0 rfl ?_ ?_
  (skip)
  ·intro w' hSw;exact exec_load (p:=.pointer (some ⟨w.heap.size+1,0,none⟩)) rfl rfl hSw.1
  try go_frame
  refine rT (v:=?_) 1 rfl ?_ ?_
  rotate_left
  ·intro w' hSw;(try dsimp only at hSw);obtain⟨_,hSw1,hSw2⟩:=hSw;go_simp;(try with_reducible rfl)
  try go_frame
  refine rT (v:=?_) 2 rfl ?_ ?_
  rotate_left
  ·intro w' hSw;(try dsimp only at hSw);obtain⟨_,hSw1,hSw2⟩:=hSw;go_simp;(try with_reducible rfl)
  try go_frame
  refine rT (v:=?_) 3 rfl ?_ ?_
  rotate_left
  ·intro w' hSw;(try dsimp only at hSw);obtain⟨_,hSw1,hSw2⟩:=hSw;go_simp;(try with_reducible rfl)
  try go_frame
  refine rT (v:=?_) 4 rfl ?_ ?_
  rotate_left
  ·intro w' hSw;(try dsimp only at hSw);obtain⟨_,hSw1,hSw2⟩:=hSw;go_simp;(try with_reducible rfl)
  try go_frame
  refine rT (v:=?_) 5 rfl ?_ ?_
  rotate_left
  ·intro w' hSw;(try dsimp only at hSw);obtain⟨_,hSw1,hSw2⟩:=hSw;go_simp;(try with_reducible rfl)
  try go_frame
  refine rY 6 rfl fun K hK=>?_
  go_simp
  refine(HO.out _ (BE.out.step' B.out)).mono ?_
  rintro e3 w3 ⟨A3,m3,c3,ys,nf,rfl,hy,hnf,hmk,hsi,hb3,hfr⟩
  replace B:=qD (B.out.step' hb3)
  have HS3:=qD hsi
  have HY3:=qD hy
  have HN3:=qD hnf
  have HM3:=qD hmk
  clear hb3 hsi hy hnf hmk hfr
  (try go_wp2_with fail)
  clear hHeld
  refine hK.out _ _ ?_ fun hHeld=>?_
  ·(try dsimp only);exact KS.out _ B.out
  clear hK K
  try go_frame
  refine rT (v:=?_) 7 rfl ?_ ?_
  rotate_left
  ·intro w' hSw;(try dsimp only at hSw);obtain⟨_,hSw1,hSw2⟩:=hSw;go_simp;(try with_reducible rfl)
  try go_frame
  refine rT (v:=?_) 8 rfl ?_ ?_
  rotate_left
  ·intro w' hSw;(try dsimp only at hSw);obtain⟨_,hSw1,hSw2⟩:=hSw;go_simp;(try with_reducible rfl)
  try go_frame
  refine rT (v:=?_) 9 rfl ?_ ?_
  rotate_left
  ·intro w' hSw;(try dsimp only at hSw);obtain⟨_,hSw1,hSw2⟩:=hSw;go_simp;(try with_reducible rfl)
  try go_frame
  refine rT (v:=?_) 10 rfl ?_ ?_
  rotate_left
  ·intro w' hSw;(try dsimp only at hSw);obtain⟨_,hSw1,hSw2⟩:=hSw;go_simp;(try with_reducible rfl)
  try go_frame
  refine rT (v:=?_) 11 rfl ?_ ?_
  rotate_left
  ·intro w' hSw;(try dsimp only at hSw);obtain⟨_,hSw1,hSw2⟩:=hSw;go_simp;(try with_reducible rfl)
  try go_frame
  refine rD ?_ _
  refine NoPanic.normal ?_
  all_goals
   go_wp2_with fail
   go_meet
   exact⟨A3,m3,c3,ys,nf,rfl,HY3.out,HN3.out,HM3.out,HS3.out,B.out⟩
 case rest=>
  obtain⟨A3,m3,c3,ys,nf,rfl,hy3,hn3,hm3,hs3,hb3'⟩:=hcut
  have HS3:=qD hs3
  have HY3:=qD hy3
  have HN3:=qD hn3
  have HM3:=qD hm3
  have C0:=qD (B0.out.step hb3')
  have CE:=qD (BE.out.step' hb3')
  clear KS B B0 B1 BE HO lbk hs3 hy3 hn3 hm3 hb3'
  generalize wc=w3 at*
  go_upto_region 6 with fail
  cases ha
  ·go_loopw [7,9,10,11,30] (fun u7 _ _ _ u30 wr=>∃i:Nat,i≤m3∧u30=.int .i64 i∧Blk wr w.heap.size 24 #[.slice (some ⟨kb,ko,none⟩) kn kc,.bool false]∧Below w3.heap.size w3 wr∧wr.ownsRow w3.heap.size 45 2 u7 i (flat recB2 ((nf.take i).map keyP))) (fun _ _ _ _ u30 _=>m3-(intOf u30).toNat)
   case atStart=>exact⟨0,Nat.zero_le _,rfl,C0.out,Below.refl _ _,own_nil _ _ _ _⟩
   case round=>
    obtain⟨i,hi,rfl,D0,DE,hown⟩:=hrel
    have HB:=qD (CE.out.step' DE)
    have HD0:=qD D0
    have HDE:=qD DE
    have HOW:=qD hown
    obtain⟨A6,c6,rfl,_⟩:=own_slice hown
    by_cases hlt:i<m3
    ·obtain⟨y,hy⟩:∃y,ys[i]?=some y:=⟨_,List.getElem?_eq_getElem (by have:=HS3.out.sr.ln;omega)⟩
     obtain⟨s,hs,hys⟩:∃s,nf[i]?=some s∧ivP y=ivOf s:=by
      have h1:=congrArg (fun l=>l[i]?) HY3.out
      simp only[List.getElem?_map,hy,Option.map_some] at h1
      obtain⟨s,h2,h3⟩:=Option.map_eq_some_iff.1 h1.symm
      exact⟨s,h2,h3.symm⟩
     have HVO:=qD (HGO.out.nf HN3.out (List.mem_of_getElem? hs))
     have HTK:Hid ((nf.take (i+1)).map keyP=(nf.take i).map keyP++[keyP s]):=by
      rw[Hid,List.take_add_one,hs,List.map_append]
      rfl
     obtain⟨b,off,rfl,hb3,hat,hok⟩:=HS3.out.at (i:=i) (p:=y) hy
     obtain⟨⟨a0,a1,a2,a3,a4⟩,⟨b0,b1,b2,b3,b4⟩,b5,b6⟩:=hat.keep (DE.block b hb3)
     have HOK:=qD hok
     have HYS:=qD hys
     have z1:i+1≤maxLen:=by have h1:=HM3.out;have h2:=HZ.out;unfold maxLen;omega
     have z2:(i+1)*32≤140737488355328:=by have h1:=HM3.out;have h2:=HZ.out;omega
     have i0:(0:Int)≤(i:Int):=by omega
     have i1:(i:Int)<(m3:Int):=by omega
     clear hat hok DE D0 hown hs hys hy
     go_upto_region 8 with fail
     change Code.wp _ _ _ _ (wr.alloc (.cells (arrI y) 67))
     have JB:Hid (Blk (wr.alloc (.cells (arrI y) 67)) wr.heap.size 67 (arrI y)):=Blk.new_at rfl
     have E0:=qD (HD0.out.alloc (.cells (arrI y) 67))
     have ED:=qD (HDE.out.alloc HDE.out.size (Obj.cells (arrI y) 67))
     have EE:=qD (HB.out.alloc HB.out.size (Obj.cells (arrI y) 67))
     have EO:=qD (HOW.out.alloc (.cells (arrI y) 67))
     generalize wr.alloc (.cells (arrI y) 67)=wb at*
     generalize wr.heap.size=ga at*
     clear a0 a1 a2 a3 a4 b0 b1 b2 b3 b4 b5 b6 HB HDE HD0 HOW
     obtain⟨⟨a0,a1,a2,a3,a4⟩,⟨b0,b1,b2,b3,b4⟩,b5,b6⟩:=IAt.of_blk JB.out
     simp only[Nat.zero_add] at a0 a1 a2 a3 a4 b0 b1 b2 b3 b4 b5 b6
     have k1:=E0.out.cell 1
     simp at k1
     have HSP:=qD (span_nf y s wb (HT.out.step EE.out) (HOK.out.step ED.out) HYS.out HVO.out.1 HVO.out.2.1)
     go_wp2_with fail
     refine HSP.out.mono ?_
     rintro e w4 ⟨rfl,hb⟩
     have F0:=qD (E0.out.step hb)
     have FD:=qD (ED.out.step' hb)
     have FE:=qD (EE.out.step' hb)
     have FO:=qD (own_step EO.out hb)
     clear hb E0 ED EE EO JB HSP a0 a1 a2 a3 a4 b0 b1 b2 b3 b4 b5 b6 k1 HOK
     go_upto_region 12 with fail
     change Code.wp _ _ _ _ (w4.alloc (.cells #[.string (keyP s).1,.string (keyP s).2] 45))
     have JB:Hid (Blk (w4.alloc (.cells #[.string (keyP s).1,.string (keyP s).2] 45)) w4.heap.size 45 #[.string (keyP s).1,.string (keyP s).2]):=Blk.new_at rfl
     have G0:=qD (F0.out.alloc (.cells #[.string (keyP s).1,.string (keyP s).2] 45))
     have GD:=qD (FD.out.alloc FD.out.size (Obj.cells #[.string (keyP s).1,.string (keyP s).2] 45))
     have GO:=qD (FO.out.alloc (.cells #[.string (keyP s).1,.string (keyP s).2] 45))
     generalize w4.alloc (.cells #[.string (keyP s).1,.string (keyP s).2] 45)=w5 at*
     generalize w4.heap.size=gb at*
     clear F0 FD FE FO
     have q0:=JB.out.cell 0
     have q1:=JB.out.cell 1
     simp at q0 q1
     have hlo3:w3.heap.size≤w5.heap.size:=GD.out.size
     have HLO:w.heap.size<w3.heap.size:=C0.out.lt
     go_wp2_with (at_builtin;refine wpList_append_any _ rfl _ _ 43 rfl w3.heap.size 45 j0 (.agg #[.string ByteArray.empty,.string ByteArray.empty]) 2 32 Tryz.underlying43 hj0 hy0 hy1 hy2 rfl (by decide) (.slice A6 i c6) i (flat recB2 ((nf.take i).map keyP)) rfl (GO.out.alloc _) _ _ 1 _ (recB2 (keyP s)) rfl ⟨rfl,fun _=>⟨_,rfl,Nat.lt_succ_self _,news_at _ _ _⟩⟩ (recB2_one _) z1 z2 (le_alloc hlo3 _) ?_)
     intro v' w6 hown hgr hat
     have HI:=qD ((GD.out.alloc GD.out.size _).grown hgr (le_alloc hlo3 _) (own_ge GO.out))
     have HI0:=qD ((G0.out.alloc _).grown hgr (fun e=>by have:=own_ge GO.out _ e.symm;omega))
     have HO6:Hid (w6.ownsRow w3.heap.size 45 2 v' (i+1) (flat recB2 ((nf.take (i+1)).map keyP))):=by
      rw[HTK.out,flat_append]
      exact qD (by simpa[flat] using hown)
     clear hown hgr hat q0 q1 JB G0 GD GO
     go_wp2_with fail
     go_roundw
     case rel=>exact⟨i+1,by omega,by go_num,HI0.out,HI.out,HO6.out⟩
     case measure=>simp[intOf];omega
    ·obtain rfl:i=m3:=by omega
     have hl:nf.length=i:=by
      have h1:=congrArg List.length HY3.out
      simp only[List.length_map] at h1
      have:=HS3.out.sr.ln
      omega
     have htk:nf.take i=nf:=List.take_of_length_le (by omega)
     rw[htk] at HOW
     have HL:=qD (show(nf.map keyP).length=i by rw[List.length_map];exact hl)
     have HSZ:Hid (i≤4000000000):=by have h1:=HM3.out;have h2:=HZ.out;exact qD (by omega)
     clear hl htk D0 DE hown
     go_wp2_with fail
     refine(joinedB_any (nf.map keyP) w3.heap.size i _ wr HOW.out HL.out HDE.out.size HSZ.out).mono ?_
     rintro e w4 ⟨A9,m9,c9,Z,rfl,hz9,hsr9,hm9,hb9⟩
     rw[HL.out] at hm9
     have HM9:Hid (m9≤1000000000):=qD (by have h1:=HM3.out;have h2:=HZ.out;omega)
     have HZ9:=qD hz9
     have HS9:=qD hsr9
     have HB9:Hid (Below w.heap.size w w4):=qD (HB.out.trans (hb9.mono CE.out.size))
     clear hz9 hsr9 hb9 hm9
     go_wp2_with fail
     go_ret
     exact⟨A9,m9,c9,nf,_,rfl,HN3.out,.inl ⟨rfl,Z,HZ9.out,rfl⟩,HS9.out,HM9.out,HB9.out⟩
  ·go_loopw [7,9,10,11,30] (fun u7 _ _ _ u30 wr=>∃i:Nat,i≤m3∧u30=.int .i64 i∧Blk wr w.heap.size 24 #[.slice (some ⟨kb,ko,none⟩) kn kc,.bool true]∧Below w3.heap.size w3 wr∧wr.ownsRow w3.heap.size 45 2 u7 i (flat recB2 (((nf.take i).map fun s=>hashV s.1.1).map keyH))∧∀s∈nf.take i,cmpV s.1.1 s.2.1=0) (fun _ _ _ _ u30 _=>m3-(intOf u30).toNat)
   case atStart=>exact⟨0,Nat.zero_le _,rfl,C0.out,Below.refl _ _,own_nil _ _ _ _,by simp⟩
   case round=>
    obtain⟨i,hi,rfl,D0,DE,hown,hall⟩:=hrel
    have HB:=qD (CE.out.step' DE)
    have HD0:=qD D0
    have HDE:=qD DE
    have HOW:=qD hown
    obtain⟨A6,c6,rfl,_⟩:=own_slice hown
    by_cases hlt:i<m3
    ·obtain⟨y,hy⟩:∃y,ys[i]?=some y:=⟨_,List.getElem?_eq_getElem (by have:=HS3.out.sr.ln;omega)⟩
     obtain⟨s,hs,hys⟩:∃s,nf[i]?=some s∧ivP y=ivOf s:=by
      have h1:=congrArg (fun l=>l[i]?) HY3.out
      simp only[List.getElem?_map,hy,Option.map_some] at h1
      obtain⟨s,h2,h3⟩:=Option.map_eq_some_iff.1 h1.symm
      exact⟨s,h2,h3.symm⟩
     have HVO:=qD (HGO.out.nf HN3.out (List.mem_of_getElem? hs))
     have HTK:Hid (((nf.take (i+1)).map (fun s=>hashV s.1.1)).map keyH=((nf.take i).map fun s=>hashV s.1.1).map keyH++[keyH (hashV s.1.1)]):=by
      rw[Hid,List.take_add_one,hs,List.map_append,List.map_append]
      rfl
     obtain⟨b,off,rfl,hb3,hat,hok⟩:=HS3.out.at (i:=i) (p:=y) hy
     obtain⟨⟨a0,a1,a2,a3,a4⟩,⟨b0,b1,b2,b3,b4⟩,b5,b6⟩:=hat.keep (DE.block b hb3)
     have HOK:=qD hok
     have HYS:=qD hys
     have z1:i+1≤maxLen:=by have h1:=HM3.out;have h2:=HZ.out;unfold maxLen;omega
     have z2:(i+1)*32≤140737488355328:=by have h1:=HM3.out;have h2:=HZ.out;omega
     have i0:(0:Int)≤(i:Int):=by omega
     have i1:(i:Int)<(m3:Int):=by omega
     have HALL:=qD hall
     have HSS:=qD hs
     clear hat hok DE D0 hown hs hys hy hall
     go_upto_region 8 with fail
     change Code.wp _ _ _ _ (wr.alloc (.cells (arrI y) 67))
     have JB:Hid (Blk (wr.alloc (.cells (arrI y) 67)) wr.heap.size 67 (arrI y)):=Blk.new_at rfl
     have E0:=qD (HD0.out.alloc (.cells (arrI y) 67))
     have ED:=qD (HDE.out.alloc HDE.out.size (Obj.cells (arrI y) 67))
     have EE:=qD (HB.out.alloc HB.out.size (Obj.cells (arrI y) 67))
     have EO:=qD (HOW.out.alloc (.cells (arrI y) 67))
     generalize wr.alloc (.cells (arrI y) 67)=wb at*
     generalize wr.heap.size=ga at*
     clear a0 a1 a2 a3 a4 b0 b1 b2 b3 b4 b5 b6 HB HDE HD0 HOW
     obtain⟨⟨a0,a1,a2,a3,a4⟩,⟨b0,b1,b2,b3,b4⟩,b5,b6⟩:=IAt.of_blk JB.out
     simp only[Nat.zero_add] at a0 a1 a2 a3 a4 b0 b1 b2 b3 b4 b5 b6
     have k1:=E0.out.cell 1
     simp at k1
     have HEQ:=qD (vequal_any y.1.1.2 y.1.2.2 y.1.1.1 y.1.2.1 wb (HOK.out.step ED.out).1 (HOK.out.step ED.out).2)
     obtain⟨q,hq⟩:∃q,q=(cmpV y.1.1.2 y.1.2.2==0):=⟨_,rfl⟩
     rw[←hq] at HEQ
     have HQ:=qD hq
     clear hq
     go_wp2_with fail
     refine HEQ.out.mono ?_
     rintro e w4 ⟨rfl,hb⟩
     have F0:=qD (E0.out.step hb)
     have FD:=qD (ED.out.step' hb)
     have FE:=qD (EE.out.step' hb)
     have FO:=qD (own_step EO.out hb)
     have FJ:=qD (JB.out.step hb)
     have KOK:=qD ((HOK.out.step ED.out).step hb)
     clear hb E0 ED EE EO JB HEQ a0 a1 a2 a3 a4 b0 b1 b2 b3 b4 b5 b6 k1 HOK
     have hlo:y.1.1.2=s.1.1:=congrArg Iv.lo HYS.out
     have hhi:y.1.2.2=s.2.1:=congrArg Iv.hi HYS.out
     rw[hlo,hhi] at HQ
     have HSM:=qD (List.mem_of_getElem? HSS.out)
     cases q
     ·have HNE:Hid (cmpV s.1.1 s.2.1≠0):=by
       have:=HQ.out
       rw[Hid]
       simpa using this.symm
      clear hlo hhi HQ
      go_wp2_with fail
      go_ret
      exact⟨_,1,1,nf,_,rfl,HN3.out,.inr (.inl ⟨rfl,rfl,s,HSM.out,HNE.out⟩),sr_oneB (q:=(ByteArray.empty,ByteArray.empty)) (Blk.new_at rfl),by decide,FE.out.alloc FE.out.size _⟩
     ·have HEZ:Hid (cmpV s.1.1 s.2.1=0):=by
       have:=HQ.out
       rw[Hid]
       simpa using this.symm
      have HSP:Hid (Calls Tryz.prog 24 #[aggI y,.bool true] w4 fun e w'=>e=.returned (.tuple #[.agg #[.string (keyH (hashV s.1.1)).1,.string (keyH (hashV s.1.1)).2],.bool true])∧Below w4.heap.size w4 w'):=by
       have:=span_hash y w4 (HT.out.step FE.out) KOK.out
       rw[hlo] at this
       exact qD this
      clear hlo hhi HQ
      have k1:=F0.out.cell 1
      simp at k1
      obtain⟨⟨a0,a1,a2,a3,a4⟩,⟨b0,b1,b2,b3,b4⟩,b5,b6⟩:=IAt.of_blk FJ.out
      simp only[Nat.zero_add] at a0 a1 a2 a3 a4 b0 b1 b2 b3 b4 b5 b6
      go_wp2_with fail
      refine HSP.out.mono ?_
      rintro e w5 ⟨rfl,hb⟩
      obtain⟨kh,hkh⟩:∃kh,kh=keyH (hashV s.1.1):=⟨_,rfl⟩
      rw[←hkh] at HTK ⊢
      clear hkh
      replace F0:=qD (F0.out.step hb)
      replace FD:=qD (FD.out.step' hb)
      replace FE:=qD (FE.out.step' hb)
      replace FO:=qD (own_step FO.out hb)
      clear hb HSP a0 a1 a2 a3 a4 b0 b1 b2 b3 b4 b5 b6 k1 KOK FJ
      go_upto_region 12 with fail
      change Code.wp _ _ _ _ (w5.alloc (.cells #[.string kh.1,.string kh.2] 45))
      have JB:Hid (Blk (w5.alloc (.cells #[.string kh.1,.string kh.2] 45)) w5.heap.size 45 #[.string kh.1,.string kh.2]):=Blk.new_at rfl
      have G0:=qD (F0.out.alloc (.cells #[.string kh.1,.string kh.2] 45))
      have GD:=qD (FD.out.alloc FD.out.size (Obj.cells #[.string kh.1,.string kh.2] 45))
      have GO:=qD (FO.out.alloc (.cells #[.string kh.1,.string kh.2] 45))
      generalize w5.alloc (.cells #[.string kh.1,.string kh.2] 45)=w6 at*
      generalize w5.heap.size=gb at*
      clear F0 FD FE FO
      have q0:=JB.out.cell 0
      have q1:=JB.out.cell 1
      simp at q0 q1
      have hlo3:w3.heap.size≤w6.heap.size:=GD.out.size
      have HLO:w.heap.size<w3.heap.size:=C0.out.lt
      go_wp2_with (at_builtin;refine wpList_append_any _ rfl _ _ 43 rfl w3.heap.size 45 j0 (.agg #[.string ByteArray.empty,.string ByteArray.empty]) 2 32 Tryz.underlying43 hj0 hy0 hy1 hy2 rfl (by decide) (.slice A6 i c6) i (flat recB2 (((nf.take i).map fun s=>hashV s.1.1).map keyH)) rfl (GO.out.alloc _) _ _ 1 _ (recB2 kh) rfl ⟨rfl,fun _=>⟨_,rfl,Nat.lt_succ_self _,news_at _ _ _⟩⟩ (recB2_one _) z1 z2 (le_alloc hlo3 _) ?_)
      intro v' w7 hown hgr hat
      have HI:=qD ((GD.out.alloc GD.out.size _).grown hgr (le_alloc hlo3 _) (own_ge GO.out))
      have HI0:=qD ((G0.out.alloc _).grown hgr (fun e=>by have:=own_ge GO.out _ e.symm;omega))
      have HO7:Hid (w7.ownsRow w3.heap.size 45 2 v' (i+1) (flat recB2 (((nf.take (i+1)).map fun s=>hashV s.1.1).map keyH))):=by
       rw[HTK.out,flat_append]
       exact qD (by simpa[flat] using hown)
      have HA2:Hid (∀t∈nf.take (i+1),cmpV t.1.1 t.2.1=0):=qD fun t ht=>by
       rw[List.take_add_one,HSS.out] at ht
       rcases List.mem_append.1 ht with ht|ht
       ·exact HALL.out t ht
       ·obtain rfl:t=s:=by simpa using ht
        exact HEZ.out
      clear hown hgr hat q0 q1 JB G0 GD GO
      go_wp2_with fail
      go_roundw
      case rel=>exact⟨i+1,by omega,by go_num,HI0.out,HI.out,HO7.out,HA2.out⟩
      case measure=>simp[intOf];omega
    ·obtain rfl:i=m3:=by omega
     have hl:nf.length=i:=by
      have h1:=congrArg List.length HY3.out
      simp only[List.length_map] at h1
      have:=HS3.out.sr.ln
      omega
     have htk:nf.take i=nf:=List.take_of_length_le (by omega)
     rw[htk] at HOW hall
     have HALL:=qD hall
     have HL:=qD (show((nf.map fun s=>hashV s.1.1).map keyH).length=i by rw[List.length_map,List.length_map];exact hl)
     have HSZ:Hid (i≤4000000000):=by have h1:=HM3.out;have h2:=HZ.out;exact qD (by omega)
     clear hl htk D0 DE hown hall
     go_wp2_with fail
     refine(joinedB_any ((nf.map fun s=>hashV s.1.1).map keyH) w3.heap.size i _ wr HOW.out HL.out HDE.out.size HSZ.out).mono ?_
     rintro e w4 ⟨A9,m9,c9,Z,rfl,hz9,hsr9,hm9,hb9⟩
     rw[HL.out] at hm9
     have HM9:Hid (m9≤1000000000):=qD (by have h1:=HM3.out;have h2:=HZ.out;omega)
     have HZ9:=qD hz9
     have HS9:=qD hsr9
     have HB9:Hid (Below w.heap.size w w4):=qD (HB.out.trans (hb9.mono CE.out.size))
     clear hz9 hsr9 hb9 hm9
     go_wp2_with fail
     go_ret
     exact⟨A9,m9,c9,nf,_,rfl,HN3.out,.inr (.inr ⟨rfl,HALL.out,Z,HZ9.out,rfl⟩),HS9.out,HM9.out,HB9.out⟩
def AnyN(w:World)(e:Ending)(w':World):Prop:=∃n:Int,e=.returned (.int .i64 n)∧Below w.heap.size w w'
def SomeB(w:World)(e:Ending)(w':World):Prop:=∃b:Bool,e=.returned (.bool b)∧w'=w
theorem in10_any(n:Int)(w:World):Calls Tryz.prog 103 #[.int .i64 n] w (SomeB w):=by
 go_enter Tryz.func103,Tryz.ntmps103
 go_wp2_with fail
 all_goals go_ret
 all_goals exact⟨_,rfl,rfl⟩
theorem is10_any(x y:Int)(w:World):Calls Tryz.prog 102 #[.agg #[.int .i64 x,.int .i64 y]] w (AnyB w):=by
 go_enter Tryz.func102,Tryz.ntmps102
 go_wp2_with (go_at_call 103;refine(in10_any _ _).mono ?_;rintro e w1 ⟨b,rfl,rfl⟩;cases b)
 all_goals go_ret
 all_goals exact⟨_,rfl,(Below.refl _ _).alloc (qL) _⟩
theorem shape_any(k r:Int)(s:Slc (Int×Int))(w:World)(h:SR 2 recPt w s.A s.n s.c s.xs)(hz:s.n*16≤reach):Calls Tryz.prog 49 #[.agg #[.int .i64 k,s.v,.int .i64 r]] w (AnyN w):=by
 have hzz:s.n≤140737488355328:=by unfold reach at hz;omega
 have H:=qD h
 clear h hz
 have B0:Hid (Blk (w.alloc (.cells #[.int .i64 k,.slice s.A s.n s.c,.int .i64 r] 32)) w.heap.size 32 #[.int .i64 k,.slice s.A s.n s.c,.int .i64 r]):=Blk.new_at rfl
 have BE:=qD ((Below.refl w.heap.size w).alloc (qL) (Obj.cells #[.int .i64 k,.slice s.A s.n s.c,.int .i64 r] 32))
 go_enter Tryz.func49,Tryz.ntmps49
 go_upto_region 1 with fail
 change Code.wp _ _ _ _ (w.alloc (.cells #[.int .i64 k,.slice s.A s.n s.c,.int .i64 r] 32))
 generalize w.alloc (.cells #[.int .i64 k,.slice s.A s.n s.c,.int .i64 r] 32)=wa at*
 have d1:=B0.out.cell 1
 simp at d1
 by_cases h64:64<s.n
 ·go_wp2_with fail
  go_ret
  exact⟨_,rfl,BE.out⟩
 ·go_upto_region 5 with fail
  go_loopw [4] (fun v wr=>∃i:Nat,i≤s.n∧v=.int .i64 i∧Blk wr w.heap.size 32 #[.int .i64 k,.slice s.A s.n s.c,.int .i64 r]∧Below w.heap.size w wr) (fun v _=>s.n-(intOf v).toNat)
  case atStart=>exact⟨0,Nat.zero_le _,rfl,B0.out,BE.out⟩
  case round=>
   obtain⟨i,hi,rfl,hb0,hbe⟩:=hrel
   clear B0 BE d1
   have B0:=qD hb0
   have BE:=qD hbe
   have d0:=B0.out.cell 0
   have d1:=B0.out.cell 1
   have d2:=B0.out.cell 2
   simp at d0 d1 d2
   clear hb0 hbe
   by_cases hlt:i<s.n
   ·obtain⟨b,off,⟨x,y⟩,hA,hb,_,_,hrg⟩:=H.out.row hlt
    have RG:=qD (range_step hrg BE.out hb)
    rw[hA] at d1
    clear hrg hA
    go_wp2_with (first
     | ((with_reducible show wpList _ _ _ (⟨_,.load 117 _,_,_,_,_⟩::_) _ _);refine wpList_mid_w rfl 117 _ rfl b (off+i*2) rfl _ _ RG.out Tryz.underlying117 rfl (by kernel_rfl) ?_)
     | (go_at_call 102;refine(is10_any x y _).mono ?_;rintro e w1 ⟨bb,rfl,hbb⟩;replace B0:=qD (B0.out.step hbb);replace BE:=qD (BE.out.step' hbb);clear hbb;cases bb))
    ·go_ret
     exact⟨_,rfl,BE.out⟩
    ·go_roundw
     case rel=>exact⟨i+1,by omega,by go_num,B0.out,BE.out⟩
     case measure=>simp[intOf];omega
   ·obtain rfl:i=s.n:=by omega
    go_wp2_with (go_at_call 103;refine(in10_any _ _).mono ?_;rintro e w1 ⟨b,rfl,rfl⟩;cases b)
    all_goals go_ret
    all_goals exact⟨_,rfl,BE.out⟩
theorem rw_zero8(w:World):RW w VC.zero Val.zero:=RVs.shut ⟨rfl,rfl,rfl,by decide,rfl,qL,by decide,fun h=>absurd h (by decide),rfl,qL,by decide,fun h=>absurd h (by decide)⟩
theorem retn{a b:Int}(h:a=b):Ending.returned (.int .i64 a)=.returned (.int .i64 b):=by rw[h]
def kidsN(op:Int):Int:=
 if op=1∨op=2∨op=3 then 0 else if op=18∨op=22∨op=23∨op=24∨op=26∨op=30∨op=31∨op=36 then 1 else if op=19∨op=25 then 3
 else if op=4∨op=6∨op=16∨op=17∨op=21∨op=29∨op=37∨op=35∨op=34 then -1 else 2
theorem kidsX_any(op:Int)(w:World):Calls Tryz.prog 173 #[.int .i64 op] w fun e w'=>e=.returned (.int .i64 (kidsN op))∧w'=w:=by
 go_enter Tryz.func173,Tryz.ntmps173
 go_wp2_with fail
 all_goals go_ret
 all_goals refine⟨retn ?_,rfl⟩
 all_goals simp only[beq_iff_eq,beq_eq_false_iff_ne,ne_eq] at*
 all_goals unfold kidsN
 all_goals (repeat' split)
 all_goals first|rfl|omega
theorem ST.cells{w:World}{A:Option Addr}{n c:Nat}{l:List ByteArray}(h:ST w A n c l)(h0:0<n):∃b off,A=some ⟨b,off,none⟩∧b<w.heap.size∧∀i,i<n→∃x,w.cell? ⟨b,off+i,none⟩=some (.string x):=by
 obtain⟨b,off,e,hb,hc⟩:=h.sr.el h0
 refine⟨b,off,e,hb,fun i hi=>?_⟩
 have hl:i<l.length:=by have:=h.sr.ln;omega
 have:=hc i _ (List.getElem?_eq_getElem hl) 0 _ rfl
 rw[Nat.mul_one,Nat.add_zero] at this
 exact⟨_,this⟩
theorem named_any(s:Slc ByteArray)(w:World)(h:ST w s.A s.n s.c s.xs):Calls Tryz.prog 174 #[s.v] w (AnyB w):=by
 obtain⟨A,n,c,xs⟩:=s
 have hz:n≤140737488355328:=by have:=h.sz;unfold reach at this;simp only at this;omega
 have H:=qD h
 clear h
 simp only at H
 show Calls _ _ #[.slice A n c] w _
 go_enter Tryz.func174,Tryz.ntmps174
 go_upto_region 2 with fail
 go_loopw [3] (fun v wr=>∃i:Nat,i≤n∧v=.int .i64 i∧Below w.heap.size w wr) (fun v _=>n-(intOf v).toNat)
 case atStart=>exact⟨0,Nat.zero_le _,rfl,Below.refl _ _⟩
 case round=>
  obtain⟨i,hi,rfl,hbe⟩:=hrel
  have BE:=qD hbe
  clear hbe
  by_cases hlt:i<n
  ·obtain⟨b,off,rfl,hb,hc⟩:=H.out.cells (by omega)
   obtain⟨x,e0'⟩:=hc i hlt
   have HC:=qD hc
   have E0:=qD e0'
   have e0:=(BE.out.cell (p:=⟨b,off+i,none⟩) hb).trans e0'
   clear e0' hc
   go_wp2_with fail
   refine(rname_any x _).mono ?_
   rintro e w1 ⟨rfl,rfl⟩
   obtain⟨q,hq⟩:∃q,q=nameB x:=⟨_,rfl⟩
   rw[←hq]
   clear hq
   cases q
   ·go_wp2_with fail
    go_ret
    exact⟨_,rfl,BE.out⟩
   ·go_upto_region 7 with fail
    go_loopw [4] (fun v wz=>∃k:Nat,k≤i∧v=.int .i64 k∧Below w.heap.size w wz) (fun v _=>i-(intOf v).toNat)
    case atStart=>exact⟨0,Nat.zero_le _,rfl,BE.out⟩
    case round=>
     obtain⟨k,hk,rfl,hbk⟩:=hrel
     have BK:=qD hbk
     clear hbk e0
     by_cases hkt:k<i
     ·obtain⟨y,f0'⟩:=HC.out k (by omega)
      have e0:=(BK.out.cell (p:=⟨b,off+i,none⟩) hb).trans E0.out
      have f0:=(BK.out.cell (p:=⟨b,off+k,none⟩) hb).trans f0'
      have X0:∀kk:BW wr,kk.val.cell? ⟨b,off+i,none⟩=some (.string x):=fun kk=>kk.cell e0
      have Y0:∀kk:BW wr,kk.val.cell? ⟨b,off+k,none⟩=some (.string y):=fun kk=>kk.cell f0
      have i0:(0:Int)≤(i:Int):=by omega
      have i1:(i:Int)<(n:Int):=by omega
      have k0:(0:Int)≤(k:Int):=by omega
      have k1:(k:Int)<(n:Int):=by omega
      clear f0'
      go_upto_region 9 with fail
      clear e0 f0
      refine wp_region_bw (by kernel_rfl) (by kernel_rfl) ?_
      repeat(go_big_quiet_step (fail))
      refine wpQuiet_nil ?_
      rintro _ ⟨kw,rfl⟩
      have HK:=qD kw.below
      generalize kw.val=w5 at*
      clear X0 Y0
      cases hq:(y.toList==x.toList)
      ·go_wp2_with fail
       go_roundw
       case rel=>exact⟨k+1,by omega,by go_num,BK.out.step' HK.out⟩
       case measure=>simp[intOf];omega
      ·go_wp2_with fail
       go_ret
       exact⟨_,rfl,BK.out.step' HK.out⟩
     ·obtain rfl:k=i:=by omega
      go_wp2_with fail
      go_roundw
      case rel=>exact⟨k+1,by omega,by go_num,BK.out⟩
      case measure=>simp[intOf];omega
  ·go_wp2_with fail
   go_ret
   exact⟨_,rfl,BE.out⟩
theorem nodeX_any(x:ExT)(w:World)(h:WX w x)(hT:Tabs w):Calls Tryz.prog 139 #[aggEx x] w (AnyN w):=by
 have W:=qD h.open
 have HT:=qD hT
 clear h hT
 have hpz:x.path.n≤140737488355328:=by have:=W.out.path.sz;unfold reach at this;omega
 have hnz:x.names.n≤140737488355328:=by have:=W.out.names.sz;unfold reach at this;omega
 have hkz:x.kn≤140737488355328:=by have:=W.out.ksz;unfold reach at this;omega
 have B0:Hid (Blk (w.alloc (.cells (arrEx x) 35)) w.heap.size 35 (arrEx x)):=Blk.new_at rfl
 have BE:=qD ((Below.refl w.heap.size w).alloc (qL) (Obj.cells (arrEx x) 35))
 go_enter Tryz.func139,Tryz.ntmps139
 go_upto_region 1 with fail
 change Code.wp _ _ _ _ (w.alloc (.cells (arrEx x) 35))
 generalize w.alloc (.cells (arrEx x) 35)=wa at*
 obtain⟨d0,d1,d2,d3,d9,d10⟩:=ex_cells B0.out
 go_cut [46] (fun v wx=>∃b:Bool,v=.bool b∧Blk wx w.heap.size 35 (arrEx x)∧Below w.heap.size w wx)
 case first=>as_aux_lemma=>
  have E0:∀q:BW wa,q.val.cell? ⟨w.heap.size,0,none⟩=some (.int .i64 x.op):=fun q=>q.cell d0
  have E3:∀q:BW wa,q.val.cell? ⟨w.heap.size,3,none⟩=some (.slice x.names.A x.names.n x.names.c):=fun q=>q.cell d3
  have E10:∀q:BW wa,q.val.cell? ⟨w.heap.size,10,none⟩=some (.slice x.kA x.kn x.kc):=fun q=>q.cell d10
  have K1:Hid (∀q:BW wa,Calls Tryz.prog 173 #[.int .i64 x.op] q.val fun e w''=>e=.returned (.int .i64 (kidsN x.op))∧∃q:BW wa,w''=q.val):=fun q=>
   (kidsX_any x.op q.val).mono fun e w' ⟨h1,h2⟩=>⟨h1,q,h2⟩
  clear d0 d1 d2 d3 d9 d10
  obtain⟨op,hop⟩:∃op,op=x.op:=⟨_,rfl⟩
  obtain⟨kn,hkn⟩:∃kn,kn=x.kn:=⟨_,rfl⟩
  obtain⟨nn,hnn⟩:∃nn,nn=x.names.n:=⟨_,rfl⟩
  rw[←hop] at E0 K1
  rw[←hkn] at E10 hkz
  rw[←hnn] at E3 hnz
  obtain⟨k,hk⟩:∃k,k=kidsN op:=⟨_,rfl⟩
  rw[←hk] at K1
  clear hop hkn hnn hk
  have fin:∀(q:BW wa) (b:Bool),∃b':Bool,Value.bool b=.bool b'∧Blk q.val w.heap.size 35 (arrEx x)∧Below w.heap.size w q.val:=fun q b=>⟨b,rfl,B0.out.step q.below,BE.out.step' q.below⟩
  have FIN:=qD fin
  clear fin
  have ways:(decide (op<1)=true)∨(decide (op<1)=false∧decide (op>37)=true)∨(decide (op<1)=false∧decide (op>37)=false):=by
   by_cases h1:op<1<;>by_cases h2:op>37<;>simp[h1,h2]
  rcases ways with a1|⟨a1,a2⟩|⟨a1,a2⟩
  ·refine wp_region_bw (by kernel_rfl) (by kernel_rfl) ?_
   repeat(go_big_quiet_step (with_reducible exact K1.out _))
   refine wpQuiet_nil ?_
   rintro _ ⟨kw,rfl⟩
   go_wp2_with fail
   go_meet
   exact FIN.out kw _
  ·refine wp_region_bw (by kernel_rfl) (by kernel_rfl) ?_
   repeat(go_big_quiet_step (with_reducible exact K1.out _))
   refine wpQuiet_nil ?_
   rintro _ ⟨kw,rfl⟩
   go_wp2_with fail
   go_meet
   exact FIN.out kw _
  ·have ways2:(decide (k≥0)=true∧((kn:Int) != k)=true)∨(((decide (k≥0)=true∧((kn:Int) != k)=false)∨(decide (k≥0)=false))∧((op==34)=false∨(op==34)=true∧((kn:Int) != (nn:Int))=true∨(op==34)=true∧((kn:Int) != (nn:Int))=false∧((kn:Int)==0)=true∨(op==34)=true∧((kn:Int) != (nn:Int))=false∧((kn:Int)==0)=false)):=by
    cases decide (k≥0)<;>cases((kn:Int) != k)<;>cases(op==34)<;>cases((kn:Int) != (nn:Int))<;>cases((kn:Int)==0)<;>simp
   rcases ways2 with⟨b1,b2⟩|⟨⟨b1,b2⟩|b1,c1|⟨c1,c2⟩|⟨c1,c2,c3⟩|⟨c1,c2,c3⟩⟩
   all_goals
    refine wp_region_bw (by kernel_rfl) (by kernel_rfl) ?_
    repeat(go_big_quiet_step (with_reducible exact K1.out _))
    refine wpQuiet_nil ?_
    rintro _ ⟨kw,rfl⟩
    go_wp2_with fail
    go_meet
    exact FIN.out kw _
 case rest=>
  obtain⟨b,rfl,hB0,hBE⟩:=hcut
  clear B0 BE d0 d1 d2 d3 d9 d10
  have B0:=qD hB0
  have BE:=qD hBE
  obtain⟨d0,d1,d2,d3,d9,d10⟩:=ex_cells B0.out
  clear hB0 hBE
  cases b
  ·go_upto_region 3 with fail
   have HP:=qD (W.out.path.step BE.out)
   go_cut [72] (fun v wx=>∃b:Bool,v=.bool b∧wx=wc)
   case first=>as_aux_lemma=>
    go_wp2_with (go_at_call 41;refine(rpath_any x.path.xs _ _ _ _ HP.out).mono ?_;rintro e w1 ⟨rfl,rfl⟩;obtain⟨bb,hbb⟩:∃b,b=pathB x.path.xs:=⟨_,rfl⟩;rw[←hbb];clear hbb;cases bb)
    all_goals go_meet
    all_goals exact⟨_,rfl,rfl⟩
   case rest=>
    obtain⟨b,rfl,rfl⟩:=hcut
    cases b
    ·go_upto_region 5 with fail
     obtain⟨nb,hnb⟩:∃nb,nb=(x.op==3||(x.op==32||x.op==33)):=⟨_,rfl⟩
     go_cut [3] (fun v wx=>v=.bool nb∧wx=wc)
     case first=>
      go_wp2_with fail
      all_goals go_meet
      all_goals (refine⟨?_,rfl⟩;rw[hnb];simp[*,Bool.or_assoc])
     case rest=>
      obtain⟨rfl,rfl⟩:=hcut
      have HNB:=qD hnb
      clear hnb
      have HN:=qD (W.out.names.step BE.out)
      go_upto_region 6 with fail
      go_cut [103] (fun v wx=>∃b:Bool,v=.bool b∧Blk wx w.heap.size 35 (arrEx x)∧Below w.heap.size w wx)
      case first=>as_aux_lemma=>
       cases nb
       all_goals go_wp2_with (first
        | (go_at_call 101;refine(rname_any x.name _).mono ?_;rintro e w1 ⟨rfl,rfl⟩;obtain⟨bb,hbb⟩:∃b,b=nameB x.name:=⟨_,rfl⟩;rw[←hbb];clear hbb;cases bb)
        | (go_at_call 174;refine(named_any x.names _ HN.out).mono ?_;rintro e w1 ⟨bb,rfl,hb⟩;replace B0:=qD (B0.out.step hb);replace BE:=qD (BE.out.step' hb);clear hb;cases bb))
       all_goals go_meet
       all_goals exact⟨_,rfl,B0.out,BE.out⟩
      case rest=>
       obtain⟨b,rfl,hB0,hBE⟩:=hcut
       clear B0 BE d0 d1 d2 d3 d9 d10
       have B0:=qD hB0
       have BE:=qD hBE
       obtain⟨d0,d1,d2,d3,d9,d10⟩:=ex_cells B0.out
       clear hB0 hBE
       cases b
       ·go_upto_region 8 with fail
        have RA:=qD (range_arg B0.out)
        have HA:=qD (W.out.arg.step BE.out)
        go_cut [112] (fun v wx=>∃b:Bool,v=.bool b∧Blk wx w.heap.size 35 (arrEx x)∧Below w.heap.size w wx)
        case first=>as_aux_lemma=>
         go_wp2_with (first
          | ((with_reducible show wpList _ _ _ (⟨_,.load 29 _,_,_,_,_⟩::_) _ _);refine wpList_mid_w rfl 29 _ rfl w.heap.size 4 rfl _ _ RA.out Tryz.underlying29 rfl (by kernel_rfl) ?_)
          | (go_at_call 11;refine(rvalid_any x.arg.2 x.arg.1 _ HA.out).mono ?_;rintro e w1 ⟨rfl,hb⟩;replace B0:=qD (B0.out.step hb);replace BE:=qD (BE.out.step' hb);clear hb;obtain⟨bb,hbb⟩:∃b,b=validV x.arg.2:=⟨_,rfl⟩;rw[←hbb];clear hbb;cases bb))
         all_goals go_meet
         all_goals exact⟨_,rfl,B0.out,BE.out⟩
        case rest=>
         obtain⟨b,rfl,hB0,hBE⟩:=hcut
         clear B0 BE d0 d1 d2 d3 d9 d10 RA HA
         have B0:=qD hB0
         have BE:=qD hBE
         obtain⟨d0,d1,d2,d3,d9,d10⟩:=ex_cells B0.out
         clear hB0 hBE
         cases b
         ·go_upto_region 10 with fail
          have RA:=qD (range_arg B0.out)
          have HA:=qD (W.out.arg.step BE.out)
          obtain⟨sv,hsv⟩:∃sv,sv=sameV x.arg.2 Val.zero:=⟨_,rfl⟩
          have HS:Hid (Calls Tryz.prog 175 #[x.arg.1.val,VC.zero.val] wc fun e w'=>e=.returned (.bool sv)∧Below wc.heap.size wc w'):=by
           rw[hsv]
           exact rsame_any x.arg.2 Val.zero x.arg.1 VC.zero wc HA.out (rw_zero8 _)
          clear hsv
          obtain⟨op,hop⟩:∃op,op=x.op:=⟨_,rfl⟩
          rw[←hop] at d0 HNB
          have HOP:=qD hop
          clear hop
          have cl:(op=1∧nb=false)∨(op=2∧nb=false)∨(op=3∧nb=true)∨(op=34∧nb=false)∨((op != 1)=true∧(op != 2)=true∧(op != 3)=true∧(op != 34)=true∧nb=true)∨((op != 1)=true∧(op != 2)=true∧(op != 3)=true∧(op != 34)=true∧nb=false):=by
           have h:=HNB.out
           by_cases h1:op=1
           ·subst h1;exact .inl ⟨rfl,h⟩
           by_cases h2:op=2
           ·subst h2;exact .inr (.inl ⟨rfl,h⟩)
           by_cases h3:op=3
           ·subst h3;exact .inr (.inr (.inl ⟨rfl,h⟩))
           by_cases h4:op=34
           ·subst h4;exact .inr (.inr (.inr (.inl ⟨rfl,h⟩)))
           have e1:(op != 1)=true:=by simpa using h1
           have e2:(op != 2)=true:=by simpa using h2
           have e3:(op != 3)=true:=by simpa using h3
           have e4:(op != 34)=true:=by simpa using h4
           clear h HNB
           cases nb
           ·exact .inr (.inr (.inr (.inr (.inr ⟨e1,e2,e3,e4,rfl⟩))))
           ·exact .inr (.inr (.inr (.inr (.inl ⟨e1,e2,e3,e4,rfl⟩))))
          clear HNB
          rcases cl with⟨rfl,rfl⟩|⟨rfl,rfl⟩|⟨rfl,rfl⟩|⟨rfl,rfl⟩|⟨e1,e2,e3,e4,rfl⟩|⟨e1,e2,e3,e4,rfl⟩
          all_goals go_wp2_with (first
           | (go_at_call 175;refine HS.out.mono ?_;rintro e w1 ⟨rfl,hb⟩;replace B0:=qD (B0.out.step hb);replace BE:=qD (BE.out.step' hb);clear hb d0 d1 d2 d3 d9 d10;obtain⟨d0,d1,d2,d3,d9,d10⟩:=ex_cells B0.out;rw[←HOP.out] at d0;cases sv)
           | ((with_reducible show wpList _ _ _ (⟨_,.load 29 _,_,_,_,_⟩::_) _ _);refine wpList_mid_w rfl 29 _ rfl w.heap.size 4 rfl _ _ RA.out Tryz.underlying29 rfl (by kernel_rfl) ?_))
          all_goals go_ret
          all_goals exact⟨_,rfl,BE.out⟩
         ·go_wp2_with fail
          go_ret
          exact⟨_,rfl,BE.out⟩
       ·go_wp2_with fail
        go_ret
        exact⟨_,rfl,BE.out⟩
    ·go_wp2_with fail
     go_ret
     exact⟨_,rfl,BE.out⟩
  ·go_wp2_with fail
   go_ret
   exact⟨_,rfl,BE.out⟩
theorem op_classes(op:Int):(onPathB op=false∧hasArgB op=false∧hasArgsB op=false)∨(onPathB op=true∧hasArgB op=true∧hasArgsB op=false)∨(onPathB op=true∧hasArgB op=false∧hasArgsB op=true)∨(onPathB op=true∧hasArgB op=false∧hasArgsB op=false):=by
 unfold onPathB hasArgB hasArgsB hasTextB
 by_cases h:2≤op∧op≤19
 ·have:op=2∨op=3∨op=4∨op=5∨op=6∨op=7∨op=8∨op=9∨op=10∨op=11∨op=12∨op=13∨op=14∨op=15∨op=16∨op=17∨op=18∨op=19:=by omega
  rcases this with rfl|rfl|rfl|rfl|rfl|rfl|rfl|rfl|rfl|rfl|rfl|rfl|rfl|rfl|rfl|rfl|rfl|rfl<;>decide
 ·refine .inl ⟨?_,?_,?_⟩
  ·simp;omega
  ·simp;omega
  ·simp;omega
theorem unused_any(p:PrT)(w:World):Calls Tryz.prog 50 #[aggPr p] w (AnyB w):=by
 have B0:Hid (Blk (w.alloc (.cells (arrPr p) 38)) w.heap.size 38 (arrPr p)):=Blk.new_at rfl
 have BE:=qD ((Below.refl w.heap.size w).alloc (qL) (Obj.cells (arrPr p) 38))
 go_enter Tryz.func50,Tryz.ntmps50
 go_upto_region 1 with fail
 change Code.wp _ _ _ _ (w.alloc (.cells (arrPr p) 38))
 generalize w.alloc (.cells (arrPr p) 38)=wa at*
 obtain⟨d0,d1,_,_,d7,_,_,_⟩:=pr_cells B0.out
 have RA:=qD (range_parg B0.out)
 have hcl:=op_classes p.op
 obtain⟨b1,hb1⟩:∃b,b=onPathB p.op:=⟨_,rfl⟩
 obtain⟨b2,hb2⟩:∃b,b=hasArgB p.op:=⟨_,rfl⟩
 obtain⟨b3,hb3⟩:∃b,b=hasArgsB p.op:=⟨_,rfl⟩
 rw[←hb1,←hb2,←hb3] at hcl
 have HB1:=qD hb1
 have HB2:=qD hb2
 have HB3:=qD hb3
 have HCL:=qD hcl
 clear hb1 hb2 hb3 hcl
 go_cut [36] (fun v wx=>∃b:Bool,v=.bool b∧Blk wx w.heap.size 38 (arrPr p)∧Below w.heap.size w wx)
 case first=>
  rcases HCL.out with⟨rfl,rfl,rfl⟩|⟨rfl,rfl,rfl⟩|⟨rfl,rfl,rfl⟩|⟨rfl,rfl,rfl⟩
  all_goals go_wp2_with (first
  | (go_at_call 46;refine(onPath_any _ _).mono ?_;rintro e w1 ⟨rfl,rfl⟩;rw[←HB1.out])
  | (go_at_call 47;refine(hasArg_any _ _).mono ?_;rintro e w1 ⟨rfl,rfl⟩;rw[←HB2.out])
  | (go_at_call 44;refine(hasArgs_any _ _).mono ?_;rintro e w1 ⟨rfl,rfl⟩;rw[←HB3.out])
  | (go_at_call 104;refine(missing13_any p.arg.1 _).mono ?_;rintro e w1 ⟨b,rfl,hb⟩;replace B0:=qD (B0.out.step hb);replace BE:=qD (BE.out.step' hb);clear hb d0 d1 d7;obtain⟨d0,d1,_,_,d7,_,_,_⟩:=pr_cells B0.out;cases b)
  | ((with_reducible show wpList _ _ _ (⟨_,.load 29 _,_,_,_,_⟩::_) _ _);refine wpList_mid_w rfl 29 _ rfl w.heap.size 2 rfl _ _ RA.out Tryz.underlying29 rfl (by kernel_rfl) ?_))
  all_goals go_meet
  all_goals exact⟨_,rfl,B0.out,BE.out⟩
 case rest=>
  obtain⟨b,rfl,hB0,hBE⟩:=hcut
  clear B0 BE d0 d1 d7 RA HB1 HB2 HB3 HCL
  have B0:=qD hB0
  have BE:=qD hBE
  obtain⟨d0,d1,_,_,d7,d8,d9,_⟩:=pr_cells B0.out
  clear hB0 hBE
  cases b
  ·go_upto_region 3 with fail
   go_cut [69] (fun v wx=>∃b:Bool,v=.bool b∧wx=wc)
   case first=>
    go_wp2_with fail
    all_goals go_meet
    all_goals exact⟨_,rfl,rfl⟩
   case rest=>
    obtain⟨b,rfl,rfl⟩:=hcut
    have RA:=qD (range_parg B0.out)
    have RS:=qD (range_pshape B0.out)
    have RE:=qD (range_pex B0.out)
    cases b
    ·cases h18:(p.op==18)<;>cases h24:(p.op==24)
     all_goals go_wp2_with (first
      | (go_at_call 105;refine(noShape_any p.sk p.sr p.pts _).mono ?_;rintro e w1 ⟨b,rfl,hb⟩;replace B0:=qD (B0.out.step hb);replace BE:=qD (BE.out.step' hb);replace RE:=qD (range_pex B0.out);clear hb d0 d1 d7 d8 d9;obtain⟨d0,_,_,_,_,_,_,_⟩:=pr_cells B0.out;cases b)
      | (go_at_call 106;refine(noExpr_any p.ex _).mono ?_;rintro e w1 ⟨b,rfl,hb⟩;replace BE:=qD (BE.out.step' hb);clear hb;cases b)
      | ((with_reducible show wpList _ _ _ (⟨_,.load 32 _,_,_,_,_⟩::_) _ _);refine wpList_mid_w rfl 32 _ rfl w.heap.size 10 rfl _ _ RS.out Tryz.underlying32 rfl (by kernel_rfl) ?_)
      | ((with_reducible show wpList _ _ _ (⟨_,.load 35 _,_,_,_,_⟩::_) _ _);refine wpList_mid_w rfl 35 _ rfl w.heap.size 13 rfl _ _ RE.out Tryz.underlying35 rfl (by kernel_rfl) ?_))
     all_goals go_ret
     all_goals exact⟨_,rfl,BE.out⟩
    ·go_wp2_with fail
     go_ret
     exact⟨_,rfl,BE.out⟩
  ·go_wp2_with fail
   go_ret
   exact⟨_,rfl,BE.out⟩
def CountOk(p:PrT)(lf:Int)(w:World)(e:Ending)(w':World):Prop:=∃r:Int,e=.returned (.int .i64 r)∧-1≤r∧r≤1000∧(0≤r→r=lf-p.nodes)∧Below w.heap.size w w'
theorem nodesL_take{l:List PrT}{i:Nat}{k:PrT}(h:l[i]?=some k):PrT.nodes.nodesL (l.take (i+1))=PrT.nodes.nodesL (l.take i)+k.nodes:=by
 induction l generalizing i with
 | nil=>simp at h
 | cons x r ih=>
  cases i with
  | zero=>simp at h;subst h;simp[PrT.nodes.nodesL]
  | succ i=>
   have:=ih (i:=i) (by simpa using h)
   simp only[List.take_succ_cons,PrT.nodes.nodesL] at*
   omega
structure CtI(p:PrT)(lf:Int)(w:World)(i:Nat)(r:Int)(wr:World):Prop where
 b0:Blk wr w.heap.size 38 (arrPr p)
 bel:Below w.heap.size w wr
 lo:-1≤r
 hi:r≤1000
 eq:0≤r→r=lf-1-(PrT.nodes.nodesL (p.kids.take i):Nat)
def ChkOk(w:World)(e:Ending)(w':World):Prop:=∃a b:Int,e=.returned (.tuple #[.int .i64 a,.int .i64 b])∧1≤a∧a≤257∧(b=0→a≤256)∧Below w.heap.size w w'
structure CkI(x:ExT)(w:World)(a:Int)(wr:World):Prop where
 b0:Blk wr w.heap.size 35 (arrEx x)
 bel:Below w.heap.size w wr
 lo:1≤a
 hi:a≤256
theorem check8_any(x:ExT):∀(nu lv:Int) (w:World),WX w x→Tabs w→1≤nu→nu≤257→1≤lv→lv≤17→Calls Tryz.prog 107 #[aggEx x,.int .i64 nu,.int .i64 lv] w (ChkOk w):=by
 induction x using ExT.ind with
 | h x ih=>
 intro nu lv w hw hT h1 h2 h3 h4
 have HT:=qD hT
 have HW:=qD hw
 have W:=qD hw.open
 have IH:=qD ih
 have hkz:x.kn≤140737488355328:=by have:=W.out.ksz;unfold reach at this;omega
 clear ih hw hT
 have B0:Hid (Blk (w.alloc (.cells (arrEx x) 35)) w.heap.size 35 (arrEx x)):=Blk.new_at rfl
 have BE:=qD ((Below.refl w.heap.size w).alloc (qL) (Obj.cells (arrEx x) 35))
 go_enter Tryz.func107,Tryz.ntmps107
 go_upto_region 1 with fail
 change Code.wp _ _ _ _ (w.alloc (.cells (arrEx x) 35))
 generalize w.alloc (.cells (arrEx x) 35)=wa at*
 by_cases hz:16<lv∨256<nu
 ·go_cut [17] (fun v wx=>v=.bool true∧wx=wa)
  case first=>
   go_wp2_with fail
   all_goals go_meet
   all_goals first|exact⟨rfl,rfl⟩|(exfalso;omega)|(refine⟨?_,rfl⟩;simp;omega)
  case rest=>
   obtain⟨rfl,rfl⟩:=hcut
   go_wp2_with fail
   go_ret2
   exact⟨nu,2,rfl,h1,h2,fun h=>absurd h (by omega),BE.out⟩
 ·have g1:¬16<lv:=by omega
  have g2:¬256<nu:=by omega
  have g4:wrap64 (lv+1)=lv+1:=by unfold wrap64;omega
  clear hz
  have RF:=qD (ex_full B0.out)
  go_upto_region 3 with fail
  go_wp2_with (first
   | ((with_reducible show wpList _ _ _ (⟨_,.load 35 _,_,_,_,_⟩::_) _ _);refine wpList_mid_w rfl 35 _ rfl w.heap.size 0 rfl _ _ RF.out Tryz.underlying35 rfl (by kernel_rfl) ?_)
   | (go_at_call 139;fail))
  refine(nodeX_any x wa (HW.out.step BE.out) (HT.out.step BE.out)).mono ?_
  rintro e w1 ⟨er,rfl,hb⟩
  replace B0:=qD (B0.out.step hb)
  replace BE:=qD (BE.out.step' hb)
  clear hb RF
  by_cases he:er=0
  ·subst he
   go_upto_region 7 with fail
   go_loopw [1,9,10,11] (fun v1 v9 _ _ wr=>∃(i:Nat) (a:Int),i≤x.kn∧v1=.int .i64 a∧v9=.int .i64 i∧CkI x w a wr) (fun _ v9 _ _ _=>x.kn-(intOf v9).toNat)
   case atStart=>exact⟨0,nu,Nat.zero_le _,rfl,rfl,B0.out,BE.out,h1,by omega⟩
   case round=>
    obtain⟨i,a,hi,rfl,rfl,hI⟩:=hrel
    have HI:=qD hI
    obtain⟨_,_,_,_,_,d10⟩:=ex_cells hI.b0
    have alo:=hI.lo
    have ahi:=hI.hi
    clear hI
    have g3:wrap64 (a+1)=a+1:=by unfold wrap64;omega
    by_cases hlt:i<x.kn
    ·obtain⟨b,off,y,hA,hb,hx,hm,hrg⟩:=W.out.sr.row hlt
     have RG:=qD (range_step hrg HI.out.bel hb)
     have KW:=qD ((W.out.kids y hm).step HI.out.bel)
     have IX:=qD (IH.out y hm)
     have KT:=qD (HT.out.step HI.out.bel)
     rw[hA] at d10
     clear hrg hx hm hA
     go_wp2_with (first
      | ((with_reducible show wpList _ _ _ (⟨_,.load 35 _,_,_,_,_⟩::_) _ _);refine wpList_mid_w rfl 35 _ rfl b (off+i*11) rfl _ _ RG.out Tryz.underlying35 rfl (by kernel_rfl) ?_)
      | (go_at_call 107;(try rw[g4]);(try rw[g3]);refine(IX.out (a+1) (lv+1) _ KW.out KT.out (by omega) (by omega) (by omega) (by omega)).mono ?_;rintro e w1 ⟨r,er,rfl,hr1,hr2,hr3,hbb⟩;have H3:=qD hr3;have HB:=qD hbb;clear hr3 hbb;by_cases he:er=0;(focus (subst he))))
     ·have:r≤256:=by simpa using H3.out
      go_roundw
      case rel=>exact⟨i+1,r,by omega,rfl,by go_num,HI.out.b0.step HB.out,HI.out.bel.step' HB.out,hr1,this⟩
      case measure=>simp[intOf];omega
     ·have he':(er != 0)=true:=by simpa using he
      go_wp2_with fail
      go_ret2
      exact⟨r,er,rfl,hr1,hr2,H3.out,HI.out.bel.step' HB.out⟩
    ·go_wp2_with fail
     go_ret2
     exact⟨a,0,rfl,alo,by omega,fun _=>ahi,HI.out.bel⟩
  ·have he':(er != 0)=true:=by simpa using he
   clear he
   go_wp2_with fail
   go_ret2
   exact⟨nu,er,rfl,h1,h2,fun _=>by omega,BE.out⟩
theorem valid8_any(x:ExT)(w:World)(h:WX w x)(hT:Tabs w):Calls Tryz.prog 51 #[aggEx x] w (AnyN w):=by
 have HT:=qD hT
 have HW:=qD h
 clear h hT
 have B0:Hid (Blk (w.alloc (.cells (arrEx x) 35)) w.heap.size 35 (arrEx x)):=Blk.new_at rfl
 have BE:=qD ((Below.refl w.heap.size w).alloc (qL) (Obj.cells (arrEx x) 35))
 go_enter Tryz.func51,Tryz.ntmps51
 go_upto_region 1 with fail
 change Code.wp _ _ _ _ (w.alloc (.cells (arrEx x) 35))
 generalize w.alloc (.cells (arrEx x) 35)=wa at*
 have RF:=qD (ex_full B0.out)
 go_wp2_with (first
  | ((with_reducible show wpList _ _ _ (⟨_,.load 35 _,_,_,_,_⟩::_) _ _);refine wpList_mid_w rfl 35 _ rfl w.heap.size 0 rfl _ _ RF.out Tryz.underlying35 rfl (by kernel_rfl) ?_)
  | (go_at_call 107;refine(check8_any x 1 1 _ (HW.out.step BE.out) (HT.out.step BE.out) (by omega) (by omega) (by omega) (by omega)).mono ?_;rintro e w1 ⟨r,er,rfl,_,_,_,hb⟩;replace BE:=qD (BE.out.step' hb);clear hb B0 RF))
 go_ret
 exact⟨er,rfl,BE.out⟩
def NodeOk(p:PrT)(w:World)(e:Ending)(w':World):Prop:=∃n:Int,e=.returned (.int .i64 n)∧(n=0→VPr p)∧Below w.heap.size w w'
theorem NodeOk.no{p:PrT}{w w':World}{n:Int}(h:n≠0)(hb:Below w.heap.size w w'):NodeOk p w (.returned (.int .i64 n)) w':=⟨n,rfl,fun k=>absurd k h,hb⟩
structure NdF(p:PrT):Prop where
 kids:kidsB p=true
 nums:numbersB p=true
 arg:hasArgB p.op=true→validV p.arg.2=true∧(hasTextB p.op=true→p.arg.1.k=4)
 args:hasArgsB p.op=true→∀x∈p.args.xs,validV x.2=true
theorem NdF.vpr{p:PrT}{w:World}(h:NdF p)(W:WPo w p)(hk:p.op=20∨p.op=21→∀k∈p.kids,VPr k):VPr p:=by
 refine VPo.shut ⟨fun ho=>?_,fun ho=>?_,fun ho=>?_,fun ho=>?_,fun ho=>?_,hk⟩
 ·have e:hasArgB p.op=true:=by rcases ho with ho|ho|ho|ho|ho|ho<;>rw[ho]<;>rfl
  exact(h.arg e).1
 ·have e:hasArgsB p.op=true:=by rw[ho];rfl
  exact h.args e
 ·have e:hasArgB p.op=true:=by rw[ho];rfl
  have e':hasTextB p.op=true:=by rw[ho];rfl
  rw[←W.arg.open.k]
  exact(h.arg e).2 e'
 ·have:=h.nums
  unfold numbersB at this
  rw[if_neg (by omega),if_pos ho] at this
  simpa using this
 ·have:=h.kids
  unfold kidsB at this
  rw[if_neg (by omega),if_pos (by omega)] at this
  have hn:=W.sr.ln
  intro e
  rw[e] at hn
  simp at hn this
  omega
theorem node13_any(p:PrT):∀(el:Bool) (w:World),WP w p→Tabs w→Calls Tryz.prog 16 #[aggPr p,.bool el] w (NodeOk p w):=by
 induction p using PrT.ind with
 | h p ih=>
 intro el w hw hT
 have HT:=qD hT
 have W:=qD hw.open
 have IH:=qD ih
 have hkz:p.kn≤140737488355328:=by have:=W.out.ksz;unfold reach at this;omega
 have hpz:p.path.n≤140737488355328:=by have:=W.out.path.sz;unfold reach at this;omega
 have haz:p.args.n≤1048576:=W.out.few
 clear ih hw hT
 have B0:Hid (Blk (w.alloc (.cells (arrPr p) 38)) w.heap.size 38 (arrPr p)):=Blk.new_at rfl
 have BE:=qD ((Below.refl w.heap.size w).alloc (qL) (Obj.cells (arrPr p) 38))
 go_enter Tryz.func16,Tryz.ntmps16
 go_upto_region 1 with fail
 change Code.wp _ _ _ _ (w.alloc (.cells (arrPr p) 38))
 generalize w.alloc (.cells (arrPr p) 38)=wa at*
 obtain⟨d0,d1,d2,_,d7,d8,d9,d24⟩:=pr_cells B0.out
 have RF:=qD (pr_full B0.out)
 go_cut [37] (fun v wx=>∃b:Bool,v=.bool b∧(b=false→kidsB p=true∧numbersB p=true)∧Blk wx w.heap.size 38 (arrPr p)∧Below w.heap.size w wx)
 case first=>
  cases o1:decide (p.op<1)<;>cases o2:decide (24<p.op)<;>cases o3:((p.args.n:Int)==0)
  all_goals go_wp2_with (first
   | ((with_reducible show wpList _ _ _ (⟨_,.load 38 _,_,_,_,_⟩::_) _ _);refine wpList_mid_w rfl 38 _ rfl w.heap.size 0 rfl _ _ RF.out Tryz.underlying38 rfl (by kernel_rfl) ?_)
   | (go_at_call 43;refine(kids_any p _).mono ?_;rintro e w1 ⟨rfl,hb⟩;replace B0:=qD (B0.out.step hb);replace BE:=qD (BE.out.step' hb);replace RF:=qD (pr_full B0.out);clear hb d0 d1 d2 d7 d8 d9 d24;obtain⟨d0,d1,d2,_,d7,d8,d9,d24⟩:=pr_cells B0.out;cases hKB:kidsB p)
   | (go_at_call 44;refine(hasArgs_any _ _).mono ?_;rintro e w1 ⟨rfl,rfl⟩;obtain⟨bb,hbb⟩:∃b,b=hasArgsB p.op:=⟨_,rfl⟩;rw[←hbb];clear hbb;cases bb)
   | (go_at_call 45;refine(numbers_any p _).mono ?_;rintro e w1 ⟨rfl,hb⟩;replace B0:=qD (B0.out.step hb);replace BE:=qD (BE.out.step' hb);clear hb;cases hNB:numbersB p))
  all_goals go_meet
  all_goals first
   | exact⟨true,rfl,fun h=>by simp at h,B0.out,BE.out⟩
   | exact⟨false,rfl,fun _=>⟨hKB,hNB⟩,B0.out,BE.out⟩
   | exact⟨_,rfl,fun _=>⟨hKB,hNB⟩,B0.out,BE.out⟩
 case rest=>
  obtain⟨b,rfl,hF,hB0,hBE⟩:=hcut
  clear B0 BE RF d0 d1 d2 d7 d8 d9 d24
  have B0:=qD hB0
  have BE:=qD hBE
  have F1:=qD hF
  obtain⟨d0,d1,d2,_,d7,d8,d9,d24⟩:=pr_cells B0.out
  clear hB0 hBE hF
  cases b
  ·go_upto_region 3 with fail
   have HP:=qD (W.out.path.step BE.out)
   go_cut [56] (fun v wx=>∃b:Bool,v=.bool b∧wx=wc)
   case first=>
    cases el
    all_goals go_wp2_with (first
     | (go_at_call 46;refine(onPath_any _ _).mono ?_;rintro e w1 ⟨rfl,rfl⟩;obtain⟨bb,hbb⟩:∃b,b=onPathB p.op:=⟨_,rfl⟩;rw[←hbb];clear hbb;cases bb)
     | (go_at_call 41;refine(rpath_any p.path.xs _ _ _ _ HP.out).mono ?_;rintro e w1 ⟨rfl,rfl⟩;obtain⟨bb,hbb⟩:∃b,b=pathB p.path.xs:=⟨_,rfl⟩;rw[←hbb];clear hbb;cases bb))
    all_goals go_meet
    all_goals exact⟨_,rfl,rfl⟩
   case rest=>
    obtain⟨b,rfl,rfl⟩:=hcut
    cases b
    ·go_upto_region 5 with fail
     have RA:=qD (range_parg B0.out)
     have HA:=qD (W.out.arg.step BE.out)
     go_cut [76] (fun v wx=>∃b:Bool,v=.bool b∧(b=false→hasArgB p.op=true→validV p.arg.2=true∧(hasTextB p.op=true→p.arg.1.k=4))∧Blk wx w.heap.size 38 (arrPr p)∧Below w.heap.size w wx)
     case first=>
      go_wp2_with (first
       | ((with_reducible show wpList _ _ _ (⟨_,.load 29 _,_,_,_,_⟩::_) _ _);refine wpList_mid_w rfl 29 _ rfl w.heap.size 2 rfl _ _ RA.out Tryz.underlying29 rfl (by kernel_rfl) ?_)
       | (go_at_call 47;refine(hasArg_any _ _).mono ?_;rintro e w1 ⟨rfl,rfl⟩;cases hAB:hasArgB p.op)
       | (go_at_call 48;refine(hasText_any _ _).mono ?_;rintro e w1 ⟨rfl,rfl⟩;cases hTB:hasTextB p.op)
       | (go_at_call 11;refine(rvalid_any p.arg.2 p.arg.1 _ HA.out).mono ?_;rintro e w1 ⟨rfl,hb⟩;replace B0:=qD (B0.out.step hb);replace BE:=qD (BE.out.step' hb);clear hb d0 d1 d2 d7 d8 d9 d24;obtain⟨d0,d1,d2,_,d7,d8,d9,d24⟩:=pr_cells B0.out;cases hVB:validV p.arg.2))
      all_goals go_meet
      all_goals first
       | exact⟨true,rfl,fun h=>by simp at h,B0.out,BE.out⟩
       | exact⟨false,rfl,fun _ h=>absurd (hAB.symm.trans h) (by decide),B0.out,BE.out⟩
       | exact⟨false,rfl,fun _ _=>⟨hVB,fun h=>absurd (hTB.symm.trans h) (by decide)⟩,B0.out,BE.out⟩
       | exact⟨_,rfl,fun h _=>⟨hVB,fun _=>by simpa using h⟩,B0.out,BE.out⟩
     case rest=>
      obtain⟨b,rfl,hF,hB0,hBE⟩:=hcut
      clear B0 BE d0 d1 d2 d7 d8 d9 d24 RA HA HP
      have B0:=qD hB0
      have BE:=qD hBE
      have F5:=qD hF
      obtain⟨d0,d1,d2,_,d7,d8,d9,d24⟩:=pr_cells B0.out
      clear hB0 hBE hF
      cases b
      ·go_upto_block 0 with fail
       go_cut [5] (fun _ wx=>(hasArgsB p.op=true→∀x∈p.args.xs,validV x.2=true)∧Blk wx w.heap.size 38 (arrPr p)∧Below w.heap.size w wx)
       case first=>
        go_wp2_with fail
        go_loopw [5] (fun v wr=>∃i:Nat,i≤p.args.n∧v=.int .i64 i∧(∀(j:Nat) (x:PV),j<i→p.args.xs[j]?=some x→validV x.2=true)∧Blk wr w.heap.size 38 (arrPr p)∧Below w.heap.size w wr) (fun v _=>p.args.n-(intOf v).toNat)
        case atStart=>exact⟨0,Nat.zero_le _,rfl,fun j _ h=>absurd h (by omega),B0.out,BE.out⟩
        case round=>
         obtain⟨i,hi,rfl,hall,hB0,hBE⟩:=hrel
         clear B0 BE d0 d1 d2 d7 d8 d9 d24
         have B0:=qD hB0
         have BE:=qD hBE
         have HALL:=qD hall
         obtain⟨d0,d1,d2,_,d7,d8,d9,d24⟩:=pr_cells B0.out
         clear hB0 hBE hall
         by_cases hlt:i<p.args.n
         ·cases hSB:hasArgsB p.op
          ·go_wp2_with (go_at_call 44;refine(hasArgs_any _ _).mono ?_;rintro e w1 ⟨rfl,rfl⟩;rw[hSB])
           go_meet
           exact⟨fun h=>absurd (hSB.symm.trans h) (by decide),B0.out,BE.out⟩
          ·obtain⟨b,off,x,hA,hb,hx,hm,hrg⟩:=W.out.args.sr.row hlt
           have HX:=qD hx
           have RG:=qD (range_step hrg BE.out hb)
           have HV:=qD ((W.out.args.rv x hm).step BE.out)
           rw[hA] at d7
           have HA:=qD hA
           clear hrg hA hx
           go_wp2_with (first
            | (go_at_call 44;refine(hasArgs_any _ _).mono ?_;rintro e w1 ⟨rfl,rfl⟩;rw[hSB])
            | ((with_reducible show wpList _ _ _ (⟨_,.load 29 _,_,_,_,_⟩::_) _ _);refine wpList_mid_w rfl 29 _ rfl b (off+i*5) rfl _ _ RG.out Tryz.underlying29 rfl (by kernel_rfl) ?_)
            | (go_at_call 11;refine(rvalid_any x.2 x.1 _ HV.out).mono ?_;rintro e w1 ⟨rfl,hbb⟩;replace B0:=qD (B0.out.step hbb);replace BE:=qD (BE.out.step' hbb);clear hbb;cases hVB:validV x.2))
           ·go_ret
            exact NodeOk.no (by decide) BE.out
           ·go_roundw
            case rel=>
             refine⟨i+1,by omega,by go_num,fun j y hj hy=>?_,B0.out,BE.out⟩
             by_cases hji:j=i
             ·subst hji
              obtain rfl:y=x:=by have:=hy.symm.trans HX.out;simpa using this
              exact hVB
             ·exact HALL.out j y (by omega) hy
            case measure=>simp[intOf];omega
         ·obtain rfl:i=p.args.n:=by omega
          go_wp2_with fail
          go_meet
          refine⟨fun _ x hx=>?_,B0.out,BE.out⟩
          obtain⟨j,hj,rfl⟩:=List.getElem_of_mem hx
          exact HALL.out j _ (by have:=W.out.args.sr.ln;omega) (List.getElem?_eq_getElem hj)
       case rest=>
        obtain⟨hF,hB0,hBE⟩:=hcut
        clear B0 BE d0 d1 d2 d7 d8 d9 d24
        have B0:=qD hB0
        have BE:=qD hBE
        have FA:=qD hF
        have ND:Hid (NdF p):=qD ⟨(F1.out rfl).1,(F1.out rfl).2,F5.out rfl,FA.out⟩
        obtain⟨d0,d1,d2,_,d7,d8,d9,d24⟩:=pr_cells B0.out
        clear hB0 hBE hF FA F1 F5
        go_upto_if 98 with fail
        go_cut [6] (fun _ wx=>Blk wx w.heap.size 38 (arrPr p)∧Below w.heap.size w wx)
        case first=>
         cases h18:(p.op==18)
         ·go_wp2_with fail
          go_meet
          exact⟨B0.out,BE.out⟩
         ·have RS:=qD (range_pshape B0.out)
          have HSH:=qD (shape_any p.sk p.sr p.pts wc (W.out.pts.step BE.out) W.out.psz)
          go_wp2_with (first
           | ((with_reducible show wpList _ _ _ (⟨_,.load 32 _,_,_,_,_⟩::_) _ _);refine wpList_mid_w rfl 32 _ rfl w.heap.size 10 rfl _ _ RS.out Tryz.underlying32 rfl (by kernel_rfl) ?_)
           | (go_at_call 49;refine HSH.out.mono ?_;rintro e w1 ⟨er,rfl,hb⟩;replace B0:=qD (B0.out.step hb);replace BE:=qD (BE.out.step' hb);clear hb;by_cases he:er=0;(focus (subst he))))
          ·go_meet
           exact⟨B0.out,BE.out⟩
          ·have he':(er != 0)=true:=by simpa using he
           have HE:=qD he
           clear he
           go_wp2_with fail
           go_ret
           exact NodeOk.no HE.out BE.out
        case rest=>
         obtain⟨hB0,hBE⟩:=hcut
         clear B0 BE d0 d1 d2 d7 d8 d9 d24
         have B0:=qD hB0
         have BE:=qD hBE
         obtain⟨d0,d1,d2,_,d7,d8,d9,d24⟩:=pr_cells B0.out
         have RF:=qD (pr_full B0.out)
         clear hB0 hBE
         go_upto_if 107 with(first
          | ((with_reducible show wpList _ _ _ (⟨_,.load 38 _,_,_,_,_⟩::_) _ _);refine wpList_mid_w rfl 38 _ rfl w.heap.size 0 rfl _ _ RF.out Tryz.underlying38 rfl (by kernel_rfl) ?_)
          | (go_at_call 50;refine(unused_any p _).mono ?_;rintro e w1 ⟨bu,rfl,hb⟩;replace B0:=qD (B0.out.step hb);replace BE:=qD (BE.out.step' hb);clear hb d0 d1 d2 d7 d8 d9 d24;obtain⟨d0,d1,d2,_,d7,d8,d9,d24⟩:=pr_cells B0.out))
         cases bu
         ·go_wp2_with fail
          go_ret
          exact NodeOk.no (by decide) BE.out
         cases h24:(p.op==24)
         ·go_upto_region 21 with fail
          go_loopw [7,8] (fun v _ wr=>∃i:Nat,i≤p.kn∧v=.int .i64 i∧(∀(j:Nat) (k:PrT),j<i→p.kids[j]?=some k→VPr k)∧Blk wr w.heap.size 38 (arrPr p)∧Below w.heap.size w wr) (fun v _ _=>p.kn-(intOf v).toNat)
          case atStart=>exact⟨0,Nat.zero_le _,rfl,fun j _ h=>absurd h (by omega),B0.out,BE.out⟩
          case round=>
           obtain⟨i,hi,rfl,hall,hB0,hBE⟩:=hrel
           clear B0 BE d0 d1 d2 d7 d8 d9 d24 RF
           have B0:=qD hB0
           have BE:=qD hBE
           have HALL:=qD hall
           obtain⟨d0,_,_,_,_,_,_,d24⟩:=pr_cells B0.out
           clear hB0 hBE hall
           by_cases hlt:i<p.kn
           ·obtain⟨b,off,k,hA,hb,hx,hm,hrg⟩:=W.out.sr.row hlt
            have HX:=qD hx
            have RG:=qD (range_step hrg BE.out hb)
            have HLB:Hid (b<wr.heap.size):=qD (Nat.lt_of_lt_of_le hb BE.out.size)
            have IX:=qD fun(el:Bool) (w':World) (hw:Below wr.heap.size wr w')=>IH.out k hm el w' ((W.out.kids k hm).step (BE.out.step' hw)) (HT.out.step (BE.out.step' hw))
            rw[hA] at d24
            have i0:(0:Int)≤(i:Int):=by omega
            have i1:(i:Int)<(p.kn:Int):=by omega
            clear hrg hA hx
            go_upto_region 23 with fail
            have KS:Hid (∀w',Below wr.heap.size wr w'→(Instr.loadAt 38 (.pointer (some ⟨b,off+i*25,none⟩))).run Tryz.prog w'=.ok (.agg (recPr k).toArray) w'∧w'.cell? ⟨w.heap.size,0,none⟩=some (.int .i64 p.op)∧w'.cell? ⟨w.heap.size,24,none⟩=some (.slice (some ⟨b,off,none⟩) p.kn p.kc)):=qD fun w' hw=>
             ⟨run_loadAt_mid w' b (off+i*25) 38 (recPr k) _ (range_step RG.out hw HLB.out) Tryz.underlying38 rfl (by kernel_rfl),(hw.cell (p:=⟨w.heap.size,0,none⟩) B0.out.lt).trans d0,(hw.cell (p:=⟨w.heap.size,24,none⟩) B0.out.lt).trans d24⟩
            have B:=qD ((Below.refl wr.heap.size wr).drewN 1)
            clear d0 d24
            cases el
            ·cases h15:(p.op==15)
             all_goals
              refine wp_region_noPanic ?_
              refine wp_region_held_drew (S:=(fun w'=>(Instr.loadAt 38 (.pointer (some ⟨b,off+i*25,none⟩))).run Tryz.prog w'=.ok (.agg (recPr k).toArray) w'∧w'.cell? ⟨w.heap.size,0,none⟩=some (.int .i64 p.op)∧w'.cell? ⟨w.heap.size,24,none⟩=some (.slice (some ⟨b,off,none⟩) p.kn p.kc))) (by kernel_rfl) ?_ (fun hHeld=>?_)
              ·(try dsimp only);exact KS.out _ B.out
              refine rT (v:=?_) 0 rfl ?_ ?_
              rotate_left
              ·intro w' hSw;(try dsimp only at hSw);obtain⟨_,hSw1,hSw2⟩:=hSw;go_simp;(try with_reducible rfl)
              try go_frame
              refine rT (v:=?_) 1 rfl ?_ ?_
              rotate_left
              ·intro w' hSw;(try dsimp only at hSw);obtain⟨_,hSw1,hSw2⟩:=hSw;go_simp;(try with_reducible rfl)
              try go_frame
              refine rT (v:=?_) 2 rfl ?_ ?_
              rotate_left
              ·intro w' hSw;(try dsimp only at hSw);obtain⟨_,hSw1,hSw2⟩:=hSw;go_simp;(try with_reducible rfl)
              try go_frame
              refine rT (v:=?_) 3 rfl ?_ ?_
              rotate_left
              ·intro w' hSw;(try dsimp only at hSw);obtain⟨_,hSw1,hSw2⟩:=hSw;go_simp;(try with_reducible rfl)
              try go_frame
              refine rT (v:=.agg (recPr k).toArray) 4 rfl ?_ ?_
              (skip)
              ·intro w' hSw;exact exec_load (p:=.pointer (some ⟨b,off+i*25,none⟩)) rfl rfl hSw.1
              try go_frame
              refine rT (v:=?_) 5 rfl ?_ ?_
              rotate_left
              ·intro w' hSw;(try dsimp only at hSw);obtain⟨_,hSw1,hSw2⟩:=hSw;go_simp;(try with_reducible rfl)
              try go_frame
              refine rT (v:=?_) 6 rfl ?_ ?_
              rotate_left
              ·intro w' hSw;(try dsimp only at hSw);obtain⟨_,hSw1,hSw2⟩:=hSw;go_simp;(try with_reducible rfl)
              try go_frame
              refine rT (v:=?_) 7 rfl ?_ ?_
              rotate_left
              ·intro w' hSw;(try dsimp only at hSw);obtain⟨_,hSw1,hSw2⟩:=hSw;go_simp;(try with_reducible rfl)
              try go_frame
              refine rT (v:=?_) 8 rfl ?_ ?_
              rotate_left
              ·intro w' hSw;(try dsimp only at hSw);obtain⟨_,hSw1,hSw2⟩:=hSw;go_simp;(try with_reducible rfl)
              try go_frame
              refine rT (v:=?_) 9 rfl ?_ ?_
              rotate_left
              ·intro w' hSw;(try dsimp only at hSw);obtain⟨_,hSw1,hSw2⟩:=hSw;go_simp;(try with_reducible rfl)
              try go_frame
              refine rT (v:=?_) 10 rfl ?_ ?_
              rotate_left
              ·intro w' hSw;(try dsimp only at hSw);obtain⟨_,hSw1,hSw2⟩:=hSw;go_simp;(try with_reducible rfl)
              try go_frame
              refine rY 11 rfl fun K hK=>?_
              go_simp
              refine(IX.out _ _ B.out).mono ?_
              rintro e3 w3 ⟨er,rfl,hn,hb3⟩
              replace B:=qD (B.out.step' hb3)
              have HN:=qD hn
              clear hb3 hn
              (try go_wp2_with fail)
              clear hHeld
              refine hK.out _ _ ?_ fun hHeld=>?_
              ·(try dsimp only);exact KS.out _ B.out
              clear hK K
              try go_frame
              refine rU 12 rfl ?_
              try go_frame
              refine rD ?_ _
              refine NoPanic.normal ?_
              clear hHeld
              by_cases he:er=0
              ·subst he
               go_wp2_with fail
               go_roundw
               case rel=>
                refine⟨i+1,by omega,by go_num,fun j y hj hy=>?_,B0.out.step B.out,BE.out.step' B.out⟩
                by_cases hji:j=i
                ·subst hji
                 obtain rfl:y=k:=by have:=hy.symm.trans HX.out;simpa using this
                 exact(by have h:=HN.out;simpa using h)
                ·exact HALL.out j y (by omega) hy
               case measure=>simp[intOf];omega
              ·have he':(er != 0)=true:=by simpa using he
               have HE:=qD he
               clear he
               go_wp2_with fail
               go_ret
               exact NodeOk.no HE.out (BE.out.step' B.out)
            ·refine wp_region_noPanic ?_
             refine wp_region_held_drew (S:=(fun w'=>(Instr.loadAt 38 (.pointer (some ⟨b,off+i*25,none⟩))).run Tryz.prog w'=.ok (.agg (recPr k).toArray) w'∧w'.cell? ⟨w.heap.size,0,none⟩=some (.int .i64 p.op)∧w'.cell? ⟨w.heap.size,24,none⟩=some (.slice (some ⟨b,off,none⟩) p.kn p.kc))) (by kernel_rfl) ?_ (fun hHeld=>?_)
             ·(try dsimp only);exact KS.out _ B.out
             refine rT (v:=?_) 0 rfl ?_ ?_
             rotate_left
             ·intro w' hSw;(try dsimp only at hSw);obtain⟨_,hSw1,hSw2⟩:=hSw;go_simp;(try with_reducible rfl)
             try go_frame
             refine rT (v:=?_) 1 rfl ?_ ?_
             rotate_left
             ·intro w' hSw;(try dsimp only at hSw);obtain⟨_,hSw1,hSw2⟩:=hSw;go_simp;(try with_reducible rfl)
             try go_frame
             refine rT (v:=?_) 2 rfl ?_ ?_
             rotate_left
             ·intro w' hSw;(try dsimp only at hSw);obtain⟨_,hSw1,hSw2⟩:=hSw;go_simp;(try with_reducible rfl)
             try go_frame
             refine rT (v:=?_) 3 rfl ?_ ?_
             rotate_left
             ·intro w' hSw;(try dsimp only at hSw);obtain⟨_,hSw1,hSw2⟩:=hSw;go_simp;(try with_reducible rfl)
             try go_frame
             refine rT (v:=.agg (recPr k).toArray) 4 rfl ?_ ?_
             (skip)
             ·intro w' hSw;exact exec_load (p:=.pointer (some ⟨b,off+i*25,none⟩)) rfl rfl hSw.1
             try go_frame
             refine rT (v:=?_) 5 rfl ?_ ?_
             rotate_left
             ·intro w' hSw;(try dsimp only at hSw);obtain⟨_,hSw1,hSw2⟩:=hSw;go_simp;(try with_reducible rfl)
             try go_frame
             refine rT (v:=?_) 6 rfl ?_ ?_
             rotate_left
             ·intro w' hSw;(try dsimp only at hSw);obtain⟨_,hSw1,hSw2⟩:=hSw;go_simp;(try with_reducible rfl)
             try go_frame
             refine wpAnyH_take (i:=7) (v:=undef) (take_at rfl) (by kernel_rfl) (by kernel_rfl) (by kernel_rfl) (fun _ _ _ h=>h) (Or.inr ⟨by rfl,rfl⟩) (by assumption) ?_
             try go_frame
             refine wpAnyH_take (i:=8) (v:=undef) (take_at rfl) (by kernel_rfl) (by kernel_rfl) (by kernel_rfl) (fun _ _ _ h=>h) (Or.inr ⟨by rfl,rfl⟩) (by assumption) ?_
             try go_frame
             refine wpAnyH_take (i:=9) (v:=undef) (take_at rfl) (by kernel_rfl) (by kernel_rfl) (by kernel_rfl) (fun _ _ _ h=>h) (Or.inr ⟨by rfl,rfl⟩) (by assumption) ?_
             try go_frame
             refine rT (v:=?_) 10 rfl ?_ ?_
             rotate_left
             ·intro w' hSw;(try dsimp only at hSw);obtain⟨_,hSw1,hSw2⟩:=hSw;go_simp;(try with_reducible rfl)
             try go_frame
             refine rY 11 rfl fun K hK=>?_
             go_simp
             refine(IX.out _ _ B.out).mono ?_
             rintro e3 w3 ⟨er,rfl,hn,hb3⟩
             replace B:=qD (B.out.step' hb3)
             have HN:=qD hn
             clear hb3 hn
             (try go_wp2_with fail)
             clear hHeld
             refine hK.out _ _ ?_ fun hHeld=>?_
             ·(try dsimp only);exact KS.out _ B.out
             clear hK K
             try go_frame
             refine rU 12 rfl ?_
             try go_frame
             refine rD ?_ _
             refine NoPanic.normal ?_
             clear hHeld
             by_cases he:er=0
             ·subst he
              go_wp2_with fail
              go_roundw
              case rel=>
               refine⟨i+1,by omega,by go_num,fun j y hj hy=>?_,B0.out.step B.out,BE.out.step' B.out⟩
               by_cases hji:j=i
               ·subst hji
                obtain rfl:y=k:=by have:=hy.symm.trans HX.out;simpa using this
                exact(by have h:=HN.out;simpa using h)
               ·exact HALL.out j y (by omega) hy
              case measure=>simp[intOf];omega
             ·have he':(er != 0)=true:=by simpa using he
              have HE:=qD he
              clear he
              go_wp2_with fail
              go_ret
              exact NodeOk.no HE.out (BE.out.step' B.out)
           ·obtain rfl:i=p.kn:=by omega
            go_wp2_with fail
            go_ret
            refine⟨0,rfl,fun _=>ND.out.vpr W.out fun _ k hk=>?_,BE.out⟩
            obtain⟨j,hj,rfl⟩:=List.getElem_of_mem hk
            exact HALL.out j _ (by have:=W.out.sr.ln;omega) (List.getElem?_eq_getElem hj)
         ·have RE:=qD (range_pex B0.out)
          have HV8:=qD fun wr (hb:Below w.heap.size w wr)=>valid8_any p.ex wr (W.out.ex.step hb) (HT.out.step hb)
          go_wp2_with (first
           | ((with_reducible show wpList _ _ _ (⟨_,.load 35 _,_,_,_,_⟩::_) _ _);refine wpList_mid_w rfl 35 _ rfl w.heap.size 13 rfl _ _ RE.out Tryz.underlying35 rfl (by kernel_rfl) ?_)
           | (go_at_call 51;refine(HV8.out _ BE.out).mono ?_;rintro e w1 ⟨er,rfl,hb⟩;replace BE:=qD (BE.out.step' hb);clear hb))
          go_ret
          exact⟨er,rfl,fun _=>ND.out.vpr W.out (fun h=>absurd h (by have e:p.op=24:=(by simpa using h24);omega)),BE.out⟩
      ·go_wp2_with fail
       go_ret
       exact NodeOk.no (by decide) BE.out
    ·go_wp2_with fail
     go_ret
     exact NodeOk.no (by decide) BE.out
  ·go_wp2_with fail
   go_ret
   exact NodeOk.no (by decide) BE.out
theorem pcnt_any(p:PrT):∀(lv lf:Int) (w:World),WP w p→0≤lv→lv≤1000→-1≤lf→lf≤1000→Calls Tryz.prog 15 #[aggPr p,.int .i64 lv,.int .i64 lf] w (CountOk p lf w):=by
 induction p using PrT.ind with
 | h p ih=>
 intro lv lf w hw h1 h2 h3 h4
 have W:=qD hw.open
 have IH:=qD ih
 have hkn:=qD W.out.sr.ln
 have hkz:p.kn≤140737488355328:=by have:=W.out.ksz;unfold reach at this;omega
 clear ih hw
 have B0:Hid (Blk (w.alloc (.cells (arrPr p) 38)) w.heap.size 38 (arrPr p)):=Blk.new_at rfl
 have BE:=qD ((Below.refl w.heap.size w).alloc (qL) (Obj.cells (arrPr p) 38))
 go_enter Tryz.func15,Tryz.ntmps15
 go_upto_region 1 with fail
 change Code.wp _ _ _ _ (w.alloc (.cells (arrPr p) 38))
 generalize w.alloc (.cells (arrPr p) 38)=wa at*
 by_cases hz0:lv=0
 ·subst hz0
  go_wp2_with fail
  go_ret
  exact⟨-1,rfl,by omega,by omega,fun h=>absurd h (by omega),BE.out⟩
 by_cases hz:lf≤0
 ·have g1:(lv==0)=false:=by simpa using hz0
  clear hz0
  go_wp2_with fail
  go_ret
  exact⟨-1,rfl,by omega,by omega,fun h=>absurd h (by omega),BE.out⟩
 ·have g1:(lv==0)=false:=by simp;omega
  have g2:¬lf≤0:=by omega
  have g3:wrap64 (lf-1)=lf-1:=by unfold wrap64;omega
  have g4:wrap64 (lv-1)=lv-1:=by unfold wrap64;omega
  go_upto_region 5 with fail
  (try rw[g3])
  go_loopw [2,7] (fun v2 v7 wr=>∃(i:Nat) (r:Int),i≤p.kn∧v2=.int .i64 r∧v7=.int .i64 i∧CtI p lf w i r wr) (fun _ v7 _=>p.kn-(intOf v7).toNat)
  case atStart=>exact⟨0,lf-1,Nat.zero_le _,rfl,rfl,B0.out,BE.out,by omega,by omega,fun _=>by simp[PrT.nodes.nodesL]⟩
  case round=>
   obtain⟨i,r,hi,rfl,rfl,hI⟩:=hrel
   have HI:=qD hI
   obtain⟨_,_,_,_,_,_,_,d24⟩:=pr_cells hI.b0
   have rlo:=hI.lo
   have rhi:=hI.hi
   clear hI
   by_cases hlt:i<p.kn
   ·by_cases hr:0≤r
    ·obtain⟨b,off,x,hA,hb,hx,hm,hrg⟩:=W.out.sr.row hlt
     have RG:=qD (range_step (hrg) HI.out.bel hb)
     have HX:=qD hx
     have KW:=qD ((W.out.kids x hm).step HI.out.bel)
     have IX:=qD (IH.out x hm)
     rw[hA] at d24
     clear hrg hx hm hA
     go_wp2_with (first
      | ((with_reducible show wpList _ _ _ (⟨_,.load 38 _,_,_,_,_⟩::_) _ _);refine wpList_mid_w rfl 38 _ rfl b (off+i*25) rfl _ _ RG.out Tryz.underlying38 rfl (by kernel_rfl) ?_)
      | (go_at_call 15;(try rw[g4]);refine(IX.out (lv-1) r _ KW.out (by omega) (by omega) rlo rhi).mono ?_;rintro e w1 ⟨r',rfl,hr1,hr2,hr3,hbb⟩;have H3:=qD hr3;have HB:=qD hbb;clear hr3 hbb))
     go_roundw
     case rel=>
      refine⟨i+1,r',by omega,rfl,by go_num,HI.out.b0.step HB.out,HI.out.bel.step' HB.out,hr1,hr2,fun h=>?_⟩
      have e1:=H3.out h
      have e2:=HI.out.eq hr
      have e3:=nodesL_take HX.out
      omega
     case measure=>simp[intOf];omega
    ·go_wp2_with fail
     go_ret
     exact⟨r,rfl,rlo,rhi,fun h=>absurd h (by omega),HI.out.bel⟩
   ·obtain rfl:i=p.kn:=by omega
    go_wp2_with fail
    go_ret
    refine⟨r,rfl,rlo,rhi,fun h=>?_,HI.out.bel⟩
    have e:=HI.out.eq h
    rw[hkn.out,List.take_length] at e
    rw[p.nodes_eq]
    omega
theorem rpred_any(p:PrT)(w:World)(h:WP w p)(hT:Tabs w):Calls Tryz.prog 7 #[aggPr p] w fun e w'=>∃n:Int,e=.returned (.int .i64 n)∧(n=0→VPr p∧p.nodes≤256)∧Below w.heap.size w w':=by
 have HT:=qD hT
 have HW:=qD h
 clear h hT
 have B0:Hid (Blk (w.alloc (.cells (arrPr p) 38)) w.heap.size 38 (arrPr p)):=Blk.new_at rfl
 have BE:=qD ((Below.refl w.heap.size w).alloc (qL) (Obj.cells (arrPr p) 38))
 go_enter Tryz.func7,Tryz.ntmps7
 go_upto_region 1 with fail
 change Code.wp _ _ _ _ (w.alloc (.cells (arrPr p) 38))
 generalize w.alloc (.cells (arrPr p) 38)=wa at*
 have RF:=qD (pr_full B0.out)
 go_upto_if 5 with(first
  | ((with_reducible show wpList _ _ _ (⟨_,.load 38 _,_,_,_,_⟩::_) _ _);refine wpList_mid_w rfl 38 _ rfl w.heap.size 0 rfl _ _ RF.out Tryz.underlying38 rfl (by kernel_rfl) ?_)
  | (go_at_call 15;refine(pcnt_any p 16 256 _ (HW.out.step BE.out) (by omega) (by omega) (by omega) (by omega)).mono ?_;rintro e w1 ⟨r,rfl,hr1,hr2,hr3,hb⟩;replace B0:=qD (B0.out.step hb);replace BE:=qD (BE.out.step' hb);have HR:=qD hr3;replace RF:=qD (pr_full B0.out);clear hb hr3))
 by_cases hneg:r<0
 ·go_wp2_with fail
  go_ret
  exact⟨2,rfl,fun h=>absurd h (by decide),BE.out⟩
 ·have HN:Hid (p.nodes≤256):=by have:=HR.out (by omega);exact qD (by omega)
  go_wp2_with (first
   | ((with_reducible show wpList _ _ _ (⟨_,.load 38 _,_,_,_,_⟩::_) _ _);refine wpList_mid_w rfl 38 _ rfl w.heap.size 0 rfl _ _ RF.out Tryz.underlying38 rfl (by kernel_rfl) ?_)
   | (go_at_call 16;refine(node13_any p false _ (HW.out.step BE.out) (HT.out.step BE.out)).mono ?_;rintro e w1 ⟨n,rfl,hn,hb⟩;replace BE:=qD (BE.out.step' hb);have HV:=qD hn;clear hb hn))
  go_ret
  exact⟨n,rfl,fun h=>⟨HV.out h,HN.out⟩,BE.out⟩
end Go.Proofs.YtfkapannahcjiaaGreatDoor
