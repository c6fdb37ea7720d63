/- Parts of the proof, joined: BoOfD, BoOf, BoFor, ChBaseA, LfClone, LfPure, LfImp. -/
import Derived.Test.YtfkdihlbaghajaaGreatDoorOf1
import Derived.Test.YtfkdihlbaghajaaGreatDoorOf20
import Derived.Test.YtfkdihlbaghajaaGreatDoorOf21
import Derived.Test.YtfkdihlbaghajaaGreatDoorOf18
import Derived.Test.YtfkdihlbaghajaaGreatDoorOf15
import Derived.Test.YtfkdihlbaghajaaGreatDoorOf2
import Derived.Test.YtfkdihlbaghajaaGreatDoorOf5
import Derived.Test.YtfkdihlbaghajaaGreatDoorOf3
import Derived.Great.BuildSlice
import Derived.Laws.OwnMore
set_option maxRecDepth 100000
set_option maxHeartbeats 16000000
set_option linter.unusedSimpArgs false
namespace Go.Proofs.YtfkdihlbaghajaaGreatDoor
open Go.RowKit
theorem load_ivAt{w:World}{g:Nat}{cs:Array Value}(h:Blk w g 93 cs)(hz:cs.size=12):(Instr.loadAt 93 (.pointer (some ⟨g,0,none⟩))).run Tryz.prog w=.ok (.agg cs) w:=by
 simp only[Instr.loadAt,Instr.sureAddr,Sem.run_bind,Sem.run_pure,Result.andThen_ok,load_iv h hz]
theorem of_cmp(p:PrT)(ho:p.op=4∨p.op=5∨p.op=6∨p.op=7)(hv:validV p.arg.2=true)(A:Option Addr)(n c:Nat)(l:List ByteArray)(w:World)(hw:WP w p)(hT:Tabs w)(hl:ST w A n c l)(hp:p.path.xs=l):
 Calls Tryz.prog 14 #[aggPr p,.slice A n c] w (OfOk (leafS p.op p.arg.2 (p.args.xs.map Prod.snd) p.n) p.sz w):=by
 have HE:Hid (∀wr,Below w.heap.size w wr→Calls Tryz.prog 46 #[.slice p.path.A p.path.n p.path.c,.slice A n c] wr fun e w'=>e=.returned (.bool (sameP p.path.xs l))∧Below wr.heap.size wr w'):=qD fun wr hb=>equal_any p.path.xs l p.path.A A p.path.n p.path.c n c wr (hw.open.path.step hb) (hl.step hb)
 rw[sameP_iff.2 hp] at HE
 have HT:=qD hT
 have HSZ:Hid (1≤p.sz):=by rw[Hid,p.sz_eq];omega
 have HX:=qD hw.open.arg
 have HK:Hid (p.arg.1.k=p.arg.2.k):=qD hw.open.arg.open.k
 have HN:Hid (1≤p.arg.1.k∧p.arg.1.k≤11):=by rw[HK.out];exact qD (kind_range hv)
 have HO:=qD ho
 clear hw hT hl hp hv
 have B0:Hid (Blk (w.alloc (.cells (arrPr p) 41)) w.heap.size 41 (arrPr p)):=Blk.new_at rfl
 have BE:=qD ((Below.refl w.heap.size w).alloc (qL) (Obj.cells (arrPr p) 41))
 go_enter Tryz.func14,Tryz.ntmps14
 go_upto_region 1 with fail
 change Code.wp _ _ _ _ (w.alloc (.cells (arrPr p) 41))
 generalize w.alloc (.cells (arrPr p) 41)=wa at*
 obtain⟨d0,d1,_,_,_,_,_,_⟩:=pr_cells B0.out
 obtain⟨op,hop⟩:∃op,op=p.op:=⟨_,rfl⟩
 rw[←hop] at d0 ho
 have HOP:=qD hop
 clear hop
 rcases ho with rfl|rfl|rfl|rfl
 all_goals
  go_wp2_with fail
  refine(HE.out _ BE.out).mono ?_
  rintro e w1 ⟨rfl,hb⟩
  replace BE:=qD (BE.out.step' hb)
  replace B0:=qD (B0.out.step hb)
  clear hb d0 d1 HE
  obtain⟨d0,_,_,_,_,_,_,_⟩:=pr_cells B0.out
  rw[←HOP.out] at d0
  have f2:=(range_parg B0.out) 0 _ rfl
  simp only[Nat.reduceAdd] at f2
  by_cases h6:p.arg.1.k=6
  ·have HL:Hid (leafS p.op p.arg.2 (p.args.xs.map Prod.snd) p.n=(allS,false)):=qD (leafS_none (leafI_cmp6 HO.out (by rw[←HK.out];exact h6)))
   have K6:Hid (Calls Tryz.prog 49 #[.int .i64 p.arg.1.k] w1 fun e w'=>e=.returned (.tuple #[aggI zI,.bool false])∧Below w1.heap.size w1 w'):=by rw[h6];exact qD (kindRange6 w1)
   clear h6
   go_wp2_with fail
   refine K6.out.mono ?_
   rintro e w2 ⟨rfl,hb⟩
   replace BE:=qD (BE.out.step' hb)
   clear hb B0 d0 f2
   go_upto_region 17 with fail
   change Code.wp _ _ _ _ (w2.alloc (.cells (arrI zI) 93))
   replace BE:=qD (BE.out.alloc BE.out.size (Obj.cells (arrI zI) 93))
   generalize w2.alloc (.cells (arrI zI) 93)=w3 at*
   go_wp2_with fail
   refine(allF_any _).mono ?_
   rintro e w4 ⟨A3,m3,c3,ys,nf,rfl,hy,hnf,hmk,hsi,hb3,hfr⟩
   have HNO:=qD (show OfOk (allS,false) 1 w3 (.returned (.tuple #[.slice A3 m3 c3,.bool false])) w4 from⟨A3,m3,c3,ys,nf,rfl,hy,hnf,hmk,hsi,hb3,hfr⟩)
   clear hy hnf hmk hsi hb3 hfr
   go_wp2_with fail
   go_ret2
   rw[HL.out]
   exact HNO.out.up BE.out HSZ.out
  ·have KR:=qD (kindRange_any p.arg.1.k w1 HN.out h6)
   have HQI:Hid (ivP (rngP p.arg.1.k)=rangeI p.arg.2.k):=by rw[Hid,rngP_iv HN.out h6,HK.out]
   have HQO:Hid (∀wq:World,okI wq (rngP p.arg.1.k)):=qD fun wq=>rngP_ok _ wq
   have HL:Hid (leafS p.op p.arg.2 (p.args.xs.map Prod.snd) p.n=((fun a=>inS cmC a (spansL ([limP p.op (rngP p.arg.1.k) p.arg].map ivP))),decide (p.arg.2.k≠2))):=by
    rw[Hid,leafS_some (leafI_cmp HO.out (by rw[←HK.out];exact h6)),List.map_singleton]
    rw[show ivP (limP p.op (rngP p.arg.1.k) p.arg)=limI p.op p.arg.2 from limP_iv (x:=p.arg.2) (c:=p.arg.1) HQI.out]
   clear h6
   obtain⟨b2,hb2⟩:∃b,b=decide (p.arg.2.k≠2):=⟨_,rfl⟩
   rw[←hb2] at HL
   have k2:(p.arg.1.k != 2)=b2:=by rw[hb2,HK.out,Bool.eq_iff_iff];simp
   clear hb2
   go_wp2_with fail
   refine KR.out.mono ?_
   obtain⟨q,hq⟩:∃q,q=rngP p.arg.1.k:=⟨_,rfl⟩
   rw[←hq] at HL HQO
   rintro e w2 ⟨rfl,hb⟩
   rw[←hq]
   clear hq KR HQI
   have HQ:Hid (∀wq:World,Below w.heap.size w wq→okI wq (limP p.op q p.arg)):=qD fun wq hb=>by
    unfold limP
    split
    ·exact⟨HX.out.step hb,(HQO.out wq).2⟩
    ·exact⟨(HQO.out wq).1,HX.out.step hb⟩
   replace BE:=qD (BE.out.step' hb)
   replace B0:=qD (B0.out.step hb)
   clear hb d0 f2
   go_upto_region 17 with fail
   change Code.wp _ _ _ _ (w2.alloc (.cells (arrI q) 93))
   have J:Hid (Blk (w2.alloc (.cells (arrI q) 93)) w2.heap.size 93 (arrI q)):=Blk.new_at rfl
   replace BE:=qD (BE.out.alloc BE.out.size (Obj.cells (arrI q) 93))
   replace B0:=qD (B0.out.alloc (.cells (arrI q) 93))
   generalize w2.alloc (.cells (arrI q) 93)=w3 at*
   generalize w2.heap.size=gj at*
   have f2:=(range_parg B0.out) 0 _ rfl
   simp only[Nat.reduceAdd] at f2
   go_upto_region 18 with fail
   have B:=qD ((Below.refl w3.heap.size w3).drew)
   have KS:Hid (∀w',Below w3.heap.size w3 w'→(fun w'=>(Instr.loadAt 93 (.pointer (some ⟨gj,0,none⟩))).run Tryz.prog w'=.ok (aggI q) w'∧(Instr.loadAt 41 (.pointer (some ⟨w.heap.size,0,none⟩))).run Tryz.prog w'=.ok (aggPr p) w'∧w'.cell? ⟨w.heap.size,2,none⟩=some (.int .i64 p.arg.1.k)) w'):=qD fun w' hb=>⟨load_ivAt (J.out.step hb) rfl,load_pred (arrPr p) rfl _ _ (B0.out.step hb),(hb.cell (p:=⟨w.heap.size,2,none⟩) B0.out.lt).trans f2⟩
   clear f2
   refine wp_region_noPanic ?_
   refine wp_region_held_drew (S:=(fun w'=>(Instr.loadAt 93 (.pointer (some ⟨gj,0,none⟩))).run Tryz.prog w'=.ok (aggI q) w'∧(Instr.loadAt 41 (.pointer (some ⟨w.heap.size,0,none⟩))).run Tryz.prog w'=.ok (aggPr p) w'∧w'.cell? ⟨w.heap.size,2,none⟩=some (.int .i64 p.arg.1.k))) (by kernel_rfl) ?_ (fun hHeld=>?_)
   ·(try dsimp only);exact KS.out _ B.out
   refine rT (v:=aggI q) 0 rfl ?_ ?_
   (skip)
   ·intro w' hSw;exact exec_load (p:=.pointer (some ⟨gj,0,none⟩)) rfl rfl hSw.1
   try go_frame
   refine rT (v:=aggPr p) 1 rfl ?_ ?_
   (skip)
   ·intro w' hSw;exact exec_load (p:=.pointer (some ⟨w.heap.size,0,none⟩)) rfl rfl hSw.2.1
   try go_frame
   refine rT (v:=?_) 5 rfl ?_ ?_
   rotate_left
   ·intro w' hSw;(try dsimp only at hSw);obtain⟨_,_,hSw2⟩:=hSw;go_simp;(try with_reducible rfl)
   try go_frame
   refine rT (v:=?_) 6 rfl ?_ ?_
   rotate_left
   ·intro w' hSw;(try dsimp only at hSw);obtain⟨_,_,hSw2⟩:=hSw;go_simp;(try with_reducible rfl)
   try go_frame
   refine rT (v:=?_) 7 rfl ?_ ?_
   rotate_left
   ·intro w' hSw;(try dsimp only at hSw);obtain⟨_,_,hSw2⟩:=hSw;go_simp;(try with_reducible rfl)
   try go_frame
   refine rT (v:=?_) 8 rfl ?_ ?_
   rotate_left
   ·intro w' hSw;(try dsimp only at hSw);obtain⟨_,_,hSw2⟩:=hSw;go_simp;(try with_reducible rfl)
   try go_frame
   refine rY 2 rfl fun K hK=>?_
   go_simp
   refine((limited_any q p _ HO.out)).mono ?_
   rintro e4 w4 ⟨rfl,hb⟩
   replace B:=qD (B.out.step' hb)
   clear hb
   (try go_wp2_with fail)
   clear hHeld
   refine hK.out _ _ ?_ fun hHeld=>?_
   ·(try dsimp only);exact KS.out _ B.out
   clear hK K
   try go_frame
   refine rY 3 rfl fun K hK=>?_
   go_simp
   clear hHeld
   refine hK.out _ _ ?_ fun hHeld=>?_
   ·(try dsimp only);exact KS.out _ (B.out.alloc B.out.size _)
   clear hK K
   try go_frame
   refine rY 4 rfl fun K hK=>?_
   go_simp
   refine(normalF_any [limP p.op q p.arg] _ 1 1 _ (HT.out.step (BE.out.step' (B.out.alloc B.out.size _))) (si_one (Blk.new_at rfl) (HQ.out _ (BE.out.step' (B.out.alloc B.out.size _)))) (by omega)).mono ?_
   rintro e3 w5 ⟨A3,m3,c3,ys,nf,rfl,hy,hnf,hmk,hsi,hb3,hfr⟩
   have HNO:=qD (show OfOk ((fun a=>inS cmC a (spansL ([limP p.op q p.arg].map ivP))),b2) 1 _ (.returned (.tuple #[.slice A3 m3 c3,.bool b2])) w5 from⟨A3,m3,c3,ys,nf,rfl,hy,hnf,hmk,hsi,hb3,hfr⟩)
   replace HNO:=qD (HNO.out.up (B.out.alloc B.out.size _) (qL))
   replace B:=qD ((B.out.alloc B.out.size _).step' hb3)
   clear hy hnf hmk hsi hb3 hfr
   (try go_wp2_with fail)
   clear hHeld
   refine hK.out _ _ ?_ fun hHeld=>?_
   ·(try dsimp only);exact KS.out _ B.out
   clear hK K
   try go_frame
   refine rT (v:=?_) 9 rfl ?_ ?_
   rotate_left
   ·intro w' hSw;(try dsimp only at hSw);obtain⟨_,_,hSw2⟩:=hSw;go_simp;(try with_reducible rfl)
   try go_frame
   refine rT (v:=?_) 10 rfl ?_ ?_
   rotate_left
   ·intro w' hSw;(try dsimp only at hSw);obtain⟨_,_,hSw2⟩:=hSw;go_simp;(try with_reducible rfl)
   try go_frame
   refine rD ?_ _
   refine NoPanic.normal ?_
   clear hHeld
   go_wp2_with fail
   go_ret2
   rw[HL.out]
   exact HNO.out.up BE.out HSZ.out
theorem of_any:∀p,OfAt p:=by
 refine PrT.ind fun p ih=>?_
 by_cases h20:p.op=20
 ·exact of_and p ih h20
 by_cases h21:p.op=21
 ·exact of_or p ih h21
 intro A n c l w hw hv hT hl hz
 by_cases hp:p.path.xs=l
 ·rw[ofS_leaf h20 h21 hp]
  by_cases h2:p.op=2
  ·rw[h2]
   exact of_eqv p h2 A n c l w hw hT hl hp
  by_cases ho:p.op=4∨p.op=5∨p.op=6∨p.op=7
  ·exact of_cmp p ho (hv.open.arg (by omega)) A n c l w hw hT hl hp
  by_cases h8:p.op=8
  ·rw[h8]
   exact of_in p h8 A n c l w hw hl hp _ fun wr hb=>(ofIn_any p wr (hw.step hb) (hT.step hb)).mono fun e w' h=>h.up (Below.refl _ _) (by rw[p.sz_eq];omega)
  by_cases h16:p.op=16
  ·rw[h16]
   exact of_pre p h16 A n c l w hw hl hp _ fun wr hb=>(ofPrefix_any p wr (hw.step hb) (hT.step hb)).mono fun e w' h=>h.up (Below.refl _ _) (by rw[p.sz_eq];omega)
  by_cases h11:p.op=11
  ·rw[h11]
   exact of_kind p h11 (hv.open.kind h11) A n c l w hw hT hl hp
  rw[leafS_none (leafI_other (by omega))]
  exact of_other p (by omega) A n c l w hw hl hp
 ·rw[ofS_else h20 h21 hp]
  exact of_else p h20 h21 A n c l w hw hl hp
def PrT.zero:PrT:=.mk 0 .nil (VC.zero,Val.zero) .nil 0 0 0 .nil 0 ExT.zero none 0 0 []
theorem info_predF:(Tryz.prog.info? 41).map (fun i=>(i.zero,i.size,i.bytes))=some (some (aggPr PrT.zero),25,400):=by kernel_rfl
theorem info_ivs:(Tryz.prog.info? 51).map (fun i=>(i.zero,i.size,i.bytes))=some (some (.slice none 0 0),1,24):=by kernel_rfl
theorem fill_pred(p:PrT):Instr.fill (fun i=>some (i*25,25)) ((Array.range (1*25)).map ((aggPr PrT.zero).cells[·%(aggPr PrT.zero).cells.size]!)) [(0,aggPr p)]=some (arrPr p):=by
 obtain⟨op,⟨pA,pn,pc,px⟩,⟨⟨c1,c2,c3,c4,c5,c6,c7,c8,c9⟩,av⟩,⟨aA,an,ac,ax⟩,n,m,sk,⟨sA,sn,sc,sx⟩,sr,⟨eo,⟨d1,d2,d3,d4⟩,en,⟨e1,e2,e3,e4⟩,⟨⟨f1,f2,f3,f4,f5,f6,f7,f8,f9⟩,ev⟩,ex,kA,kn,kc,ks⟩,lA,ln,lc,ls⟩:=p
 kernel_rfl
theorem build_pred{a:Act}{t:Tmp}{p:PrT}(ht:a.eval (.tmp t)=aggPr p):
 Instr.fill (fun i=>some (i*25,25)) ((Array.range (1*25)).map ((aggPr PrT.zero).cells[·%(aggPr PrT.zero).cells.size]!)) ((#[(0,Operand.tmp t)]:Array (Nat×Operand)).map fun(i,x)=>(i,a.eval x)).toList=some (arrPr p):=by
 have h:((#[(0,Operand.tmp t)]:Array (Nat×Operand)).map fun(i,x)=>(i,a.eval x)).toList=[(0,aggPr p)]:=by simp[ht]
 rw[h]
 exact fill_pred p
theorem sr_pred{w:World}{g:Nat}{p:PrT}(h:Blk w g 41 (arrPr p)):SR 25 recPr w (some ⟨g,0,none⟩) 1 1 [p]:=by
 refine⟨rfl,qL,fun _=>⟨g,0,rfl,h.lt,fun i x hi j v hj=>?_⟩⟩
 cases i with
 | zero=>
  simp at hi
  subst hi
  rw[Nat.zero_mul]
  exact pr_full h j v hj
 | succ i=>simp at hi
def PartsR(p:PrT)(w:World)(e:Ending)(w':World):Prop:=
 ∃(A:Option Addr) (n c:Nat),e=.returned (.slice A n c)∧SR 25 recPr w' A n c (partsP p)∧n*400≤reach∧Below w.heap.size w w'
theorem parts_any(p:PrT)(w:World)(hw:WP w p):Calls Tryz.prog 62 #[aggPr p] w (PartsR p w):=by
 have W:=qD hw.open
 have B0:Hid (Blk (w.alloc (.cells (arrPr p) 41)) w.heap.size 41 (arrPr p)):=Blk.new_at rfl
 have BE:=qD ((Below.refl w.heap.size w).alloc (qL) (Obj.cells (arrPr p) 41))
 clear hw
 go_enter Tryz.func62,Tryz.ntmps62
 go_upto_region 1 with fail
 change Code.wp _ _ _ _ (w.alloc (.cells (arrPr p) 41))
 generalize w.alloc (.cells (arrPr p) 41)=wa at*
 obtain⟨d0,_,_,_,_,_,_,d24⟩:=pr_cells B0.out
 by_cases h20:p.op=20
 ·have hb:(p.op==20)=true:=by simp[h20]
  have HE:Hid (partsP p=p.kids):=by unfold Hid partsP;rw[if_pos h20]
  clear h20
  go_wp2_with fail
  go_ret
  exact⟨p.kA,p.kn,p.kc,rfl,by rw[HE.out];exact W.out.sr.step BE.out,W.out.ksz,BE.out⟩
 ·have hb:(p.op==20)=false:=by simp[h20]
  have HE:Hid (partsP p=[p]):=by unfold Hid partsP;rw[if_neg h20]
  have RF:=qD (pr_full B0.out)
  obtain⟨j0,hj0,hw0,hw1,hw2⟩:=info_parts info_predF
  clear h20 d24
  go_wp2_with (first
   | ((with_reducible show wpList _ _ _ (⟨_,.load 41 _,_,_,_,_⟩::_) _ _);refine wpList_mid_w rfl 41 _ rfl w.heap.size 0 rfl _ _ RF.out Tryz.underlying41 rfl (by kernel_rfl) ?_)
   | ((with_reducible show wpList _ _ _ (⟨_,.buildSlice _ _ _,_,_,_,_⟩::_) _ _);refine wpList_buildSlice rfl 39 41 1 _ rfl (arrPr p) j0 _ Tryz.underlying39 hj0 hw0 (by rw[hw1];decide) (by rw[hw1];decide) (by rw[hw1];exact build_pred rfl) ?_))
  go_ret
  exact⟨_,1,1,rfl,by rw[HE.out];exact sr_pred (Blk.new_at rfl),by decide,BE.out.alloc BE.out.size _⟩
abbrev IL.v(h:IL):Value:=.slice h.A h.n h.c
structure LB(w:World)(g:Nat)(ls:List IL):Prop where
 b:Blk w g 51 (ls.map IL.v).toArray
 el:∀h∈ls,SI w h.A h.n h.c h.ys
theorem LB.step{w w':World}{g:Nat}{ls:List IL}(h:LB w g ls)(hb:Below w.heap.size w w'):LB w' g ls:=⟨h.b.step hb,fun x hx=>(h.el x hx).step hb⟩
theorem LB.all{w:World}{g:Nat}{ls:List IL}(h:LB w g ls):AllSl w g:=fun off v hv=>by
 rw[h.b.cell,List.getElem?_toArray,List.getElem?_map] at hv
 obtain⟨x,_,rfl⟩:=Option.map_eq_some_iff.1 hv
 exact⟨_,_,_,rfl⟩
theorem size_setCell1{w:World}{a:Addr}{u:Value}:(w.setCell a u).heap.size=w.heap.size:=by unfold World.setCell;simp
theorem SI.set{w:World}{g:Nat}{ls:List IL}(h:LB w g ls)(h0:0<g){A:Option Addr}{n c:Nat}{ys:List PI}(hs:SI w A n c ys)(i:Nat)(u:Value):SI (w.setCell ⟨g,i,none⟩ u) A n c ys:=
 hs.far h0 h.all (fun b hb _=>Below.heap_setCell w ⟨g,i,none⟩ u b hb) (by rw[size_setCell1];exact qL)
theorem LB.set{w:World}{g:Nat}{ls:List IL}(h:LB w g ls)(h0:0<g){x:IL}(hs:SI w x.A x.n x.c x.ys)(i:Nat):LB (w.setCell ⟨g,i,none⟩ (.slice x.A x.n x.c)) g (ls.set i x):=by
 refine⟨?_,fun y hy=>?_⟩
 ·have:=h.b.set_ i (.slice x.A x.n x.c)
  rw[List.setIfInBounds_toArray] at this
  rw[List.map_set]
  exact this
 ·rcases List.mem_or_eq_of_mem_set hy with hy|rfl
  ·exact SI.set h h0 (h.el y hy) i _
  ·exact SI.set h h0 hs i _
theorem LB.at{w:World}{g:Nat}{ls:List IL}(h:LB w g ls){i:Nat}{x:IL}(hx:ls[i]?=some x):w.cell? ⟨g,i,none⟩=some (.slice x.A x.n x.c):=by
 rw[h.b.cell,List.getElem?_toArray,List.getElem?_map,hx]
 rfl
theorem LB.bl{w:World}{g n:Nat}{ls:List IL}(h:LB w g ls)(hn:n=ls.length)(hz:n*24≤reach):BL w (some ⟨g,0,none⟩) n n ls:=
 ⟨⟨hn,qL,fun _=>⟨g,0,rfl,h.b.lt,fun i x hi j v hj=>by
  match j,hj with
  | 0,hj=>
   simp[recIL] at hj
   subst hj
   rw[Nat.zero_add,Nat.mul_one,Nat.add_zero]
   exact h.at hi
    | j+1,hj=>simp[recIL] at hj⟩⟩,hz,h.el⟩
theorem SR.farP{w w1:World}{g:Nat}(hg:AllSl w g)(hk:∀b,b≠g→b<w.heap.size→w1.heap[b]?=w.heap[b]?)(hs:w.heap.size≤w1.heap.size){A:Option Addr}{n c:Nat}{ks:List PrT}(h:SR 25 recPr w A n c ks):SR 25 recPr w1 A n c ks:=by
 refine⟨h.ln,h.lc,fun hn=>?_⟩
 obtain⟨b,off,e,hl,hc⟩:=h.el hn
 have hb:b≠g:=by
  rintro rfl
  obtain⟨p,hp⟩:∃p,ks[0]?=some p:=⟨_,List.getElem?_eq_getElem (by have:=h.ln;omega)⟩
  obtain⟨A,n,k,e⟩:=hg _ _ (hc 0 p hp 0 _ rfl)
  cases e
 exact⟨b,off,e,by omega,fun i p hi j v hj=>by rw[World.cell?_of_block (hk b hb hl)];exact hc i p hi j v hj⟩
theorem made_sl(n:Nat):madeCells #[.slice none 0 0] n=((List.replicate n IL.nil).map IL.v).toArray:=by
 refine Array.ext_getElem? fun i=>?_
 by_cases h:i<n
 ·simp[madeCells,h,Nat.mod_one,IL.nil,List.getElem?_replicate]
 ·simp[madeCells,h,List.getElem?_replicate]
structure FI(w:World)(x:IxT)(p:PrT)(ls:List IL)(wr:World):Prop where
 b3:Blk wr w.heap.size 57 (arrIx x)
 b5:Blk wr (w.heap.size+1) 41 (arrPr p)
 lb:LB wr (w.heap.size+2) ls
 ln:ls.length=x.kn
 bel:Below w.heap.size w wr
theorem FI.step{w wr w':World}{x:IxT}{p:PrT}{ls:List IL}(h:FI w x p ls wr)(hb:Below wr.heap.size wr w'):FI w x p ls w':=⟨h.b3.step hb,h.b5.step hb,h.lb.step hb,h.ln,h.bel.step' hb⟩
theorem FI.set{w wr:World}{x:IxT}{p:PrT}{ls:List IL}(h:FI w x p ls wr){q:IL}(hs:SI wr q.A q.n q.c q.ys)(i:Nat):FI w x p (ls.set i q) (wr.setCell ⟨w.heap.size+2,i,none⟩ (.slice q.A q.n q.c)):=
 ⟨h.b3.far (by simp) _,h.b5.far (by simp) _,h.lb.set (by omega) hs i,by rw[List.length_set];exact h.ln,h.bel.setCell (by simp) _⟩
theorem FI.setP{w wr:World}{x:IxT}{p:PrT}{ls:List IL}(h:FI w x p ls wr){A:Option Addr}{n c:Nat}{ks:List PrT}(hs:SR 25 recPr wr A n c ks)(i:Nat)(u:Value):SR 25 recPr (wr.setCell ⟨w.heap.size+2,i,none⟩ u) A n c ks:=
 hs.farP h.lb.all (fun b hb _=>Below.heap_setCell wr ⟨w.heap.size+2,i,none⟩ u b hb) (by rw[size_setCell1];exact qL)
theorem set_at{α:Type}{l:List α}{i j:Nat}{x y:α}(hl:i<l.length)(h:(l.set i x)[j]?=some y):(j=i∧y=x)∨(j≠i∧l[j]?=some y):=by
 rw[List.getElem?_set] at h
 by_cases e:i=j
 ·rw[if_pos e,if_pos hl] at h
  exact .inl ⟨e.symm,(Option.some.inj h).symm⟩
 ·rw[if_neg e] at h
  exact .inr ⟨fun k=>e k.symm,h⟩
theorem any_snoc{α:Type}{l:List α}{i:Nat}{q:α}(f:α→Bool)(h:l[i]?=some q):(l.take (i+1)).any f=((l.take i).any f||f q):=by
 rw[List.take_add_one,h,List.any_append]
 simp
theorem all_snoc{α:Type}{l:List α}{i:Nat}{q:α}(f:α→Bool)(h:l[i]?=some q):(l.take (i+1)).all f=((l.take i).all f&&f q):=by
 rw[List.take_add_one,h,List.all_append]
 simp
theorem parts_vpr{p k:PrT}(h:VPr p)(hk:k∈partsP p):VPr k:=by
 unfold partsP at hk
 split at hk
 ·rename_i h20
  exact h.open.kids (.inl h20) k hk
 ·simp at hk;subst hk;exact h
theorem parts_wp{w:World}{p k:PrT}(h:WP w p)(hk:k∈partsP p):WP w k:=by
 unfold partsP at hk
 split at hk
 ·exact h.open.kids k hk
 ·simp at hk;subst hk;exact h
theorem for_any(x:IxT)(mu:Bool)(p:PrT)(w:World)(hT:Tabs w)(hx:WIx w x)(hw:WP w p)(hv:VPr p)(hz:p.sz≤100000000):
 Calls Tryz.prog 18 #[aggIx x,.bool mu,aggPr p] w (ForOk (forR x.kind mu x.ks p) (p.sz+1) w):=by
 obtain⟨j0,hj0,hz0,hz1,hz2⟩:=info_parts info_ivs
 have HT:=qD hT
 have HK:=qD hx.ks
 have HN:=qD hx.ks.ln
 have HWP:=qD hw
 have HZ:=qD hz
 have hkz:x.kn≤4398046511104:=by obtain⟨os,h⟩:=hx.ks;have:=h.sz;unfold reach at this;omega
 have HO:Hid (∀k,(k=p∨k∈partsP p)→∀(A:Option Addr) (n c:Nat) (l:List ByteArray) (wr:World),Below w.heap.size w wr→ST wr A n c l→Calls Tryz.prog 14 #[aggPr k,.slice A n c] wr (OfOk (ofS l k) k.sz wr)):=qD fun k hk A n c l wr hb hl=>by
  have h1:WP w k∧VPr k∧k.sz≤p.sz:=by
   rcases hk with rfl|hk
   ·exact⟨hw,hv,qL⟩
   ·exact⟨parts_wp hw hk,parts_vpr hv hk,Nat.le_trans (szL_ge hk) partsP_sz⟩
  exact of_any k A n c l wr (h1.1.step hb) h1.2.1 (HT.out.step hb) hl (by have:=h1.2.2;omega)
 have hmk:=run_make_rowN (P:=Tryz.prog) 59 51 j0 (.slice none 0 0) Tryz.underlying59 hj0 hz0 x.kn (by rw[hz2];omega) (by omega)
 rw[hz1,Nat.mul_one] at hmk
 have I0:Hid (FI w x p (List.replicate x.kn IL.nil) (((w.alloc (.cells (arrIx x) 57)).alloc (.cells (arrPr p) 41)).alloc (.cells (madeCells #[.slice none 0 0] x.kn) 51))):=by
  rw[made_sl]
  exact qD ⟨((Blk.new_at rfl).alloc _).alloc _,(Blk.new_at (by simp)).alloc _,⟨Blk.new_at (by simp),fun h hh=>by obtain⟨_,rfl⟩:=List.mem_replicate.1 hh;exact⟨SR.nil,Nat.zero_le _,fun x hx=>by cases hx⟩⟩,by simp,(((Below.refl _ _).alloc (qL) _).alloc (by simp) _).alloc (by simp;omega) _⟩
 have HIX:=qD (ix_cells (I0.out.b3.step (Below.refl _ _)))
 clear hT hx hw hv hz HIX
 have B0:Hid (Blk ((w.alloc (.cells (arrIx x) 57)).alloc (.cells (arrPr p) 41)) w.heap.size 57 (arrIx x)):=(Blk.new_at rfl).alloc _
 go_enter Tryz.func18,Tryz.ntmps18
 go_upto_region 1 with fail
 obtain⟨_,_,d2,_,_,_⟩:=ix_cells B0.out
 go_upto_region 2 with fail
 change Code.wp _ _ _ _ (((w.alloc (.cells (arrIx x) 57)).alloc (.cells (arrPr p) 41)).alloc (.cells (madeCells #[.slice none 0 0] x.kn) 51))
 clear d2 B0 hmk
 generalize ((w.alloc (.cells (arrIx x) 57)).alloc (.cells (arrPr p) 41)).alloc (.cells (madeCells #[.slice none 0 0] x.kn) 51)=wa at*
 go_upto_region 3 with fail
 go_loopw [9,28] (fun _ v wr=>∃(i:Nat) (ls:List IL),i≤x.kn∧v=.int .i64 i∧FI w x p ls wr∧∀j h,j<i→ls[j]?=some h→NfL allS 1 h) (fun _ v _=>x.kn-(intOf v).toNat)
 case atStart=>exact⟨0,_,Nat.zero_le _,rfl,I0.out,fun j h hj=>absurd hj (Nat.not_lt_zero _)⟩
 case round=>
  clear I0
  obtain⟨i,ls,hi,rfl,hI,hal⟩:=hrel
  have I:=qD hI
  have HAL:=qD hal
  clear hI hal
  by_cases hlt:i<x.kn
  ·obtain⟨h9,hh9⟩:∃h,ls[i]?=some h:=⟨_,List.getElem?_eq_getElem (by have:=I.out.ln;omega)⟩
   have i0:(0:Int)≤(i:Int):=by omega
   have i1:(i:Int)<(x.kn:Int):=by omega
   go_wp2_with fail
   refine(allF_any wr).mono ?_
   rintro e w3 ⟨A9,m9,c9,zs,nf9,rfl,hy,hnf,hmk,hsi,hb3,hfr⟩
   have J:=qD (I.out.step hb3)
   have e9:=J.out.lb.at hh9
   have gz:=J.out.lb.b.frozen i
   have HN9:Hid (NfL allS 1 ⟨A9,m9,c9,zs⟩):=qD ⟨⟨nf9,hy,hnf⟩,by have:=hsi.sr.ln;show zs.length≤1;omega⟩
   have K:=qD (J.out.set (q:=⟨A9,m9,c9,zs⟩) hsi i)
   have HLL:=qD J.out.ln
   clear hy hnf hmk hsi hb3 hfr hh9
   go_wp2_with fail
   go_roundw
   case rel=>exact⟨i+1,_,hlt,by go_num,K.out,fun j h hj hh=>by
    rcases set_at (by have:=HLL.out;omega) hh with⟨_,rfl⟩|⟨hne,hh⟩
    ·exact HN9.out
    ·exact HAL.out j h (by omega) hh⟩
   case measure=>simp[intOf];omega
  ·obtain rfl:i=x.kn:=by omega
   have d1:=(ix_cells I.out.b3).d1
   have HBL:Hid (∀(ls:List IL) (wq:World),FI w x p ls wq→BL wq (some ⟨w.heap.size+2,0,none⟩) x.kn x.kn ls):=qD fun ls wq h=>h.lb.bl h.ln.symm (by unfold reach;omega)
   clear hlt
   by_cases hkd:x.kind=1
   rotate_left
   ·have hb:(x.kind != 1)=true:=by simpa using hkd
    have HR:=qD (forR_other hkd mu x.ks p)
    clear hkd
    go_wp2_with fail
    go_ret2
    rw[HR.out]
    refine⟨_,_,_,ls,rfl,HBL.out _ _ I.out,?_,I.out.bel⟩
    refine⟨by rw[List.length_map,I.out.ln,HN.out],fun j S h hS hh=>?_⟩
    rw[List.getElem?_map] at hS
    obtain⟨o,ho,rfl⟩:=Option.map_eq_some_iff.1 hS
    have h1:=HAL.out j h (by have:=(List.getElem?_eq_some_iff.1 hh).1;have:=I.out.ln;omega) hh
    exact⟨h1.nf,by have:=h1.le;omega⟩
   have hb:(x.kind != 1)=false:=by simp[hkd]
   have HKD:=qD hkd
   clear hkd
   cases mu
   rotate_left
   ·have d2:=(ix_cells I.out.b3).d2
    have HR:Hid (forR x.kind true x.ks p=(x.ks.map fun o=>(ofS o.p p).1,(x.ks.any fun o=>(ofS o.p p).2)&&decide ((partsP p).length=1))):=by rw[Hid,HKD.out];exact forR_multi x.ks p
    go_upto_region 12 with fail
    go_loopw [10,11,12,13,44] (fun v10 _ _ _ v wr=>∃(i:Nat) (b:Bool) (ls:List IL),i≤x.kn∧v=.int .i64 i∧v10=.bool b∧FI w x p ls wr∧(∀(j:Nat) (o:Od) (h:IL),j<i→x.ks[j]?=some o→ls[j]?=some h→NfL (ofS o.p p).1 (p.sz+1) h)∧b=(x.ks.take i).any fun o=>(ofS o.p p).2) (fun _ _ _ _ v _=>x.kn-(intOf v).toNat)
    case atStart=>exact⟨0,false,ls,Nat.zero_le _,rfl,rfl,I.out,fun j o h hj=>absurd hj (Nat.not_lt_zero _),rfl⟩
    case round=>
     clear I HAL d1 d2 hi
     obtain⟨i,b,ls,hi,rfl,rfl,hI,hal,hbe⟩:=hrel
     have I:=qD hI
     have HAL:=qD hal
     have HBE:=qD hbe
     clear hI hal hbe
     by_cases hlt:i<x.kn
     ·obtain⟨os,hos⟩:=HK.out
      obtain⟨kb,off,o,hA,hkb,ho,e0,e1⟩:=hos.sr.at2 hlt
      obtain⟨q,hq⟩:∃q,x.ks[i]?=some q:=⟨_,List.getElem?_eq_getElem (by have:=HN.out;omega)⟩
      have HST:=qD (hos.el i o q ho hq).st
      have HQ:=qD hq
      obtain⟨h9,hh9⟩:∃h,ls[i]?=some h:=⟨_,List.getElem?_eq_getElem (by have:=I.out.ln;omega)⟩
      have ew:=(I.out.bel.cell (p:=⟨kb,off+i*2,none⟩) hkb).trans e0
      have ew1:=(I.out.bel.cell (p:=⟨kb,off+i*2+1,none⟩) hkb).trans e1
      have i0:(0:Int)≤(i:Int):=by omega
      have i1:(i:Int)<(x.kn:Int):=by omega
      rw[hA]
      clear hos ho hq e0 e1 hA
      go_upto_region 15 with fail
      change Code.wp _ _ _ _ (wr.alloc (.cells #[.slice o.A o.n o.c,.bool o.d] 73))
      have JB:Hid (Blk (wr.alloc (.cells #[.slice o.A o.n o.c,.bool o.d] 73)) wr.heap.size 73 #[.slice o.A o.n o.c,.bool o.d]):=Blk.new_at rfl
      have J:=qD (I.out.step ((Below.refl wr.heap.size wr).alloc (qL) (Obj.cells #[.slice o.A o.n o.c,.bool o.d] 73)))
      generalize wr.alloc (.cells #[.slice o.A o.n o.c,.bool o.d] 73)=wb at*
      generalize wr.heap.size=ga at*
      clear ew ew1 I
      have o0:=JB.out.cell 0
      simp at o0
      have RF:=qD (pr_full J.out.b5)
      obtain⟨z,hz⟩:∃z,z=(ofS q.p p).2:=⟨_,rfl⟩
      have HZZ:=qD hz
      clear hz
      have hbz:(b||z)=((x.ks.take (i+1)).any fun o=>(ofS o.p p).2):=by rw[any_snoc _ HQ.out,←HBE.out,←HZZ.out]
      have HBZ:=qD hbz
      have HOF:=qD (HO.out p (.inl rfl) o.A o.n o.c q.p wb J.out.bel (HST.out.step J.out.bel))
      clear hbz HBE
      go_wp2_with ((with_reducible show wpList _ _ _ (⟨_,.load 41 _,_,_,_,_⟩::_) _ _);refine wpList_mid_w rfl 41 _ rfl (w.heap.size+1) 0 rfl _ _ RF.out Tryz.underlying41 rfl (by kernel_rfl) ?_)
      refine HOF.out.mono ?_
      rintro e w5 ⟨A3,m3,c3,ys,nf,rfl,hy,hnf,hmk,hsi,hb3,hfr⟩
      rw[←HZZ.out]
      have K:=qD (J.out.step hb3)
      have e9:=K.out.lb.at hh9
      have gz:=K.out.lb.b.frozen i
      have HN9:Hid (NfL (ofS q.p p).1 (p.sz+1) ⟨A3,m3,c3,ys⟩):=qD ⟨⟨nf,hy,hnf⟩,by have:=hsi.sr.ln;show ys.length≤_;omega⟩
      have L:=qD (K.out.set (q:=⟨A3,m3,c3,ys⟩) hsi i)
      have HLL:=qD K.out.ln
      have HG:Hid (∀(j:Nat) (o:Od) (h:IL),j<i+1→x.ks[j]?=some o→(ls.set i ⟨A3,m3,c3,ys⟩)[j]?=some h→NfL (ofS o.p p).1 (p.sz+1) h):=qD fun j o h hj ho hh=>by
       rcases set_at (by have:=HLL.out;omega) hh with⟨rfl,rfl⟩|⟨hne,hh⟩
       ·have:=HQ.out;rw[ho] at this;cases this;exact HN9.out
       ·exact HAL.out j o h (by omega) ho hh
      clear hy hnf hmk hsi hb3 hfr hh9 RF HOF o0 J JB HAL HN9 HZZ HST
      cases b
      ·go_wp2_with fail
       go_roundw
       case rel=>exact⟨i+1,z,_,hlt,by go_num,rfl,L.out,HG.out,HBZ.out⟩
       case measure=>simp[intOf];omega
      ·go_wp2_with fail
       go_roundw
       case rel=>exact⟨i+1,true,_,hlt,by go_num,rfl,L.out,HG.out,HBZ.out⟩
       case measure=>simp[intOf];omega
     ·obtain rfl:i=x.kn:=by omega
      have hbe:=HBE.out
      rw[List.take_of_length_le (by have:=HN.out;omega)] at hbe
      have HB9:=qD hbe
      have HNF:Hid (Nfs (x.ks.map fun o=>(ofS o.p p).1) (p.sz+1) ls):=qD ⟨by rw[List.length_map,I.out.ln,HN.out],fun j S h hS hh=>by
       rw[List.getElem?_map] at hS
       obtain⟨o,ho,rfl⟩:=Option.map_eq_some_iff.1 hS
       exact HAL.out j o h (by have:=(List.getElem?_eq_some_iff.1 hh).1;have:=I.out.ln;omega) ho hh⟩
      clear hbe hlt HBE HAL
      cases b
      ·go_wp2_with fail
       go_ret2
       rw[HR.out]
       refine⟨_,_,_,ls,?_,HBL.out _ _ I.out,HNF.out,I.out.bel⟩
       rw[←HB9.out]
       rfl
      ·have RF:=qD (pr_full I.out.b5)
       have HPA:=qD (parts_any p wr (HWP.out.step I.out.bel))
       by_cases h1:(partsP p).length=1
       ·have HE:Hid (decide ((partsP p).length=1)=true):=qD (decide_eq_true h1)
        go_wp2_with ((with_reducible show wpList _ _ _ (⟨_,.load 41 _,_,_,_,_⟩::_) _ _);refine wpList_mid_w rfl 41 _ rfl (w.heap.size+1) 0 rfl _ _ RF.out Tryz.underlying41 rfl (by kernel_rfl) ?_)
        refine HPA.out.mono ?_
        rintro e w5 ⟨A3,n3,c3,rfl,hsr,hz3,hb3⟩
        obtain rfl:n3=1:=by rw[hsr.ln];exact h1
        have K:=qD (I.out.step hb3)
        clear hsr hz3 hb3 RF HPA h1
        go_wp2_with fail
        go_ret2
        rw[HR.out]
        refine⟨_,_,_,ls,?_,HBL.out _ _ K.out,HNF.out,K.out.bel⟩
        rw[←HB9.out,HE.out]
        rfl
       ·have HE:Hid (decide ((partsP p).length=1)=false):=qD (decide_eq_false h1)
        go_wp2_with ((with_reducible show wpList _ _ _ (⟨_,.load 41 _,_,_,_,_⟩::_) _ _);refine wpList_mid_w rfl 41 _ rfl (w.heap.size+1) 0 rfl _ _ RF.out Tryz.underlying41 rfl (by kernel_rfl) ?_)
        refine HPA.out.mono ?_
        rintro e w5 ⟨A3,n3,c3,rfl,hsr,hz3,hb3⟩
        have hne:((n3:Int)==1)=false:=by have:=hsr.ln;simp;omega
        have K:=qD (I.out.step hb3)
        clear hsr hz3 hb3 RF HPA h1
        go_wp2_with fail
        go_ret2
        rw[HR.out]
        refine⟨_,_,_,ls,?_,HBL.out _ _ K.out,HNF.out,K.out.bel⟩
        rw[←HB9.out,HE.out]
        rfl
   ·have HR:Hid (forR x.kind false x.ks p=(x.ks.map fun o=>forP o.p (partsP p),(partsP p).all fun k=>x.ks.any fun o=>(ofS o.p k).2)):=by rw[Hid,HKD.out];exact forR_plain x.ks p
    have RF:=qD (pr_full I.out.b5)
    have HPA:=qD (parts_any p wr (HWP.out.step I.out.bel))
    go_upto_region 21 with(first
     | ((with_reducible show wpList _ _ _ (⟨_,.load 41 _,_,_,_,_⟩::_) _ _);refine wpList_mid_w rfl 41 _ rfl (w.heap.size+1) 0 rfl _ _ RF.out Tryz.underlying41 rfl (by kernel_rfl) ?_)
     | (go_at_call 62;refine HPA.out.mono ?_;rintro e w5 ⟨PA,pn,pc,rfl,hsr,hpz,hb3⟩))
    have I5:=qD (I.out.step hb3)
    have HPS:=qD hsr
    have HPL:=qD hsr.ln
    have hpn:pn≤351843720888:=by unfold reach at hpz;omega
    have hpn':(pn:Int)≤351843720888:=by omega
    clear hsr hpz hb3 RF HPA I d1 hi
    go_loopw [14,75] (fun v14 v wr=>∃(j:Nat) (b:Bool) (ls:List IL),j≤pn∧v=.int .i64 j∧v14=.bool b∧FI w x p ls wr∧SR 25 recPr wr PA pn pc (partsP p)∧(∀(i:Nat) (o:Od) (h:IL),x.ks[i]?=some o→ls[i]?=some h→NfL (forP o.p ((partsP p).take j)) (1+PrT.sz.szL ((partsP p).take j)) h)∧b=((partsP p).take j).all fun k=>x.ks.any fun o=>(ofS o.p k).2) (fun _ v _=>pn-(intOf v).toNat)
    case atStart=>
     refine⟨0,true,ls,Nat.zero_le _,rfl,rfl,I5.out,HPS.out,fun i o h ho hh=>?_,rfl⟩
     rw[List.take_zero,forP_nil]
     have h1:=HAL.out i h (by have:=(List.getElem?_eq_some_iff.1 hh).1;have:=I5.out.ln;omega) hh
     exact⟨h1.nf,by have:=h1.le;omega⟩
    case round=>
     clear I5 HAL HPS
     obtain⟨j,b,ls,hj,rfl,rfl,hI,hps,hal,hbe⟩:=hrel
     have I:=qD hI
     have HPS:=qD hps
     have HAL:=qD hal
     have HBE:=qD hbe
     clear hI hps hal hbe
     by_cases hlt:j<pn
     ·obtain⟨b5,off5,k,hA,hkb,hx,hm,hrg⟩:=HPS.out.row hlt
      have RG:=qD hrg
      have HX:=qD hx
      have HMK:=qD hm
      have HTS:Hid ((partsP p).take (j+1)=(partsP p).take j++[k]):=by rw[Hid,List.take_add_one,hx];rfl
      have HSZ:Hid (PrT.sz.szL ((partsP p).take (j+1))=PrT.sz.szL ((partsP p).take j)+k.sz):=qD (szL_take _ _ hx)
      have HLE:Hid (PrT.sz.szL ((partsP p).take (j+1))≤p.sz):=qD (Nat.le_trans (szL_take_le _ _) partsP_sz)
      have j0':(0:Int)≤(j:Int):=by omega
      have j1':(j:Int)<(pn:Int):=by omega
      subst hA
      clear hrg hx hm hkb
      go_upto_region 23 with(first
       | ((with_reducible show wpList _ _ _ (⟨_,.load 41 _,_,_,_,_⟩::_) _ _);refine wpList_mid_w rfl 41 _ rfl b5 (off5+j*25) rfl _ _ RG.out Tryz.underlying41 rfl (by kernel_rfl) ?_)
       | ((with_reducible show wpList _ _ _ (⟨_,.store 41 _ _,_,_,_,_⟩::_) _ _);refine wpList_store_row rfl 41 _ _ rfl wr.heap.size (arrPr k) rfl rfl 41 _ (Blk.new_at rfl) (by kernel_rfl) rfl (arrPr_all k) ?_;refine wpl_name ?_;intro w4 hw4;have KB:Hid (Blk w4 wr.heap.size 41 (arrPr k)):=(by rw[Hid,hw4];exact blk_row (Blk.new_at rfl) _);have BW4:Hid (Below wr.heap.size wr w4):=(by rw[Hid,hw4];exact bel_row ((Below.refl _ _).alloc (qL) _) (qL) _);clear hw4 RG))
      have HGK:Hid (w.heap.size+2<wr.heap.size):=qD I.out.lb.b.lt
      replace I:=qD (I.out.step BW4.out)
      replace HPS:=qD (HPS.out.step BW4.out)
      generalize wr.heap.size=gk at*
      clear BW4
      have d2:=(ix_cells I.out.b3).d2
      go_upto_region 25 with fail
      go_loopw [17,82] (fun v17 v w6=>∃(i:Nat) (c:Bool) (ls:List IL),i≤x.kn∧v=.int .i64 i∧v17=.bool c∧FI w x p ls w6∧SR 25 recPr w6 (some ⟨b5,off5,none⟩) pn pc (partsP p)∧Blk w6 gk 41 (arrPr k)∧(∀(i':Nat) (o:Od) (h:IL),x.ks[i']?=some o→ls[i']?=some h→NfL (forP o.p ((partsP p).take (if i'<i then j+1 else j))) (1+PrT.sz.szL ((partsP p).take (if i'<i then j+1 else j))) h)∧c=(x.ks.take i).any fun o=>(ofS o.p k).2) (fun _ v _=>x.kn-(intOf v).toNat)
      case atStart=>
       refine⟨0,false,ls,Nat.zero_le _,rfl,rfl,I.out,HPS.out,KB.out,fun i o h ho hh=>?_,rfl⟩
       rw[if_neg (Nat.not_lt_zero _)]
       exact HAL.out i o h ho hh
      case round=>
       clear I HPS KB HAL d2
       obtain⟨i,c,ls,hi,rfl,rfl,hI,hps,hkb,hal,hce⟩:=hrel
       have I:=qD hI
       have HPS:=qD hps
       have KB:=qD hkb
       have HAL:=qD hal
       have HCE:=qD hce
       clear hI hps hkb hal hce
       by_cases hli:i<x.kn
       ·obtain⟨os,hos⟩:=HK.out
        obtain⟨kb,off,o,hA,hkb,ho,e0,e1⟩:=hos.sr.at2 hli
        obtain⟨q,hq⟩:∃q,x.ks[i]?=some q:=⟨_,List.getElem?_eq_getElem (by have:=HN.out;omega)⟩
        have HST:=qD (hos.el i o q ho hq).st
        have HQ:=qD hq
        obtain⟨h9,hh9⟩:∃h,ls[i]?=some h:=⟨_,List.getElem?_eq_getElem (by have:=I.out.ln;omega)⟩
        have HH9:=qD hh9
        have hn9:=HAL.out i q h9 hq hh9
        rw[if_neg (Nat.lt_irrefl _)] at hn9
        have HN9:=qD hn9
        have d2:=(ix_cells I.out.b3).d2
        have ew:=(I.out.bel.cell (p:=⟨kb,off+i*2,none⟩) hkb).trans e0
        have ew1:=(I.out.bel.cell (p:=⟨kb,off+i*2+1,none⟩) hkb).trans e1
        have i0:(0:Int)≤(i:Int):=by omega
        have i1:(i:Int)<(x.kn:Int):=by omega
        rw[hA]
        clear hos ho hq e0 e1 hA hh9 hn9 d2
        go_upto_region 27 with fail
        change Code.wp _ _ _ _ (wr.alloc (.cells #[.slice o.A o.n o.c,.bool o.d] 73))
        have JB:Hid (Blk (wr.alloc (.cells #[.slice o.A o.n o.c,.bool o.d] 73)) wr.heap.size 73 #[.slice o.A o.n o.c,.bool o.d]):=Blk.new_at rfl
        have BW6:=(Below.refl wr.heap.size wr).alloc (qL) (Obj.cells #[.slice o.A o.n o.c,.bool o.d] 73)
        have J:=qD (I.out.step BW6)
        have JPS:=qD (HPS.out.step BW6)
        have JK:=qD (KB.out.step BW6)
        generalize wr.alloc (.cells #[.slice o.A o.n o.c,.bool o.d] 73)=wb at*
        generalize wr.heap.size=ga at*
        clear ew ew1 I HPS KB BW6
        have o0:=JB.out.cell 0
        simp at o0
        have RF:=qD (pr_full JK.out)
        obtain⟨z,hz⟩:∃z,z=(ofS q.p k).2:=⟨_,rfl⟩
        have HZZ:=qD hz
        clear hz
        have HBZ:Hid ((c||z)=((x.ks.take (i+1)).any fun o=>(ofS o.p k).2)):=by rw[Hid,any_snoc _ HQ.out,←HCE.out,←HZZ.out]
        have HOF:=qD (HO.out k (.inr HMK.out) o.A o.n o.c q.p wb J.out.bel (HST.out.step J.out.bel))
        clear HCE
        go_upto_region 28 with(first
         | ((with_reducible show wpList _ _ _ (⟨_,.load 41 _,_,_,_,_⟩::_) _ _);refine wpList_mid_w rfl 41 _ rfl gk 0 rfl _ _ RF.out Tryz.underlying41 rfl (by kernel_rfl) ?_)
         | (go_at_call 14;refine HOF.out.mono ?_;rintro e w5 ⟨A3,m3,c3,ys,nf,rfl,hy,hnf,hmk,hsi,hb3,hfr⟩;rw[←HZZ.out]))
        have K:=qD (J.out.step hb3)
        have KPS:=qD (JPS.out.step hb3)
        have KK:=qD (JK.out.step hb3)
        have HS9:=qD (K.out.lb.el h9 (List.mem_of_getElem? HH9.out))
        have HS3:=qD hsi
        have e9:=K.out.lb.at HH9.out
        have HY:=qD hy
        have HNF:=qD hnf
        have HM3:=qD hmk
        clear hy hnf hmk hsi hb3 hfr RF HOF o0 J JPS JK JB HST
        have HME:Hid (Calls Tryz.prog 63 #[.slice h9.A h9.n h9.c,.slice A3 m3 c3] w5 (NormOk (fun a=>forP q.p ((partsP p).take j) a∧(ofS q.p k).1 a) (h9.n+m3) w5)):=by
         obtain⟨⟨nf9,hy9,hnf9⟩,hle9⟩:=HN9.out
         have hl9:=HS9.out.sr.ln
         have h1:=HSZ.out
         have h2:=HLE.out
         have h3:=HZ.out
         have h4:=HM3.out
         exact qD (meetN_any h9.ys ys h9.A A3 h9.n h9.c m3 c3 w5 (HT.out.step K.out.bel) HS9.out HS3.out hy9 HY.out hnf9 HNF.out (by omega) (by omega))
        go_wp2_with fail
        refine HME.out.mono ?_
        rintro e w7 ⟨A4,m4,c4,zs,nf4,rfl,hy,hnf,hmk,hsi,hb3⟩
        have L:=qD (K.out.step hb3)
        have LPS:=qD (KPS.out.step hb3)
        have LK:=qD (KK.out.step hb3)
        replace e9:=L.out.lb.at HH9.out
        have gz:=L.out.lb.b.frozen i
        have HN4:Hid (NfL (forP q.p ((partsP p).take (j+1))) (1+PrT.sz.szL ((partsP p).take (j+1))) ⟨A4,m4,c4,zs⟩):=by
         refine qD ⟨⟨nf4,hy,?_⟩,?_⟩
         ·rw[HTS.out,forP_snoc];exact hnf
         ·have h1:=HSZ.out
          have h2:=HN9.out.le
          have h3:=HS9.out.sr.ln
          have h4:=HM3.out
          have h5:=hsi.sr.ln
          show zs.length≤_
          omega
        have M:=qD (L.out.set (q:=⟨A4,m4,c4,zs⟩) hsi i)
        have MPS:=qD (L.out.setP LPS.out i (.slice A4 m4 c4))
        have MK:=qD (LK.out.far (p:=⟨w.heap.size+2,i,none⟩) (by have:=HGK.out;show gk≠w.heap.size+2;omega) (.slice A4 m4 c4))
        have HLL:=qD L.out.ln
        have HG:Hid (∀(i':Nat) (o:Od) (h:IL),x.ks[i']?=some o→(ls.set i ⟨A4,m4,c4,zs⟩)[i']?=some h→NfL (forP o.p ((partsP p).take (if i'<i+1 then j+1 else j))) (1+PrT.sz.szL ((partsP p).take (if i'<i+1 then j+1 else j))) h):=qD fun i' o h ho hh=>by
         rcases set_at (by have:=HLL.out;omega) hh with⟨rfl,rfl⟩|⟨hne,hh⟩
         ·rw[if_pos (Nat.lt_succ_self _)]
          have:=HQ.out;rw[ho] at this;cases this;exact HN4.out
         ·have h1:=HAL.out i' o h ho hh
          by_cases hlt2:i'<i
          ·rw[if_pos hlt2] at h1;rw[if_pos (by omega)];exact h1
          ·rw[if_neg hlt2] at h1;rw[if_neg (by omega)];exact h1
        clear hy hnf hmk hsi hb3 HME HS9 HS3 HY HNF HM3 K KPS KK L LPS LK HAL HN9 HZZ HN4 HH9
        cases c
        ·go_wp2_with fail
         go_roundw
         case rel=>exact⟨i+1,z,_,hli,by go_num,rfl,M.out,MPS.out,MK.out,HG.out,HBZ.out⟩
         case measure=>simp[intOf];omega
        ·go_wp2_with fail
         go_roundw
         case rel=>exact⟨i+1,true,_,hli,by go_num,rfl,M.out,MPS.out,MK.out,HG.out,HBZ.out⟩
         case measure=>simp[intOf];omega
       ·obtain rfl:i=x.kn:=by omega
        have hce:=HCE.out
        rw[List.take_of_length_le (by have:=HN.out;omega)] at hce
        have HC9:Hid ((b&&c)=(((partsP p).take (j+1)).all fun k=>x.ks.any fun o=>(ofS o.p k).2)):=by rw[Hid,all_snoc _ HX.out,←HBE.out,hce]
        have HG:Hid (∀(i:Nat) (o:Od) (h:IL),x.ks[i]?=some o→ls[i]?=some h→NfL (forP o.p ((partsP p).take (j+1))) (1+PrT.sz.szL ((partsP p).take (j+1))) h):=qD fun i o h ho hh=>by
         have h1:=HAL.out i o h ho hh
         rwa [if_pos (by have:=(List.getElem?_eq_some_iff.1 hh).1;have:=I.out.ln;omega)] at h1
        clear hce HCE HBE HAL hli KB
        cases b
        ·go_wp2_with fail
         go_roundw
         case rel=>exact⟨j+1,false,ls,hlt,by go_num,rfl,I.out,HPS.out,HG.out,HC9.out⟩
         case measure=>simp[intOf];omega
        ·go_wp2_with fail
         go_roundw
         case rel=>exact⟨j+1,c,ls,hlt,by go_num,rfl,I.out,HPS.out,HG.out,HC9.out⟩
         case measure=>simp[intOf];omega
     ·obtain rfl:j=pn:=by omega
      have hbe:=HBE.out
      have htl:(partsP p).take j=partsP p:=List.take_of_length_le (by have:=HPL.out;omega)
      rw[htl] at hbe
      have HB9:=qD hbe
      have HNF:Hid (Nfs (x.ks.map fun o=>forP o.p (partsP p)) (p.sz+1) ls):=qD ⟨by rw[List.length_map,I.out.ln,HN.out],fun i S h hS hh=>by
       rw[List.getElem?_map] at hS
       obtain⟨o,ho,rfl⟩:=Option.map_eq_some_iff.1 hS
       have h1:=HAL.out i o h ho hh
       rw[htl] at h1
       exact⟨h1.nf,by have:=h1.le;have:=partsP_sz (p:=p);omega⟩⟩
      clear hbe hlt HBE HAL htl
      go_wp2_with fail
      go_ret2
      rw[HR.out]
      refine⟨_,_,_,ls,?_,HBL.out _ _ I.out,HNF.out,I.out.bel⟩
      rw[←HB9.out]
      rfl
theorem cloneT_any(xs:List ByteArray)(A:Option Addr)(n c:Nat)(w:World)(h:SR 1 recT w A n c xs)(hn:n*16≤reach):
 Calls Tryz.prog 205 #[.slice A n c] w fun e w'=>∃v,e=.returned v∧w'.ownsRow w.heap.size 9 1 v n (flat recT xs)∧Below w.heap.size w w':=by
 obtain⟨j0,hj0,hy0,hy1,hy2⟩:=info_parts info_string
 have HL:=qD h.ln
 unfold reach at hn
 cases A with
 | none=>
  have h0:n=0:=by
   rcases Nat.eq_zero_or_pos n with h0|h0
   ·exact h0
   ·obtain⟨b,off,e,_⟩:=h.el h0;cases e
  subst h0
  have HX:Hid (xs=[]):=List.eq_nil_of_length_eq_zero HL.out.symm
  clear h
  have kn:=fun(w:World)=>Lib.run_eql_slice_nil (P:=Tryz.prog) w 28 9 none 0 c 0 0 Tryz.underlying28
  go_enter Tryz.func205,Tryz.ntmps205
  go_wp2_with fail
  go_ret
  exact⟨_,rfl,by rw[HX.out];exact own_nil _ _ _ _,Below.refl _ _⟩
 | some ad=>
  have HR:=qD (h.reads recT_length (by omega))
  have hO:(w.alloc (.cells #[] 9)).ownsRow w.heap.size 9 1 (.slice (some ⟨w.heap.size,0,none⟩) 0 0) 0 []:=
   ⟨rfl,.inr ⟨w.heap.size,0,#[],rfl,qL,Blk.new_at rfl,qL,Nat.zero_le _,rfl,rfl⟩⟩
  have HO:=qD hO
  have H1:=qD (flat_one recT_one xs)
  clear h hO
  have kn:=fun(w:World)=>Lib.run_eql_slice_nil (P:=Tryz.prog) w 28 9 (some ad) n c 0 0 Tryz.underlying28
  go_enter Tryz.func205,Tryz.ntmps205
  go_wp2_with (at_builtin;refine wpList_append_any _ rfl _ _ 28 rfl w.heap.size 9 j0 (.string ByteArray.empty) 1 16 Tryz.underlying28 hj0 hy0 hy1 hy2 rfl (by decide) (.slice (some ⟨w.heap.size,0,none⟩) 0 0) 0 [] rfl HO.out w.heap.size (some ad) n c (flat recT xs) rfl (HR.out.alloc (qL) _) H1.out (by unfold maxLen;omega) (by omega) (by simp) ?_)
  intro v' w2 hown hg _
  go_wp2_with fail
  go_ret
  refine⟨v',rfl,by simpa using hown,?_⟩
  exact((Below.refl w.heap.size w).alloc (qL) _).grown hg (by simp) (fun k hk=>by simp[Value.ownBlock] at hk;omega)
theorem pCloneTN_any(w:World):Calls Tryz.prog 205 #[.slice none 0 0] w fun e w'=>e=.returned (.slice none 0 0)∧w'=w:=by
 have kn:=fun(w:World)=>Lib.run_eql_slice_nil (P:=Tryz.prog) w 28 9 none 0 0 0 0 Tryz.underlying28
 go_enter Tryz.func205,Tryz.ntmps205
 go_wp2_with fail
 go_ret
 exact⟨rfl,rfl⟩
theorem pClonePN_any(w:World):Calls Tryz.prog 208 #[.slice none 0 0] w fun e w'=>e=.returned (.slice none 0 0)∧w'=w:=by
 have kn:=fun(w:World)=>Lib.run_eql_slice_nil (P:=Tryz.prog) w 33 157 none 0 0 0 0 Tryz.underlying33
 go_enter Tryz.func208,Tryz.ntmps208
 go_wp2_with fail
 go_ret
 exact⟨rfl,rfl⟩
abbrev exK(A:Option Addr):ExT:=.mk 0 .nil ByteArray.empty .nil (VC.zero,Val.zero) 0 A 0 0 []
abbrev eArr(A:Option Addr):Array Value:=#[.int .i64 0,.slice none 0 0,.string ByteArray.empty,.slice none 0 0,.int .i64 0,.int .i64 0,.string ByteArray.empty,.slice none 0 0,.slice none 0 0,.int .i64 0,.slice A 0 0]
theorem info_exprF:(Tryz.prog.info? 38).map (fun i=>(i.zero,i.size,i.bytes))=some (some (.agg (eArr none)),11,184):=by kernel_rfl
theorem results_ex{fn:Func}{p:Tmp}(h:fn.results=#[.cell p 38])(tmps:Array Value)(g:Nat)(h1:tmps[p]?.getD undef=.pointer (some ⟨g,0,none⟩))(W:World)(P:Array Value)(hs:P.size=11)(q:Blk W g 38 P):
 (results fn tmps).run Tryz.prog W=.ok (.agg P) W:=by
 simp[results,h,h1,asAddr,run_loadVar_row W g 38 38 P (0,0) _ q Tryz.underlying38 rfl (by rw[hs];kernel_rfl)]
theorem results_pr{fn:Func}{p:Tmp}(h:fn.results=#[.cell p 41])(tmps:Array Value)(g:Nat)(h1:tmps[p]?.getD undef=.pointer (some ⟨g,0,none⟩))(W:World)(P:Array Value)(hs:P.size=25)(q:Blk W g 41 P):
 (results fn tmps).run Tryz.prog W=.ok (.agg P) W:=by
 simp[results,h,h1,asAddr,run_loadVar_row W g 41 41 P (0,0) _ q Tryz.underlying41 rfl (by rw[hs];kernel_rfl)]
theorem pCloneEx_any(w:World):Calls Tryz.prog 209 #[.agg (eArr none)] w fun e w'=>∃A,e=.returned (.agg (eArr A))∧Below w.heap.size w w':=by
 obtain⟨j0,hj0,hz0,hz1,hz2⟩:=info_parts info_exprF
 have hmk:∀w:World,(Instr.makeSlice 36 (.int .i64 0) (.int .i64 0)).run Tryz.prog w=.ok (.slice (some ⟨w.heap.size,0,none⟩) 0 0) (w.alloc (.cells (madeCells (eArr none) 0) 38)):=fun w=>by
  have h:=run_make_rowN (P:=Tryz.prog) 36 38 j0 (.agg (eArr none)) Tryz.underlying36 hj0 hz0 0 (by omega) (by omega) w
  rw[Nat.zero_mul] at h
  exact h
 have B0:Hid (Blk ((w.alloc (.cells (eArr none) 38)).alloc (.cells (eArr none) 38)) w.heap.size 38 (eArr none)):=(Blk.new_at rfl).alloc _
 have B1:Hid (Blk ((w.alloc (.cells (eArr none) 38)).alloc (.cells (eArr none) 38)) (w.heap.size+1) 38 (eArr none)):=Blk.new_at (by simp)
 have BE:Hid (Below w.heap.size w ((w.alloc (.cells (eArr none) 38)).alloc (.cells (eArr none) 38))):=((Below.refl _ _).alloc (qL) _).alloc (by simp) _
 go_enter Tryz.func209,Tryz.ntmps209
 go_upto_region 1 with fail
 change Code.wp _ _ _ _ ((w.alloc (.cells (eArr none) 38)).alloc (.cells (eArr none) 38))
 generalize (w.alloc (.cells (eArr none) 38)).alloc (.cells (eArr none) 38)=wa at*
 have c1:=B0.out.cell 1
 have z1:=B0.out.frozen 1
 simp at c1
 go_upto_region 2 with(go_at_call 205;refine(pCloneTN_any _).mono ?_;rintro e w1 ⟨rfl,rfl⟩)
 have C0:Hid (Blk (w1.setCell ⟨w.heap.size,1,none⟩ (.slice none 0 0)) w.heap.size 38 (eArr none)):=B0.out.set_ 1 (.slice none 0 0)
 have C1:Hid (Blk (w1.setCell ⟨w.heap.size,1,none⟩ (.slice none 0 0)) (w.heap.size+1) 38 (eArr none)):=B1.out.far (by simp) _
 have CE:Hid (Below w.heap.size w (w1.setCell ⟨w.heap.size,1,none⟩ (.slice none 0 0))):=BE.out.setCell (qL) _
 change Code.wp _ _ _ _ (w1.setCell ⟨w.heap.size,1,none⟩ (.slice none 0 0))
 generalize w1.setCell ⟨w.heap.size,1,none⟩ (.slice none 0 0)=wb at*
 clear c1 z1 B0 B1 BE
 have c3:=C0.out.cell 3
 have z3:=C0.out.frozen 3
 simp at c3
 go_upto_region 3 with(go_at_call 205;refine(pCloneTN_any _).mono ?_;rintro e w2 ⟨rfl,rfl⟩)
 have D0:Hid (Blk (w2.setCell ⟨w.heap.size,3,none⟩ (.slice none 0 0)) w.heap.size 38 (eArr none)):=C0.out.set_ 3 (.slice none 0 0)
 have D1:Hid (Blk (w2.setCell ⟨w.heap.size,3,none⟩ (.slice none 0 0)) (w.heap.size+1) 38 (eArr none)):=C1.out.far (by simp) _
 have DE:Hid (Below w.heap.size w (w2.setCell ⟨w.heap.size,3,none⟩ (.slice none 0 0))):=CE.out.setCell (qL) _
 change Code.wp _ _ _ _ (w2.setCell ⟨w.heap.size,3,none⟩ (.slice none 0 0))
 generalize w2.setCell ⟨w.heap.size,3,none⟩ (.slice none 0 0)=wc at*
 clear c3 z3 C0 C1 CE
 have c4:=D0.out.cell 4
 have c5:=D0.out.cell 5
 have c6:=D0.out.cell 6
 have c7:=D0.out.cell 7
 have c8:=D0.out.cell 8
 simp at c4 c5 c6 c7 c8
 go_upto_region 4 with(first
  | (go_at_call 206;refine(pClone_any 0 0 _).mono ?_;rintro e w3 ⟨rfl,hb3⟩;have E0:=qD (D0.out.step hb3);have E1:=qD (D1.out.step hb3);have EE:=qD (DE.out.step' hb3);have zz:=E0.out.frozen;clear hb3 c4 c5 c6 c7 c8;have c4:=E0.out.cell 4;have c5:=E0.out.cell 5;have c6:=E0.out.cell 6;have c7:=E0.out.cell 7;have c8:=E0.out.cell 8;simp at c4 c5 c6 c7 c8))
 clear D0 D1 DE
 have F0:Hid (Blk (setV w3 w.heap.size 4 ⟨0,0,ByteArray.empty,none,0,0,none,0,0⟩) w.heap.size 38 (eArr none)):=((((E0.out.set_ 4 _).set_ 5 _).set_ 6 _).set_ 7 _).set_ 8 _
 have F1:Hid (Blk (setV w3 w.heap.size 4 ⟨0,0,ByteArray.empty,none,0,0,none,0,0⟩) (w.heap.size+1) 38 (eArr none)):=E1.out.farV (by simp) 4 _
 have FE:Hid (Below w.heap.size w (setV w3 w.heap.size 4 ⟨0,0,ByteArray.empty,none,0,0,none,0,0⟩)):=below_setV EE.out (qL) 4 _
 change Code.wp _ _ _ _ (setV w3 w.heap.size 4 ⟨0,0,ByteArray.empty,none,0,0,none,0,0⟩)
 generalize setV w3 w.heap.size 4 ⟨0,0,ByteArray.empty,none,0,0,none,0,0⟩=wd at*
 clear c4 c5 c6 c7 c8 zz E0 E1 EE
 have c10:=F0.out.cell 10
 simp at c10
 go_upto_region 5 with fail
 change Code.wp _ _ _ _ (wd.alloc (.cells (madeCells (eArr none) 0) 38))
 have G0:Hid (Blk (wd.alloc (.cells (madeCells (eArr none) 0) 38)) w.heap.size 38 (eArr none)):=F0.out.alloc _
 have G1:Hid (Blk (wd.alloc (.cells (madeCells (eArr none) 0) 38)) (w.heap.size+1) 38 (eArr none)):=F1.out.alloc _
 have GE:Hid (Below w.heap.size w (wd.alloc (.cells (madeCells (eArr none) 0) 38))):=FE.out.alloc FE.out.size _
 generalize wd.alloc (.cells (madeCells (eArr none) 0) 38)=we at*
 generalize wd.heap.size=gk at*
 clear c10 F0 F1 FE hmk
 have c10:=G0.out.cell 10
 have z10:=G0.out.frozen 10
 simp at c10
 go_upto_region 6 with fail
 go_loopw [25] (fun v wr=>v=.int .i64 0∧wr=we) (fun _ _=>0)
 case atStart=>exact⟨rfl,rfl⟩
 case round=>
  obtain⟨rfl,rfl⟩:=hrel
  go_upto_region 11 with fail
  have H0:Hid (Blk (wr.setCell ⟨w.heap.size,10,none⟩ (.slice (some ⟨gk,0,none⟩) 0 0)) w.heap.size 38 (eArr (some ⟨gk,0,none⟩))):=G0.out.set_ 10 _
  have H1:Hid (Blk (wr.setCell ⟨w.heap.size,10,none⟩ (.slice (some ⟨gk,0,none⟩) 0 0)) (w.heap.size+1) 38 (eArr none)):=G1.out.far (by simp) _
  have HE:Hid (Below w.heap.size w (wr.setCell ⟨w.heap.size,10,none⟩ (.slice (some ⟨gk,0,none⟩) 0 0))):=GE.out.setCell (qL) _
  change Code.wp _ _ _ _ (wr.setCell ⟨w.heap.size,10,none⟩ (.slice (some ⟨gk,0,none⟩) 0 0))
  generalize wr.setCell ⟨w.heap.size,10,none⟩ (.slice (some ⟨gk,0,none⟩) 0 0)=wf at*
  clear c10 z10 G0 G1 GE
  go_wp2_with (first
   | ((with_reducible show wpList _ _ _ (⟨_,.load 38 _,_,_,_,_⟩::_) _ _);refine wpList_load_row rfl 38 _ rfl _ rfl _ _ _ _ H0.out rfl rfl (by kernel_rfl) ?_)
   | ((with_reducible show wpList _ _ _ (⟨_,.store 38 _ _,_,_,_,_⟩::_) _ _);refine wpList_store_row rfl 38 _ _ rfl (w.heap.size+1) (eArr (some ⟨gk,0,none⟩)) rfl rfl 38 _ H1.out (by kernel_rfl) rfl (by simp[Value.oneCell']) ?_))
  exact bodyPost_ret (results_ex rfl _ _ rfl _ _ rfl (blk_row H1.out _)) rfl ⟨_,rfl,bel_row HE.out (by omega) _⟩
abbrev lfZ(op:Int)(A:Option Addr)(c:Nat)(xA kA:Option Addr):PrT:=.mk op ⟨A,1,c,[(⟨#[97]⟩:ByteArray)]⟩ (cOne,.mk 3 1 ByteArray.empty [] []) .nil 0 0 0 .nil 0 (exK xA) kA 0 0 []
theorem lfZ_lf(op:Int)(A:Option Addr)(c:Nat)(xA kA:Option Addr):Lf op (lfZ op A c xA kA):=
 ⟨rfl,rfl,rfl,rfl,rfl,rfl,rfl,rfl,rfl,rfl,rfl,rfl,rfl,rfl,rfl,rfl,rfl,rfl,rfl⟩
theorem z_le(n:Nat):0*n≤reach:=by rw[Nat.zero_mul];exact Nat.zero_le _
theorem sl_nil{w:World}:SL (fun _=>True) w none 0 0 []:=⟨SR.nil,z_le _,fun h=>absurd h (Nat.lt_irrefl _),fun p hp=>by cases hp⟩
theorem st_nil{w:World}:ST w none 0 0 []:=⟨SR.nil,z_le _,fun s hs=>by cases hs⟩
theorem rw_zero(w:World):RW w VC.zero Val.zero:=RVs.shut ⟨rfl,rfl,rfl,by show ByteArray.empty.size≤reach;decide,rfl,qL,by show 0*80≤reach;decide,fun h=>absurd h (by show ¬0<0;omega),rfl,qL,by show 0*96≤reach;decide,fun h=>absurd h (by show ¬0<0;omega)⟩
theorem wx_zero(w:World)(A:Option Addr):WX w (exK A):=WXo.shut ⟨st_nil,by show ByteArray.empty.size≤reach;decide,st_nil,rw_zero w,SR.nil,z_le _,fun k hk=>by cases hk⟩
theorem lfZ_wp{op:Int}{A:Option Addr}{c:Nat}{xA kA:Option Addr}{w:World}(h:ST w A 1 c [(⟨#[97]⟩:ByteArray)]):WP w (lfZ op A c xA kA):=
 WPo.shut ⟨h,rw_one w,sl_nil,Nat.zero_le _,SR.nil,z_le _,wx_zero w _,SR.nil,z_le _,fun k hk=>by cases hk⟩
def LfCopy(op:Int)(w:World)(e:Ending)(w':World):Prop:=
 ∃(b off c:Nat) (xA kA:Option Addr),e=.returned (aggPr (lfZ op (some ⟨b,off,none⟩) c xA kA))∧w'.cell? ⟨b,off,none⟩=some (.string ⟨#[97]⟩)∧1≤c∧w.heap.size≤b∧Below w.heap.size w w'
structure CpI(w:World)(b2 off2:Nat)(q:PrT)(wr:World):Prop where
 b0:Blk wr w.heap.size 41 (arrPr q)
 b1:Blk wr (w.heap.size+1) 41 (arrPr PrT.zero)
 pc:wr.cell? ⟨b2,off2,none⟩=some (.string ⟨#[97]⟩)
 ge:w.heap.size+2≤b2
 bel:Below w.heap.size w wr
theorem CpI.step{w wr w':World}{b2 off2:Nat}{q:PrT}(h:CpI w b2 off2 q wr)(hb:Below wr.heap.size wr w'):CpI w b2 off2 q w':=
 ⟨h.b0.step hb,h.b1.step hb,(hb.cell (World.block_lt_of_cell? wr _ h.pc)).trans h.pc,h.ge,h.bel.step' hb⟩
theorem CpI.set{w wr:World}{b2 off2:Nat}{q q':PrT}(h:CpI w b2 off2 q wr)(i:Nat)(u:Value)(e:(arrPr q).setIfInBounds i u=arrPr q'):CpI w b2 off2 q' (wr.setCell ⟨w.heap.size,i,none⟩ u):=
 ⟨ex_blk (h.b0.set_ i u) e,h.b1.far (by simp) _,(World.cell?_of_block (a:=⟨b2,off2,none⟩) (Below.heap_setCell wr ⟨w.heap.size,i,none⟩ u b2 (by have:=h.ge;show b2≠w.heap.size;omega))).trans h.pc,h.ge,h.bel.setCell (qL) _⟩
theorem CpI.setM{w wr:World}{b2 off2:Nat}{q q':PrT}(h:CpI w b2 off2 q wr)(o:Nat)(vs:List Value)(e:(setList (recPr q) o vs).toArray=arrPr q'):CpI w b2 off2 q' (wr.setCells w.heap.size o vs):=
 ⟨ex_blk (Blk.setCells vs (l:=recPr q) o h.b0) e,blk_far9 h.b1 (by omega) _ _,(World.cell?_of_block (a:=⟨b2,off2,none⟩) (heap_setCells w.heap.size vs o wr b2 (by have:=h.ge;omega))).trans h.pc,h.ge,bel_cells9 h.bel (qL) _ _⟩
theorem CpI.alloc{w wr:World}{b2 off2:Nat}{q:PrT}(h:CpI w b2 off2 q wr)(o:Obj):CpI w b2 off2 q (wr.alloc o):=h.step ((Below.refl _ _).alloc (qL) o)
theorem st_cell{w:World}{b off c:Nat}(h:w.cell? ⟨b,off,none⟩=some (.string ⟨#[97]⟩))(hc:1≤c):ST w (some ⟨b,off,none⟩) 1 c [(⟨#[97]⟩:ByteArray)]:=by
 refine⟨⟨rfl,hc,fun _=>⟨b,off,rfl,World.block_lt_of_cell? w _ h,fun i x hi j v hj=>?_⟩⟩,by decide,fun s hs=>by simp at hs;subst hs;decide⟩
 match i,j,hi,hj with
 | 0,0,hi,hj=>
  simp[recT] at hi hj
  subst hi
  subst hj
  rw[Nat.zero_mul]
  exact h
 | 0,j+1,hi,hj=>simp[recT] at hj
 | i+1,_,hi,_=>simp at hi
theorem pClonePr_any(op:Int)(A:Option Addr)(c:Nat)(w:World)(hl:ST w A 1 c [(⟨#[97]⟩:ByteArray)]):Calls Tryz.prog 165 #[aggPr (lfZ op A c none none)] w (LfCopy op w):=by
 obtain⟨j0,hj0,hz0,hz1,hz2⟩:=info_parts info_predF
 have hmk:∀w:World,(Instr.makeSlice 39 (.int .i64 0) (.int .i64 0)).run Tryz.prog w=.ok (.slice (some ⟨w.heap.size,0,none⟩) 0 0) (w.alloc (.cells (madeCells (arrPr PrT.zero) 0) 41)):=fun w=>by
  have h:=run_make_rowN (P:=Tryz.prog) 39 41 j0 (aggPr PrT.zero) Tryz.underlying39 hj0 hz0 0 (by omega) (by omega) w
  rw[Nat.zero_mul] at h
  exact h
 have HMK:=qD hmk
 clear hmk
 have B0:Hid (Blk ((w.alloc (.cells (arrPr (lfZ op A c none none)) 41)).alloc (.cells (arrPr PrT.zero) 41)) w.heap.size 41 (arrPr (lfZ op A c none none))):=(Blk.new_at rfl).alloc _
 have B1:Hid (Blk ((w.alloc (.cells (arrPr (lfZ op A c none none)) 41)).alloc (.cells (arrPr PrT.zero) 41)) (w.heap.size+1) 41 (arrPr PrT.zero)):=Blk.new_at (by simp)
 have BE:Hid (Below w.heap.size w ((w.alloc (.cells (arrPr (lfZ op A c none none)) 41)).alloc (.cells (arrPr PrT.zero) 41))):=((Below.refl _ _).alloc (qL) _).alloc (by simp) _
 have HL:=qD hl
 clear hl
 go_enter Tryz.func165,Tryz.ntmps165
 go_upto_region 1 with fail
 change Code.wp _ _ _ _ ((w.alloc (.cells (arrPr (lfZ op A c none none)) 41)).alloc (.cells (arrPr PrT.zero) 41))
 have hsz:((w.alloc (.cells (arrPr (lfZ op A c none none)) 41)).alloc (.cells (arrPr PrT.zero) 41)).heap.size=w.heap.size+2:=by simp
 generalize (w.alloc (.cells (arrPr (lfZ op A c none none)) 41)).alloc (.cells (arrPr PrT.zero) 41)=wa at*
 have HSZ:=qD hsz
 clear hsz
 have c1:=(B0.out.cell 1).trans (show _=some (Value.slice A 1 c) from rfl)
 go_upto_region 2 with(go_at_call 205;refine(cloneT_any _ A 1 c _ (HL.out.step BE.out).sr (by decide)).mono ?_;rintro e w1 ⟨v,rfl,hown,hb1⟩;obtain⟨A2,c2,hv,hsr⟩:=SR.of_own recT_length hown rfl;have hge:=own_ge hown;subst hv;obtain⟨b2,off2,s2,hA2,hbl,hx,hm,hrg⟩:=hsr.row (i:=0) (by omega);subst hA2;have C0:=qD (B0.out.step hb1);have c1:=(C0.out.cell 1).trans (show _=some (Value.slice A 1 c) from rfl);have z1:=C0.out.frozen 1)
 have P0:Hid (CpI w b2 off2 (lfZ op (some ⟨b2,off2,none⟩) c2 none none) (w1.setCell ⟨w.heap.size,1,none⟩ (.slice (some ⟨b2,off2,none⟩) 1 c2))):=by
  have hp:CpI w b2 off2 (lfZ op A c none none) w1:=by
   refine⟨C0.out,B1.out.step hb1,?_,?_,BE.out.step' hb1⟩
   ·have h:=hrg 0 _ rfl
    rw[Nat.zero_mul,Nat.add_zero] at h
    simp at hx
    subst hx
    exact h
   ·have:=hge b2 rfl
    have:=HSZ.out
    omega
  exact qD (hp.set 1 _ rfl)
 have HC2:Hid (1≤c2):=qD hsr.lc
 change Code.wp _ _ _ _ (w1.setCell ⟨w.heap.size,1,none⟩ (.slice (some ⟨b2,off2,none⟩) 1 c2))
 generalize w1.setCell ⟨w.heap.size,1,none⟩ (.slice (some ⟨b2,off2,none⟩) 1 c2)=wb at*
 clear c1 z1 hown hb1 hsr hge hbl hx hm hrg C0 B0 B1 BE HL
 have c2_:=(P0.out.b0.cell 2).trans (show _=some (Value.int .i64 3) from rfl)
 have c3_:=(P0.out.b0.cell 3).trans (show _=some (Value.int .i64 1) from rfl)
 have c4_:=(P0.out.b0.cell 4).trans (show _=some (Value.string ByteArray.empty) from rfl)
 have c5_:=(P0.out.b0.cell 5).trans (show _=some (Value.slice none 0 0) from rfl)
 have c6_:=(P0.out.b0.cell 6).trans (show _=some (Value.slice none 0 0) from rfl)
 go_upto_region 3 with(first
  | (go_at_call 206;refine(pClone_any 3 1 _).mono ?_;rintro e w3 ⟨rfl,hb3⟩;have E0:=qD (P0.out.step hb3);have zz:=E0.out.b0.frozen;clear hb3 c2_ c3_ c4_ c5_ c6_;have c2_:=(E0.out.b0.cell 2).trans (show _=some (Value.int .i64 3) from rfl);have c3_:=(E0.out.b0.cell 3).trans (show _=some (Value.int .i64 1) from rfl);have c4_:=(E0.out.b0.cell 4).trans (show _=some (Value.string ByteArray.empty) from rfl);have c5_:=(E0.out.b0.cell 5).trans (show _=some (Value.slice none 0 0) from rfl);have c6_:=(E0.out.b0.cell 6).trans (show _=some (Value.slice none 0 0) from rfl)))
 clear P0
 have P0:Hid (CpI w b2 off2 (lfZ op (some ⟨b2,off2,none⟩) c2 none none) (setV w3 w.heap.size 2 ⟨3,1,ByteArray.empty,none,0,0,none,0,0⟩)):=qD (((((E0.out.set 2 _ rfl).set 3 _ rfl).set 4 _ rfl).set 5 _ rfl).set 6 _ rfl)
 change Code.wp _ _ _ _ (setV w3 w.heap.size 2 ⟨3,1,ByteArray.empty,none,0,0,none,0,0⟩)
 generalize setV w3 w.heap.size 2 ⟨3,1,ByteArray.empty,none,0,0,none,0,0⟩=wc at*
 clear c2_ c3_ c4_ c5_ c6_ zz E0
 have c7:=(P0.out.b0.cell 7).trans (show _=some (Value.slice none 0 0) from rfl)
 have z7:=P0.out.b0.frozen 7
 go_upto_region 4 with(go_at_call 207;refine(pCloneNil_any _ _ _).mono ?_;rintro e w4 ⟨rfl,rfl⟩)
 replace P0:=qD (P0.out.set (q':=lfZ op (some ⟨b2,off2,none⟩) c2 none none) 7 (.slice none 0 0) rfl)
 change Code.wp _ _ _ _ (w4.setCell ⟨w.heap.size,7,none⟩ (.slice none 0 0))
 generalize w4.setCell ⟨w.heap.size,7,none⟩ (.slice none 0 0)=wd at*
 clear c7 z7
 have c11:=(P0.out.b0.cell 11).trans (show _=some (Value.slice none 0 0) from rfl)
 have z11:=P0.out.b0.frozen 11
 go_upto_region 5 with(go_at_call 208;refine(pClonePN_any _).mono ?_;rintro e w5 ⟨rfl,rfl⟩)
 replace P0:=qD (P0.out.set (q':=lfZ op (some ⟨b2,off2,none⟩) c2 none none) 11 (.slice none 0 0) rfl)
 change Code.wp _ _ _ _ (w5.setCell ⟨w.heap.size,11,none⟩ (.slice none 0 0))
 generalize w5.setCell ⟨w.heap.size,11,none⟩ (.slice none 0 0)=we at*
 clear c11 z11
 have RX:=qD (range_pex P0.out.b0)
 go_upto_region 6 with(first
  | ((with_reducible show wpList _ _ _ (⟨_,.load 38 _,_,_,_,_⟩::_) _ _);refine wpList_mid_w rfl 38 _ rfl w.heap.size 13 rfl _ _ RX.out Tryz.underlying38 rfl (by kernel_rfl) ?_)
  | (go_at_call 209;refine(pCloneEx_any _).mono ?_;rintro e w6 ⟨XA,rfl,hb6⟩;have E0:=qD (P0.out.step hb6);clear hb6)
  | ((with_reducible show wpList _ _ _ (⟨_,.store 38 _ _,_,_,_,_⟩::_) _ _);refine wpList_store_mid rfl 38 _ _ rfl w.heap.size 13 (eArr XA) rfl rfl (iv_there E0.out.b0 (by simp)) (by kernel_rfl) (by simp[Value.oneCell']) ?_;refine wpl_name ?_;intro w7 hw7))
 have P1:Hid (CpI w b2 off2 (lfZ op (some ⟨b2,off2,none⟩) c2 XA none) w7):=by
  rw[Hid,hw7]
  exact E0.out.setM 13 (eArr XA).toList rfl
 clear hw7 P0 E0 RX
 have c24:=(P1.out.b0.cell 24).trans (show _=some (Value.slice none 0 0) from rfl)
 have hmk:=HMK.out
 go_upto_region 7 with fail
 have gg:w.heap.size+2≤w7.heap.size:=by have:=P1.out.b1.lt;omega
 replace P1:=qD (P1.out.alloc (.cells (madeCells (arrPr PrT.zero) 0) 41))
 change Code.wp _ _ _ _ (w7.alloc (.cells (madeCells (arrPr PrT.zero) 0) 41))
 generalize w7.alloc (.cells (madeCells (arrPr PrT.zero) 0) 41)=wf at*
 generalize w7.heap.size=gk at*
 clear hmk c24 HMK gg
 have c24:=(P1.out.b0.cell 24).trans (show _=some (Value.slice none 0 0) from rfl)
 have z24:=P1.out.b0.frozen 24
 go_upto_region 8 with fail
 go_loopw [35] (fun v wr=>v=.int .i64 0∧wr=wf) (fun _ _=>0)
 case atStart=>exact⟨rfl,rfl⟩
 case round=>
  obtain⟨rfl,rfl⟩:=hrel
  go_upto_region 13 with fail
  replace P1:=qD (P1.out.set (q':=lfZ op (some ⟨b2,off2,none⟩) c2 XA (some ⟨gk,0,none⟩)) 24 (.slice (some ⟨gk,0,none⟩) 0 0) rfl)
  change Code.wp _ _ _ _ (wr.setCell ⟨w.heap.size,24,none⟩ (.slice (some ⟨gk,0,none⟩) 0 0))
  generalize wr.setCell ⟨w.heap.size,24,none⟩ (.slice (some ⟨gk,0,none⟩) 0 0)=wg at*
  clear c24 z24
  have RF:=qD (pr_full P1.out.b0)
  go_wp2_with (first
   | ((with_reducible show wpList _ _ _ (⟨_,.load 41 _,_,_,_,_⟩::_) _ _);refine wpList_mid_w rfl 41 _ rfl w.heap.size 0 rfl _ _ RF.out Tryz.underlying41 rfl (by kernel_rfl) ?_)
   | ((with_reducible show wpList _ _ _ (⟨_,.store 41 _ _,_,_,_,_⟩::_) _ _);refine wpList_store_row rfl 41 _ _ rfl (w.heap.size+1) (arrPr (lfZ op (some ⟨b2,off2,none⟩) c2 XA (some ⟨gk,0,none⟩))) rfl rfl 41 _ P1.out.b1 (by kernel_rfl) rfl (arrPr_all _) ?_))
  exact bodyPost_ret (results_pr rfl _ _ rfl _ _ rfl (blk_row P1.out.b1 _)) rfl ⟨b2,off2,c2,XA,_,rfl,(World.cell?_of_block (a:=⟨b2,off2,none⟩) (setRow_other wg (w.heap.size+1) b2 _ (by have:=P1.out.ge;omega))).trans P1.out.pc,HC2.out,by have:=P1.out.ge;omega,bel_row P1.out.bel (by omega) _⟩
theorem pNorm_any{op:Int}(ho:Two op)(A:Option Addr)(c:Nat)(xA kA:Option Addr)(w:World):Calls Tryz.prog 167 #[aggPr (lfZ op A c xA kA)] w fun e w'=>e=.returned (aggPr (lfZ op A c xA kA))∧Below w.heap.size w w':=by
 have B0:Hid (Blk ((w.alloc (.cells (arrPr (lfZ op A c xA kA)) 41)).alloc (.cells (arrPr PrT.zero) 41)) w.heap.size 41 (arrPr (lfZ op A c xA kA))):=(Blk.new_at rfl).alloc _
 have B1:Hid (Blk ((w.alloc (.cells (arrPr (lfZ op A c xA kA)) 41)).alloc (.cells (arrPr PrT.zero) 41)) (w.heap.size+1) 41 (arrPr PrT.zero)):=Blk.new_at (by simp)
 have BE:Hid (Below w.heap.size w ((w.alloc (.cells (arrPr (lfZ op A c xA kA)) 41)).alloc (.cells (arrPr PrT.zero) 41))):=((Below.refl _ _).alloc (qL) _).alloc (by simp) _
 go_enter Tryz.func167,Tryz.ntmps167
 go_upto_region 1 with fail
 change Code.wp _ _ _ _ ((w.alloc (.cells (arrPr (lfZ op A c xA kA)) 41)).alloc (.cells (arrPr PrT.zero) 41))
 generalize (w.alloc (.cells (arrPr (lfZ op A c xA kA)) 41)).alloc (.cells (arrPr PrT.zero) 41)=wa at*
 have d0:=(B0.out.cell 0).trans (show _=some (Value.int .i64 op) from rfl)
 have RF:=qD (pr_full B0.out)
 rcases ho with rfl|rfl
 ·go_wp2_with (first
   | ((with_reducible show wpList _ _ _ (⟨_,.load 41 _,_,_,_,_⟩::_) _ _);refine wpList_mid_w rfl 41 _ rfl w.heap.size 0 rfl _ _ RF.out Tryz.underlying41 rfl (by kernel_rfl) ?_)
   | ((with_reducible show wpList _ _ _ (⟨_,.store 41 _ _,_,_,_,_⟩::_) _ _);refine wpList_store_row rfl 41 _ _ rfl (w.heap.size+1) (arrPr (lfZ 2 A c xA kA)) rfl rfl 41 _ B1.out (by kernel_rfl) rfl (arrPr_all _) ?_))
  exact bodyPost_ret (results_pr rfl _ _ rfl _ _ rfl (blk_row B1.out _)) rfl ⟨rfl,bel_row BE.out (by omega) _⟩
 ·go_wp2_with (first
   | ((with_reducible show wpList _ _ _ (⟨_,.load 41 _,_,_,_,_⟩::_) _ _);refine wpList_mid_w rfl 41 _ rfl w.heap.size 0 rfl _ _ RF.out Tryz.underlying41 rfl (by kernel_rfl) ?_)
   | ((with_reducible show wpList _ _ _ (⟨_,.store 41 _ _,_,_,_,_⟩::_) _ _);refine wpList_store_row rfl 41 _ _ rfl (w.heap.size+1) (arrPr (lfZ 5 A c xA kA)) rfl rfl 41 _ B1.out (by kernel_rfl) rfl (arrPr_all _) ?_))
  exact bodyPost_ret (results_pr rfl _ _ rfl _ _ rfl (blk_row B1.out _)) rfl ⟨rfl,bel_row BE.out (by omega) _⟩
theorem pNormal_any{op:Int}(ho:Two op)(A:Option Addr)(c:Nat)(w:World)(hT:Tabs w)(hN:NmT w)(hl:ST w A 1 c [(⟨#[97]⟩:ByteArray)]):Calls Tryz.prog 102 #[aggPr (lfZ op A c none none)] w (LfCopy op w):=by
 have B0:Hid (Blk ((w.alloc (.cells (arrPr (lfZ op A c none none)) 41)).alloc (.cells (arrPr PrT.zero) 41)) w.heap.size 41 (arrPr (lfZ op A c none none))):=(Blk.new_at rfl).alloc _
 have B1:Hid (Blk ((w.alloc (.cells (arrPr (lfZ op A c none none)) 41)).alloc (.cells (arrPr PrT.zero) 41)) (w.heap.size+1) 41 (arrPr PrT.zero)):=Blk.new_at (by simp)
 have BE:Hid (Below w.heap.size w ((w.alloc (.cells (arrPr (lfZ op A c none none)) 41)).alloc (.cells (arrPr PrT.zero) 41))):=((Below.refl _ _).alloc (qL) _).alloc (by simp) _
 have HT:=qD hT
 have HN:=qD hN
 have HL:=qD hl
 have HO:=qD ho
 have HLF:=qD (lfZ_lf op A c none none)
 clear hT hN hl ho
 go_enter Tryz.func102,Tryz.ntmps102
 go_upto_region 1 with fail
 change Code.wp _ _ _ _ ((w.alloc (.cells (arrPr (lfZ op A c none none)) 41)).alloc (.cells (arrPr PrT.zero) 41))
 generalize (w.alloc (.cells (arrPr (lfZ op A c none none)) 41)).alloc (.cells (arrPr PrT.zero) 41)=wa at*
 have RF:=qD (pr_full B0.out)
 go_upto_region 3 with(first
  | ((with_reducible show wpList _ _ _ (⟨_,.load 41 _,_,_,_,_⟩::_) _ _);refine wpList_mid_w rfl 41 _ rfl w.heap.size 0 rfl _ _ RF.out Tryz.underlying41 rfl (by kernel_rfl) ?_)
  | (go_at_call 164;refine(pValid_any HLF.out HO.out _ (HT.out.step BE.out) (HL.out.step BE.out)).mono ?_;rintro e w1 ⟨rfl,hb1⟩;have C0:=qD (B0.out.step hb1);have C1:=qD (B1.out.step hb1);have CE:=qD (BE.out.step' hb1);clear hb1))
 clear RF B0 B1 BE
 have RF:=qD (pr_full C0.out)
 go_upto_region 4 with(first
  | ((with_reducible show wpList _ _ _ (⟨_,.load 41 _,_,_,_,_⟩::_) _ _);refine wpList_mid_w rfl 41 _ rfl w.heap.size 0 rfl _ _ RF.out Tryz.underlying41 rfl (by kernel_rfl) ?_)
  | (go_at_call 166;refine(pForm_any HLF.out HO.out _ (HN.out.step CE.out) (HL.out.step CE.out)).mono ?_;rintro e w2 ⟨gf,rfl,hb2⟩))
 change Code.wp _ _ _ _ (w2.alloc (.cells (vcS gf).arr 32))
 have hb3:Below w1.heap.size w1 (w2.alloc (.cells (vcS gf).arr 32)):=hb2.alloc hb2.size _
 generalize w2.alloc (.cells (vcS gf).arr 32)=w3 at*
 have D0:=qD (C0.out.step hb3)
 have D1:=qD (C1.out.step hb3)
 have DE:=qD (CE.out.step' hb3)
 clear hb2 hb3 RF C0 C1 CE
 have RF:=qD (pr_full D0.out)
 go_wp2_with (first
  | ((with_reducible show wpList _ _ _ (⟨_,.load 41 _,_,_,_,_⟩::_) _ _);refine wpList_mid_w rfl 41 _ rfl w.heap.size 0 rfl _ _ RF.out Tryz.underlying41 rfl (by kernel_rfl) ?_)
  | (go_at_call 165;refine(pClonePr_any op A c _ (HL.out.step DE.out)).mono ?_;rintro e w4 ⟨b4,off4,c4,xA,kA,rfl,hst,hc4,hge4,hb4⟩;have E1:=qD (D1.out.step hb4);have EE:=qD (DE.out.step' hb4);have HS:=qD hst;have HC4:=qD hc4;have HG4:Hid (w.heap.size+1<b4):=qD (Nat.lt_of_lt_of_le D1.out.lt hge4);clear hst hc4 hge4 hb4)
  | (go_at_call 167;refine(pNorm_any HO.out _ c4 xA kA _).mono ?_;rintro e w5 ⟨rfl,hb5⟩;have F1:=qD (E1.out.step hb5);have FE:=qD (EE.out.step' hb5);have HS5:=qD ((hb5.cell (World.block_lt_of_cell? w4 _ HS.out)).trans HS.out);clear hb5)
  | ((with_reducible show wpList _ _ _ (⟨_,.store 41 _ _,_,_,_,_⟩::_) _ _);refine wpList_store_row rfl 41 _ _ rfl (w.heap.size+1) (arrPr (lfZ op (some ⟨b4,off4,none⟩) c4 xA kA)) rfl rfl 41 _ F1.out (by kernel_rfl) rfl (arrPr_all _) ?_))
 exact bodyPost_ret (results_pr rfl _ _ rfl _ _ rfl (blk_row F1.out _)) rfl ⟨b4,off4,c4,xA,kA,rfl,(World.cell?_of_block (a:=⟨b4,off4,none⟩) (setRow_other w5 (w.heap.size+1) b4 _ (by have:=HG4.out;omega))).trans HS5.out,HC4.out,by have:=HG4.out;omega,bel_row FE.out (by omega) _⟩
abbrev aP:ByteArray:=⟨#[97]⟩
abbrev bP:ByteArray:=⟨#[98]⟩
theorem Lf.arg'{op:Int}{p:PrT}(h:Lf op p):p.arg=(cI 1,vI 1):=h.arg
theorem Lf.vpr{op:Int}{p:PrT}(h:Lf op p)(ho:op=2∨op=5):VPr p:=by
 have e:=h.op_
 refine VPo.shut ⟨fun _=>?_,fun _=>?_,fun k=>?_,fun k=>?_,fun k=>?_,fun _=>?_,fun _=>?_⟩
 ·rw[h.arg'];exact valid_int 1
 ·rw[h.args];intro x hx;cases hx
 ·omega
 ·omega
 ·omega
 ·rw[h.xs];decide
 ·rw[h.kids];intro x hx;cases hx
theorem Lf.sz{op:Int}{p:PrT}(h:Lf op p):p.sz=1:=by
 rw[p.sz_eq,h.argn,h.kids]
 rfl
theorem Lf.parts{op:Int}{p:PrT}(h:Lf op p)(ho:op=2∨op=5):partsP p=[p]:=by
 unfold partsP
 rw[if_neg (by have:=h.op_;omega)]
def topI:Int:=9223372036854775807
theorem Lf.of2{p:PrT}(h:Lf 2 p):ofS [aP] p=(fun a=>inS cmC a (spansL [ptIv (vI 1)]),true):=by
 rw[ofS_leaf (by have:=h.op_;omega) (by have:=h.op_;omega) h.xs,h.op_,h.arg',h.args]
 unfold leafS leafI
 rw[if_pos rfl,if_neg (by show ¬(3:Int)=6;omega)]
 simp only[Prod.mk.injEq,true_and]
 exact decide_eq_true (by show(3:Int)≠2;omega)
theorem Lf.of5{p:PrT}(h:Lf 5 p):ofS [aP] p=(fun a=>inS cmC a (spansL [ivI 1 topI true true]),true):=by
 rw[ofS_leaf (by have:=h.op_;omega) (by have:=h.op_;omega) h.xs,h.op_,h.arg',h.args]
 unfold leafS leafI
 rw[if_neg (by omega),if_pos (by omega),if_neg (by show ¬(3:Int)=6;omega)]
 have e:limI 5 (vI 1)=ivI 1 topI true true:=by
  unfold limI
  rw[if_pos (by omega)]
  have e3:rangeI (vI 1).k=⟨leastV 3,.mk 3 9223372036854775807 ByteArray.empty [] [],true,true⟩:=by
   unfold rangeI
   rw[if_pos (.inl rfl)]
   rfl
  rw[e3]
  rfl
 simp only[Prod.mk.injEq]
 refine⟨?_,decide_eq_true (by show(3:Int)≠2;omega)⟩
 show(fun a=>inS cmC a (spansL [limI 5 (vI 1)]))=_
 rw[e]
theorem Lf.ofb{op:Int}{p:PrT}(h:Lf op p)(ho:op=2∨op=5):ofS [bP] p=(allS,false):=
 ofS_else (by have:=h.op_;omega) (by have:=h.op_;omega) (by rw[h.xs];intro e;injection e with e1 e2;revert e1;decide)
theorem sp_pt:spansL [ptIv (vI 1)]=[(cuI 1 false,cuI 1 true)]:=by
 rw[spansL_all (by intro x hx;simp at hx;subst hx;rw[pt_ne];exact valid_int _)];rfl
theorem sp_up:spansL [ivI 1 topI true true]=[(cuI 1 false,cuI topI true)]:=by
 rw[spansL_all (by intro x hx;simp at hx;subst hx;exact ne_int (by decide))];rfl
theorem nf_pt:IsNF (fun a=>inS cmC a (spansL [ptIv (vI 1)])) [(cuI 1 false,cuI 1 true)]:=
 ⟨⟨fun s hs=>by simp at hs;subst hs;exact⟨by rw[cm_int];decide,V_int _ _,V_int _ _⟩,by simp⟩,fun a=>by rw[sp_pt]⟩
theorem nf_up:IsNF (fun a=>inS cmC a (spansL [ivI 1 topI true true])) [(cuI 1 false,cuI topI true)]:=
 ⟨⟨fun s hs=>by simp at hs;subst hs;exact⟨by rw[cm_int];decide,V_int _ _,V_int _ _⟩,by simp⟩,fun a=>by rw[sp_up]⟩
theorem pt_in_up{a:Cut}(h:inS cmC a (spansL [ptIv (vI 1)])):inS cmC a (spansL [ivI 1 topI true true]):=by
 rw[sp_pt,inS_one] at h
 rw[sp_up,inS_one]
 have c:cmC (cuI 1 true) (cuI topI true)<0:=by rw[cm_int];decide
 have t2:=lin_cut.tr a (cuI 1 true) (cuI topI true)
 unfold TR at t2
 dsimp only at h ⊢
 exact⟨h.1,by have:=t2 (by omega) (by omega);omega⟩
theorem meet_pt:IsNF (fun a=>inS cmC a (spansL [ptIv (vI 1)])∧inS cmC a (spansL [ivI 1 topI true true])) [(cuI 1 false,cuI 1 true)]:=
 ⟨nf_pt.1,fun a=>(nf_pt.2 a).trans ⟨fun h=>⟨h,pt_in_up h⟩,fun h=>h.1⟩⟩
theorem meet_pt':IsNF (fun a=>inS cmC a (spansL [ivI 1 topI true true])∧inS cmC a (spansL [ptIv (vI 1)])) [(cuI 1 false,cuI 1 true)]:=
 ⟨nf_pt.1,fun a=>(nf_pt.2 a).trans ⟨fun h=>⟨pt_in_up h,h⟩,fun h=>h.2⟩⟩
theorem pt_all{a:Cut}(h:inS cmC a (spansL [ptIv (vI 1)])):allS a:=by
 rw[sp_pt,inS_one] at h
 refine(all_nf.2 a).1 ?_
 rw[inS_one]
 dsimp only at h ⊢
 have c1:=min_lt_int 1 false
 have c2:=int_lt_max 1 true
 have t1:=lin_cut.tr (vMin,false) (cuI 1 false) a
 have t2:=lin_cut.tr a (cuI 1 true) (vMax,true)
 unfold TR at t1 t2
 exact⟨by have:=t1 (by omega) h.1;omega,by have:=t2 (by omega) (by omega);omega⟩
theorem for_pt{p q:PrT}(hp:Lf 2 p)(hq:Lf 5 q):IsNF (forP [aP] [p,q]) [(cuI 1 false,cuI 1 true)]:=
 ⟨nf_pt.1,fun a=>(nf_pt.2 a).trans ⟨fun h=>⟨pt_all h,fun k hk=>by
  simp at hk
  rcases hk with rfl|rfl
  ·rw[hp.of2];exact h
  ·rw[hq.of5];exact pt_in_up h⟩,fun h=>by have:=h.2 p (by simp);rw[hp.of2] at this;exact this⟩⟩
theorem pt_ne_up:[(cuI 1 false,cuI 1 true)]≠[(cuI 1 false,cuI topI true)]:=by
 intro e
 injection e with e1 _
 injection e1 with _ e2
 have:cmC (cuI 1 true) (cuI topI true)<0:=by rw[cm_int];decide
 rw[e2] at this
 rw[cm_int] at this
 revert this
 decide
theorem pt_ne_all:[(cuI 1 false,cuI 1 true)]≠[((vMin,false),(vMax,true))]:=by
 intro e
 injection e with e1 _
 injection e1 with e2 _
 have:=min_lt_int 1 false
 rw[←e2,cm_int] at this
 revert this
 decide
theorem up_ne_all:[(cuI 1 false,cuI topI true)]≠[((vMin,false),(vMax,true))]:=by
 intro e
 injection e with e1 _
 injection e1 with e2 _
 have:=min_lt_int 1 false
 rw[←e2,cm_int] at this
 revert this
 decide
theorem nf_notAll{S:Cut→Prop}{n:List (Cut×Cut)}(h:IsNF S n)(hn:n≠[((vMin,false),(vMax,true))]):isAllB S=false:=by
 cases e:isAllB S
 ·rfl
 ·exact absurd ((nf_isAll h).2 e) hn
theorem bBuild_any{op:Int}{p:PrT}(h:Lf op p)(ho:Two op)(w:World):Calls Tryz.prog 101 #[aggPr p] w fun e w'=>e=.returned (.bool true)∧Below w.heap.size w w':=by
 have B0:Hid (Blk (w.alloc (.cells (arrPr p) 41)) w.heap.size 41 (arrPr p)):=Blk.new_at rfl
 have BE:=qD ((Below.refl w.heap.size w).alloc (qL) (Obj.cells (arrPr p) 41))
 go_enter Tryz.func101,Tryz.ntmps101
 go_upto_region 1 with fail
 change Code.wp _ _ _ _ (w.alloc (.cells (arrPr p) 41))
 generalize w.alloc (.cells (arrPr p) 41)=wa at*
 have d0:=(pr_cells B0.out).d0
 have d24:=(pr_cells B0.out).d24
 rw[h.op_] at d0
 rw[h.kn] at d24
 clear h
 rcases ho with rfl|rfl
 all_goals
  go_upto_region 6 with fail
  go_loopw [21] (fun v wr=>v=.int .i64 0∧wr=wa) (fun _ _=>0)
  case atStart=>exact⟨rfl,rfl⟩
  case round=>
   obtain⟨rfl,rfl⟩:=hrel
   go_wp2_with fail
   go_ret
   exact⟨rfl,BE.out⟩
theorem bSame_any{op op':Int}{p q:PrT}(h:Lf op p)(h':Lf op' q)(hne:op≠op')(w:World):Calls Tryz.prog 168 #[aggPr p,aggPr q] w fun e w'=>e=.returned (.bool false)∧Below w.heap.size w w':=by
 have B0:Hid (Blk ((w.alloc (.cells (arrPr p) 41)).alloc (.cells (arrPr q) 41)) w.heap.size 41 (arrPr p)):=(Blk.new_at rfl).alloc _
 have B1:Hid (Blk ((w.alloc (.cells (arrPr p) 41)).alloc (.cells (arrPr q) 41)) (w.heap.size+1) 41 (arrPr q)):=Blk.new_at (by simp)
 have BE:Hid (Below w.heap.size w ((w.alloc (.cells (arrPr p) 41)).alloc (.cells (arrPr q) 41))):=((Below.refl _ _).alloc (qL) _).alloc (by simp) _
 have hb:(op==op')=false:=by simpa using hne
 go_enter Tryz.func168,Tryz.ntmps168
 go_upto_region 1 with fail
 change Code.wp _ _ _ _ ((w.alloc (.cells (arrPr p) 41)).alloc (.cells (arrPr q) 41))
 generalize (w.alloc (.cells (arrPr p) 41)).alloc (.cells (arrPr q) 41)=wa at*
 have d0:=(pr_cells B0.out).d0
 have e0:=(pr_cells B1.out).d0
 rw[h.op_] at d0
 rw[h'.op_] at e0
 clear h h' hne
 go_wp2_with fail
 go_ret
 exact⟨rfl,BE.out⟩
end Go.Proofs.YtfkdihlbaghajaaGreatDoor
