/- Parts of the proof, joined: MrShort, Kit, Kit2, Val, ValPure, Kit3, Kit4, ValEach, ValName, ValSoundPure, EncPure, EncNum, Kit5. -/
import Derived.Test.YthfahkaadbdicaaGreatDoorRows
import Derived.Deep.RegionHeld3
import Derived.Maps.RangeWalk
import Derived.Lib.Hide
import Derived.WalkKit
import Derived.WalkSpells
import Derived.WalkLawsBesides
import Derived.Deep.QuietTactic
import Derived.BigQuiet
import Derived.Deep.DeepCutAuto
import Derived.Deep.CutBlock
import Derived.Laws.Rows
import Derived.Laws.ResultCell
import Derived.RegionTactic
import Derived.BigRegion
import Derived.Maps.AppendAt
import Derived.Deep.AppendLies
import Derived.OwnWalk
import Derived.Deep.RegionLaw
import Derived.StillTail
import Derived.IntWalk
import Derived.Shelf.Abstract
import Derived.Lib.ValidU
import Derived.Laws.BytesArg
import Derived.Laws.Strings
set_option maxRecDepth 100000
set_option maxHeartbeats 16000000
set_option linter.unusedSimpArgs false
open Go.Proofs.Tryz
open ByteArray (empty)
namespace Go
abbrev LH:=@Go.RowKit.Below.refl
abbrev LI:=@List.getElem?_eq_getElem
abbrev LJ:=@List.getElem?_eq_some_iff
abbrev LL:=@Nat.zero_add
abbrev LM:=@List.length_append
abbrev LN:=@decide_eq_true
abbrev LO:=@List.eq_nil_of_length_eq_zero
abbrev LP:=@List.mem_of_getElem?
abbrev LQ:=@Nat.zero_le
abbrev LS:=@List.take_of_length_le
abbrev LU:=@if_neg
abbrev LV:=@List.getElem?_map
abbrev LW:=@decide_eq_false
abbrev LY:=@List.mem_append
abbrev LZ:=@if_pos
abbrev La:=@List.drop_of_length_le
abbrev Lb:=@List.length_map
abbrev Lc:=@List.map_append
abbrev Ld:=@List.append_assoc
abbrev Le:=@List.pairwise_append
abbrev Lf:=@List.take_append_drop
abbrev Lg:=@Bool.eq_iff_iff
abbrev Lh:=@List.getElem?_append_right
abbrev Li:=@List.mem_cons
abbrev Lj:=@List.cons_append
abbrev Lk:=@Array.getElem?_toList
abbrev Ll:=@List.length_cons
abbrev Lm:=@List.append_nil
abbrev Ln:=@Go.wpQuiet_nil
abbrev Lo:=@Nat.lt_succ_self
abbrev Lp:=@Go.bodyPost_ret
abbrev Lr:=@Go.World.block_lt_of_cell?
abbrev Ls:=@Go.Proofs.Tryz.ntmps78
abbrev Lt:=@Nat.le_trans
abbrev Lu:=@Go.Proofs.Tryz.underlying84
abbrev Lv:=@Array.length_toList
abbrev Lw:=@Go.Proofs.Tryz.func78
abbrev Lx:=@List.length_take
abbrev Ly:=@Go.Proofs.Tryz.underlying38
abbrev MA:=@Go.RowKit.Below.heap_setCell
abbrev MB:=@Go.Proofs.Tryz.underlying9
abbrev MC:=@List.nil_append
abbrev MD:=@Go.ByteArray.toList_eq
abbrev ME:=@Bool.and_eq_true
abbrev MF:=@Go.wpList_store_row
abbrev MG:=@List.getElem?_append_left
abbrev MH:=@Nat.eq_zero_or_pos
abbrev MJ:=@Go.Proofs.Tryz.underlying47
abbrev MK:=@List.getElem?_of_mem
abbrev ML:=@Go.wp_region_held_drew
abbrev MM:=@Go.Proofs.Tryz.underlying116
abbrev MN:=@Go.Proofs.Tryz.ntmps26
abbrev MO:=@Go.wpAnyH_take
abbrev MP:=@Option.some.injEq
abbrev MQ:=@Go.strOfNums_size
abbrev MR:=@Go.RowKit.Below.setCell
abbrev MS:=@List.mem_map
abbrev MT:=@List.mem_map_of_mem
abbrev MU:=@Nat.mul_le_mul_right
abbrev MV:=@Go.Proofs.Tryz.func26
abbrev MW:=@List.take_add_one
abbrev MX:=@Go.wp_region_noPanic
abbrev MY:=@Go.Proofs.Tryz.underlying3
abbrev MZ:=@UInt8.lt_iff_toNat_lt
abbrev Ma:=@Go.Proofs.Tryz.underlying80
abbrev Mb:=@List.map_cons
abbrev Mc:=@Go.info_parts
abbrev Md:=@List.map_singleton
abbrev Me:=@Go.World.cell?_of_block
abbrev Mf:=@Go.NoPanic.normal
abbrev Mg:=@decide_eq_true_eq
abbrev Mh:=@Go.Proofs.Tryz.underlying26
abbrev Mi:=@List.pairwise_cons
abbrev Mj:=@Option.map_some
abbrev Mk:=@Option.some.inj
abbrev Ml:=@List.cons.injEq
abbrev Mm:=@Go.DataW.trod_int
abbrev Mn:=@Option.map_eq_some_iff
abbrev Mo:=@List.drop_eq_getElem_cons
abbrev Mp:=@List.length_nil
abbrev Mq:=@Array.toList_inj
abbrev Mr:=@UInt8.toNat_inj
abbrev Ms:=@Nat.add_zero
abbrev Mt:=@Go.Proofs.Tryz.underlying29
abbrev Mu:=@Go.DataW.trod_struct
abbrev Mv:=@Nat.lt_of_lt_of_le
abbrev Mw:=@ByteArray.ext
abbrev Mx:=@List.getElem?_toArray
abbrev My:=@List.concat_eq_append
abbrev Mz:=@List.getElem_mem
abbrev NA:=@Option.bind_eq_some_iff
abbrev NB:=@Go.World.cell?_setCell_other
abbrev NC:=@Go.Proofs.Tryz.underlying5
abbrev NH:=@List.getElem?_range
abbrev NI:=@List.eq_nil_or_concat
abbrev NJ:=@decide_eq_true_iff
abbrev NK:=@List.length_set
abbrev NL:=@Go.Proofs.Tryz.underlying4
abbrev NM:=@Go.Proofs.Tryz.underlying27
abbrev NN:=@of_decide_eq_true
abbrev NO:=@Go.DataW.trod_string
abbrev NP:=@Go.run_convert_bytes_arg
abbrev NQ:=@Go.World.cell?_setCell_same
abbrev NR:=@List.map_nil
abbrev NS:=@Nat.lt_or_ge
abbrev NT:=@Go.Result.andThen_ok
abbrev NU:=@List.map_map
abbrev NV:=@List.length_eq_one_iff
abbrev NW:=@and_true
abbrev NX:=@List.take_succ_cons
abbrev NY:=@Array.getElem?_eq_getElem
abbrev NZ:=@List.pairwise_iff_getElem
abbrev Na:=@Go.Lib.run_eql_slice_nil
abbrev Nb:=@List.set_append_right
abbrev Nc:=@Go.Proofs.Tryz.underlying163
abbrev Nd:=@List.getElem?_take
abbrev Nf:=@Go.DataW.trod_slice
abbrev Ng:=@Go.Sem.run_bind
abbrev Nh:=@Nat.lt_irrefl
abbrev Ni:=@Go.Proofs.Tryz.ntmps36
abbrev Nj:=@Go.Proofs.Tryz.underlying35
abbrev Nk:=@Nat.lt_trichotomy
abbrev Nl:=@List.drop_eq_nil_of_le
abbrev Nn:=@Nat.add_mul
abbrev No:=@Go.Proofs.Tryz.func36
abbrev Np:=@Go.RowKit.Below.heap_alloc
abbrev Nq:=@List.isEmpty_iff
abbrev Nr:=@List.getElem?_drop
abbrev Ns:=@beq_iff_eq
abbrev Nt:=@Array.getElem?_eq_some_iff
abbrev Nu:=@List.mem_filter
abbrev Nv:=@List.pairwise_map
abbrev Nw:=@List.mem_of_mem_take
abbrev Nx:=@List.getElem?_take_of_lt
abbrev Ny:=@beq_eq_false_iff_ne
abbrev Nz:=@List.length_drop
abbrev OA:=@Go.strOfNums_data
abbrev OB:=@List.filter_cons
abbrev OD:=@List.any_eq_true
abbrev OE:=@Go.WideShapes.bytes_inj
abbrev OF:=@List.take_append_of_le_length
abbrev OG:=@List.drop_append_of_le_length
abbrev OH:=@Array.getElem?_eq_none
abbrev OI:=@Go.Sem.run_pure
abbrev OJ:=@Nat.zero_mul
abbrev OK:=@List.all_append
abbrev OL:=@Prod.mk.injEq
abbrev OM:=@List.drop_length_add_append
abbrev ON:=@Go.Proofs.Tryz.underlying56
abbrev OO:=@Bool.and_false
abbrev OP:=@List.mem_cons_of_mem
abbrev OQ:=@List.mem_range
abbrev OS:=@List.perm_append_singleton
abbrev OT:=@List.mem_append_left
abbrev OU:=@List.mem_flatMap
abbrev OV:=@Go.wpList_store_mid
abbrev OW:=@List.getLast?_eq_getElem?
abbrev OX:=@List.drop_succ_cons
abbrev OY:=@List.length_take_le
abbrev OZ:=@List.drop_eq_getElem?_toList_append
abbrev Oa:=@Go.Proofs.Tryz.ntmps220
abbrev Ob:=@Go.Proofs.Tryz.ntmps146
abbrev Oc:=@Go.Proofs.Tryz.ntmps176
abbrev Oe:=@Go.Proofs.Tryz.ntmps100
abbrev Of:=@UInt8.toNat_ofNat'
abbrev Og:=@List.mem_singleton
abbrev Oh:=@Nat.add_sub_cancel
abbrev Oi:=@decide_eq_false_iff_not
abbrev Oj:=@Nat.mul_one
abbrev Ol:=@List.getElem?_replicate
abbrev Om:=@List.set_eq_take_append_cons_drop
abbrev On:=@Go.World.frozen?_of_block
abbrev Oo:=@Go.run_underlying
abbrev Oq:=@List.take_zero
abbrev Ot:=@List.all_eq_false
abbrev Ou:=@if_true
abbrev Ov:=@Go.Proofs.Tryz.ntmps60
abbrev Ow:=@ByteArray.size_extract
abbrev Ox:=@Go.Proofs.Tryz.func220
abbrev Oy:=@Go.Proofs.Tryz.underlying32
abbrev Oz:=@Go.Proofs.Tryz.func146
abbrev PB:=@Go.Proofs.Tryz.func176
abbrev PD:=@Go.Proofs.Tryz.underlying53
abbrev PE:=@List.getElem?_set_self
abbrev PG:=@Nat.succ_mul
abbrev PH:=@Go.Proofs.Tryz.underlying73
abbrev PJ:=@Go.Proofs.Tryz.func100
abbrev PK:=@ByteArray.size_append
abbrev PL:=@List.Pairwise.sublist
abbrev PM:=@List.take_length
abbrev PN:=@List.all_eq_true
abbrev PO:=@Go.IntKind.wrap_u64
abbrev PP:=@List.perm_middle
abbrev PQ:=@List.isEmpty_nil
abbrev PR:=@Option.getD_some
abbrev PT:=@Nat.add_assoc
abbrev PU:=@Go.Proofs.Tryz.func60
abbrev PW:=@List.getElem?_set_ne
abbrev PX:=@List.mem_iff_getElem
abbrev PY:=@List.dropLast_concat
abbrev PZ:=@List.map_congr_left
abbrev Pb:=@List.getElem_of_mem
abbrev Pc:=@Go.Proofs.Tryz.ntmps50
abbrev Pd:=@Go.Proofs.Tryz.ntmps62
abbrev Pe:=@List.take_length_add_append
abbrev Pf:=@Go.Proofs.Tryz.ntmps54
abbrev Pg:=@Bool.or_true
abbrev Ph:=@List.getD_eq_getElem?_getD
abbrev Pj:=@Bool.false_eq_true
abbrev Pk:=@List.extract_eq_take_drop
abbrev Pl:=@List.rel_of_pairwise_cons
abbrev Pm:=@List.getElem?_eq_none_iff
abbrev Pn:=@Classical.byContradiction
abbrev Po:=@Go.Proofs.Tryz.func50
abbrev Pp:=@Go.Proofs.Tryz.func62
abbrev Pq:=@Go.Proofs.Tryz.func54
abbrev Pr:=@List.any_eq_false
abbrev Ps:=@Int.lt_trichotomy
abbrev Pt:=@Bool.not_eq_true'
abbrev Pu:=@List.foldl_append
abbrev Pv:=@Go.Proofs.Tryz.ntmps187
abbrev Pw:=@Go.Proofs.Tryz.ntmps108
abbrev Px:=@Go.Proofs.Tryz.ntmps182
abbrev Py:=@List.any_cons
abbrev Pz:=@Go.Proofs.Tryz.ntmps206
abbrev QB:=@Go.Proofs.Tryz.ntmps107
abbrev QC:=@Bool.true_and
abbrev QD:=@List.sum_cons
abbrev QE:=@Go.results_cell_tmp
abbrev QF:=@BitVec.toNat_xor
abbrev QG:=@Go.IntKind.wrap_i64
abbrev QH:=@Go.IntKind.wrap_u32
abbrev QI:=@List.head?_drop
abbrev QJ:=@Go.run_loadVar_row
abbrev QK:=@UInt8.toNat_add
abbrev QL:=@Go.DataW.trod_bool
abbrev QM:=@List.drop_zero
abbrev QN:=@List.take_left
abbrev QO:=@Bool.false_and
abbrev QP:=@congr
abbrev QQ:=@List.all_cons
theorem qD {p:Prop} (h:p) : RowKit.Hid p := h
theorem qL {n:Nat} : n<=n := Nat.le_refl n
theorem rO {l r : List Oper} {i : Nat} {o : Oper} (h : l.drop i = o :: r) : l.toArray[i]? = some o := by
 have := congrArg List.head? h;rw [QI] at this;simpa using this
section
variable {P:Program} {l r:List Oper} {Q:Exit->Act->World->Prop} {md:Region.Mode} {S:World->Prop} {o:Oper} {v:Value} {fuel:Nat} {listed:Array Bool} {a:Act} {w:World} {rs:List Nat}
theorem rT (i:Nat) (hi:l.drop i=o::r) (hy:∀w,S w->Sem.run P (execOp a.eval o) w=Result.ok (Next.value v) w) (h:wpAnyH P md l.toArray Q S fuel (listed.setIfInBounds i true) (a.put o.dst v) w) (h1:Region.noSelect l.toArray=true:=by kernel_rfl) (h2:Region.free md l.toArray listed i=true:=by kernel_rfl) (h3:(Region.ready md l.toArray listed).contains i=true:=by kernel_rfl) (h4:∀(c:List PanicEntry) (a:Act) (w:World),Q (Exit.panic c) (a.put o.dst v) w->Q (Exit.panic c) a w:=by exact fun _ _ _ h=>h) (h5:Region.wanted o (yielded l.toArray a.tmps)=true:=by rfl) (hS:S w:=by assumption):wpAnyH P md l.toArray Q S (fuel+1) listed a w:=MO (rO hi) h1 h2 h3 h4 (Or.inl ⟨h5,hy⟩) hS h
theorem rU (i:Nat) (hi:l.drop i=o::r) (h:wpAnyH P md l.toArray Q S fuel (listed.setIfInBounds i true) (a.put o.dst v) w) (h1:Region.noSelect l.toArray=true:=by kernel_rfl) (h2:Region.free md l.toArray listed i=true:=by kernel_rfl) (h3:(Region.ready md l.toArray listed).contains i=true:=by kernel_rfl) (h4:∀(c:List PanicEntry) (a:Act) (w:World),Q (Exit.panic c) (a.put o.dst v) w->Q (Exit.panic c) a w:=by exact fun _ _ _ h=>h) (h5:Region.wanted o (yielded l.toArray a.tmps)=true:=by rfl) (hy:∀w,S w->Sem.run P (execOp a.eval o) w=Result.ok (Next.value v) w:=by intro w' hSw;(try dsimp only at hSw);go_simp;(try with_reducible rfl)) (hS:S w:=by assumption):wpAnyH P md l.toArray Q S (fuel+1) listed a w:=MO (rO hi) h1 h2 h3 h4 (Or.inl ⟨h5,hy⟩) hS h
theorem rR (rs:List Nat) (h:AllReadyH P md l.toArray Q S fuel listed a w rs) (hr:Region.ready md l.toArray listed=rs:=by kernel_rfl) (hn:rs≠[]:=by simp):wpAnyH P md l.toArray Q S (fuel+1) listed a w:=wpAnyH_ready hr hn h
theorem rC {i:Nat} (h:∀K':Act->World->Prop,Shut (∀(a:Act) (w:World),S w->(S w->wpAnyH P md l.toArray Q S fuel (listed.setIfInBounds i true) a w)->K' a w)->if Region.wanted o (yielded l.toArray a.tmps)=true then Oper.wp P o a w K' Q else K' (a.put o.dst undef) w) (h2:AllReadyH P md l.toArray Q S fuel listed a w rs) (hi:l.drop i=o::r:=by rfl):AllReadyH P md l.toArray Q S fuel listed a w (i::rs):=AllReadyH.cons (rO hi) h h2
theorem rN:AllReadyH P md l.toArray Q S fuel listed a w []:=AllReadyH.nil
theorem rY (i:Nat) (hi:l.drop i=o::r) (h:∀K':Act->World->Prop,Shut (∀(a:Act) (w:World),S w->(S w->wpAnyH P md l.toArray Q S fuel (listed.setIfInBounds i true) a w)->K' a w)->if Region.wanted o (yielded l.toArray a.tmps)=true then Oper.wp P o a w K' Q else K' (a.put o.dst undef) w) (hr:Region.ready md l.toArray listed=[i]:=by kernel_rfl):wpAnyH P md l.toArray Q S (fuel+1) listed a w:=wpAnyH_ready hr (by simp) (AllReadyH.cons (rO hi) h AllReadyH.nil)
theorem rD (h:Q Exit.normal a w) (f:Nat) (hr:Region.ready md l.toArray listed=[]:=by kernel_rfl):wpAnyH P md l.toArray Q S f listed a w:=wpAnyH_done hr h f
end
end Go
namespace Go.Proofs.YthfahkaadbdicaaGreatDoor
open Go.RowKit
end Go.Proofs.YthfahkaadbdicaaGreatDoor
namespace Go.RowKit
theorem Below.step{W w1 w2:World}(h:Below W.heap.size W w1)(k:Below w1.heap.size w1 w2):Below W.heap.size W w2:=h.trans (k.mono h.size)
end Go.RowKit
namespace Go.Proofs.YthfahkaadbdicaaGreatDoor
open Go.RowKit
end Go.Proofs.YthfahkaadbdicaaGreatDoor
namespace Go.RowKit
theorem Below.drewN{B:Nat}{a w:World}(h:Below B a w)(n:Nat):Below B a (w.drewN n):=⟨h.os,h.tape,h.output,h.size,h.block⟩
end Go.RowKit
namespace Go.Proofs.YthfahkaadbdicaaGreatDoor
open Go.RowKit
structure BW(w:World) where
 val:World
 below:Below w.heap.size w val
instance (w:World):Nonempty (BW w):=⟨⟨w,LH _ _⟩⟩
theorem BW.cell{w:World}(k:BW w){a:Addr}{v:Value}(h:w.cell? a=some v):k.val.cell? a=some v:=
 (k.below.cell (Lr w a h)).trans h
theorem aL{P:Program}{id:Nat}{Q:Exit->Act->World->Prop}{a:Act}{w:World}{l:List Oper}(hm:P.follows .mixedOrders=true)(hB:Region.lexB .any l.toArray=true)(h:wpQuiet P l.toArray (fun w'=>∃k:BW w,w'=k.val) (fun a'=>∀w',(∃k:BW w,w'=k.val)->Q .normal a' w') l a):(Code.region id l.toArray true).wp P Q a w:=
 wp_region_quiet (C:=fun w'=>∃k:BW w,w'=k.val) hm hB ⟨⟨w.drew,(LH _ _).drew⟩,rfl⟩ (by simpa using h)
theorem Calls.bw{P:Program}{f:FuncId}{args:Array Value}{w:World}{k:BW w}{v:Value}(h:Calls P f args k.val fun e w'=>e=.returned v/\Below k.val.heap.size k.val w'):Calls P f args k.val fun e w''=>e=.returned v/\∃k:BW w,w''=k.val:=
 h.mono fun _ _ ⟨he,hb⟩=>⟨he,⟨_,k.below.step hb⟩,rfl⟩
def aE(w:World)(g:Nat)(t:TypeId)(cs:Array Value):Prop:=w.heap[g]?=some (.cells cs t (0,0))
section
variable {w w':World} {g:Nat} {t:TypeId} {cs:Array Value}
theorem aE.lt(h:aE w g t cs):g<w.heap.size:=by
 rcases NS g w.heap.size with hlt|hge
 ·exact hlt
 ·unfold aE at h;rw[OH hge] at h;cases h
theorem aE.cell(h:aE w g t cs)(i:Nat):w.cell? ⟨g,i,none⟩=cs[i]?:=cell_of_row w g i cs t (0,0) h
theorem aE.frozen(h:aE w g t cs)(i:Nat):w.frozen? ⟨g,i,none⟩=false:=by
 unfold aE at h;simp[World.frozen?,h]
theorem aE.new(w:World)(t:TypeId)(cs:Array Value):aE (w.alloc (.cells cs t)) w.heap.size t cs:=heap_alloc_new w _
theorem aE.Jq{w:World}{g:Nat}{t:TypeId}{cs:Array Value}(h:g=w.heap.size):aE (w.alloc (.cells cs t)) g t cs:=by rw[h];exact aE.new w t cs
theorem aE.drew(h:aE w g t cs):aE w.drew g t cs:=h
theorem aE.alloc(h:aE w g t cs)(o:Obj):aE (w.alloc o) g t cs:=(Np w o g h.lt).trans h
theorem aE.Js(h:aE w g t cs)(i:Nat)(u:Value):aE (w.setCell ⟨g,i,none⟩ u) g t (cs.setIfInBounds i u):=by
 unfold aE at h ⊢;simp[World.setCell,Array.getElem?_modify,h]
theorem aE.Jz(h:aE w g t cs){p:Addr}(hp:g≠p.block)(u:Value):aE (w.setCell p u) g t cs:=(MA w p u g hp).trans h
theorem aE.below{B:Nat}(h:aE w g t cs)(hb:Below B w w')(hg:g<B):aE w' g t cs:=(hb.block g hg).trans h
theorem aE.grown{row:Option Nat}(h:aE w g t cs)(hb:w.grownBy w' row)(hg:some g≠row):aE w' g t cs:=(hb.block g h.lt hg).trans h
end
theorem aE.step{w w':World}{g:Nat}{t:TypeId}{cs:Array Value}(h:aE w g t cs)(hb:Below w.heap.size w w'):aE w' g t cs:=h.below hb h.lt
theorem lV(w:World)(o:Obj):(w.alloc o).heap.size=w.heap.size+1:=by simp
structure VC where
 k:Int
 n:Int
 t:ByteArray
 LA:Option Addr
 ln:Nat
 lc:Nat
 DA:Option Addr
 dn:Nat
 dc:Nat
abbrev VC.val(v:VC):Value:=.agg #[.int .i64 v.k,.int .i64 v.n,.string v.t,.slice v.LA v.ln v.lc,.slice v.DA v.dn v.dc]
abbrev VC.arr(v:VC):Array Value:=#[.int .i64 v.k,.int .i64 v.n,.string v.t,.slice v.LA v.ln v.lc,.slice v.DA v.dn v.dc]
def VC.list(c:VC):List Value:=[.int .i64 c.k,.int .i64 c.n,.string c.t,.slice c.LA c.ln c.lc,.slice c.DA c.dn c.dc]
def VC.zero:VC:=⟨0,0,empty,none,0,0,none,0,0⟩
def bS(w:World)(b off:Nat)(v:VC):Prop:=
 w.cell? ⟨b,off,none⟩=some (.int .i64 v.k)/\w.cell? ⟨b,off+1,none⟩=some (.int .i64 v.n)/\w.cell? ⟨b,off+2,none⟩=some (.string v.t)/\
 w.cell? ⟨b,off+3,none⟩=some (.slice v.LA v.ln v.lc)/\w.cell? ⟨b,off+4,none⟩=some (.slice v.DA v.dn v.dc)
theorem bS.lt{w:World}{b off:Nat}{v:VC}(h:bS w b off v):b<w.heap.size:=Lr w ⟨b,off,none⟩ h.1
theorem bS.keep{w w':World}{b off:Nat}{v:VC}(h:bS w b off v)(hb:w'.heap[b]?=w.heap[b]?):bS w' b off v:=by
 have e:∀o,w'.cell? ⟨b,o,none⟩=w.cell? ⟨b,o,none⟩:=fun o=>Me (w:=w) (a:=⟨b,o,none⟩) hb;exact⟨(e _).trans h.1,(e _).trans h.2.1,(e _).trans h.2.2.1,(e _).trans h.2.2.2.1,(e _).trans h.2.2.2.2⟩
theorem bS.step{w w':World}{b off:Nat}{v:VC}(h:bS w b off v)(hb:Below w.heap.size w w'):bS w' b off v:=h.keep (hb.block b h.lt)
theorem bS.Jr{w:World}{b:Nat}{t:TypeId}{v:VC}(h:aE w b t v.arr):bS w b 0 v:=by
 refine⟨?_,?_,?_,?_,?_⟩<;>rw[h.cell]<;>rfl
abbrev cy(w:World)(b off:Nat)(v:VC):World:=
 ((((w.setCell ⟨b,off,none⟩ (.int .i64 v.k)).setCell ⟨b,off+1,none⟩ (.int .i64 v.n)).setCell ⟨b,off+2,none⟩ (.string v.t)).setCell ⟨b,off+3,none⟩ (.slice v.LA v.ln v.lc)).setCell ⟨b,off+4,none⟩ (.slice v.DA v.dn v.dc)
theorem aE.KF{w:World}{g:Nat}{t:TypeId}{u:VC}(h:aE w g t u.arr)(v:VC):aE (cy w g 0 v) g t v.arr:=
 ((((h.Js 0 _).Js 1 _).Js 2 _).Js 3 _).Js 4 _
theorem aE.KI{w:World}{g:Nat}{t:TypeId}{cs:Array Value}(h:aE w g t cs){b:Nat}(hne:g≠b)(off:Nat)(v:VC):aE (cy w b off v) g t cs:=
 ((((h.Jz hne _).Jz hne _).Jz hne _).Jz hne _).Jz hne _
theorem cH{B:Nat}{a w:World}(h:Below B a w){b:Nat}(hB:B<=b)(off:Nat)(v:VC):Below B a (cy w b off v):=
 ((((h.setCell hB _).setCell hB _).setCell hB _).setCell hB _).setCell hB _
theorem bM{α:Type}{l:List α}{i:Nat}{a:α}(h:l[i]?=some a):l.drop i=a::l.drop (i+1):=by
 rw[OZ,h];rfl
end Go.Proofs.YthfahkaadbdicaaGreatDoor
namespace Go.RowKit
theorem Below.Jp{B:Nat}{W w1 w2:World}(h:Below B W w1)(k:Below w1.heap.size w1 w2)(hB:B<=W.heap.size:=by exact qL):Below B W w2:=h.trans (k.mono (Lt hB h.size))
end Go.RowKit
namespace Go.Proofs.YthfahkaadbdicaaGreatDoor
open Go.RowKit
theorem bn(g off j:Nat):(⟨g,off,none⟩:Addr).add j=⟨g,off+j,none⟩:=by
 unfold Addr.add;split
 ·rename_i h;subst h;rfl
 ·rfl
theorem ap(w:World)(t:TypeId)(l:List Value):∀j u,l[j]?=some u->(w.alloc (.cells l.toArray t)).cell? ((⟨w.heap.size,0,none⟩:Addr).add j)=some u:=by
 intro j u h;rw[bn,LL,World.cell?_alloc_new];simpa using h
mutual
inductive aC where
 | mk (k n:Int) (t:ByteArray) (l:List aC) (d:List bf)
inductive bf where
 | mk (s:ByteArray) (v:aC)
end
def aC.k:aC->Int | .mk k _ _ _ _=>k
def aC.n:aC->Int | .mk _ n _ _ _=>n
def aC.t:aC->ByteArray | .mk _ _ t _ _=>t
def aC.l:aC->List aC | .mk _ _ _ l _=>l
def aC.d:aC->List bf | .mk _ _ _ _ d=>d
def bf.s:bf->ByteArray | .mk s _=>s
def bf.v:bf->aC | .mk _ v=>v
def aC.zero:aC:=.mk 0 0 empty [] []
theorem aC.ind{p:aC->Prop}(h:∀k n t l d,(∀v∈l,p v)->(∀f∈d,p f.v)->p (.mk k n t l d)):∀v,p v:=by
 intro v;refine aC.rec (motive_1:=p) (motive_2:=fun f=>p f.v) (motive_3:=fun l=>∀v∈l,p v) (motive_4:=fun d=>∀f∈d,p f.v) ?_ ?_ ?_ ?_ ?_ ?_ v
 ·intro k n t l d hl hd;exact h k n t l d hl hd
 ·intro s v hv;exact hv
 ·intro v hv;simp at hv
 ·intro x r hx hr v hv;rcases Li.1 hv with rfl|hv
  ·exact hx
  ·exact hr v hv
 ·intro v hv;simp at hv
 ·intro x r hx hr v hv;rcases Li.1 hv with rfl|hv
  ·exact hx
  ·exact hr v hv
def jT:Nat:=140737488351232
def aF:Nat:=140737488355328
theorem dG:jT<=aF:=by decide
def Jh(w:World)(b:Nat):Prop:=∀i,w.frozen? ⟨b,i,none⟩=false
def Ft(F:Nat->Prop)(w:World)(b:Nat):Prop:=F b/\(¬F 0->Jh w b)
theorem Ft.Kp{w:World}{b:Nat}:Ft (fun _=>True) w b:=⟨trivial,fun h=>absurd trivial h⟩
theorem Ft.Jv{F G:Nat->Prop}{w w':World}{b:Nat}(h:Ft F w b)(hb:b<w.heap.size)(hk:∀b,F b->b<w.heap.size->G b/\w'.heap[b]?=w.heap[b]?):Ft G w' b:=
 ⟨(hk b h.1 hb).1,fun hG i=>(On (w:=w) (a:=⟨b,i,none⟩) (hk b h.1 hb).2).trans (h.2 (fun h0=>hG (hk 0 h0 (by omega)).1) i)⟩
mutual
def RV(F:Nat->Prop)(w:World):VC->aC->Prop
 | c,.mk k n t l d=>c.k=k/\c.n=n/\c.t=t/\t.size<=aF/\
  c.ln=l.length/\c.ln<=c.lc/\c.ln*80<=aF/\(0<c.ln->∃b off,c.LA=some ⟨b,off,none⟩/\Ft F w b/\Em F w b off l)/\
  c.dn=d.length/\c.dn<=c.dc/\c.dn*96<=aF/\(0<c.dn->∃b off,c.DA=some ⟨b,off,none⟩/\Ft F w b/\En F w b off d)
def Em(F:Nat->Prop)(w:World):Nat->Nat->List aC->Prop
 | _,_,[]=>True
 | b,off,x::r=>(∃c,bS w b off c/\RV F w c x)/\Em F w b (off+5) r
def En(F:Nat->Prop)(w:World):Nat->Nat->List bf->Prop
 | _,_,[]=>True
 | b,off,f::r=>RF F w b off f/\En F w b (off+6) r
def RF(F:Nat->Prop)(w:World):Nat->Nat->bf->Prop
 | b,off,.mk s x=>w.cell? ⟨b,off,none⟩=some (.string s)/\s.size<=aF/\∃c,bS w b (off+1) c/\RV F w c x
end
section
variable {F G:Nat->Prop} {w w':World}
theorem Em.at{l:List aC}:∀{b off:Nat},Em F w b off l->∀(i:Nat) (x:aC),l[i]?=some x->∃c,bS w b (off+i*5) c/\RV F w c x:=by
 induction l with
 | nil=>intro b off _ i x hi;simp at hi
 | cons y r ih=>
  intro b off h i x hi;simp only[Em] at h;cases i with
  | zero=>
   simp at hi;subst hi;simpa using h.1
  | succ i=>
   obtain⟨c,hc,hx⟩:=ih h.2 i x (by simpa using hi);exact⟨c,by rw[show off+(i+1)*5=off+5+i*5 from by omega];exact hc,hx⟩
theorem Em.mk{l:List aC}:∀{b off:Nat},(∀(i:Nat) (x:aC),l[i]?=some x->∃c,bS w b (off+i*5) c/\RV F w c x)->Em F w b off l:=by
 induction l with
 | nil=>intro b off _;simp only[Em]
 | cons y r ih=>
  intro b off h;simp only[Em];refine⟨by simpa using h 0 y rfl,ih fun i x hi=>?_⟩;obtain⟨c,hc,hx⟩:=h (i+1) x (by simpa using hi);exact⟨c,by rw[show off+5+i*5=off+(i+1)*5 from by omega];exact hc,hx⟩
theorem RF.parts{b off:Nat}{f:bf}(h:RF F w b off f):w.cell? ⟨b,off,none⟩=some (.string f.s)/\f.s.size<=aF/\∃c,bS w b (off+1) c/\RV F w c f.v:=by
 cases f;simp only[RF] at h;exact h
theorem RF.mk{b off:Nat}{f:bf}(h1:w.cell? ⟨b,off,none⟩=some (.string f.s))(h2:f.s.size<=aF)(h3:∃c,bS w b (off+1) c/\RV F w c f.v):RF F w b off f:=by
 cases f;simp only[RF];exact⟨h1,h2,h3⟩
theorem En.at{l:List bf}:∀{b off:Nat},En F w b off l->∀(i:Nat) (x:bf),l[i]?=some x->RF F w b (off+i*6) x:=by
 induction l with
 | nil=>intro b off _ i x hi;simp at hi
 | cons y r ih=>
  intro b off h i x hi;simp only[En] at h;cases i with
  | zero=>
   simp at hi;subst hi;simpa using h.1
  | succ i=>
   have:=ih h.2 i x (by simpa using hi);rw[show off+(i+1)*6=off+6+i*6 from by omega];exact this
theorem En.mk{l:List bf}:∀{b off:Nat},(∀(i:Nat) (x:bf),l[i]?=some x->RF F w b (off+i*6) x)->En F w b off l:=by
 induction l with
 | nil=>intro b off _;simp only[En]
 | cons y r ih=>
  intro b off h;simp only[En];refine⟨by simpa using h 0 y rfl,ih fun i x hi=>?_⟩;have:=h (i+1) x (by simpa using hi);rw[show off+6+i*6=off+(i+1)*6 from by omega];exact this
structure mK(F:Nat->Prop)(w:World)(c:VC)(x:aC):Prop where
 k:c.k=x.k
 n:c.n=x.n
 t:c.t=x.t
 tsz:x.t.size<=aF
 ln:c.ln=x.l.length
 lc:c.ln<=c.lc
 lsz:c.ln*80<=aF
 la:0<c.ln->∃b off,c.LA=some ⟨b,off,none⟩/\Ft F w b/\∀(i:Nat) (y:aC),x.l[i]?=some y->∃e,bS w b (off+i*5) e/\RV F w e y
 dn:c.dn=x.d.length
 dc:c.dn<=c.dc
 dsz:c.dn*96<=aF
 da:0<c.dn->∃b off,c.DA=some ⟨b,off,none⟩/\Ft F w b/\∀(i:Nat) (f:bf),x.d[i]?=some f->w.cell? ⟨b,off+i*6,none⟩=some (.string f.s)/\f.s.size<=aF/\∃e,bS w b (off+i*6+1) e/\RV F w e f.v
theorem RV.open{c:VC}{x:aC}(h:RV F w c x):mK F w c x:=by
 cases x with
 | mk k n t l d=>
  simp only[RV] at h;obtain⟨h1,h2,h3,h4,h5,h6,h7,h8,h9,h10,h11,h12⟩:=h;refine⟨h1,h2,h3,h4,h5,h6,h7,fun h=>?_,h9,h10,h11,fun h=>?_⟩
  ·obtain⟨b,off,e,hF,hl⟩:=h8 h;exact⟨b,off,e,hF,fun i y hi=>hl.at i y hi⟩
  ·obtain⟨b,off,e,hF,hl⟩:=h12 h;exact⟨b,off,e,hF,fun i f hi=>(hl.at i f hi).parts⟩
theorem mK.shut{c:VC}{x:aC}(h:mK F w c x):RV F w c x:=by
 cases x with
 | mk k n t l d=>
  simp only[RV];refine⟨h.k,h.n,h.t,h.tsz,h.ln,h.lc,h.lsz,fun h'=>?_,h.dn,h.dc,h.dsz,fun h'=>?_⟩
  ·obtain⟨b,off,e,hF,hl⟩:=h.la h';exact⟨b,off,e,hF,Em.mk hl⟩
  ·obtain⟨b,off,e,hF,hl⟩:=h.da h';exact⟨b,off,e,hF,En.mk fun i f hi=>RF.mk (hl i f hi).1 (hl i f hi).2.1 (hl i f hi).2.2⟩
theorem RV.Jv{x:aC}:∀{c:VC},RV F w c x->(∀b,F b->b<w.heap.size->G b/\w'.heap[b]?=w.heap[b]?)->RV G w' c x:=by
 induction x using aC.ind with
 | h k n t l d ihl ihd=>
  intro c h hk;have ho:=h.open;refine mK.shut ⟨ho.k,ho.n,ho.t,ho.tsz,ho.ln,ho.lc,ho.lsz,fun h'=>?_,ho.dn,ho.dc,ho.dsz,fun h'=>?_⟩
  ·obtain⟨b,off,e,hF,hl⟩:=ho.la h'
   have hb:b<w.heap.size:=by
    obtain⟨y,hy⟩:∃y,l[0]?=some y:=⟨_,LI (by have:=ho.ln;simp only[aC.l] at this;omega)⟩;obtain⟨e',he',_⟩:=hl 0 y hy;exact he'.lt
   refine⟨b,off,e,hF.Jv hb hk,fun i y hi=>?_⟩;obtain⟨e',he',hr⟩:=hl i y hi;exact⟨e',he'.keep (hk b hF.1 hb).2,ihl y (LP hi) hr hk⟩
  ·obtain⟨b,off,e,hF,hl⟩:=ho.da h'
   have hb:b<w.heap.size:=by
    obtain⟨y,hy⟩:∃y,d[0]?=some y:=⟨_,LI (by have:=ho.dn;simp only[aC.d] at this;omega)⟩;obtain⟨_,_,e',he',_⟩:=hl 0 y hy;exact he'.lt
   refine⟨b,off,e,hF.Jv hb hk,fun i f hi=>?_⟩;obtain⟨hs,hz,e',he',hr⟩:=hl i f hi;exact⟨(Me (w:=w) (a:=⟨b,off+i*6,none⟩) (hk b hF.1 hb).2).trans hs,hz,e',he'.keep (hk b hF.1 hb).2,ihd f (LP hi) hr hk⟩
theorem RV.mono{c:VC}{x:aC}(h:RV F w c x)(hk:∀b,F b->G b):RV G w c x:=h.Jv fun b hb _=>⟨hk b hb,rfl⟩
theorem RV.keep{c:VC}{x:aC}(h:RV F w c x)(hk:∀b,F b->w'.heap[b]?=w.heap[b]?):RV F w' c x:=h.Jv fun b hb _=>⟨hb,hk b hb⟩
theorem RV.lt{c:VC}{x:aC}(h:RV F w c x):RV (fun b=>F b/\b<w.heap.size) w c x:=h.Jv fun _ hb hl=>⟨⟨hb,hl⟩,rfl⟩
theorem RV.step{c:VC}{x:aC}(h:RV F w c x)(hb:Below w.heap.size w w'):RV F w' c x:=h.Jv fun b hF hl=>⟨hF,hb.block b hl⟩
theorem RV.alloc{c:VC}{x:aC}(h:RV F w c x)(o:Obj):RV F (w.alloc o) c x:=h.step ((LH _ _).alloc (qL) o)
theorem RV.drewN{c:VC}{x:aC}(h:RV F w c x)(n:Nat):RV F (w.drewN n) c x:=h.keep fun _ _=>rfl
theorem RV.zero:RV F w VC.zero aC.zero:=by
 refine mK.shut ⟨rfl,rfl,rfl,by decide,rfl,qL,by decide,fun h=>absurd h (by decide),rfl,qL,by decide,fun h=>absurd h (by decide)⟩
end
abbrev RW(w:World)(c:VC)(x:aC):Prop:=RV (fun _=>True) w c x
def aC.parts(x:aC):List aC:=if x.k=6 then x.l else if x.k=5 then x.d.map bf.v else []
mutual
def aC.size:aC->Nat
 | .mk k _ _ l d=>1+if k=6 then bp l else if k=5 then rH d else 0
def bp:List aC->Nat
 | []=>0
 | x::r=>x.size+bp r
def rH:List bf->Nat
 | []=>0
 | f::r=>ze f+rH r
def ze:bf->Nat
 | .mk _ v=>v.size
end
mutual
def aC.Ju:aC->Nat
 | .mk k _ _ l d=>1+if k=6 then bA l else if k=5 then kj d else 0
def bA:List aC->Nat
 | []=>0
 | x::r=>max x.Ju (bA r)
def kj:List bf->Nat
 | []=>0
 | f::r=>max (ob f) (kj r)
def ob:bf->Nat
 | .mk _ v=>v.Ju
end
theorem Ck(f:bf):ze f=f.v.size:=by cases f;simp[ze,bf.v]
theorem xV(f:bf):ob f=f.v.Ju:=by cases f;simp[ob,bf.v]
theorem Cm(d:List bf):rH d=bp (d.map bf.v):=by
 induction d with
 | nil=>simp[rH,bp]
 | cons f r ih=>simp[rH,bp,ih,Ck]
theorem xW(d:List bf):kj d=bA (d.map bf.v):=by
 induction d with
 | nil=>simp[kj,bA]
 | cons f r ih=>simp[kj,bA,ih,xV]
theorem fm(x:aC):x.size=1+bp x.parts:=by
 cases x with
 | mk k n t l d=>
  show aC.size (.mk k n t l d)=1+bp (if k=6 then l else if k=5 then d.map bf.v else []);rw[aC.size];by_cases h6:k=6
  ·rw[LZ h6,LZ h6]
  ·rw[LU h6,LU h6];by_cases h5:k=5
   ·rw[LZ h5,LZ h5,Cm]
   ·rw[LU h5,LU h5,bp]
theorem fV(x:aC):x.Ju=1+bA x.parts:=by
 cases x with
 | mk k n t l d=>
  show aC.Ju (.mk k n t l d)=1+bA (if k=6 then l else if k=5 then d.map bf.v else []);rw[aC.Ju];by_cases h6:k=6
  ·rw[LZ h6,LZ h6]
  ·rw[LU h6,LU h6];by_cases h5:k=5
   ·rw[LZ h5,LZ h5,xW]
   ·rw[LU h5,LU h5,bA]
theorem ot(x:aC):1<=x.size:=by rw[fm];omega
theorem lW(x:aC):1<=x.Ju:=by rw[fV];omega
theorem mL(l m:List aC):bp (l++m)=bp l+bp m:=by
 induction l with
 | nil=>simp[bp]
 | cons x r ih=>simp[bp,ih];omega
theorem jt(l m:List aC):bA (l++m)=max (bA l) (bA m):=by
 induction l with
 | nil=>simp[bA]
 | cons x r ih=>simp only[Lj,bA,ih];omega
theorem take_snoc'{α:Type}{l:List α}{i:Nat}{y:α}(h:l[i]?=some y):l.take (i+1)=l.take i++[y]:=by
 rw[MW,h];rfl
theorem ou{l:List aC}{i:Nat}{y:aC}(h:l[i]?=some y):bp (l.take (i+1))=bp (l.take i)+y.size:=by
 rw[take_snoc' h,mL];simp[bp]
theorem mM{l:List aC}{i:Nat}{y:aC}(h:l[i]?=some y):bA (l.take (i+1))=max (bA (l.take i)) y.Ju:=by
 rw[take_snoc' h,jt];simp[bA]
theorem ov(l:List aC)(i:Nat):bp (l.take i)<=bp l:=by
 conv=>rhs;rw[<-Lf i l,mL]
 omega
theorem tE(l:List aC)(i:Nat):bA (l.take i)<=bA l:=by
 conv=>rhs;rw[<-Lf i l,jt]
 omega
def bT(x:aC)(most:Int):Int:=min (x.size:Int) most
def bE(x:aC)(most:Int):Int:=min (x.Ju:Int) most
theorem mN(a:Addr)(n:Nat):(a.add n).block=a.block:=by unfold Addr.add;split<;>rfl
theorem xX(a:Addr)(i j:Nat):(a.add i).add j=a.add (i+j):=by
 unfold Addr.add;by_cases hi:i=0<;>by_cases hj:j=0<;>simp[hi,hj,PT]
def cP(w:World)(B size:Nat)(A:Option Addr)(n:Nat)(xs:List Value):Prop:=
 xs.length=n*size/\(0<n->∃ad,A=some ad/\ad.block<B/\∀j u,xs[j]?=some u->w.cell? (ad.add j)=some u)
section
variable {w w':World} {B B' size n:Nat} {A:Option Addr} {xs:List Value}
theorem cP.keep(h:cP w B size A n xs)(hk:∀p:Addr,p.block<B->w'.cell? p=w.cell? p):cP w' B size A n xs:=
 ⟨h.1,fun hn=>by
  obtain⟨ad,e,hb,hc⟩:=h.2 hn
  exact⟨ad,e,hb,fun j u hu=>(hk _ (by rw[mN];exact hb)).trans (hc j u hu)⟩⟩
theorem cP.below(h:cP w B size A n xs)(hb:Below B w w'):cP w' B size A n xs:=h.keep fun _ hp=>hb.cell hp
theorem cP.alloc(h:cP w B size A n xs)(hB:B<=w.heap.size)(o:Obj):cP (w.alloc o) B size A n xs:=h.keep fun p hp=>World.cell?_alloc_lt w o p (by omega)
theorem cP.cut(h:cP w B size A n xs){k cap:Nat}(hk:k<=n)(hc:n<=cap):
 cP w B size (if cap=k then A else A.map (·.add (k*size))) (n-k) (xs.drop (k*size)):=by
 refine⟨by rw[Nz,h.1,Nat.sub_mul],fun hn=>?_⟩;obtain⟨ad,rfl,hb,hcell⟩:=h.2 (by omega);rw[LU (by omega)];refine⟨ad.add (k*size),rfl,by rw[mN];exact hb,fun j u hu=>?_⟩;rw[xX];exact hcell _ u (by rw[<-hu,Nr])
theorem cP.Jt{base:Nat}{e:TypeId}{c:Nat}(h:w.ownsRow base e size (.slice A n c) n xs):cP w w.heap.size size A n xs:=by
 refine⟨h.1,fun hn=>?_⟩;obtain⟨g,cap,hv,_,hlt⟩:=h.form hn;have hA:A=some ⟨g,0,none⟩:=by injection hv
 subst hA;exact⟨_,rfl,hlt,h.cells (g:=g) rfl⟩
end
section
variable {P:Program} (w:World)
theorem mO(base:Nat)(t ty e:TypeId)(i:TypeInfo)(size:Nat)(ht:P.underlying t=some (.slice e))(hi:P.info? e=some i)(v:Value)(n:Nat)(xs:List Value)(hown:w.ownsRow base e size v n xs)(c:Nat):(Builtin.append_ #[t,t] ty #[v,.slice none 0 c]).run P w=.ok v w:=by
 rcases hown.2 with⟨rfl,rfl⟩|⟨g,cap,cur,rfl,_,_,hnc,_⟩
 ·simp[Builtin.append_,Oo ht,sizeOf,typeInfo,hi,Builtin.lenOf,Builtin.firstCells]
 ·simp[Builtin.append_,Oo ht,sizeOf,typeInfo,hi,Builtin.lenOf,Builtin.firstCells,hnc,storeCells]
theorem ow(base:Nat)(t ty e:TypeId)(i:TypeInfo)(z:Value)(size bytes:Nat)(ht:P.underlying t=some (.slice e))(hi:P.info? e=some i)(hz:i.zero=some z)(hsize:i.size=size)(hby:i.bytes=bytes)(hzs:z.cells.size=size)(hsz:0<size)(v:Value)(n:Nat)(xs:List Value)(hown:w.ownsRow base e size v n xs)(B:Nat)(A:Option Addr)(m c:Nat)(news:List Value)(hr:cP w B size A m news)(h1:∀u∈news,u.oneCell'=true)(h63:n+m<=maxLen)(hbytes:(n+m)*bytes<=140737488355328)(hbase:base<=w.heap.size):
 ∃v' w',(Builtin.append_ #[t,t] ty #[v,.slice A m c]).run P w=.ok v' w'/\w'.ownsRow base e size v' (n+m) (xs++news)/\w.grownBy w' v.ownBlock/\
  (v'.ownBlock=v.ownBlock\/v'.ownBlock=some w.heap.size):=by
 rcases A with _|ad
 ·have hm:m=0:=by
   rcases MH m with h0|h0
   ·exact h0
   ·obtain⟨ad,h,_⟩:=hr.2 h0;cases h
  subst hm;have hn:news=[]:=LO (by simpa using hr.1);subst hn;exact⟨v,w,mO w base t ty e i size ht hi v n xs hown c,by simpa using hown,World.grownBy.refl w _,.inl rfl⟩
 ·have hcells:∀j u,news[j]?=some u->w.cell? (ad.add j)=some u:=by
   intro j u hu;rcases MH m with h0|h0
   ·subst h0;have hn:news=[]:=LO (by simpa using hr.1);subst hn;simp at hu
   ·obtain⟨ad',h,_,hc⟩:=hr.2 h0;injection h with h
    subst h;exact hc j u hu
  obtain⟨v',w',hrun,h2,h3,_,h5⟩:=run_append_own_at (P:=P) w base t ty e i z size bytes ht hi hz hsize hby hzs hsz v n xs hown ad m c news hr.1 hcells h1 h63 hbytes hbase;exact⟨v',w',hrun,h2,h3,h5⟩
theorem lO{o:Oper}{a:Act}{K:Act->World->Prop}{Q:Exit->Act->World->Prop}(s x:Operand)(t:TypeId)(ho:o.op=.call {callee:=.builtin .append,args:=#[s,x],argTypes:=#[t,t]})(base:Nat)(e:TypeId)(i:TypeInfo)(z:Value)(size bytes:Nat)(ht:P.underlying t=some (.slice e))(hi:P.info? e=some i)(hz:i.zero=some z)(hsize:i.size=size)(hby:i.bytes=bytes)(hzs:z.cells.size=size)(hsz:0<size)(v:Value)(n:Nat)(xs:List Value)(hs:a.eval s=v)(hown:w.ownsRow base e size v n xs)(B:Nat)(A:Option Addr)(m c:Nat)(news:List Value)(hx:a.eval x=.slice A m c)(hr:cP w B size A m news)(h1:∀u∈news,u.oneCell'=true)(h63:n+m<=maxLen)(hbytes:(n+m)*bytes<=140737488355328)(hbase:base<=w.heap.size)(h:∀v' w',w'.ownsRow base e size v' (n+m) (xs++news)->w.grownBy w' v.ownBlock->(v'.ownBlock=v.ownBlock\/v'.ownBlock=some w.heap.size)->K (a.put o.dst v') w'):o.wp P a w K Q:=by
 obtain⟨v',w',hrun,h2,h3,h4⟩:=ow (P:=P) w base t o.type e i z size bytes ht hi hz hsize hby hzs hsz v n xs hown B A m c news hr h1 h63 hbytes hbase;unfold Oper.wp execOp;simp only[ho,resolve,invoke,builtin,Ng,OI,NT,List.map_toArray,Mb,NR,hs,hx,hrun];exact h v' w' h2 h3 h4
theorem aD{ops:Array Oper}{rest:List Oper}{o:Oper}{a:Act}{Q:Exit->Act->World->Prop}(hgd:o.guard=none)(s x:Operand)(t:TypeId)(ho:o.op=.call {callee:=.builtin .append,args:=#[s,x],argTypes:=#[t,t]})(base:Nat)(e:TypeId)(i:TypeInfo)(z:Value)(size bytes:Nat)(ht:P.underlying t=some (.slice e))(hi:P.info? e=some i)(hz:i.zero=some z)(hsize:i.size=size)(hby:i.bytes=bytes)(hzs:z.cells.size=size)(hsz:0<size)(v:Value)(n:Nat)(xs:List Value)(hs:a.eval s=v)(hown:w.ownsRow base e size v n xs)(B:Nat)(A:Option Addr)(m c:Nat)(news:List Value)(hx:a.eval x=.slice A m c)(hr:cP w B size A m news)(h1:∀u∈news,u.oneCell'=true)(h63:n+m<=maxLen)(hbytes:(n+m)*bytes<=140737488355328)(hbase:base<=w.heap.size)(h:∀v' w',w'.ownsRow base e size v' (n+m) (xs++news)->w.grownBy w' v.ownBlock->(v'.ownBlock=v.ownBlock\/v'.ownBlock=some w.heap.size)->wpList P ops Q rest (a.put o.dst v') w'):wpList P ops Q (o::rest) a w:=
 wpList_plain hgd fun _ hK=>lO w s x t ho base e i z size bytes ht hi hz hsize hby hzs hsz v n xs hs hown B A m c news hx hr h1 h63 hbytes hbase fun v' w' h2 h3 h4=>hK _ _ (h v' w' h2 h3 h4)
theorem dQ{ops:Array Oper}{o:Oper}{a:Act}{K:Act->World->Prop}{Q:Exit->Act->World->Prop}{E:Prop}(hgd:o.guard=none)(s x:Operand)(t:TypeId)(ho:o.op=.call {callee:=.builtin .append,args:=#[s,x],argTypes:=#[t,t]})(base:Nat)(e:TypeId)(i:TypeInfo)(z:Value)(size bytes:Nat)(ht:P.underlying t=some (.slice e))(hi:P.info? e=some i)(hz:i.zero=some z)(hsize:i.size=size)(hby:i.bytes=bytes)(hzs:z.cells.size=size)(hsz:0<size)(v:Value)(n:Nat)(xs:List Value)(hs:a.eval s=v)(hown:w.ownsRow base e size v n xs)(B:Nat)(A:Option Addr)(m c:Nat)(news:List Value)(hx:a.eval x=.slice A m c)(hr:cP w B size A m news)(h1:∀u∈news,u.oneCell'=true)(h63:n+m<=maxLen)(hbytes:(n+m)*bytes<=140737488355328)(hbase:base<=w.heap.size)(h:∀v' w',w'.ownsRow base e size v' (n+m) (xs++news)->w.grownBy w' v.ownBlock->(v'.ownBlock=v.ownBlock\/v'.ownBlock=some w.heap.size)->K (a.put o.dst v') w'):
 if Region.wanted o (yielded ops a.tmps)=true then Oper.wp P o a w K Q else E:=by
 have hw:Region.wanted o (yielded ops a.tmps)=true:=by simp[Region.wanted,hgd]
 rw[LZ hw];exact lO w s x t ho base e i z size bytes ht hi hz hsize hby hzs hsz v n xs hs hown B A m c news hx hr h1 h63 hbytes hbase h
end
end Go.Proofs.YthfahkaadbdicaaGreatDoor
namespace Go
section
variable {P:Program} {ops:Array Oper} {md:Region.Mode} {C:World->Prop}
def mP(P:Program)(md:Region.Mode)(ops:Array Oper)(C:World->Prop)(n:Nat)(L:Array Bool->Act->Prop):Nat->Array Bool->Act->Prop
 | 0,listed,a=>L listed a
 | f+1,listed,a=>
  Region.ready md ops listed≠[]/\∀i∈Region.ready md ops listed,i<n/\qOp P ops C i (mP P md ops C n L f (listed.setIfInBounds i true)) a
theorem jv{n g:Nat}{L:Array Bool->Act->Prop}{Q':Exit->Act->World->Prop}(hL:∀listed a w,C w->L listed a->wpAny P md ops Q' g listed a w):
 ∀(f:Nat) (listed:Array Bool) (a:Act) (w:World),C w->mP P md ops C n L f listed a->wpAny P md ops Q' (f+g) listed a w
 | 0,listed,a,w,hw,h=>by rw[LL];exact hL _ _ _ hw h
 | f+1,listed,a,w,hw,h=>by
  rw[show f+1+g=(f+g)+1 by omega];exact⟨fun h0=>absurd h0 h.1,fun i hi=>wpOp_of_qOp hw (fun a' w' hw' h'=>jv hL f _ a' w' hw' h') (h.2 i hi).2⟩
theorem qk{n i:Nat}{oi:Oper}{v:Value}{L:Array Bool->Act->Prop}(hi:ops[i]?=some oi)(hsel:∀(j:Nat) (o:Oper) cs b,ops[j]?=some o->o.op≠.select cs b)(hs:Region.sinkB md ops n=true)(hc:Region.chainB md ops n=true)(hn:n<ops.size)(hin:i<n)(hdone:∀listed a,L listed a->∀j∈Region.ready md ops listed,n<=j):
 ∀(f:Nat) (listed:Array Bool) (a:Act),HeadInv md ops n listed->
  (∀j oj,ops[j]?=some oj->j≠i->listed.getD j true=false->(∀e∈oj.after,Region.binds md e=true->e.on≠i)->oi.apart ops oj=true)->
  i∈Region.ready md ops listed->YieldsIn P ops C oi v a->
  mP P md ops C n L f (listed.setIfInBounds i true) (a.put oi.dst v)->mP P md ops C n L (f+1) listed a:=by
 intro f
 induction f with
 | zero=>
  intro listed a inv _ hr hy H;have hun:=(mem_ready.1 hr).1;refine⟨fun h=>(by rw[h] at hr;cases hr),fun j hj=>?_⟩
  have hjn:j<n:=by
   rcases NS j n with h|h
   ·exact h
   ·exact absurd hj (tail_waits hs hc hn inv _ i rfl hin hun j h)
  refine⟨hjn,?_⟩;by_cases hji:j=i
  ·subst hji;exact hy.qOp hi H
  ·have:=hdone _ _ H j (ready_mono hj hji);omega
 | succ f ih=>
  intro listed a inv hfree hr hy H;have hun:=(mem_ready.1 hr).1;refine⟨fun h=>(by rw[h] at hr;cases hr),fun j hj=>?_⟩
  have hjn:j<n:=by
   rcases NS j n with h|h
   ·exact h
   ·exact absurd hj (tail_waits hs hc hn inv _ i rfl hin hun j h)
  refine⟨hjn,?_⟩;by_cases hji:j=i
  ·subst hji;exact hy.qOp hi H
  ·have h1:=(H.2 j (ready_mono hj hji)).2;obtain⟨hjun,oj,hoj,hall⟩:=mem_ready.1 hj
   have hnot:∀e∈oj.after,Region.binds md e=true->e.on≠i:=fun e he hb heq=>by
    have h1:=hall e he hb;rw[heq,getD_both hun] at h1;cases h1
   have h2:=qOp_put hoj (hfree j oj hoj hji hjun hnot) (fun cs b=>hsel i oi cs b hi) (fun cs b=>hsel j oj cs b hoj) hy h1
   have hfree':∀k ok,ops[k]?=some ok->k≠i->(listed.setIfInBounds j true).getD k true=false->
    (∀e∈ok.after,Region.binds md e=true->e.on≠i)->oi.apart ops ok=true:=fun k ok hk hki hun hno=>by
    refine hfree k ok hk hki ?_ hno;by_cases hjk:j=k
    ·subst hjk;exact hjun
    ·rw[getD_set_ne true hjk] at hun;exact hun
   refine qOp_mono (fun a' h3=>ih (listed.setIfInBounds j true) a' (inv.set hj hjn) hfree' (ready_mono hr (Ne.symm hji)) h3.1 ?_) h2;rw[Array.setIfInBounds_comm _ _ hji];exact h3.2
theorem ng{n g:Nat}{Lq:Act->Prop}(hsel:Region.noSelect ops=true)(hs:Region.sinkB md ops n=true)(hc:Region.chainB md ops n=true)(hn:n<ops.size):
 ∀(l:List Oper) (k:Nat) (listed:Array Bool) (a:Act),(∀j,j<l.length->l[j]?=ops[k+j]?)->k+l.length=n->HeadInv md ops n listed->
 Region.lexHead md ops g l.length k listed=true->wpQuiet P ops C Lq l a->
 mP P md ops C n (fun listed' a'=>Region.seqB md ops g n listed'=true/\Lq a') l.length listed a
 | [],k,listed,a,_,hk,_,hB,h=>by
  have:k=n:=by simpa using hk
  subst this;exact⟨by simpa[Region.lexHead] using hB,h⟩
 | o::l,k,listed,a,hl,hk,inv,hB,h=>by
  have h0:ops[k]?=some o:=by simpa using (hl 0 (by simp)).symm
  simp only[Ll,Region.lexHead,ME] at hB;obtain⟨⟨hr,hf⟩,hB'⟩:=hB;have hkn:k<n:=by simp only[Ll] at hk;omega
  have hr':k∈Region.ready md ops listed:=by simpa using hr
  have hst:qOp P ops C k (wpQuiet P ops C Lq l) a:=by unfold qOp;simp only[h0];exact h
  obtain⟨v,hy,hK⟩:=yieldsIn_of_qOp h0 hst
  exact qk h0 (Region.noSelect_spec hsel) hs hc hn hkn (fun listed' a' hL=>seqB_ready hL.1) l.length listed a inv (Region.free_spec h0 hf) hr' hy
   (ng hsel hs hc hn l (k+1) _ _ (fun j hj=>by have:=hl (j+1) (by simp;omega);simpa[PT,Nat.add_comm 1 j] using this) (by simp only[Ll] at hk;omega) (inv.set hr' hkn) hB' hK)
theorem jw{id:Nat}{Q:Exit->Act->World->Prop}{a:Act}{w:World}{l:List Oper}(n:Nat)(hm:P.follows .mixedOrders=true)(hB:Region.lexTailB .any l.toArray n=true)(hC:C {w with drawn:=w.drawn+1})(h:wpQuiet P l.toArray C (fun a'=>∀w',C w'->wpList P l.toArray Q (l.drop n) a' w') (l.take n) a):(Code.region id l.toArray true).wp P Q a w:=by
 simp only[Region.lexTailB,ME,Mg] at hB;obtain⟨⟨⟨⟨hsel,hn⟩,hs⟩,hc⟩,hlex⟩:=hB;have hn':n<l.length:=by simpa using hn
 have htl:(l.take n).length=n:=by simp;omega
 have hdl:(l.drop n).length=l.toArray.size-n:=by simp
 have inv0:HeadInv .any l.toArray n (Array.replicate l.toArray.size false):=
  ⟨by simp,fun j oj _ hl=>(by rw[getD_replicate_false] at hl;cases hl),fun t _ ht=>getD_in (by simpa using ht) (getD_replicate_false _ _)⟩
 have H:=ng (md:=.any) (g:=l.toArray.size-n) hsel hs hc hn (l.take n) 0 _ a (fun j hj=>by
  have hj':j<n:=by rw[htl] at hj;exact hj
  simp[hj']) (by simpa using htl) inv0 (by rw[htl];exact hlex) h
 refine wp_region_any hm ?_
 have:=jv (Q':=Q) (g:=l.toArray.size-n) (fun listed a' w' hw' hL=>by
  have:=wpAny_of_seq (md:=.any) (Q':=Q) (l.drop n) n listed a' w' (fun j=>by simp[Nr]) (by rw[hdl];exact hL.1) (hL.2 w' hw')
  rwa [hdl] at this) _ _ _ _ hC H
 rw[htl,show n+(l.toArray.size-n)=l.toArray.size by omega] at this;exact this
end
end Go
namespace Go.Proofs.YthfahkaadbdicaaGreatDoor
open Go.RowKit
theorem fW{P:Program}{id:Nat}{Q:Exit->Act->World->Prop}{a:Act}{w:World}{l:List Oper}(n:Nat)(hm:P.follows .mixedOrders=true)(hB:Region.lexTailB .any l.toArray n=true)(h:wpQuiet P l.toArray (fun w'=>∃k:BW w,w'=k.val) (fun a'=>∀w',(∃k:BW w,w'=k.val)->wpList P l.toArray Q (l.drop n) a' w') (l.take n) a):(Code.region id l.toArray true).wp P Q a w:=
 jw (C:=fun w'=>∃k:BW w,w'=k.val) n hm hB ⟨⟨w.drew,(LH _ _).drew⟩,rfl⟩ h
structure ey(g:Nat)(w w':World):Prop where
 os:w'.os=w.os
 tape:w'.tape=w.tape
 output:w'.output=w.output
 size:w.heap.size<=w'.heap.size
 block:∀k,k<w.heap.size->k≠g->w'.heap[k]?=w.heap[k]?
section
variable {g:Nat} {w w1 w2:World}
theorem ey.refl:ey g w w:=⟨rfl,rfl,rfl,qL,fun _ _ _=>rfl⟩
theorem ey.trans(h:ey g w w1)(k:ey g w1 w2):ey g w w2:=
 ⟨k.os.trans h.os,k.tape.trans h.tape,k.output.trans h.output,Lt h.size k.size,fun i hi hg=>(k.block i (Mv hi h.size) hg).trans (h.block i hi hg)⟩
theorem ey.Jy(h:Below w.heap.size w w1):ey g w w1:=⟨h.os,h.tape,h.output,h.size,fun k hk _=>h.block k hk⟩
theorem ey.step(h:ey g w w1)(k:Below w1.heap.size w1 w2):ey g w w2:=h.trans (.Jy k)
theorem ey.set(h:ey g w w1){p:Addr}(hp:p.block=g)(u:Value):ey g w (w1.setCell p u):=
 ⟨h.os,h.tape,h.output,by simpa[World.setCell] using h.size,fun k hk hg=>(MA w1 p u k (by rw[hp];exact hg)).trans (h.block k hk hg)⟩
theorem ey.below(h:ey g w w1){B:Nat}(hB:B<=w.heap.size)(hg:B<=g):Below B w w1:=⟨h.os,h.tape,h.output,h.size,fun k hk=>h.block k (by omega) (by omega)⟩
theorem ey.cell(h:ey g w w1){p:Addr}(hp:p.block<w.heap.size)(hg:p.block≠g):w1.cell? p=w.cell? p:=Me (h.block _ hp hg)
theorem aE.but{b:Nat}{t:TypeId}{cs:Array Value}(h:aE w b t cs)(k:ey g w w1)(hg:b≠g):aE w1 b t cs:=(k.block b h.lt hg).trans h
end
def Co(g:Nat)(Inv:Nat->World->Prop)(Fin:World->Prop)(i:Nat)(wr:World)(e:Ending)(w':World):Prop:=
 ∃b,e=.returned (.bool b)/\ey g wr w'/\(b=true->Inv (i+1) w')/\(b=false->Fin w')
def Eu(g:Nat)(Fin:World->Prop)(w:World)(e:Ending)(w':World):Prop:=e=.returned (.tuple #[])/\ey g w w'/\Fin w'
theorem uL(f:FuncId)(g m:Nat)(x:aC)(c:VC)(w:World)(h:RV (fun b=>b≠g) w c x)(Inv:Nat->World->Prop)(Fin:World->Prop)(hent:∀args w,(callFunc f args).run prog w=.ok (.enter f args) w)(h0:Inv 0 w)(hst:∀i w1 w2,Inv i w1->Below w1.heap.size w1 w2->Inv i w2)(hs:∀(i:Nat) (y:aC) (u:VC) (wr:World),x.parts[i]?=some y->Inv i wr->ey g w wr->RW wr u y->Calls prog f #[u.val,.pointer (some ⟨g,0,none⟩),.pointer (some ⟨m,0,none⟩)] wr (Co g Inv Fin i wr))(he:∀wr,Inv x.parts.length wr->Fin wr):
 Calls prog 183 #[c.val,.func (.func f) #[] #[.pointer (some ⟨g,0,none⟩),.pointer (some ⟨m,0,none⟩)]] w (Eu g Fin w):=by
 obtain⟨ck,cn,ct,LA,ln,lc,DA,dn,dc⟩:=c;have ho:=h.open;have hln:ln<=140737488355328:=by have:=ho.lsz;unfold aF at this;simp only at this;omega
 have hdn:dn<=140737488355328:=by have:=ho.dsz;unfold aF at this;simp only at this;omega
 have HO:=qD ho;have HS:=qD hs;have HE:=qD he;have H0:=qD (hst 0 w _ h0 ((LH _ _).alloc (qL) (Obj.cells #[.int .i64 ck,.int .i64 cn,.string ct,.slice LA ln lc,.slice DA dn dc] 29)));have HT:=qD hst;clear ho h hs he h0 hst;cases h6:(ck==6)
 ·cases h5:(ck==5)
  ·have HP:Hid (x.parts.length=0):=by
    have:=HO.out.k;simp only at this;simp at h6 h5;simp[Hid,aC.parts,<-this,h6,h5]
   go_enter func183,ntmps183;go_wp2_with fail
   go_end0
   exact⟨rfl,ey.Jy ((LH _ _).alloc (qL) _),HE.out _ (by rw[HP.out];exact H0.out)⟩
  ·have HP:Hid (x.parts=x.d.map bf.v):=by
    have:=HO.out.k;simp only at this;simp at h5;simp[Hid,aC.parts,<-this,h5]
   go_enter func183,ntmps183;go_wp2_with fail
   go_loopw [29] (fun v29 wr=>∃i:Nat,i<=dn/\v29=.int .i64 i/\Inv i wr/\ey g w wr) (fun v29 _=>dn-(intOf v29).toNat)
   ·exact⟨0,LQ _,rfl,H0.out,ey.Jy ((LH _ _).alloc (qL) _)⟩
   case round=>
    obtain⟨i,hi,rfl,I1,I2⟩:=hrel;have J1:=qD I1;have J2:=qD I2;by_cases hlt:i<dn
    ·obtain⟨b,off,hDA,hbg,hel⟩:=HO.out.da (by show 0<dn;omega);obtain⟨y,hy⟩:∃y,x.d[i]?=some y:=⟨_,LI (by have:=HO.out.dn;simp only at this;omega)⟩;obtain⟨s0,hsz,u,hu,hr⟩:=hel i y hy;simp only at hDA;subst hDA;obtain⟨u0,u1,u2,u3,u4⟩:=hu.keep (I2.block b hu.lt hbg.1);have t0:=(I2.cell (p:=⟨b,off+i*6,none⟩) hu.lt hbg.1).trans s0;have hb:b<wr.heap.size:=by have:=hu.lt;have:=I2.size;omega
     have HR:=qD ((hr.Jv (G:=fun _=>True) fun q hq hl=>⟨trivial,I2.block q hl hq⟩).alloc (.cells #[.string y.s,.int .i64 u.k,.int .i64 u.n,.string u.t,.slice u.LA u.ln u.lc,.slice u.DA u.dn u.dc] 73));have HI:=qD (HT.out i wr _ I1 ((LH _ _).alloc (qL) (Obj.cells #[.string y.s,.int .i64 u.k,.int .i64 u.n,.string u.t,.slice u.LA u.ln u.lc,.slice u.DA u.dn u.dc] 73)));have HB:=qD (I2.step ((LH _ _).alloc (qL) (Obj.cells #[.string y.s,.int .i64 u.k,.int .i64 u.n,.string u.t,.slice u.LA u.ln u.lc,.slice u.DA u.dn u.dc] 73)));have HY:Hid (x.parts[i]?=some y.v):=by rw[Hid,HP.out,LV,hy];rfl
     clear hel hr hu hy I1 I2 s0 hsz;go_wp2_with fail;refine(HS.out i y.v u _ HY.out HI.out HB.out HR.out).mono ?_;rintro e w1 ⟨b1,rfl,hb1,ht,hf⟩;cases b1
     ·have HF:=qD (hf rfl);have HB1:=qD (HB.out.trans hb1);clear ht hf hb1;go_wp2_with fail
      go_end0
      exact⟨rfl,HB1.out,HF.out⟩
     ·have HF:=qD (ht rfl);have HB1:=qD (HB.out.trans hb1);clear ht hf hb1;go_wp2_with fail;go_roundw
      ·exact⟨i+1,by omega,by go_num,HF.out,HB1.out⟩
      ·simp[intOf];omega
    ·obtain rfl:i=dn:=by omega
     go_wp2_with fail
     go_end0
     exact⟨rfl,J2.out,HE.out _ (by rw[HP.out,Lb];have:=HO.out.dn;simp only at this;rw[<-this];exact J1.out)⟩
 ·have HP:Hid (x.parts=x.l):=by
   have:=HO.out.k;simp only at this;simp at h6;simp[Hid,aC.parts,<-this,h6]
  go_enter func183,ntmps183;go_wp2_with fail
  go_loopw [15] (fun v15 wr=>∃i:Nat,i<=ln/\v15=.int .i64 i/\Inv i wr/\ey g w wr) (fun v15 _=>ln-(intOf v15).toNat)
  ·exact⟨0,LQ _,rfl,H0.out,ey.Jy ((LH _ _).alloc (qL) _)⟩
  case round=>
   obtain⟨i,hi,rfl,I1,I2⟩:=hrel;have J1:=qD I1;have J2:=qD I2;by_cases hlt:i<ln
   ·obtain⟨b,off,hLA,hbg,hel⟩:=HO.out.la (by show 0<ln;omega);obtain⟨y,hy⟩:∃y,x.l[i]?=some y:=⟨_,LI (by have:=HO.out.ln;simp only at this;omega)⟩;obtain⟨u,hu,hr⟩:=hel i y hy;simp only at hLA;subst hLA;obtain⟨u0,u1,u2,u3,u4⟩:=hu.keep (I2.block b hu.lt hbg.1);have hb:b<wr.heap.size:=by have:=hu.lt;have:=I2.size;omega
    have HR:=qD ((hr.Jv (G:=fun _=>True) fun q hq hl=>⟨trivial,I2.block q hl hq⟩).alloc (.cells u.arr 29));have HI:=qD (HT.out i wr _ I1 ((LH _ _).alloc (qL) (Obj.cells u.arr 29)));have HB:=qD (I2.step ((LH _ _).alloc (qL) (Obj.cells u.arr 29)));have HY:Hid (x.parts[i]?=some y):=by rw[Hid,HP.out];exact hy
    clear hel hr hu hy I1 I2;go_wp2_with fail;refine(HS.out i y u _ HY.out HI.out HB.out HR.out).mono ?_;rintro e w1 ⟨b1,rfl,hb1,ht,hf⟩;cases b1
    ·have HF:=qD (hf rfl);have HB1:=qD (HB.out.trans hb1);clear ht hf hb1;go_wp2_with fail
     go_end0
     exact⟨rfl,HB1.out,HF.out⟩
    ·have HF:=qD (ht rfl);have HB1:=qD (HB.out.trans hb1);clear ht hf hb1;go_wp2_with fail;go_roundw
     ·exact⟨i+1,by omega,by go_num,HF.out,HB1.out⟩
     ·simp[intOf];omega
   ·obtain rfl:i=ln:=by omega
    go_wp2_with fail
    go_end0
    exact⟨rfl,J2.out,HE.out _ (by rw[HP.out];have:=HO.out.ln;simp only at this;rw[<-this];exact J1.out)⟩
theorem wrap_i64{a:Int}(h1:-9223372036854775808<=a)(h2:a<=9223372036854775807):IntKind.i64.wrap a=a:=IntWalk.i64_in _ ⟨h1,h2⟩
def zg(x:aC):Prop:=∀(c:VC) (most:Int) (w:World),RW w c x->1<=most->most<=1025->
 Calls prog 139 #[c.val,.int .i64 most] w fun e w'=>e=.returned (.int .i64 (bT x most))/\Below w.heap.size w w'
theorem xY(y:aC)(ih:zg y)(u:VC)(g m:Nat)(n most:Int)(w:World)(h:RW w u y)(hg:aE w g 3 #[.int .i64 n])(hm:aE w m 3 #[.int .i64 most])(hne:m≠g)(h1:1<=n)(h2:n<most)(h3:most<=1025):
 Calls prog 184 #[u.val,.pointer (some ⟨g,0,none⟩),.pointer (some ⟨m,0,none⟩)] w fun e w'=>e=.returned (.bool (decide (n+bT y (most-n)<most)))/\ey g w w'/\aE w' g 3 #[.int .i64 (n+bT y (most-n))]:=by
 have HG:=qD (hg.alloc (.cells u.arr 29));have HM:=qD (hm.alloc (.cells u.arr 29));have HU:Hid (aE (w.alloc (.cells u.arr 29)) w.heap.size 29 u.arr):=aE.Jq rfl;have H:=qD (h.alloc (.cells u.arr 29));have HB:=qD ((LH w.heap.size w).alloc (qL) (Obj.cells u.arr 29));have IH:=qD ih;have hgl:=hg.lt;have hml:=hm.lt
 have r1:1<=bT y (most-n)/\bT y (most-n)<=most-n:=by
  have:=ot y;unfold bT;omega
 clear h hg hm ih;go_enter func184,ntmps184;go_wp2_with fail;generalize w.alloc (.cells u.arr 29)=w1 at*;have E0:∀q:BW w1,q.val.cell? ⟨g,0,none⟩=some (.int .i64 n):=fun q=>q.cell (HG.out.cell 0);have E1:∀q:BW w1,q.val.cell? ⟨m,0,none⟩=some (.int .i64 most):=fun q=>q.cell (HM.out.cell 0);have E2:∀q:BW w1,q.val.cell? ⟨w.heap.size,0,none⟩=some (.int .i64 u.k):=fun q=>q.cell (HU.out.cell 0);have E3:∀q:BW w1,q.val.cell? ⟨w.heap.size,1,none⟩=some (.int .i64 u.n):=fun q=>q.cell (HU.out.cell 1);have E4:∀q:BW w1,q.val.cell? ⟨w.heap.size,2,none⟩=some (.string u.t):=fun q=>q.cell (HU.out.cell 2);have E5:∀q:BW w1,q.val.cell? ⟨w.heap.size,3,none⟩=some (.slice u.LA u.ln u.lc):=fun q=>q.cell (HU.out.cell 3);have E6:∀q:BW w1,q.val.cell? ⟨w.heap.size,4,none⟩=some (.slice u.DA u.dn u.dc):=fun q=>q.cell (HU.out.cell 4);have W1:IntKind.i64.wrap (most-n)=most-n:=wrap_i64 (by omega) (by omega);have W2:IntKind.i64.wrap (n+bT y (most-n))=n+bT y (most-n):=wrap_i64 (by omega) (by omega)
 have K1:Hid (∀q:BW w1,Calls prog 139 #[u.val,.int .i64 (most-n)] q.val fun e w''=>e=.returned (.int .i64 (bT y (most-n)))/\∃q:BW w1,w''=q.val):=fun q=>
  Calls.bw (IH.out u (most-n) q.val (H.out.step q.below) (by omega) (by omega))
 refine fW 7 (by kernel_rfl) (by kernel_rfl) ?_;simp only[NX,Oq,OX,QM]
 repeat(go_big_quiet_step (with_reducible exact K1.out _))
 refine Ln ?_;rintro _ ⟨kw,rfl⟩;have F0:=(HG.out.step kw.below).frozen 0;have JG:=qD ((HG.out.step kw.below).Js 0 (.int .i64 (n+bT y (most-n))));have JB:=qD ((ey.Jy (g:=g) (HB.out.Jp kw.below)).set (p:=⟨g,0,none⟩) rfl (.int .i64 (n+bT y (most-n))));have e0:=E0 kw;have e1:=E1 kw;have hnm:g≠m:=fun e=>hne e.symm;clear E0 E1 E2 E3 E4 E5 E6 K1 W1 W2 HG HM HU H HB IH;generalize kw.val=w2 at*;go_wp2_with fail;go_ret;exact⟨rfl,JB.out,JG.out⟩
def zh(x:aC):Prop:=∀(c:VC) (most:Int) (w:World),RW w c x->1<=most->most<=17->
 Calls prog 140 #[c.val,.int .i64 most] w fun e w'=>e=.returned (.int .i64 (bE x most))/\Below w.heap.size w w'
theorem xZ(y:aC)(ih:zh y)(u:VC)(g m:Nat)(n most:Int)(w:World)(h:RW w u y)(hg:aE w g 3 #[.int .i64 n])(hm:aE w m 3 #[.int .i64 most])(hne:m≠g)(h1:0<=n)(h2:n<most-1)(h3:most<=17):
 Calls prog 185 #[u.val,.pointer (some ⟨g,0,none⟩),.pointer (some ⟨m,0,none⟩)] w fun e w'=>e=.returned (.bool (decide (max n (bE y (most-1))<most-1)))/\ey g w w'/\aE w' g 3 #[.int .i64 (max n (bE y (most-1)))]:=by
 have HG:=qD (hg.alloc (.cells u.arr 29));have HM:=qD (hm.alloc (.cells u.arr 29));have HU:Hid (aE (w.alloc (.cells u.arr 29)) w.heap.size 29 u.arr):=aE.Jq rfl;have H:=qD (h.alloc (.cells u.arr 29));have HB:=qD ((LH w.heap.size w).alloc (qL) (Obj.cells u.arr 29));have IH:=qD ih;have hgl:=hg.lt;have hml:=hm.lt
 have r1:1<=bE y (most-1)/\bE y (most-1)<=most-1:=by
  have:=lW y;unfold bE;omega
 clear h hg hm ih;by_cases hle:n<bE y (most-1)
 ·have HX:Hid (max n (bE y (most-1))=bE y (most-1)):=by unfold Hid;omega
  go_enter func185,ntmps185;go_wp2_with fail;generalize w.alloc (.cells u.arr 29)=w1 at*;have E0:∀q:BW w1,q.val.cell? ⟨g,0,none⟩=some (.int .i64 n):=fun q=>q.cell (HG.out.cell 0);have E1:∀q:BW w1,q.val.cell? ⟨m,0,none⟩=some (.int .i64 most):=fun q=>q.cell (HM.out.cell 0);have E2:∀q:BW w1,q.val.cell? ⟨w.heap.size,0,none⟩=some (.int .i64 u.k):=fun q=>q.cell (HU.out.cell 0);have E3:∀q:BW w1,q.val.cell? ⟨w.heap.size,1,none⟩=some (.int .i64 u.n):=fun q=>q.cell (HU.out.cell 1);have E4:∀q:BW w1,q.val.cell? ⟨w.heap.size,2,none⟩=some (.string u.t):=fun q=>q.cell (HU.out.cell 2);have E5:∀q:BW w1,q.val.cell? ⟨w.heap.size,3,none⟩=some (.slice u.LA u.ln u.lc):=fun q=>q.cell (HU.out.cell 3);have E6:∀q:BW w1,q.val.cell? ⟨w.heap.size,4,none⟩=some (.slice u.DA u.dn u.dc):=fun q=>q.cell (HU.out.cell 4);have W1:IntKind.i64.wrap (most-1)=most-1:=wrap_i64 (by omega) (by omega)
  have K1:Hid (∀q:BW w1,Calls prog 140 #[u.val,.int .i64 (most-1)] q.val fun e w''=>e=.returned (.int .i64 (bE y (most-1)))/\∃q:BW w1,w''=q.val):=fun q=>
   Calls.bw (IH.out u (most-1) q.val (H.out.step q.below) (by omega) (by omega))
  refine fW 6 (by kernel_rfl) (by kernel_rfl) ?_;simp only[NX,Oq,OX,QM]
  repeat(go_big_quiet_step (with_reducible exact K1.out _))
  refine Ln ?_;rintro _ ⟨kw,rfl⟩;have F0:=(HG.out.step kw.below).frozen 0;have JG:=qD ((HG.out.step kw.below).Js 0 (.int .i64 (bE y (most-1))));have JB:=qD ((ey.Jy (g:=g) (HB.out.Jp kw.below)).set (p:=⟨g,0,none⟩) rfl (.int .i64 (bE y (most-1))));have e0:=E0 kw;have e1:=E1 kw;have hnm:g≠m:=fun e=>hne e.symm;clear E0 E1 E2 E3 E4 E5 E6 K1 W1 HG HM HU H HB IH;generalize kw.val=w2 at*;go_wp2_with fail;go_ret;exact⟨by rw[HX.out];first|rfl|(rw[LN h2];rfl),JB.out,by rw[HX.out];exact JG.out⟩
 ·have HX:Hid (max n (bE y (most-1))=n):=by unfold Hid;omega
  go_enter func185,ntmps185;go_wp2_with fail;generalize w.alloc (.cells u.arr 29)=w1 at*;have E0:∀q:BW w1,q.val.cell? ⟨g,0,none⟩=some (.int .i64 n):=fun q=>q.cell (HG.out.cell 0);have E1:∀q:BW w1,q.val.cell? ⟨m,0,none⟩=some (.int .i64 most):=fun q=>q.cell (HM.out.cell 0);have E2:∀q:BW w1,q.val.cell? ⟨w.heap.size,0,none⟩=some (.int .i64 u.k):=fun q=>q.cell (HU.out.cell 0);have E3:∀q:BW w1,q.val.cell? ⟨w.heap.size,1,none⟩=some (.int .i64 u.n):=fun q=>q.cell (HU.out.cell 1);have E4:∀q:BW w1,q.val.cell? ⟨w.heap.size,2,none⟩=some (.string u.t):=fun q=>q.cell (HU.out.cell 2);have E5:∀q:BW w1,q.val.cell? ⟨w.heap.size,3,none⟩=some (.slice u.LA u.ln u.lc):=fun q=>q.cell (HU.out.cell 3);have E6:∀q:BW w1,q.val.cell? ⟨w.heap.size,4,none⟩=some (.slice u.DA u.dn u.dc):=fun q=>q.cell (HU.out.cell 4);have W1:IntKind.i64.wrap (most-1)=most-1:=wrap_i64 (by omega) (by omega)
  have K1:Hid (∀q:BW w1,Calls prog 140 #[u.val,.int .i64 (most-1)] q.val fun e w''=>e=.returned (.int .i64 (bE y (most-1)))/\∃q:BW w1,w''=q.val):=fun q=>
   Calls.bw (IH.out u (most-1) q.val (H.out.step q.below) (by omega) (by omega))
  refine fW 6 (by kernel_rfl) (by kernel_rfl) ?_;simp only[NX,Oq,OX,QM]
  repeat(go_big_quiet_step (with_reducible exact K1.out _))
  refine Ln ?_;rintro _ ⟨kw,rfl⟩;have F0:=(HG.out.step kw.below).frozen 0;have JG:=qD ((HG.out.step kw.below).Js 0 (.int .i64 n));have JB:=qD ((ey.Jy (g:=g) (HB.out.Jp kw.below)).set (p:=⟨g,0,none⟩) rfl (.int .i64 n));have e0:=E0 kw;have e1:=E1 kw;have hnm:g≠m:=fun e=>hne e.symm;clear E0 E1 E2 E3 E4 E5 E6 K1 W1 HG HM HU H HB IH;generalize kw.val=w2 at*;go_wp2_with fail;go_ret;exact⟨by rw[HX.out];first|rfl|(rw[LN h2];rfl),JB.out,by rw[HX.out];exact JG.out⟩
theorem aC.Km{p:aC->Prop}(h:∀x,(∀y∈x.parts,p y)->p x):∀x,p x:=by
 intro x
 induction x using aC.ind with
 | h k n t l d ihl ihd=>
  refine h _ fun y hy=>?_;unfold aC.parts at hy;split at hy
  ·exact ihl y hy
  ·split at hy
   ·obtain⟨f,hf,rfl⟩:=MS.1 hy;exact ihd f hf
   ·simp at hy
def JL(x:aC)(most:Int)(g m:Nat)(i:Nat)(wr:World):Prop:=
 1+(bp (x.parts.take i):Int)<most/\aE wr g 3 #[.int .i64 (1+(bp (x.parts.take i):Int))]/\aE wr m 3 #[.int .i64 most]
theorem xa{x y:aC}{i:Nat}{most:Int}(hy:x.parts[i]?=some y):
 (decide (1+(bp (x.parts.take i):Int)+bT y (most-(1+(bp (x.parts.take i):Int)))<most)=true->
   1+(bp (x.parts.take (i+1)):Int)<most/\1+(bp (x.parts.take i):Int)+bT y (most-(1+(bp (x.parts.take i):Int)))=1+(bp (x.parts.take (i+1)):Int))/\
 (decide (1+(bp (x.parts.take i):Int)+bT y (most-(1+(bp (x.parts.take i):Int)))<most)=false->
   1+(bp (x.parts.take i):Int)+bT y (most-(1+(bp (x.parts.take i):Int)))=bT x most):=by
 have h1:=ou hy;have h2:=ov x.parts (i+1);have h3:=fm x;unfold bT;constructor
 ·intro hd;simp at hd;omega
 ·intro hd;simp at hd;omega
open Go.Shelf in
theorem Ag:∀x,zg x:=by
 refine aC.Km fun x ih=>?_;intro c most w h h1 h2;have hx:=ot x;cases hm:((1:Int)==most)
 ·have hm':1<most:=by simp at hm;omega
  have H:=qD h;have IH:=qD ih;clear h ih;go_enter func139,ntmps139;go_wp2_with fail;have B1:aE (((w.alloc (.cells c.arr 29)).alloc (.cells #[.int .i64 most] 3)).alloc (.cells #[.int .i64 1] 3)) (w.heap.size+1) 3 #[.int .i64 most]:=(aE.Jq (by simp)).alloc _;have B2:aE (((w.alloc (.cells c.arr 29)).alloc (.cells #[.int .i64 most] 3)).alloc (.cells #[.int .i64 1] 3)) (w.heap.size+1+1) 3 #[.int .i64 1]:=aE.Jq (by simp);have B3:Below w.heap.size w (((w.alloc (.cells c.arr 29)).alloc (.cells #[.int .i64 most] 3)).alloc (.cells #[.int .i64 1] 3)):=(((LH _ _).alloc (qL) _).alloc (by simp) _).alloc (by simp;omega) _;have B4:=H.out.lt.Jv (G:=fun b=>b≠w.heap.size+1+1) (w':=(((w.alloc (.cells c.arr 29)).alloc (.cells #[.int .i64 most] 3)).alloc (.cells #[.int .i64 1] 3))) fun b hb _=>⟨by omega,B3.block b hb.2⟩;have hsz:(((w.alloc (.cells c.arr 29)).alloc (.cells #[.int .i64 most] 3)).alloc (.cells #[.int .i64 1] 3)).heap.size=w.heap.size+3:=by simp
  refine(uL 184 (w.heap.size+1+1) (w.heap.size+1) x c _ B4 (JL x most (w.heap.size+1+1) (w.heap.size+1)) (fun wr=>aE wr (w.heap.size+1+1) 3 #[.int .i64 (bT x most)]) (enters_of func184 (by kernel_rfl) rfl) ⟨by simpa[bp] using hm',by simpa[bp] using B2,B1⟩ ?_ ?_ ?_).mono ?_
  ·rintro i w1 w2 ⟨a,b,d⟩ hb;exact⟨a,b.step hb,d.step hb⟩
  ·rintro i y u wr hy ⟨a,b,d⟩ hb hr;obtain⟨n1,n2⟩:=xa (most:=most) hy;refine(xY y (IH.out y (LP hy)) u _ _ _ most wr hr b d (by omega) (by omega) a h2).mono ?_;rintro e w' ⟨rfl,k1,k2⟩;refine⟨_,rfl,k1,fun hd=>?_,fun hd=>?_⟩
   ·obtain⟨n3,n4⟩:=n1 hd;rw[n4] at k2;exact⟨n3,k2,d.but k1 (by omega)⟩
   ·rw[n2 hd] at k2;exact k2
  ·rintro wr ⟨a,b,d⟩;rw[PM] at a b
   have e:1+(bp x.parts:Int)=bT x most:=by
    have:=fm x;unfold bT;omega
   rw[e] at b;exact b
  ·rintro e w' ⟨rfl,hb,hf⟩;have q:=hf.cell 0;simp at q;have HB:=qD (B3.trans (hb.below (by omega) (by omega)));clear B1 B2 B3 B4 hb hf H IH;go_wp2_with fail;go_ret;exact⟨rfl,HB.out⟩
 ·obtain rfl:most=1:=by simp at hm;omega
  clear h ih;go_enter func139,ntmps139;go_wp2_with fail;go_ret;refine⟨?_,((((LH _ _).alloc (qL) _).alloc (by simp) _).alloc (by simp;omega) _)⟩;have e:bT x 1=1:=by unfold bT;omega
  rw[e];rfl
theorem Ev{k:IntKind}{a b:Int}(h:a=b):Ending.returned (.int k a)=.returned (.int k b):=by rw[h]
def JM(x:aC)(most:Int)(g m:Nat)(i:Nat)(wr:World):Prop:=
 (bA (x.parts.take i):Int)<most-1/\aE wr g 3 #[.int .i64 (bA (x.parts.take i):Int)]/\aE wr m 3 #[.int .i64 most]
theorem xb{x y:aC}{i:Nat}{most:Int}(hy:x.parts[i]?=some y):
 (decide (max (bA (x.parts.take i):Int) (bE y (most-1))<most-1)=true->
   (bA (x.parts.take (i+1)):Int)<most-1/\max (bA (x.parts.take i):Int) (bE y (most-1))=(bA (x.parts.take (i+1)):Int))/\
 (decide (max (bA (x.parts.take i):Int) (bE y (most-1))<most-1)=false->(bA (x.parts.take i):Int)<most-1->
   max (bA (x.parts.take i):Int) (bE y (most-1))=bE x most-1):=by
 have h1:=mM hy;have h2:=tE x.parts (i+1);have h3:=fV x;unfold bE;constructor
 ·intro hd;simp at hd;omega
 ·intro hd _;simp at hd;omega
open Go.Shelf in
theorem Ah:∀x,zh x:=by
 refine aC.Km fun x ih=>?_;intro c most w h h1 h2;have hx:=lW x;cases hm:(most==1)
 ·have hm':1<most:=by simp at hm;omega
  have H:=qD h;have IH:=qD ih;clear h ih;go_enter func140,ntmps140;go_wp2_with fail;have B1:aE (((w.alloc (.cells c.arr 29)).alloc (.cells #[.int .i64 most] 3)).alloc (.cells #[.int .i64 0] 3)) (w.heap.size+1) 3 #[.int .i64 most]:=(aE.Jq (by simp)).alloc _;have B2:aE (((w.alloc (.cells c.arr 29)).alloc (.cells #[.int .i64 most] 3)).alloc (.cells #[.int .i64 0] 3)) (w.heap.size+1+1) 3 #[.int .i64 0]:=aE.Jq (by simp);have B3:Below w.heap.size w (((w.alloc (.cells c.arr 29)).alloc (.cells #[.int .i64 most] 3)).alloc (.cells #[.int .i64 0] 3)):=(((LH _ _).alloc (qL) _).alloc (by simp) _).alloc (by simp;omega) _;have B4:=H.out.lt.Jv (G:=fun b=>b≠w.heap.size+1+1) (w':=(((w.alloc (.cells c.arr 29)).alloc (.cells #[.int .i64 most] 3)).alloc (.cells #[.int .i64 0] 3))) fun b hb _=>⟨by omega,B3.block b hb.2⟩;have hsz:(((w.alloc (.cells c.arr 29)).alloc (.cells #[.int .i64 most] 3)).alloc (.cells #[.int .i64 0] 3)).heap.size=w.heap.size+3:=by simp
  refine(uL 185 (w.heap.size+1+1) (w.heap.size+1) x c _ B4 (JM x most (w.heap.size+1+1) (w.heap.size+1)) (fun wr=>aE wr (w.heap.size+1+1) 3 #[.int .i64 (bE x most-1)]) (enters_of func185 (by kernel_rfl) rfl) ⟨by simp[bA];omega,by simpa[bA] using B2,B1⟩ ?_ ?_ ?_).mono ?_
  ·rintro i w1 w2 ⟨a,b,d⟩ hb;exact⟨a,b.step hb,d.step hb⟩
  ·rintro i y u wr hy ⟨a,b,d⟩ hb hr;obtain⟨n1,n2⟩:=xb (most:=most) hy;refine(xZ y (IH.out y (LP hy)) u _ _ _ most wr hr b d (by omega) (by omega) a h2).mono ?_;rintro e w' ⟨rfl,k1,k2⟩;refine⟨_,rfl,k1,fun hd=>?_,fun hd=>?_⟩
   ·obtain⟨n3,n4⟩:=n1 hd;rw[n4] at k2;exact⟨n3,k2,d.but k1 (by omega)⟩
   ·rw[n2 hd a] at k2;exact k2
  ·rintro wr ⟨a,b,d⟩;rw[PM] at a b
   have e:(bA x.parts:Int)=bE x most-1:=by
    have:=fV x;unfold bE;omega
   rw[e] at b;exact b
  ·rintro e w' ⟨rfl,hb,hf⟩;have q:=hf.cell 0;simp at q;have HB:=qD (B3.trans (hb.below (by omega) (by omega)));clear B1 B2 B3 B4 hb hf H IH;have r1:1<=bE x most/\bE x most<=17:=by unfold bE;omega
   go_wp2_with fail;go_ret;exact⟨Ev (by omega),HB.out⟩
 ·obtain rfl:most=1:=by simp at hm;omega
  clear h ih;go_enter func140,ntmps140;go_wp2_with fail;go_ret;refine⟨?_,(((LH _ _).alloc (qL) _).alloc (by simp) _)⟩;have e:bE x 1=1:=by unfold bE;omega
  rw[e];rfl
def qi(b:UInt8):Bool:=decide (33<=b.toNat)&&decide (b.toNat<=126)&&!(b.toNat==46)
def GZ(b:UInt8):Bool:=decide (32<=b.toNat)&&decide (b.toNat<=126)
def aN(s:ByteArray):Bool:=decide (1<=s.size)&&decide (s.size<=32)&&!(s.data.toList.head?.map UInt8.toNat==some 36)&&s.data.toList.all qi
def iz(s:ByteArray):Bool:=decide (1<=s.size)&&decide (s.size<=128)&&s.data.toList.all GZ
theorem fX(s:ByteArray)(i:Nat)(h:i<s.size):s.data.toList[i]?=some s[i]:=by
 rw[LI (by simpa using h)];rfl
theorem mQ{p:UInt8->Bool}{s:ByteArray}{i:Nat}(h:i<s.size)(ha:(s.data.toList.take i).all p=true)(hp:p s[i]=true):(s.data.toList.take (i+1)).all p=true:=by
 rw[take_snoc' (fX s i h),OK,ha];simp[hp]
theorem fY{p:UInt8->Bool}{s:ByteArray}{i:Nat}(h:i<s.size)(hp:p s[i]=false):s.data.toList.all p=false:=by
 rw[Ot];exact⟨s[i],LP (fX s i h),by simp[hp]⟩
theorem oc{p:UInt8->Bool}{s:ByteArray}{i:Nat}(h:s.size<=i)(ha:(s.data.toList.take i).all p=true):s.data.toList.all p=true:=by
 rwa [LS (by simpa using h)] at ha
theorem kl(s:ByteArray)(h:0<s.size):s.data.toList.head?.map UInt8.toNat=some s[0].toNat:=by
 rw[List.head?_eq_getElem?,fX s 0 h];rfl
theorem mR{p:UInt8->Bool}{l:List UInt8}:(l.take 0).all p=true:=by simp
theorem lX(s:ByteArray)(w:World):Calls prog 187 #[.string s] w fun e w'=>e=.returned (.bool (aN s))/\w'=w:=by
 by_cases h1:s.size<1
 ·have HV:Hid (aN s=false):=by unfold Hid aN;rw[LW (by omega)];rfl
  go_enter func187,Pv;go_wp2_with fail;go_ret;exact⟨by rw[HV.out];rfl,rfl⟩
 by_cases h2:32<s.size
 ·have HV:Hid (aN s=false):=by unfold Hid aN;rw[LN (by omega),LW (by omega)];rfl
  go_enter func187,Pv;go_wp2_with fail;go_ret;exact⟨by rw[HV.out];rfl,rfl⟩
 cases h3:((s[0].toNat:Int)==36);rotate_left
 ·have HV:Hid (aN s=false):=by
   have:s[0].toNat=36:=by simp at h3;omega
   unfold Hid aN;rw[LN (by omega),LN (by omega),kl s (by omega),this];rfl
  go_enter func187,Pv;go_wp2_with fail;go_ret;exact⟨by rw[HV.out];rfl,rfl⟩
 have HA:Hid (aN s=s.data.toList.all qi):=by
  have:¬s[0].toNat=36:=by simp at h3;omega
  unfold Hid aN;rw[LN (by omega),LN (by omega),kl s (by omega)];simp[this]
 go_enter func187,Pv;go_wp2_with fail
 go_loopw [19] (fun v wr=>∃i:Nat,i<=s.size/\v=.int .i64 i/\(s.data.toList.take i).all qi=true/\wr=w) (fun v _=>s.size-(intOf v).toNat)
 ·exact⟨0,LQ _,rfl,mR,rfl⟩
 case round=>
  obtain⟨i,hi,rfl,ha,rfl⟩:=hrel;have HL:=qD ha;clear ha;by_cases hlt:i<s.size
  ·have hx:=s[i].toNat_lt;by_cases hb:(s[i].toNat:Int)<33
   ·have HV:Hid (aN s=false):=by rw[Hid,HA.out];exact fY hlt (by unfold qi;rw[LW (by omega)];rfl)
    go_wp2_with fail;go_ret;exact⟨by rw[HV.out];rfl,rfl⟩
   by_cases hc:126<(s[i].toNat:Int)
   ·have HV:Hid (aN s=false):=by rw[Hid,HA.out];exact fY hlt (by unfold qi;rw[LN (by omega),LW (by omega)];rfl)
    go_wp2_with fail;go_ret;exact⟨by rw[HV.out];rfl,rfl⟩
   cases hd:((s[i].toNat:Int)==46);rotate_left
   ·have HV:Hid (aN s=false):=by
     have:s[i].toNat=46:=by simp at hd;omega
     rw[Hid,HA.out];exact fY hlt (by unfold qi;rw[this];rfl)
    go_wp2_with fail;go_ret;exact⟨by rw[HV.out];rfl,rfl⟩
   have HN:Hid ((s.data.toList.take (i+1)).all qi=true):=by
    have:¬s[i].toNat=46:=by simp at hd;omega
    exact mQ hlt HL.out (by unfold qi;rw[LN (by omega),LN (by omega)];simp[this])
   go_wp2_with fail;go_roundw
   ·exact⟨i+1,by omega,by go_num,HN.out,trivial⟩
   ·simp[intOf];omega
  ·have HV:Hid (aN s=true):=by rw[Hid,HA.out];exact oc (by omega) HL.out
   go_wp2_with fail;go_ret;exact⟨by rw[HV.out];rfl,rfl⟩
theorem gi(s:ByteArray)(w:World):Calls prog 108 #[.string s] w fun e w'=>e=.returned (.bool (aN s))/\w'=w:=by
 by_cases h1:s.size<1
 ·have HV:Hid (aN s=false):=by unfold Hid aN;rw[LW (by omega)];rfl
  go_enter func108,Pw;go_wp2_with fail;go_ret;exact⟨by rw[HV.out];rfl,rfl⟩
 by_cases h2:32<s.size
 ·have HV:Hid (aN s=false):=by unfold Hid aN;rw[LN (by omega),LW (by omega)];rfl
  go_enter func108,Pw;go_wp2_with fail;go_ret;exact⟨by rw[HV.out];rfl,rfl⟩
 cases h3:((s[0].toNat:Int)==36);rotate_left
 ·have HV:Hid (aN s=false):=by
   have:s[0].toNat=36:=by simp at h3;omega
   unfold Hid aN;rw[LN (by omega),LN (by omega),kl s (by omega),this];rfl
  go_enter func108,Pw;go_wp2_with fail;go_ret;exact⟨by rw[HV.out];rfl,rfl⟩
 have HA:Hid (aN s=s.data.toList.all qi):=by
  have:¬s[0].toNat=36:=by simp at h3;omega
  unfold Hid aN;rw[LN (by omega),LN (by omega),kl s (by omega)];simp[this]
 go_enter func108,Pw;go_wp2_with fail
 go_loopw [3] (fun v wr=>∃i:Nat,i<=s.size/\v=.int .i64 i/\(s.data.toList.take i).all qi=true/\wr=w) (fun v _=>s.size-(intOf v).toNat)
 ·exact⟨0,LQ _,rfl,mR,rfl⟩
 case round=>
  obtain⟨i,hi,rfl,ha,rfl⟩:=hrel;have HL:=qD ha;clear ha;by_cases hlt:i<s.size
  ·have hx:=s[i].toNat_lt;by_cases hb:(s[i].toNat:Int)<33
   ·have HV:Hid (aN s=false):=by rw[Hid,HA.out];exact fY hlt (by unfold qi;rw[LW (by omega)];rfl)
    go_wp2_with fail;go_ret;exact⟨by rw[HV.out];rfl,rfl⟩
   by_cases hc:126<(s[i].toNat:Int)
   ·have HV:Hid (aN s=false):=by rw[Hid,HA.out];exact fY hlt (by unfold qi;rw[LN (by omega),LW (by omega)];rfl)
    go_wp2_with fail;go_ret;exact⟨by rw[HV.out];rfl,rfl⟩
   cases hd:((s[i].toNat:Int)==46);rotate_left
   ·have HV:Hid (aN s=false):=by
     have:s[i].toNat=46:=by simp at hd;omega
     rw[Hid,HA.out];exact fY hlt (by unfold qi;rw[this];rfl)
    go_wp2_with fail;go_ret;exact⟨by rw[HV.out];rfl,rfl⟩
   have HN:Hid ((s.data.toList.take (i+1)).all qi=true):=by
    have:¬s[i].toNat=46:=by simp at hd;omega
    exact mQ hlt HL.out (by unfold qi;rw[LN (by omega),LN (by omega)];simp[this])
   go_wp2_with fail;go_roundw
   ·exact⟨i+1,by omega,by go_num,HN.out,trivial⟩
   ·simp[intOf];omega
  ·have HV:Hid (aN s=true):=by rw[Hid,HA.out];exact oc (by omega) HL.out
   go_wp2_with fail;go_ret;exact⟨by rw[HV.out];rfl,rfl⟩
def bt(t:ByteArray):Bool:=Lib.validD t.data.toList
def eN(k n:Int)(t:ByteArray)(ln dn:Nat):Prop:=
 (k=3\/k=9\/k=10\/n=0)/\(k=4\/k=7\/k=8\/t.size=0)/\(k=6\/ln=0)/\(k=5\/dn=0)/\
 (k=1\/k=2\/k=11\/k=3\/(k=9/\(n=0\/n=1))\/(k=10/\0<=n)\/(k=4/\t.size<=4096/\bt t=true)\/(k=7/\t.size<=4096)\/(k=8/\t.size=12)\/k=6\/k=5)
def iF(nm:ByteArray->Bool)(d:List bf):Prop:=(∀f∈d,nm f.s=true)/\(d.map bf.s).Nodup
mutual
def av(nm:ByteArray->Bool):aC->Prop
 | .mk k n t l d=>eN k n t l.length d.length/\mS nm l/\mT nm d/\iF nm d
def mS(nm:ByteArray->Bool):List aC->Prop
 | []=>True
 | x::r=>av nm x/\mS nm r
def mT(nm:ByteArray->Bool):List bf->Prop
 | []=>True
 | f::r=>xf nm f/\mT nm r
def xf(nm:ByteArray->Bool):bf->Prop
 | .mk _ v=>av nm v
end
theorem uM(nm:ByteArray->Bool)(l:List aC):mS nm l↔∀y∈l,av nm y:=by
 induction l with
 | nil=>simp[mS]
 | cons x r ih=>simp[mS,ih]
theorem xg(nm:ByteArray->Bool)(f:bf):xf nm f↔av nm f.v:=by cases f;simp only[xf];rfl
theorem uN(nm:ByteArray->Bool)(d:List bf):mT nm d↔∀f∈d,av nm f.v:=by
 induction d with
 | nil=>simp[mT]
 | cons x r ih=>simp[mT,ih,xg]
theorem aZ(nm:ByteArray->Bool)(x:aC):av nm x↔eN x.k x.n x.t x.l.length x.d.length/\(∀y∈x.l,av nm y)/\(∀f∈x.d,av nm f.v)/\iF nm x.d:=by
 cases x;rw[av,uM,uN];rfl
def bj(nm:ByteArray->Bool)(d:List bf):Prop:=iF nm d/\∀f∈d,av nm f.v
noncomputable def aP(nm:ByteArray->Bool)(x:aC):Bool:=@decide (av nm x) (Classical.propDecidable _)
noncomputable def dT(nm:ByteArray->Bool)(d:List bf):Bool:=@decide (bj nm d) (Classical.propDecidable _)
section
variable {nm:ByteArray->Bool} {x:aC} {d:List bf}
theorem cX(h:av nm x):aP nm x=true:=by unfold aP;exact @LN _ (Classical.propDecidable _) h
theorem gV(h:¬av nm x):aP nm x=false:=by unfold aP;exact @LW _ (Classical.propDecidable _) h
theorem eO:aP nm x=true↔av nm x:=by unfold aP;exact @NJ _ (Classical.propDecidable _)
theorem jU:aP nm x=false↔¬av nm x:=by unfold aP;exact @Oi _ (Classical.propDecidable _)
theorem gW(h:bj nm d):dT nm d=true:=by unfold dT;exact @LN _ (Classical.propDecidable _) h
theorem dC(h:¬bj nm d):dT nm d=false:=by unfold dT;exact @LW _ (Classical.propDecidable _) h
theorem bj.nil:bj nm []:=⟨⟨by simp,by simp⟩,by simp⟩
theorem bj.next{i:Nat}{f:bf}(h:bj nm (d.take i))(hf:d[i]?=some f)(h1:nm f.s=true)(h2:f.s∉(d.take i).map bf.s)(h3:av nm f.v):bj nm (d.take (i+1)):=by
 rw[take_snoc' hf];refine⟨⟨fun g hg=>?_,?_⟩,fun g hg=>?_⟩
 ·rcases LY.1 hg with hg|hg
  ·exact h.1.1 g hg
  ·simp at hg;subst hg;exact h1
 ·rw[Lc,List.nodup_append];refine⟨h.1.2,by simp,fun a ha b hb=>?_⟩;simp at hb;subst hb;intro e;subst e;exact h2 ha
 ·rcases LY.1 hg with hg|hg
  ·exact h.2 g hg
  ·simp at hg;subst hg;exact h3
theorem bj.KZ{i:Nat}{f:bf}(hf:d[i]?=some f)(h1:nm f.s=false):¬bj nm d:=fun h=>by
 have:=h.1.1 f (LP hf);rw[h1] at this;cases this
theorem bj.KQ{i:Nat}{f:bf}(hf:d[i]?=some f)(h1:¬av nm f.v):¬bj nm d:=fun h=>h1 (h.2 f (LP hf))
theorem bj.Ke{i:Nat}{f:bf}(hf:d[i]?=some f)(h1:f.s∈(d.take i).map bf.s):¬bj nm d:=fun h=>by
 have hn:=h.1.2;have e:d=d.take i++f::d.drop (i+1):=by rw[<-bM hf,Lf]
 rw[e,Lc,List.nodup_append] at hn;exact hn.2.2 f.s h1 f.s (by simp) rfl
end
theorem Ai{nm:ByteArray->Bool}{x:aC}(hk:x.k=5)(hh:eN x.k x.n x.t x.l.length x.d.length):aP nm x=dT nm x.d:=by
 have hl:x.l=[]:=LO (by have:=hh.2.2.1;omega);by_cases h:bj nm x.d
 ·rw[gW h];exact cX ((aZ nm x).2 ⟨hh,by simp[hl],h.2,h.1⟩)
 ·rw[dC h];exact gV fun hs=>h ⟨((aZ nm x).1 hs).2.2.2,((aZ nm x).1 hs).2.2.1⟩
theorem xh{nm:ByteArray->Bool}{x:aC}(hk:x.k=6)(hh:eN x.k x.n x.t x.l.length x.d.length)(h:∀y∈x.l,av nm y):aP nm x=true:=by
 have hd:x.d=[]:=LO (by have:=hh.2.2.2.1;omega);exact cX ((aZ nm x).2 ⟨hh,h,by simp[hd],by simp[hd,iF]⟩)
theorem aQ{nm:ByteArray->Bool}{x:aC}(h:¬eN x.k x.n x.t x.l.length x.d.length):aP nm x=false:=gV fun hs=>h ((aZ nm x).1 hs).1
theorem mU{nm:ByteArray->Bool}{x:aC}{i:Nat}{y:aC}(hy:x.l[i]?=some y)(h:¬av nm y):aP nm x=false:=gV fun hs=>h (((aZ nm x).1 hs).2.1 y (LP hy))
theorem bh{nm:ByteArray->Bool}{x:aC}(h5:x.k≠5)(h6:x.k≠6)(hh:eN x.k x.n x.t x.l.length x.d.length):aP nm x=true:=by
 have hl:x.l=[]:=LO (by have:=hh.2.2.1;omega);have hd:x.d=[]:=LO (by have:=hh.2.2.2.1;omega);exact cX ((aZ nm x).2 ⟨hh,by simp[hl],by simp[hd],by simp[hd,iF]⟩)
noncomputable def aO(x:aC):Bool:=decide (x.size<=1024)&&decide (x.Ju<=16)&&aP aN x
def zi(n:Int):Nat:=((n+9223372036854775808)%18446744073709551616).toNat
def mV(n:Int)(s:Nat):Int:=((zi n/2^s%256:Nat):Int)
def fo(n:Int)(i:Nat):List Int:=(List.range i).map fun j=>mV n (56-8*j)
def nums(n:Int):List Int:=fo n 8
theorem nh(n:Int)(i:Nat):fo n (i+1)=fo n i++[mV n (56-8*i)]:=by
 unfold fo;rw[List.range_succ,Lc];rfl
theorem fp(n:Int)(i:Nat):(fo n i).length=i:=by simp[fo]
theorem Ew(n:Int)(s:Nat):0<=mV n s/\mV n s<256:=by
 unfold mV;omega
def jA(x:UInt8):List Int:=if x=0 then [0,255] else [(x.toNat:Int)]
def bO:List UInt8->List Int
 | []=>[]
 | x::r=>jA x++bO r
def eP(s:ByteArray):List Int:=s.data.toList.map fun x=>(x.toNat:Int)
mutual
def aq:aC->List Int
 | .mk k n t l d=>k::(if k=3\/k=9\/k=10 then nums n else if k=4\/k=7\/k=8 then bO t.data.toList++[0,0] else if k=6 then dN l++[0] else if k=5 then dL d++[0] else [])
def dN:List aC->List Int
 | []=>[]
 | v::r=>1::(aq v++dN r)
def dL:List bf->List Int
 | []=>[]
 | f::r=>Ga f++dL r
def Ga:bf->List Int
 | .mk s v=>1::(eP s++0::aq v)
end
theorem km(f:bf):Ga f=1::(eP f.s++0::aq f.v):=by cases f;simp only[Ga];rfl
theorem dA(x:aC):aq x=x.k::(if x.k=3\/x.k=9\/x.k=10 then nums x.n else if x.k=4\/x.k=7\/x.k=8 then bO x.t.data.toList++[0,0] else if x.k=6 then dN x.l++[0] else if x.k=5 then dL x.d++[0] else []):=by cases x;rw[aq];rfl
theorem jx:∀l m:List aC,dN (l++m)=dN l++dN m
 | [],m=>rfl
 | a::r,m=>by rw[Lj,dN,dN,jx r m];simp
theorem jy:∀l m:List bf,dL (l++m)=dL l++dL m
 | [],m=>rfl
 | a::r,m=>by rw[Lj,dL,dL,jy r m];simp
theorem rI{l:List aC}{i:Nat}{y:aC}(h:l[i]?=some y):dN (l.take (i+1))=dN (l.take i)++1::aq y:=by
 rw[take_snoc' h,jx,dN,dN];simp
theorem rJ{l:List bf}{i:Nat}{y:bf}(h:l[i]?=some y):dL (l.take (i+1))=dL (l.take i)++(1::(eP y.s++0::aq y.v)):=by
 rw[take_snoc' h,jy,dL,dL,km];simp
theorem mW:∀l m:List UInt8,bO (l++m)=bO l++bO m
 | [],m=>rfl
 | a::r,m=>by
  rw[Lj,bO,bO,mW r m,Ld]
theorem ox{l:List UInt8}{i:Nat}{y:UInt8}(h:l[i]?=some y):bO (l.take (i+1))=bO (l.take i)++jA y:=by
 rw[take_snoc' h,mW,bO,bO];simp
theorem jB:∀l:List UInt8,(bO l).length<=2*l.length
 | []=>by simp[bO]
 | a::r=>by
  have:=jB r;rw[bO,jA];split<;>simp<;>omega
def cS(l:List aC):List Int:=l.flatMap aq
theorem ni{l:List aC}{i:Nat}{y:aC}(h:l[i]?=some y):cS (l.take (i+1))=cS (l.take i)++aq y:=by
 rw[take_snoc' h];simp[cS]
theorem nj(t:ByteArray):t.data.toList.length=t.size:=by rw[Lv];rfl
theorem eN.text{k n:Int}{t:ByteArray}{ln dn:Nat}(h:eN k n t ln dn):t.data.toList.length<=4096:=by
 have e:=nj t;obtain⟨_,h2,_,_,h5⟩:=h;rw[e];rcases h2 with h|h|h|h<;>rcases h5 with h' | h' | h' | h' | ⟨h',_⟩|⟨h',_⟩|⟨h',h'',_⟩|⟨h',h''⟩|⟨h',h''⟩|h' | h'<;>omega
theorem eN.kind{k n:Int}{t:ByteArray}{ln dn:Nat}(h:eN k n t ln dn):1<=k/\k<=11:=by
 obtain⟨_,_,_,_,h5⟩:=h;rcases h5 with h' | h' | h' | h' | ⟨h',_⟩|⟨h',_⟩|⟨h',h'',_⟩|⟨h',h''⟩|⟨h',h''⟩|h' | h'<;>omega
theorem uO:∀{l:List aC},(∀y∈l,(aq y).length+40<=8300*y.size)->(dN l).length<=8300*bp l
 | [],_=>by simp[dN,bp]
 | a::r,h=>by
  have h1:=h a (by simp);have h2:=uO (l:=r) fun y hy=>h y (by simp[hy]);rw[dN,bp];simp;omega
theorem Cp{s:ByteArray}(h:aN s=true):(eP s).length<=32:=by
 simp only[aN,ME,Mg] at h;have e:=nj s;unfold eP;rw[Lb,e];exact h.1.1.2
theorem uP:∀{l:List bf},(∀f∈l,aN f.s=true/\(aq f.v).length+40<=8300*f.v.size)->(dL l).length<=8300*bp (l.map bf.v)
 | [],_=>by simp[dL,bp]
 | a::r,h=>by
  obtain⟨h0,h1⟩:=h a (by simp);have h2:=uP (l:=r) fun y hy=>h y (by simp[hy]);have h3:=Cp h0;rw[dL,Mb,bp,km];simp;omega
theorem Ex(x:aC):av aN x->(aq x).length+40<=8300*x.size:=by
 induction x using aC.ind with
 | h k n t l d ihl ihd=>
  intro hs;obtain⟨hh,hl,hd,hn⟩:=(aZ aN _).1 hs;simp only[aC.k,aC.n,aC.t,aC.l,aC.d] at hh hl hd hn;have ht:=hh.text;have e:=fm (.mk k n t l d);rw[dA,e];show(k::(if k=3\/k=9\/k=10 then nums n else if k=4\/k=7\/k=8 then bO t.data.toList++[0,0] else if k=6 then dN l++[0] else if k=5 then dL d++[0] else [])).length+40<=8300*(1+bp (if k=6 then l else if k=5 then d.map bf.v else []));have hx:=jB t.data.toList;by_cases h1:k=3\/k=9\/k=10
  ·rw[LZ h1];have:=fp n 8;simp only[Ll,nums];omega
  rw[LU h1];by_cases h2:k=4\/k=7\/k=8
  ·rw[LZ h2];simp only[Ll,LM,Mp];omega
  rw[LU h2];by_cases h6:k=6
  ·rw[LZ h6,LZ h6];have:=uO (l:=l) fun y hy=>ihl y hy (hl y hy);simp only[Ll,LM,Mp];omega
  rw[LU h6,LU h6];by_cases h5:k=5
  ·rw[LZ h5,LZ h5];have:=uP (l:=d) fun f hf=>⟨hn.1 f hf,ihd f hf (hd f hf)⟩;simp only[Ll,LM,Mp];omega
  ·rw[LU h5,LU h5];simp only[Ll,Mp];omega
def jC(x:aC):Bool:=decide (x.k=0)&&(decide (x.n=0)&&(decide (x.t.size=0)&&(decide (x.l.length=0)&&decide (x.d.length=0))))
noncomputable def cr(x:aC):Bool:=jC x||aO x
def nF(x:aC):Prop:=jC x=true\/av aN x
theorem eF{x:aC}(h:cr x=true):nF x/\(aq x).length<=8500000:=by
 unfold cr at h;rw[Bool.or_eq_true] at h;rcases h with h|h
 ·refine⟨.inl h,?_⟩;simp only[jC,ME,Mg] at h;rw[dA,h.1];simp
 ·simp only[aO,ME,Mg] at h;have hs:=eO.1 h.2;refine⟨.inr hs,?_⟩;have:=Ex x hs;have:=h.1.1;omega
theorem nF.kind{x:aC}(h:nF x):0<=x.k/\x.k<=11:=by
 rcases h with h|h
 ·simp only[jC,ME,Mg] at h;omega
 ·have:=((aZ aN x).1 h).1.kind;omega
theorem nF.text{x:aC}(h:nF x):x.t.size<=4096:=by
 rcases h with h|h
 ·simp only[jC,ME,Mg] at h;omega
 ·have:=((aZ aN x).1 h).1.text
  rwa [nj] at this
theorem nF.list{x:aC}(h:nF x):∀y∈x.l,nF y:=by
 intro y hy;rcases h with h|h
 ·simp only[jC,ME,Mg] at h;have:=LO h.2.2.2.1;rw[this] at hy;cases hy
 ·exact .inr (((aZ aN x).1 h).2.1 y hy)
theorem nF.Kv{x:aC}(h:nF x):∀f∈x.d,nF f.v/\aN f.s=true:=by
 intro y hy;rcases h with h|h
 ·simp only[jC,ME,Mg] at h;have:=LO h.2.2.2.2;rw[this] at hy;cases hy
 ·exact⟨.inr (((aZ aN x).1 h).2.2.1 y hy),((aZ aN x).1 h).2.2.2.1 y hy⟩
def ai(l:List Int):List Value:=l.map (Value.int .u8)
theorem oy(l m:List Int):ai (l++m)=ai l++ai m:=by simp[ai]
theorem aW(l m:List Int):strOfNums (l++m)=strOfNums l++strOfNums m:=by
 apply Mw;simp[strOfNums]
theorem jz(s:ByteArray):strOfNums (eP s)=s:=by
 apply Mw;apply Array.ext';simp only[strOfNums,eP,NU,List.toList_toArray]
 conv=>rhs;rw[<-List.map_id s.data.toList]
 apply PZ;intro x _;simp
theorem lP:strOfNums []=empty:=rfl
theorem mX(s:ByteArray):(eP s).length=s.size:=by rw[eP,Lb,nj]
theorem zj(a:Nat)(h:a<18446744073709551616):a ^^^ 9223372036854775808=(a+9223372036854775808)%18446744073709551616:=by
 have key:∀r,r<9223372036854775808->r ^^^ 9223372036854775808=r+9223372036854775808:=by
  intro r hr;have e:=Nat.two_pow_add_eq_or_of_lt (i:=63) (a:=1) (b:=r) (by simpa using hr);rw[show r+9223372036854775808=2^63*1+r by omega,e];apply Nat.eq_of_testBit_eq;intro i;rw[Nat.testBit_xor,Nat.testBit_or,show(9223372036854775808:Nat)=2^63 from rfl,Oj];rw[Nat.testBit_two_pow];by_cases hi:63=i
  ·subst hi;rw[Nat.testBit_lt_two_pow hr];simp
  ·simp[hi]
 rcases NS a 9223372036854775808 with hl|hg
 ·rw[key a hl];omega
 ·obtain⟨r,rfl⟩:∃r,a=r+9223372036854775808:=⟨a-9223372036854775808,by omega⟩;have hr:r<9223372036854775808:=by omega
  rw[<-key r hr,Nat.xor_assoc,Nat.xor_self,Nat.xor_zero,key r hr];omega
section
variable {α:Type} {rec:α->List Value} {s:Nat}
def aJ(rec:α->List Value)(xs:List α):List Value:=xs.flatMap rec
theorem eQ(rec:α->List Value)(xs ys:List α):aJ rec (xs++ys)=aJ rec xs++aJ rec ys:=by simp[aJ]
theorem bN(rec:α->List Value)(xs:List α)(a:α):aJ rec (xs++[a])=aJ rec xs++rec a:=by simp[aJ]
theorem bP(hs:∀a,(rec a).length=s)(xs:List α):(aJ rec xs).length=xs.length*s:=by
 induction xs with
 | nil=>simp[aJ]
 | cons a l ih=>
  have:aJ rec (a::l)=rec a++aJ rec l:=rfl;rw[this,LM,ih,hs,Ll,Nn];omega
theorem bg(hs:∀a,(rec a).length=s):∀{xs:List α} {i j:Nat} {a:α} {v:Value},xs[i]?=some a->(rec a)[j]?=some v->(aJ rec xs)[i*s+j]?=some v:=by
 intro xs
 induction xs with
 | nil=>intro i j a v h;simp at h
 | cons b l ih=>
  intro i j a v h1 h2;have e:aJ rec (b::l)=rec b++aJ rec l:=rfl;rw[e];cases i with
  | zero=>
   simp at h1;subst h1;have hj:j<(rec b).length:=(LJ.1 h2).1;rw[OJ,LL,MG hj];exact h2
  | succ i=>
   have hb:=hs b;rw[Lh (by rw[hb,Nn];omega),hb,show(i+1)*s+j-s=i*s+j by rw[Nn];omega];exact ih (by simpa using h1) h2
structure SR(s:Nat)(rec:α->List Value)(w:World)(A:Option Addr)(n c:Nat)(xs:List α):Prop where
 ln:n=xs.length
 lc:n<=c
 el:0<n->∃b off,A=some ⟨b,off,none⟩/\b<w.heap.size/\∀(i:Nat) (a:α),xs[i]?=some a->∀(j:Nat) (v:Value),(rec a)[j]?=some v->w.cell? ⟨b,off+i*s+j,none⟩=some v
theorem SR.step{w w':World}{A:Option Addr}{n c:Nat}{xs:List α}(h:SR s rec w A n c xs)(hb:Below w.heap.size w w'):SR s rec w' A n c xs:=by
 refine⟨h.ln,h.lc,fun hn=>?_⟩;obtain⟨b,off,h1,h2,h3⟩:=h.el hn;exact⟨b,off,h1,Mv h2 hb.size,fun i a hi j v hj=>(hb.cell (p:=⟨b,off+i*s+j,none⟩) h2).trans (h3 i a hi j v hj)⟩
theorem SR.nil{w:World}{A:Option Addr}{c:Nat}:SR s rec w A 0 c ([]:List α):=⟨rfl,LQ _,fun h=>absurd h (Nh 0)⟩
theorem ej{w:World}{base:Nat}{e:TypeId}{size n:Nat}{v:Value}{xs:List Value}(h:w.ownsRow base e size v n xs){g:Nat}(hg:v.ownBlock=some g):g<w.heap.size:=by
 rcases h.2 with⟨rfl,_⟩|⟨g',cap,cur,rfl,_,hh,_⟩
 ·simp[Value.ownBlock] at hg
 ·simp[Value.ownBlock] at hg;subst hg;rcases NS g' w.heap.size with hlt|hge
  ·exact hlt
  ·rw[OH hge] at hh;cases hh
theorem xi{w:World}{base:Nat}{e:TypeId}{size n:Nat}{v:Value}{xs:List Value}(h:w.ownsRow base e size v n xs){g:Nat}(hg:g<base):v.ownBlock≠some g:=by
 rcases h.2 with⟨rfl,_⟩|⟨g',cap,cur,rfl,hge,_⟩
 ·simp[Value.ownBlock]
 ·simp[Value.ownBlock];omega
theorem bU{w:World}{base:Nat}{e:TypeId}{size n:Nat}{v:Value}{xs:List Value}(h:w.ownsRow base e size v n xs):∀g,v.ownBlock=some g->base<=g:=by
 rcases h.2 with⟨rfl,_⟩|⟨g',cap,cur,rfl,hge,_⟩
 ·intro g hg;simp[Value.ownBlock] at hg
 ·intro g hg;simp[Value.ownBlock] at hg;omega
theorem aa{w:World}{base:Nat}{e:TypeId}{size n:Nat}{v:Value}{xs:List Value}(h:w.ownsRow base e size v n xs):∃A c,v=.slice A n c/\n<=c:=by
 rcases h.2 with⟨rfl,rfl⟩|⟨g,cap,cur,hv,_,_,hnc,_⟩
 ·exact⟨none,0,rfl,qL⟩
 ·exact⟨_,_,hv,hnc⟩
theorem aV{w w':World}{base:Nat}{e:TypeId}{size n:Nat}{v:Value}{xs:List Value}(h:w.ownsRow base e size v n xs)(hb:Below w.heap.size w w'):w'.ownsRow base e size v n xs:=by
 refine⟨h.1,?_⟩;rcases h.2 with h2|⟨g,cap,cur,hv,hg,hh,hr⟩
 ·exact .inl h2
 ·refine .inr ⟨g,cap,cur,hv,hg,?_,hr⟩
  have hlt:g<w.heap.size:=by
   rcases NS g w.heap.size with hlt|hge
   ·exact hlt
   ·rw[OH hge] at hh;cases hh
  rw[hb.block g hlt];exact hh
theorem SR.Jt{w:World}{base:Nat}{t:TypeId}{v:Value}{n:Nat}{xs:List α}(hs:∀a,(rec a).length=s)(h:w.ownsRow base t s v n (aJ rec xs))(hl:xs.length=n):∃A c,v=.slice A n c/\SR s rec w A n c xs:=by
 rcases h.2 with⟨rfl,rfl⟩|⟨g,cap,cur,rfl,_,hh,hnc,_⟩
 ·exact⟨none,0,rfl,hl.symm,qL,fun h=>absurd h (by omega)⟩
 ·refine⟨_,_,rfl,hl.symm,hnc,fun _=>⟨g,0,rfl,ej h rfl,fun i a hi j u hj=>?_⟩⟩;have:=h.cells (g:=g) rfl (i*s+j) u (bg hs hi hj);rw[bn] at this;rw[LL] at this ⊢;exact this
theorem bC(w:World)(base:Nat)(e:TypeId)(size:Nat):w.ownsRow base e size (.slice none 0 0) 0 []:=⟨by simp,.inl ⟨rfl,rfl⟩⟩
end
end Go.Proofs.YthfahkaadbdicaaGreatDoor
