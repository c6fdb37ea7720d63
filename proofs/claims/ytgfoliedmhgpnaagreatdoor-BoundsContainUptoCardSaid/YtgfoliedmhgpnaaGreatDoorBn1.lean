/- A part of the proof. -/
import Derived.Test.YtgfoliedmhgpnaaGreatDoorRows
import Derived.Deep.RegionHeld3
import Derived.Maps.RangeWalk
import Derived.Lib.Hide
import Derived.WalkKit
import Derived.WalkSpells
import Derived.WalkLawsBesides
import Derived.Deep.QuietTactic
import Derived.BigQuiet
import Derived.Deep.DeepCutAuto
import Derived.Deep.CutBlock
import Derived.Laws.Rows
import Derived.Laws.ResultCell
import Derived.RegionTactic
import Derived.BigRegion
import Derived.Maps.AppendAt
import Derived.Deep.AppendLies
import Derived.OwnWalk
import Derived.Deep.RegionLaw
import Derived.StillTail
set_option maxRecDepth 100000
set_option maxHeartbeats 16000000
set_option linter.unusedSimpArgs false
open Go.Proofs.Tryz
open ByteArray (empty)
namespace Go
section
variable {l r:List ByteArray} {c i o n S:Nat} {a:Int} {w w':World} {P:Program} {Q:Exit -> Act -> World -> Prop} {v:Value}
abbrev Ju:=@Go.RowKit.Below.refl
abbrev Jv:=@List.getElem?_eq_getElem
abbrev Jw:=@Nat.zero_add
abbrev Jx:=@List.mem_of_getElem?
abbrev Jy:=@decide_eq_true
abbrev Jz:=@Go.bodyPost_ret
abbrev KD:=@Nat.zero_le
abbrev KF:=@List.getElem?_eq_some_iff
abbrev KH:=@Go.Proofs.Tryz.underlying38
abbrev KI:=@List.mem_append
abbrev KL:=@List.take_of_length_le
abbrev KM:=@Nat.le_trans
abbrev KN:=@List.eq_nil_of_length_eq_zero
abbrev KP:=@List.getElem?_map
abbrev KQ:=@decide_eq_false
abbrev KU:=@if_neg
abbrev KV:=@List.length_append
abbrev KX:=@List.length_map
abbrev KY:=@Go.World.block_lt_of_cell?
abbrev Ka:=@Nat.lt_of_lt_of_le
abbrev Kb:=@if_pos
abbrev Kc:=@Bool.eq_iff_iff
abbrev Kd:=@Go.wpQuiet_nil
abbrev Ke:=@List.map_append
abbrev Kf:=@List.mem_singleton
abbrev Kg:=@Go.wp_region_held_drew
abbrev Kh:=@Go.World.cell?_of_block
abbrev Ki:=@Nat.mul_le_mul_right
abbrev Kj:=@Go.Proofs.Tryz.ntmps95
abbrev Kk:=@List.drop_of_length_le
abbrev Kl:=@List.getElem?_append_right
abbrev Km:=@Nat.lt_succ_self
abbrev Kn:=@Go.wp_region_noPanic
abbrev Ko:=@List.mem_map_of_mem
abbrev Kp:=@Go.Proofs.Tryz.func95
abbrev Kq:=@Go.NoPanic.normal
abbrev Kr:=@Go.Proofs.Tryz.underlying25
abbrev Ks:=@List.length_cons
abbrev Kt:=@beq_eq_false_iff_ne
abbrev Ku:=@Go.RowKit.Below.heap_setCell
abbrev Kv:=@Go.Proofs.Tryz.underlying26
abbrev Kw:=@Go.Proofs.Tryz.underlying35
abbrev Kx:=@Array.getElem?_toList
abbrev Ky:=@List.pairwise_append
abbrev Kz:=@Bool.and_eq_true
abbrev LC:=@List.take_append_drop
abbrev LD:=@Go.wpList_store_row
abbrev LF:=@Go.Proofs.Tryz.ntmps29
abbrev LG:=@List.mem_cons
abbrev LH:=@Nat.eq_zero_or_pos
abbrev LI:=@List.length_take
abbrev LJ:=@Go.Proofs.Tryz.func29
abbrev LL:=@List.mem_map
abbrev LM:=@Go.info_parts
abbrev LN:=@List.append_assoc
abbrev LO:=@Go.Proofs.Tryz.underlying85
abbrev LP:=@List.getElem?_of_mem
abbrev LQ:=@List.append_nil
abbrev LR:=@Option.map_eq_some_iff
abbrev LS:=@Option.some.injEq
abbrev LU:=@Go.Proofs.Tryz.underlying29
abbrev LV:=@Go.Proofs.Tryz.underlying9
abbrev LW:=@List.any_eq_true
abbrev LX:=@Array.length_toList
abbrev LY:=@List.take_succ_cons
abbrev LZ:=@ByteArray.size_append
abbrev La:=@Go.Proofs.Tryz.ntmps211
abbrev Lb:=@List.map_singleton
abbrev Lc:=@List.getElem?_append_left
abbrev Ld:=@Go.Proofs.Tryz.underlying3
abbrev Le:=@List.take_add_one
abbrev Lg:=@of_decide_eq_true
abbrev Lh:=@Go.Proofs.Tryz.func211
abbrev Li:=@Nat.mul_le_mul
abbrev Lj:=@List.mem_flatMap
abbrev Lk:=@Nat.add_mul
abbrev Ll:=@Nat.zero_mul
abbrev Lm:=@Go.run_string_add_sum
abbrev Ln:=@List.cons.injEq
abbrev Lo:=@Go.DataW.trod_int
abbrev Lp:=@List.take_zero
abbrev Lr:=@Go.RowKit.Below.setCell
abbrev Ls:=@Option.map_some
abbrev Lt:=@List.drop_eq_getElem_cons
abbrev Lu:=@List.drop_succ_cons
abbrev Lv:=@List.map_cons
abbrev Lw:=@decide_eq_true_iff
abbrev Lx:=@Go.Proofs.Tryz.underlying163
abbrev Ly:=@List.cons_append
abbrev MA:=@Nat.pow_le_pow_right
abbrev MB:=@List.getElem_mem
abbrev MC:=@Option.bind_eq_some_iff
abbrev MD:=@decide_eq_true_eq
abbrev ME:=@Go.Proofs.Tryz.underlying27
abbrev MF:=@Go.ByteArray.toList_eq
abbrev MG:=@Nat.add_zero
abbrev MH:=@List.length_eq_one_iff
abbrev MJ:=@Nat.le_succ_of_le
abbrev ML:=@Go.DataW.trod_struct
abbrev MM:=@List.getElem?_range
abbrev MN:=@List.getElem?_toArray
abbrev MO:=@Go.Lib.run_eql_slice_nil
abbrev MP:=@List.concat_eq_append
abbrev MQ:=@List.getElem?_drop
abbrev MR:=@List.getElem?_take
abbrev MS:=@beq_iff_eq
abbrev MT:=@List.mem_of_mem_take
abbrev MU:=@Go.DataW.trod_string
abbrev MV:=@List.mem_filter
abbrev MW:=@Option.some.inj
abbrev MX:=@ByteArray.size_extract
abbrev MY:=@Array.getElem?_eq_some_iff
abbrev MZ:=@Go.run_loadAt_mid
abbrev Ma:=@UInt8.lt_iff_toNat_lt
abbrev Mb:=@List.set_append_right
abbrev Mc:=@List.eq_nil_or_concat
abbrev Md:=@Go.Proofs.Tryz.ntmps22
abbrev Me:=@ByteArray.ext
abbrev Mf:=@Go.Proofs.Tryz.ntmps322
abbrev Mg:=@List.all_eq_true
abbrev Mh:=@Go.WideShapes.bytes_inj
abbrev Mi:=@Array.toList_inj
abbrev Mj:=@Go.Proofs.Tryz.underlying5
abbrev Mk:=@List.drop_zero
abbrev Ml:=@Go.DataW.trod_slice
abbrev Mm:=@Go.Proofs.Tryz.func22
abbrev Mn:=@List.take_append_of_le_length
abbrev Mo:=@Array.getElem?_eq_none
abbrev Mp:=@Go.World.frozen?_of_block
abbrev Mq:=@List.map_map
abbrev Mr:=@Go.Proofs.Tryz.func322
abbrev Ms:=@UInt8.toNat_inj
abbrev Mt:=@Bool.true_and
abbrev Mu:=@List.drop_length_add_append
abbrev Mv:=@Go.Proofs.Tryz.underlying32
abbrev Mw:=@List.perm_append_singleton
abbrev Mx:=@Go.strOfNums_data
abbrev My:=@Nat.mul_one
abbrev Mz:=@Nat.lt_or_ge
abbrev NB:=@Go.RowKit.Below.heap_alloc
abbrev NG:=@List.length_drop
abbrev NH:=@List.take_length
abbrev NI:=@Go.wpList_store_mid
abbrev NJ:=@Go.setRow_other
abbrev NK:=@Go.Proofs.Tryz.underlying4
abbrev NN:=@Array.getElem?_eq_getElem
abbrev NO:=@Go.Proofs.Tryz.ntmps248
abbrev NP:=@Go.Proofs.Tryz.ntmps156
abbrev NQ:=@Go.Proofs.Tryz.ntmps301
abbrev NS:=@and_true
abbrev NT:=@Go.Proofs.Tryz.ntmps107
abbrev NU:=@List.all_append
abbrev NV:=@List.nil_append
abbrev NW:=@Go.Proofs.Tryz.underlying133
abbrev NY:=@List.pairwise_cons
abbrev NZ:=@Go.Result.andThen_ok
abbrev Na:=@Go.Proofs.Tryz.func248
abbrev Nb:=@Go.Proofs.Tryz.func156
abbrev Nc:=@Go.IntWalk.i64_in
abbrev Nd:=@Go.Proofs.Tryz.underlying36
abbrev Nf:=@Nat.sub_self
abbrev Ng:=@Go.Proofs.Tryz.func301
abbrev Nh:=@Go.Proofs.Tryz.ntmps77
abbrev Ni:=@List.mem_range
abbrev Nj:=@Go.Proofs.Tryz.underlying77
abbrev Nk:=@Go.Proofs.Tryz.func107
abbrev Nl:=@List.drop_eq_nil_of_le
abbrev Nn:=@Go.run_convert_bytes_arg
abbrev No:=@Bool.and_eq_false_iff
abbrev Np:=@List.perm_middle
abbrev Nq:=@Nat.add_assoc
abbrev Nr:=@Go.wpAnyH_take
abbrev Ns:=@List.mem_of_mem_drop
abbrev Nt:=@ne_eq
abbrev Nu:=@Nat.le_succ
abbrev Nv:=@Go.Proofs.Tryz.func77
abbrev Nw:=@Go.run_loadVar_row
abbrev Nx:=@List.length_set
abbrev Ny:=@Nat.not_lt_zero
abbrev Nz:=@Nat.min_le_left
abbrev OA:=@List.flatMap_append
abbrev OB:=@List.take_length_add_append
abbrev OD:=@Go.Proofs.Tryz.ntmps79
abbrev OE:=@List.getD_eq_getElem?_getD
abbrev OF:=@Bool.and_false
abbrev OG:=@Go.strOfNums_size
abbrev OH:=@UInt8.toNat_ofNat'
abbrev OI:=@Bool.false_and
abbrev OJ:=@List.exists_cons_of_ne_nil
abbrev OK:=@List.extract_eq_take_drop
abbrev OL:=@List.all_eq_false
abbrev OM:=@Nat.lt_trichotomy
abbrev ON:=@Int.lt_trichotomy
abbrev OO:=@List.flatMap_cons
abbrev OP:=@Go.Proofs.Tryz.func79
abbrev OQ:=@Prod.mk.injEq
abbrev OU:=@List.all_cons
abbrev OV:=@Go.Proofs.Tryz.ntmps200
abbrev OW:=@Go.Proofs.Tryz.ntmps195
abbrev OX:=@Go.Proofs.Tryz.ntmps140
abbrev OY:=@Go.Proofs.Tryz.ntmps260
abbrev OZ:=@List.sum_cons
abbrev Oa:=@List.getElem?_take_of_lt
abbrev Ob:=@Go.results_cell_tmp
abbrev Oc:=@Go.Sem.run_bind
abbrev Oe:=@Go.Sem.run_pure
abbrev Of:=@List.map_nil
abbrev Og:=@Nat.mul_comm
abbrev Oh:=@if_true
abbrev Oi:=@Go.wp_store_row
abbrev Oj:=@Nat.le_of_lt
abbrev Ol:=@Nat.succ_mul
abbrev Om:=@List.any_append
abbrev On:=@Nat.lt_irrefl
theorem qD {p:Prop} (h:p) : RowKit.Hid p := h
theorem qL {n:Nat} : n<=n := Nat.le_refl n
theorem rO {l r : List Oper} {i : Nat} {o : Oper} (h : l.drop i = o :: r) : l.toArray[i]? = some o := by
 have := congrArg List.head? h;rw [List.head?_drop] at this;simpa using this
section
variable {P:Program} {l r:List Oper} {Q:Exit->Act->World->Prop} {md:Region.Mode} {S:World->Prop} {o:Oper} {v:Value} {fuel:Nat} {listed:Array Bool} {a:Act} {w:World} {rs:List Nat}
theorem rT (i:Nat) (hi:l.drop i=o::r) (hy:∀w,S w->Sem.run P (execOp a.eval o) w=Result.ok (Next.value v) w) (h:wpAnyH P md l.toArray Q S fuel (listed.setIfInBounds i true) (a.put o.dst v) w) (h1:Region.noSelect l.toArray=true:=by kernel_rfl) (h2:Region.free md l.toArray listed i=true:=by kernel_rfl) (h3:(Region.ready md l.toArray listed).contains i=true:=by kernel_rfl) (h4:∀(c:List PanicEntry) (a:Act) (w:World),Q (Exit.panic c) (a.put o.dst v) w->Q (Exit.panic c) a w:=by exact fun _ _ _ h=>h) (h5:Region.wanted o (yielded l.toArray a.tmps)=true:=by rfl) (hS:S w:=by assumption):wpAnyH P md l.toArray Q S (fuel+1) listed a w:=Nr (rO hi) h1 h2 h3 h4 (Or.inl ⟨h5,hy⟩) hS h
theorem rU (i:Nat) (hi:l.drop i=o::r) (h:wpAnyH P md l.toArray Q S fuel (listed.setIfInBounds i true) (a.put o.dst v) w) (h1:Region.noSelect l.toArray=true:=by kernel_rfl) (h2:Region.free md l.toArray listed i=true:=by kernel_rfl) (h3:(Region.ready md l.toArray listed).contains i=true:=by kernel_rfl) (h4:∀(c:List PanicEntry) (a:Act) (w:World),Q (Exit.panic c) (a.put o.dst v) w->Q (Exit.panic c) a w:=by exact fun _ _ _ h=>h) (h5:Region.wanted o (yielded l.toArray a.tmps)=true:=by rfl) (hy:∀w,S w->Sem.run P (execOp a.eval o) w=Result.ok (Next.value v) w:=by intro w' hSw;(try dsimp only at hSw);go_simp;(try with_reducible rfl)) (hS:S w:=by assumption):wpAnyH P md l.toArray Q S (fuel+1) listed a w:=Nr (rO hi) h1 h2 h3 h4 (Or.inl ⟨h5,hy⟩) hS h
theorem rV (i:Nat) (hi:l.drop i=o::r) (h:wpAnyH P md l.toArray Q S fuel (listed.setIfInBounds i true) (a.put o.dst v) w) (h1:Region.noSelect l.toArray=true:=by kernel_rfl) (h2:Region.free md l.toArray listed i=true:=by kernel_rfl) (h3:(Region.ready md l.toArray listed).contains i=true:=by kernel_rfl) (h4:∀(c:List PanicEntry) (a:Act) (w:World),Q (Exit.panic c) (a.put o.dst v) w->Q (Exit.panic c) a w:=by exact fun _ _ _ h=>h) (h5:Region.wanted o (yielded l.toArray a.tmps)=true:=by rfl) (hy:∀w,S w->Sem.run P (execOp a.eval o) w=Result.ok (Next.value v) w:=by intro w' hSw;(try simp only[and_assoc] at hSw);(try dsimp only at hSw);(repeat obtain⟨_,hSw⟩:=hSw);go_simp;(try with_reducible rfl)) (hS:S w:=by assumption):wpAnyH P md l.toArray Q S (fuel+1) listed a w:=Nr (rO hi) h1 h2 h3 h4 (Or.inl ⟨h5,hy⟩) hS h
theorem rR (rs:List Nat) (h:AllReadyH P md l.toArray Q S fuel listed a w rs) (hr:Region.ready md l.toArray listed=rs:=by kernel_rfl) (hn:rs≠[]:=by simp):wpAnyH P md l.toArray Q S (fuel+1) listed a w:=wpAnyH_ready hr hn h
theorem rC {i:Nat} (h:∀K':Act->World->Prop,Shut (∀(a:Act) (w:World),S w->(S w->wpAnyH P md l.toArray Q S fuel (listed.setIfInBounds i true) a w)->K' a w)->if Region.wanted o (yielded l.toArray a.tmps)=true then Oper.wp P o a w K' Q else K' (a.put o.dst undef) w) (h2:AllReadyH P md l.toArray Q S fuel listed a w rs) (hi:l.drop i=o::r:=by rfl):AllReadyH P md l.toArray Q S fuel listed a w (i::rs):=AllReadyH.cons (rO hi) h h2
theorem rN:AllReadyH P md l.toArray Q S fuel listed a w []:=AllReadyH.nil
theorem rY (i:Nat) (hi:l.drop i=o::r) (h:∀K':Act->World->Prop,Shut (∀(a:Act) (w:World),S w->(S w->wpAnyH P md l.toArray Q S fuel (listed.setIfInBounds i true) a w)->K' a w)->if Region.wanted o (yielded l.toArray a.tmps)=true then Oper.wp P o a w K' Q else K' (a.put o.dst undef) w) (hr:Region.ready md l.toArray listed=[i]:=by kernel_rfl):wpAnyH P md l.toArray Q S (fuel+1) listed a w:=wpAnyH_ready hr (by simp) (AllReadyH.cons (rO hi) h AllReadyH.nil)
theorem rD (h:Q Exit.normal a w) (f:Nat) (hr:Region.ready md l.toArray listed=[]:=by kernel_rfl):wpAnyH P md l.toArray Q S f listed a w:=wpAnyH_done hr h f
end
end
end Go
namespace Go.Proofs.YtgfoliedmhgpnaaGreatDoor
open Go.RowKit
section
variable {b o size:Nat} {w1 W:World}
theorem tZ{W w1:World}(hb:Below W.heap.size W w1):(∀b o,b<W.heap.size->w1.cell? ⟨b,o,none⟩=W.cell? ⟨b,o,none⟩)/\(∀b o,b<W.heap.size->w1.frozen? ⟨b,o,none⟩=W.frozen? ⟨b,o,none⟩):=
 ⟨fun b o h=>hb.cell (p:=⟨b,o,none⟩) h,fun b o h=>hb.frozen (p:=⟨b,o,none⟩) h⟩
end
end Go.Proofs.YtgfoliedmhgpnaaGreatDoor
namespace Go.RowKit
section
variable {k size:Nat} {w1 W w2:World}
theorem Below.step{W w1 w2:World}(h:Below W.heap.size W w1)(k:Below w1.heap.size w1 w2):Below W.heap.size W w2:=h.trans (k.mono h.size)
end
end Go.RowKit
namespace Go.Proofs.YtgfoliedmhgpnaaGreatDoor
open Go.RowKit
end Go.Proofs.YtgfoliedmhgpnaaGreatDoor
namespace Go.RowKit
section
variable {n B:Nat} {a:Int} {w:World}
theorem Below.drewN{B:Nat}{a w:World}(h:Below B a w)(n:Nat):Below B a (w.drewN n):=⟨h.os,h.tape,h.output,h.size,h.block⟩
end
end Go.RowKit
namespace Go.Proofs.YtgfoliedmhgpnaaGreatDoor
open Go.RowKit
structure BW(w:World) where
 val:World
 below:Below w.heap.size w val
section
variable {l:List ByteArray} {k i g o B id size:Nat} {a:Int} {w w':World} {e t:TypeId} {cs:Array Value} {P:Program} {Q:Exit -> Act -> World -> Prop} {v:Value}
instance (w:World):Nonempty (BW w):=⟨⟨w,Ju _ _⟩⟩
theorem BW.cell{w:World}(k:BW w){a:Addr}{v:Value}(h:w.cell? a=some v):k.val.cell? a=some v:=
 (k.below.cell (KY w a h)).trans h
theorem aM{P:Program}{id:Nat}{Q:Exit->Act->World->Prop}{a:Act}{w:World}{l:List Oper}(hm:P.follows .mixedOrders=true)(hB:Region.lexB .any l.toArray=true)(h:wpQuiet P l.toArray (fun w'=>∃k:BW w,w'=k.val) (fun a'=>∀w',(∃k:BW w,w'=k.val)->Q .normal a' w') l a):(Code.region id l.toArray true).wp P Q a w:=
 wp_region_quiet (C:=fun w'=>∃k:BW w,w'=k.val) hm hB ⟨⟨w.drew,(Ju _ _).drew⟩,rfl⟩ (by simpa using h)
theorem Calls.bw{P:Program}{f:FuncId}{args:Array Value}{w:World}{k:BW w}{v:Value}(h:Calls P f args k.val fun e w'=>e=.returned v/\Below k.val.heap.size k.val w'):Calls P f args k.val fun e w''=>e=.returned v/\∃k:BW w,w''=k.val:=
 h.mono fun _ _ ⟨he,hb⟩=>⟨he,⟨_,k.below.step hb⟩,rfl⟩
def aG(w:World)(g:Nat)(t:TypeId)(cs:Array Value):Prop:=w.heap[g]?=some (.cells cs t (0,0))
section
variable {w w':World} {g:Nat} {t:TypeId} {cs:Array Value}
theorem aG.lt(h:aG w g t cs):g<w.heap.size:=by
 rcases Mz g w.heap.size with hlt|hge
 ·exact hlt
 ·unfold aG at h;rw[Mo hge] at h;cases h
theorem aG.cell(h:aG w g t cs)(i:Nat):w.cell? ⟨g,i,none⟩=cs[i]?:=cell_of_row w g i cs t (0,0) h
theorem aG.frozen(h:aG w g t cs)(i:Nat):w.frozen? ⟨g,i,none⟩=false:=by
 unfold aG at h;simp[World.frozen?,h]
theorem aG.new(w:World)(t:TypeId)(cs:Array Value):aG (w.alloc (.cells cs t)) w.heap.size t cs:=heap_alloc_new w _
theorem aG.Ii{w:World}{g:Nat}{t:TypeId}{cs:Array Value}(h:g=w.heap.size):aG (w.alloc (.cells cs t)) g t cs:=by rw[h];exact aG.new w t cs
theorem aG.drew(h:aG w g t cs):aG w.drew g t cs:=h
theorem aG.alloc(h:aG w g t cs)(o:Obj):aG (w.alloc o) g t cs:=(NB w o g h.lt).trans h
theorem aG.Ij(h:aG w g t cs)(i:Nat)(u:Value):aG (w.setCell ⟨g,i,none⟩ u) g t (cs.setIfInBounds i u):=by
 unfold aG at h ⊢;simp[World.setCell,Array.getElem?_modify,h]
theorem aG.Ip(h:aG w g t cs){p:Addr}(hp:g≠p.block)(u:Value):aG (w.setCell p u) g t cs:=(Ku w p u g hp).trans h
theorem aG.below{B:Nat}(h:aG w g t cs)(hb:Below B w w')(hg:g<B):aG w' g t cs:=(hb.block g hg).trans h
theorem aG.grown{row:Option Nat}(h:aG w g t cs)(hb:w.grownBy w' row)(hg:some g≠row):aG w' g t cs:=(hb.block g h.lt hg).trans h
end
theorem aG.step{w w':World}{g:Nat}{t:TypeId}{cs:Array Value}(h:aG w g t cs)(hb:Below w.heap.size w w'):aG w' g t cs:=h.below hb h.lt
theorem vg(w:World)(o:Obj):(w.alloc o).heap.size=w.heap.size+1:=by simp
end
structure VC where
 k:Int
 n:Int
 t:ByteArray
 LA:Option Addr
 ln:Nat
 lc:Nat
 DA:Option Addr
 dn:Nat
 dc:Nat
section
variable {l:List ByteArray} {b c k i g n off B ln lc size:Nat} {a:Int} {s:ByteArray} {w w':World} {A LA:Option Addr} {t:TypeId} {cs:Array Value} {P:Program} {Q:Exit -> Act -> World -> Prop} {v:Value}
abbrev VC.val(v:VC):Value:=.agg #[.int .i64 v.k,.int .i64 v.n,.string v.t,.slice v.LA v.ln v.lc,.slice v.DA v.dn v.dc]
abbrev VC.arr(v:VC):Array Value:=#[.int .i64 v.k,.int .i64 v.n,.string v.t,.slice v.LA v.ln v.lc,.slice v.DA v.dn v.dc]
def VC.list(c:VC):List Value:=[.int .i64 c.k,.int .i64 c.n,.string c.t,.slice c.LA c.ln c.lc,.slice c.DA c.dn c.dc]
def VC.zero:VC:=⟨0,0,empty,none,0,0,none,0,0⟩
def aS(w:World)(b off:Nat)(v:VC):Prop:=
 w.cell? ⟨b,off,none⟩=some (.int .i64 v.k)/\w.cell? ⟨b,off+1,none⟩=some (.int .i64 v.n)/\w.cell? ⟨b,off+2,none⟩=some (.string v.t)/\
 w.cell? ⟨b,off+3,none⟩=some (.slice v.LA v.ln v.lc)/\w.cell? ⟨b,off+4,none⟩=some (.slice v.DA v.dn v.dc)
theorem aS.lt{w:World}{b off:Nat}{v:VC}(h:aS w b off v):b<w.heap.size:=KY w ⟨b,off,none⟩ h.1
theorem aS.keep{w w':World}{b off:Nat}{v:VC}(h:aS w b off v)(hb:w'.heap[b]?=w.heap[b]?):aS w' b off v:=by
 have e:∀o,w'.cell? ⟨b,o,none⟩=w.cell? ⟨b,o,none⟩:=fun o=>Kh (w:=w) (a:=⟨b,o,none⟩) hb;exact⟨(e _).trans h.1,(e _).trans h.2.1,(e _).trans h.2.2.1,(e _).trans h.2.2.2.1,(e _).trans h.2.2.2.2⟩
theorem aS.step{w w':World}{b off:Nat}{v:VC}(h:aS w b off v)(hb:Below w.heap.size w w'):aS w' b off v:=h.keep (hb.block b h.lt)
theorem aS.Ig{w:World}{b:Nat}{t:TypeId}{v:VC}(h:aG w b t v.arr):aS w b 0 v:=by
 refine⟨?_,?_,?_,?_,?_⟩<;>rw[h.cell]<;>rfl
theorem aS.Jt{w:World}{b:Nat}{t:TypeId}{v:VC}(h:aG w b t v.arr):w.cell? ⟨b,0,none⟩=some (.int .i64 v.k)/\w.cell? ⟨b,1,none⟩=some (.int .i64 v.n)/\w.cell? ⟨b,2,none⟩=some (.string v.t)/\w.cell? ⟨b,3,none⟩=some (.slice v.LA v.ln v.lc)/\w.cell? ⟨b,4,none⟩=some (.slice v.DA v.dn v.dc):=by
 refine⟨?_,?_,?_,?_,?_⟩<;>rw[h.cell]<;>rfl
theorem Ib{w:World}{a:Addr}{v:Value}(h:w.cell? a=some v):∀k:BW w,k.val.cell? a=some v:=fun k=>k.cell h
abbrev Rt(w:World)(v:Value)(e:Ending)(w':World):Prop:=e=.returned v/\Below w.heap.size w w'
section
variable {P:Program} {c:Code} {Q:Exit->Act->World->Prop} {a:Act} {w:World}
theorem Ic(A:Array Value)(t:TypeId)(h:∀wa,Hid (aG wa w.heap.size t A)->Hid (Below w.heap.size w wa)->Code.wp P c Q a wa):Code.wp P c Q a (w.alloc (.cells A t)):=
 h _ (aG.Ii rfl) ((Ju _ _).alloc (qL) _)
theorem Ie(A:Array Value)(t:TypeId)(B:Array Value)(u:TypeId)(h:∀wa,Hid (aG wa w.heap.size t A)->Hid (aG wa (w.heap.size+1) u B)->Hid (Below w.heap.size w wa)->Code.wp P c Q a wa):Code.wp P c Q a ((w.alloc (.cells A t)).alloc (.cells B u)):=
 h _ ((aG.Ii (w:=w) rfl).alloc _) (aG.Ii (by simp)) (((Ju _ _).alloc (qL) _).alloc (by simp) _)
theorem If(A:Array Value)(t:TypeId)(B:Array Value)(u:TypeId)(C:Array Value)(s:TypeId)(h:∀wa,Hid (aG wa w.heap.size t A)->Hid (aG wa (w.heap.size+1) u B)->Hid (aG wa (w.heap.size+2) s C)->Hid (Below w.heap.size w wa)->Code.wp P c Q a wa):Code.wp P c Q a (((w.alloc (.cells A t)).alloc (.cells B u)).alloc (.cells C s)):=
 h _ (((aG.Ii (w:=w) rfl).alloc _).alloc _) ((aG.Ii (by simp)).alloc _) (aG.Ii (by simp)) ((((Ju _ _).alloc (qL) _).alloc (by simp) _).alloc (by simp;omega) _)
end
abbrev bH(w:World)(b off:Nat)(v:VC):World:=
 ((((w.setCell ⟨b,off,none⟩ (.int .i64 v.k)).setCell ⟨b,off+1,none⟩ (.int .i64 v.n)).setCell ⟨b,off+2,none⟩ (.string v.t)).setCell ⟨b,off+3,none⟩ (.slice v.LA v.ln v.lc)).setCell ⟨b,off+4,none⟩ (.slice v.DA v.dn v.dc)
theorem aG.putV{w:World}{g:Nat}{t:TypeId}{u:VC}(h:aG w g t u.arr)(v:VC):aG (bH w g 0 v) g t v.arr:=
 ((((h.Ij 0 _).Ij 1 _).Ij 2 _).Ij 3 _).Ij 4 _
theorem aG.Ix{w:World}{g:Nat}{t:TypeId}{cs:Array Value}(h:aG w g t cs){b:Nat}(hne:g≠b)(off:Nat)(v:VC):aG (bH w b off v) g t cs:=
 ((((h.Ip hne _).Ip hne _).Ip hne _).Ip hne _).Ip hne _
theorem af{B:Nat}{a w:World}(h:Below B a w){b:Nat}(hB:B<=b)(off:Nat)(v:VC):Below B a (bH w b off v):=
 ((((h.setCell hB _).setCell hB _).setCell hB _).setCell hB _).setCell hB _
theorem dX{α:Type}{l:List α}{i:Nat}{a:α}(h:l[i]?=some a):l.drop i=a::l.drop (i+1):=by
 rw[List.drop_eq_getElem?_toList_append,h];rfl
end
end Go.Proofs.YtgfoliedmhgpnaaGreatDoor
namespace Go.RowKit
section
variable {k B size:Nat} {w1 W w2:World}
theorem Below.Ih{B:Nat}{W w1 w2:World}(h:Below B W w1)(k:Below w1.heap.size w1 w2)(hB:B<=W.heap.size:=by exact qL):Below B W w2:=h.trans (k.mono (KM hB h.size))
end
end Go.RowKit
namespace Go.Proofs.YtgfoliedmhgpnaaGreatDoor
open Go.RowKit
section
variable {l:List ByteArray} {g off j size:Nat} {w:World} {t:TypeId}
theorem dM(g off j:Nat):(⟨g,off,none⟩:Addr).add j=⟨g,off+j,none⟩:=by
 unfold Addr.add;split
 ·rename_i h;subst h;rfl
 ·rfl
theorem ao(w:World)(t:TypeId)(l:List Value):∀j u,l[j]?=some u->(w.alloc (.cells l.toArray t)).cell? ((⟨w.heap.size,0,none⟩:Addr).add j)=some u:=by
 intro j u h;rw[dM,Jw,World.cell?_alloc_new];simpa using h
end
mutual
inductive aC where
 | mk (k n:Int) (t:ByteArray) (l:List aC) (d:List cF)
inductive cF where
 | mk (s:ByteArray) (v:aC)
end
def aC.k:aC->Int | .mk k _ _ _ _=>k
def aC.n:aC->Int | .mk _ n _ _ _=>n
def aC.t:aC->ByteArray | .mk _ _ t _ _=>t
def aC.l:aC->List aC | .mk _ _ _ l _=>l
def aC.d:aC->List cF | .mk _ _ _ _ d=>d
def cF.s:cF->ByteArray | .mk s _=>s
def cF.v:cF->aC | .mk _ v=>v
section
variable {l:List ByteArray} {b k n size:Nat} {d:Int} {w w':World} {F G:Nat -> Prop} {t:TypeId} {v:Value}
def aC.zero:aC:=.mk 0 0 empty [] []
theorem aC.ind{p:aC->Prop}(h:∀k n t l d,(∀v∈l,p v)->(∀f∈d,p f.v)->p (.mk k n t l d)):∀v,p v:=by
 intro v;refine aC.rec (motive_1:=p) (motive_2:=fun f=>p f.v) (motive_3:=fun l=>∀v∈l,p v) (motive_4:=fun d=>∀f∈d,p f.v) ?_ ?_ ?_ ?_ ?_ ?_ v
 ·intro k n t l d hl hd;exact h k n t l d hl hd
 ·intro s v hv;exact hv
 ·intro v hv;simp at hv
 ·intro x r hx hr v hv;rcases LG.1 hv with rfl|hv
  ·exact hx
  ·exact hr v hv
 ·intro v hv;simp at hv
 ·intro x r hx hr v hv;rcases LG.1 hv with rfl|hv
  ·exact hx
  ·exact hr v hv
def jh:Nat:=140737488351232
def aH:Nat:=140737488355328
theorem du:jh<=aH:=by decide
def IP(w:World)(b:Nat):Prop:=∀i,w.frozen? ⟨b,i,none⟩=false
def Ft(F:Nat->Prop)(w:World)(b:Nat):Prop:=F b/\(¬F 0->IP w b)
theorem Ft.JX{w:World}{b:Nat}:Ft (fun _=>True) w b:=⟨trivial,fun h=>absurd trivial h⟩
theorem Ft.Il{F G:Nat->Prop}{w w':World}{b:Nat}(h:Ft F w b)(hb:b<w.heap.size)(hk:∀b,F b->b<w.heap.size->G b/\w'.heap[b]?=w.heap[b]?):Ft G w' b:=
 ⟨(hk b h.1 hb).1,fun hG i=>(Mp (w:=w) (a:=⟨b,i,none⟩) (hk b h.1 hb).2).trans (h.2 (fun h0=>hG (hk 0 h0 (by omega)).1) i)⟩
end
mutual
def RV(F:Nat->Prop)(w:World):VC->aC->Prop
 | c,.mk k n t l d=>c.k=k/\c.n=n/\c.t=t/\t.size<=aH/\
  c.ln=l.length/\c.ln<=c.lc/\c.ln*80<=aH/\(0<c.ln->∃b off,c.LA=some ⟨b,off,none⟩/\Ft F w b/\DV F w b off l)/\
  c.dn=d.length/\c.dn<=c.dc/\c.dn*96<=aH/\(0<c.dn->∃b off,c.DA=some ⟨b,off,none⟩/\Ft F w b/\DW F w b off d)
def DV(F:Nat->Prop)(w:World):Nat->Nat->List aC->Prop
 | _,_,[]=>True
 | b,off,x::r=>(∃c,aS w b off c/\RV F w c x)/\DV F w b (off+5) r
def DW(F:Nat->Prop)(w:World):Nat->Nat->List cF->Prop
 | _,_,[]=>True
 | b,off,f::r=>RF F w b off f/\DW F w b (off+6) r
def RF(F:Nat->Prop)(w:World):Nat->Nat->cF->Prop
 | b,off,.mk s x=>w.cell? ⟨b,off,none⟩=some (.string s)/\s.size<=aH/\∃c,aS w b (off+1) c/\RV F w c x
end
section
variable {l:List ByteArray} {b c i o off size:Nat} {x:Int} {s:ByteArray} {w w':World} {F G:Nat -> Prop} {v:Value}
section
variable {F G:Nat->Prop} {w w':World}
theorem DV.at{l:List aC}:∀{b off:Nat},DV F w b off l->∀(i:Nat) (x:aC),l[i]?=some x->∃c,aS w b (off+i*5) c/\RV F w c x:=by
 induction l with
 | nil=>intro b off _ i x hi;simp at hi
 | cons y r ih=>
  intro b off h i x hi;simp only[DV] at h;cases i with
  | zero=>
   simp at hi;subst hi;simpa using h.1
  | succ i=>
   obtain⟨c,hc,hx⟩:=ih h.2 i x (by simpa using hi);exact⟨c,by rw[show off+(i+1)*5=off+5+i*5 from by omega];exact hc,hx⟩
theorem DV.mk{l:List aC}:∀{b off:Nat},(∀(i:Nat) (x:aC),l[i]?=some x->∃c,aS w b (off+i*5) c/\RV F w c x)->DV F w b off l:=by
 induction l with
 | nil=>intro b off _;simp only[DV]
 | cons y r ih=>
  intro b off h;simp only[DV];refine⟨by simpa using h 0 y rfl,ih fun i x hi=>?_⟩;obtain⟨c,hc,hx⟩:=h (i+1) x (by simpa using hi);exact⟨c,by rw[show off+5+i*5=off+(i+1)*5 from by omega];exact hc,hx⟩
theorem RF.parts{b off:Nat}{f:cF}(h:RF F w b off f):w.cell? ⟨b,off,none⟩=some (.string f.s)/\f.s.size<=aH/\∃c,aS w b (off+1) c/\RV F w c f.v:=by
 cases f;simp only[RF] at h;exact h
theorem RF.mk{b off:Nat}{f:cF}(h1:w.cell? ⟨b,off,none⟩=some (.string f.s))(h2:f.s.size<=aH)(h3:∃c,aS w b (off+1) c/\RV F w c f.v):RF F w b off f:=by
 cases f;simp only[RF];exact⟨h1,h2,h3⟩
theorem DW.at{l:List cF}:∀{b off:Nat},DW F w b off l->∀(i:Nat) (x:cF),l[i]?=some x->RF F w b (off+i*6) x:=by
 induction l with
 | nil=>intro b off _ i x hi;simp at hi
 | cons y r ih=>
  intro b off h i x hi;simp only[DW] at h;cases i with
  | zero=>
   simp at hi;subst hi;simpa using h.1
  | succ i=>
   have:=ih h.2 i x (by simpa using hi);rw[show off+(i+1)*6=off+6+i*6 from by omega];exact this
theorem DW.mk{l:List cF}:∀{b off:Nat},(∀(i:Nat) (x:cF),l[i]?=some x->RF F w b (off+i*6) x)->DW F w b off l:=by
 induction l with
 | nil=>intro b off _;simp only[DW]
 | cons y r ih=>
  intro b off h;simp only[DW];refine⟨by simpa using h 0 y rfl,ih fun i x hi=>?_⟩;have:=h (i+1) x (by simpa using hi);rw[show off+6+i*6=off+(i+1)*6 from by omega];exact this
structure sK(F:Nat->Prop)(w:World)(c:VC)(x:aC):Prop where
 k:c.k=x.k
 n:c.n=x.n
 t:c.t=x.t
 tsz:x.t.size<=aH
 ln:c.ln=x.l.length
 lc:c.ln<=c.lc
 lsz:c.ln*80<=aH
 la:0<c.ln->∃b off,c.LA=some ⟨b,off,none⟩/\Ft F w b/\∀(i:Nat) (y:aC),x.l[i]?=some y->∃e,aS w b (off+i*5) e/\RV F w e y
 dn:c.dn=x.d.length
 dc:c.dn<=c.dc
 dsz:c.dn*96<=aH
 da:0<c.dn->∃b off,c.DA=some ⟨b,off,none⟩/\Ft F w b/\∀(i:Nat) (f:cF),x.d[i]?=some f->w.cell? ⟨b,off+i*6,none⟩=some (.string f.s)/\f.s.size<=aH/\∃e,aS w b (off+i*6+1) e/\RV F w e f.v
theorem RV.open{c:VC}{x:aC}(h:RV F w c x):sK F w c x:=by
 cases x with
 | mk k n t l d=>
  simp only[RV] at h;obtain⟨h1,h2,h3,h4,h5,h6,h7,h8,h9,h10,h11,h12⟩:=h;refine⟨h1,h2,h3,h4,h5,h6,h7,fun h=>?_,h9,h10,h11,fun h=>?_⟩
  ·obtain⟨b,off,e,hF,hl⟩:=h8 h;exact⟨b,off,e,hF,fun i y hi=>hl.at i y hi⟩
  ·obtain⟨b,off,e,hF,hl⟩:=h12 h;exact⟨b,off,e,hF,fun i f hi=>(hl.at i f hi).parts⟩
theorem sK.shut{c:VC}{x:aC}(h:sK F w c x):RV F w c x:=by
 cases x with
 | mk k n t l d=>
  simp only[RV];refine⟨h.k,h.n,h.t,h.tsz,h.ln,h.lc,h.lsz,fun h'=>?_,h.dn,h.dc,h.dsz,fun h'=>?_⟩
  ·obtain⟨b,off,e,hF,hl⟩:=h.la h';exact⟨b,off,e,hF,DV.mk hl⟩
  ·obtain⟨b,off,e,hF,hl⟩:=h.da h';exact⟨b,off,e,hF,DW.mk fun i f hi=>RF.mk (hl i f hi).1 (hl i f hi).2.1 (hl i f hi).2.2⟩
theorem RV.Il{x:aC}:∀{c:VC},RV F w c x->(∀b,F b->b<w.heap.size->G b/\w'.heap[b]?=w.heap[b]?)->RV G w' c x:=by
 induction x using aC.ind with
 | h k n t l d ihl ihd=>
  intro c h hk;have ho:=h.open;refine sK.shut ⟨ho.k,ho.n,ho.t,ho.tsz,ho.ln,ho.lc,ho.lsz,fun h'=>?_,ho.dn,ho.dc,ho.dsz,fun h'=>?_⟩
  ·obtain⟨b,off,e,hF,hl⟩:=ho.la h'
   have hb:b<w.heap.size:=by
    obtain⟨y,hy⟩:∃y,l[0]?=some y:=⟨_,Jv (by have:=ho.ln;simp only[aC.l] at this;omega)⟩;obtain⟨e',he',_⟩:=hl 0 y hy;exact he'.lt
   refine⟨b,off,e,hF.Il hb hk,fun i y hi=>?_⟩;obtain⟨e',he',hr⟩:=hl i y hi;exact⟨e',he'.keep (hk b hF.1 hb).2,ihl y (Jx hi) hr hk⟩
  ·obtain⟨b,off,e,hF,hl⟩:=ho.da h'
   have hb:b<w.heap.size:=by
    obtain⟨y,hy⟩:∃y,d[0]?=some y:=⟨_,Jv (by have:=ho.dn;simp only[aC.d] at this;omega)⟩;obtain⟨_,_,e',he',_⟩:=hl 0 y hy;exact he'.lt
   refine⟨b,off,e,hF.Il hb hk,fun i f hi=>?_⟩;obtain⟨hs,hz,e',he',hr⟩:=hl i f hi;exact⟨(Kh (w:=w) (a:=⟨b,off+i*6,none⟩) (hk b hF.1 hb).2).trans hs,hz,e',he'.keep (hk b hF.1 hb).2,ihd f (Jx hi) hr hk⟩
theorem RV.mono{c:VC}{x:aC}(h:RV F w c x)(hk:∀b,F b->G b):RV G w c x:=h.Il fun b hb _=>⟨hk b hb,rfl⟩
theorem RV.keep{c:VC}{x:aC}(h:RV F w c x)(hk:∀b,F b->w'.heap[b]?=w.heap[b]?):RV F w' c x:=h.Il fun b hb _=>⟨hb,hk b hb⟩
theorem RV.lt{c:VC}{x:aC}(h:RV F w c x):RV (fun b=>F b/\b<w.heap.size) w c x:=h.Il fun _ hb hl=>⟨⟨hb,hl⟩,rfl⟩
theorem RV.step{c:VC}{x:aC}(h:RV F w c x)(hb:Below w.heap.size w w'):RV F w' c x:=h.Il fun b hF hl=>⟨hF,hb.block b hl⟩
theorem RV.alloc{c:VC}{x:aC}(h:RV F w c x)(o:Obj):RV F (w.alloc o) c x:=h.step ((Ju _ _).alloc (qL) o)
theorem RV.drewN{c:VC}{x:aC}(h:RV F w c x)(n:Nat):RV F (w.drewN n) c x:=h.keep fun _ _=>rfl
theorem RV.zero:RV F w VC.zero aC.zero:=by
 refine sK.shut ⟨rfl,rfl,rfl,by decide,rfl,qL,by decide,fun h=>absurd h (by decide),rfl,qL,by decide,fun h=>absurd h (by decide)⟩
end
abbrev RW(w:World)(c:VC)(x:aC):Prop:=RV (fun _=>True) w c x
def aC.parts(x:aC):List aC:=if x.k=6 then x.l else if x.k=5 then x.d.map cF.v else []
end
mutual
def aC.size:aC->Nat
 | .mk k _ _ l d=>1+if k=6 then bN l else if k=5 then ta d else 0
def bN:List aC->Nat
 | []=>0
 | x::r=>x.size+bN r
def ta:List cF->Nat
 | []=>0
 | f::r=>Aq f+ta r
def Aq:cF->Nat
 | .mk _ v=>v.size
end
mutual
def aC.Im:aC->Nat
 | .mk k _ _ l d=>1+if k=6 then ak l else if k=5 then mC d else 0
def ak:List aC->Nat
 | []=>0
 | x::r=>max x.Im (ak r)
def mC:List cF->Nat
 | []=>0
 | f::r=>max (sL f) (mC r)
def sL:cF->Nat
 | .mk _ v=>v.Im
end
section
variable {l xs:List ByteArray} {c k K i o n j B m cap base size:Nat} {op a x y d:Int} {s:ByteArray} {w w':World} {A:Option Addr} {e t:TypeId} {P:Program} {Q:Exit -> Act -> World -> Prop} {v v':Value}
theorem Ar(f:cF):Aq f=f.v.size:=by cases f;simp[Aq,cF.v]
theorem vh(f:cF):sL f=f.v.Im:=by cases f;simp[sL,cF.v]
theorem As(d:List cF):ta d=bN (d.map cF.v):=by
 induction d with
 | nil=>simp[ta,bN]
 | cons f r ih=>simp[ta,bN,ih,Ar]
theorem vi(d:List cF):mC d=ak (d.map cF.v):=by
 induction d with
 | nil=>simp[mC,ak]
 | cons f r ih=>simp[mC,ak,ih,vh]
theorem dA(x:aC):x.size=1+bN x.parts:=by
 cases x with
 | mk k n t l d=>
  show aC.size (.mk k n t l d)=1+bN (if k=6 then l else if k=5 then d.map cF.v else []);rw[aC.size];by_cases h6:k=6
  ·rw[Kb h6,Kb h6]
  ·rw[KU h6,KU h6];by_cases h5:k=5
   ·rw[Kb h5,Kb h5,As]
   ·rw[KU h5,KU h5,bN]
theorem ci(x:aC):x.Im=1+ak x.parts:=by
 cases x with
 | mk k n t l d=>
  show aC.Im (.mk k n t l d)=1+ak (if k=6 then l else if k=5 then d.map cF.v else []);rw[aC.Im];by_cases h6:k=6
  ·rw[Kb h6,Kb h6]
  ·rw[KU h6,KU h6];by_cases h5:k=5
   ·rw[Kb h5,Kb h5,vi]
   ·rw[KU h5,KU h5,ak]
theorem dv(x:aC):1<=x.size:=by rw[dA];omega
theorem lN(x:aC):1<=x.Im:=by rw[ci];omega
theorem mD(l m:List aC):bN (l++m)=bN l+bN m:=by
 induction l with
 | nil=>simp[bN]
 | cons x r ih=>simp[bN,ih];omega
theorem jk(l m:List aC):ak (l++m)=max (ak l) (ak m):=by
 induction l with
 | nil=>simp[ak]
 | cons x r ih=>simp only[Ly,ak,ih];omega
theorem take_snoc'{α:Type}{l:List α}{i:Nat}{y:α}(h:l[i]?=some y):l.take (i+1)=l.take i++[y]:=by
 rw[Le,h];rfl
theorem jD{l:List aC}{i:Nat}{y:aC}(h:l[i]?=some y):bN (l.take (i+1))=bN (l.take i)+y.size:=by
 rw[take_snoc' h,mD];simp[bN]
theorem mE{l:List aC}{i:Nat}{y:aC}(h:l[i]?=some y):ak (l.take (i+1))=max (ak (l.take i)) y.Im:=by
 rw[take_snoc' h,jk];simp[ak]
theorem gu(l:List aC)(i:Nat):bN (l.take i)<=bN l:=by
 conv=>rhs;rw[<-LC i l,mD]
 omega
theorem sM(l:List aC)(i:Nat):ak (l.take i)<=ak l:=by
 conv=>rhs;rw[<-LC i l,jk]
 omega
theorem qg{l:List aC}{y:aC}(h:y∈l):y.size<=bN l:=by
 induction l with
 | nil=>simp at h
 | cons x r ih=>
  simp only[bN];rcases LG.1 h with rfl|h
  ·omega
  ·have:=ih h;omega
theorem tb{l:List aC}{y:aC}(h:y∈l):y.Im<=ak l:=by
 induction l with
 | nil=>simp at h
 | cons x r ih=>
  simp only[ak];rcases LG.1 h with rfl|h
  ·omega
  ·have:=ih h;omega
theorem dB{x y:aC}(h:y∈x.parts):y.size<x.size:=by
 have:=qg h;rw[dA x];omega
theorem jE{x y:aC}(h:y∈x.parts):y.Im<x.Im:=by
 have:=tb h;rw[ci x];omega
def bR(x:aC)(most:Int):Int:=min (x.size:Int) most
def bE(x:aC)(most:Int):Int:=min (x.Im:Int) most
theorem mF(a:Addr)(n:Nat):(a.add n).block=a.block:=by unfold Addr.add;split<;>rfl
theorem vj(a:Addr)(i j:Nat):(a.add i).add j=a.add (i+j):=by
 unfold Addr.add;by_cases hi:i=0<;>by_cases hj:j=0<;>simp[hi,hj,Nq]
def eE(w:World)(B size:Nat)(A:Option Addr)(n:Nat)(xs:List Value):Prop:=
 xs.length=n*size/\(0<n->∃ad,A=some ad/\ad.block<B/\∀j u,xs[j]?=some u->w.cell? (ad.add j)=some u)
section
variable {w w':World} {B B' size n:Nat} {A:Option Addr} {xs:List Value}
theorem eE.keep(h:eE w B size A n xs)(hk:∀p:Addr,p.block<B->w'.cell? p=w.cell? p):eE w' B size A n xs:=
 ⟨h.1,fun hn=>by
  obtain⟨ad,e,hb,hc⟩:=h.2 hn
  exact⟨ad,e,hb,fun j u hu=>(hk _ (by rw[mF];exact hb)).trans (hc j u hu)⟩⟩
theorem eE.below(h:eE w B size A n xs)(hb:Below B w w'):eE w' B size A n xs:=h.keep fun _ hp=>hb.cell hp
theorem eE.alloc(h:eE w B size A n xs)(hB:B<=w.heap.size)(o:Obj):eE (w.alloc o) B size A n xs:=h.keep fun p hp=>World.cell?_alloc_lt w o p (by omega)
theorem eE.cut(h:eE w B size A n xs){k cap:Nat}(hk:k<=n)(hc:n<=cap):
 eE w B size (if cap=k then A else A.map (·.add (k*size))) (n-k) (xs.drop (k*size)):=by
 refine⟨by rw[NG,h.1,Nat.sub_mul],fun hn=>?_⟩;obtain⟨ad,rfl,hb,hcell⟩:=h.2 (by omega);rw[KU (by omega)];refine⟨ad.add (k*size),rfl,by rw[mF];exact hb,fun j u hu=>?_⟩;rw[vj];exact hcell _ u (by rw[<-hu,MQ])
end
section
variable {P:Program} (w:World)
theorem mG(base:Nat)(t ty e:TypeId)(i:TypeInfo)(size:Nat)(ht:P.underlying t=some (.slice e))(hi:P.info? e=some i)(v:Value)(n:Nat)(xs:List Value)(hown:w.ownsRow base e size v n xs)(c:Nat):(Builtin.append_ #[t,t] ty #[v,.slice none 0 c]).run P w=.ok v w:=by
 rcases hown.2 with⟨rfl,rfl⟩|⟨g,cap,cur,rfl,_,_,hnc,_⟩
 ·simp[Builtin.append_,run_underlying ht,sizeOf,typeInfo,hi,Builtin.lenOf,Builtin.firstCells]
 ·simp[Builtin.append_,run_underlying ht,sizeOf,typeInfo,hi,Builtin.lenOf,Builtin.firstCells,hnc,storeCells]
theorem oW(base:Nat)(t ty e:TypeId)(i:TypeInfo)(z:Value)(size bytes:Nat)(ht:P.underlying t=some (.slice e))(hi:P.info? e=some i)(hz:i.zero=some z)(hsize:i.size=size)(hby:i.bytes=bytes)(hzs:z.cells.size=size)(hsz:0<size)(v:Value)(n:Nat)(xs:List Value)(hown:w.ownsRow base e size v n xs)(B:Nat)(A:Option Addr)(m c:Nat)(news:List Value)(hr:eE w B size A m news)(h1:∀u∈news,u.oneCell'=true)(h63:n+m<=maxLen)(hbytes:(n+m)*bytes<=140737488355328)(hbase:base<=w.heap.size):
 ∃v' w',(Builtin.append_ #[t,t] ty #[v,.slice A m c]).run P w=.ok v' w'/\w'.ownsRow base e size v' (n+m) (xs++news)/\w.grownBy w' v.ownBlock/\
  (v'.ownBlock=v.ownBlock\/v'.ownBlock=some w.heap.size):=by
 rcases A with _|ad
 ·have hm:m=0:=by
   rcases LH m with h0|h0
   ·exact h0
   ·obtain⟨ad,h,_⟩:=hr.2 h0;cases h
  subst hm;have hn:news=[]:=KN (by simpa using hr.1);subst hn;exact⟨v,w,mG w base t ty e i size ht hi v n xs hown c,by simpa using hown,World.grownBy.refl w _,.inl rfl⟩
 ·have hcells:∀j u,news[j]?=some u->w.cell? (ad.add j)=some u:=by
   intro j u hu;rcases LH m with h0|h0
   ·subst h0;have hn:news=[]:=KN (by simpa using hr.1);subst hn;simp at hu
   ·obtain⟨ad',h,_,hc⟩:=hr.2 h0;injection h with h
    subst h;exact hc j u hu
  obtain⟨v',w',hrun,h2,h3,_,h5⟩:=run_append_own_at (P:=P) w base t ty e i z size bytes ht hi hz hsize hby hzs hsz v n xs hown ad m c news hr.1 hcells h1 h63 hbytes hbase;exact⟨v',w',hrun,h2,h3,h5⟩
theorem eU{o:Oper}{a:Act}{K:Act->World->Prop}{Q:Exit->Act->World->Prop}(s x:Operand)(t:TypeId)(ho:o.op=.call {callee:=.builtin .append,args:=#[s,x],argTypes:=#[t,t]})(base:Nat)(e:TypeId)(i:TypeInfo)(z:Value)(size bytes:Nat)(ht:P.underlying t=some (.slice e))(hi:P.info? e=some i)(hz:i.zero=some z)(hsize:i.size=size)(hby:i.bytes=bytes)(hzs:z.cells.size=size)(hsz:0<size)(v:Value)(n:Nat)(xs:List Value)(hs:a.eval s=v)(hown:w.ownsRow base e size v n xs)(B:Nat)(A:Option Addr)(m c:Nat)(news:List Value)(hx:a.eval x=.slice A m c)(hr:eE w B size A m news)(h1:∀u∈news,u.oneCell'=true)(h63:n+m<=maxLen)(hbytes:(n+m)*bytes<=140737488355328)(hbase:base<=w.heap.size)(h:∀v' w',w'.ownsRow base e size v' (n+m) (xs++news)->w.grownBy w' v.ownBlock->(v'.ownBlock=v.ownBlock\/v'.ownBlock=some w.heap.size)->K (a.put o.dst v') w'):o.wp P a w K Q:=by
 obtain⟨v',w',hrun,h2,h3,h4⟩:=oW (P:=P) w base t o.type e i z size bytes ht hi hz hsize hby hzs hsz v n xs hown B A m c news hr h1 h63 hbytes hbase;unfold Oper.wp execOp;simp only[ho,resolve,invoke,builtin,Oc,Oe,NZ,List.map_toArray,Lv,Of,hs,hx,hrun];exact h v' w' h2 h3 h4
theorem aJ{ops:Array Oper}{rest:List Oper}{o:Oper}{a:Act}{Q:Exit->Act->World->Prop}(hgd:o.guard=none)(s x:Operand)(t:TypeId)(ho:o.op=.call {callee:=.builtin .append,args:=#[s,x],argTypes:=#[t,t]})(base:Nat)(e:TypeId)(i:TypeInfo)(z:Value)(size bytes:Nat)(ht:P.underlying t=some (.slice e))(hi:P.info? e=some i)(hz:i.zero=some z)(hsize:i.size=size)(hby:i.bytes=bytes)(hzs:z.cells.size=size)(hsz:0<size)(v:Value)(n:Nat)(xs:List Value)(hs:a.eval s=v)(hown:w.ownsRow base e size v n xs)(B:Nat)(A:Option Addr)(m c:Nat)(news:List Value)(hx:a.eval x=.slice A m c)(hr:eE w B size A m news)(h1:∀u∈news,u.oneCell'=true)(h63:n+m<=maxLen)(hbytes:(n+m)*bytes<=140737488355328)(hbase:base<=w.heap.size)(h:∀v' w',w'.ownsRow base e size v' (n+m) (xs++news)->w.grownBy w' v.ownBlock->(v'.ownBlock=v.ownBlock\/v'.ownBlock=some w.heap.size)->wpList P ops Q rest (a.put o.dst v') w'):wpList P ops Q (o::rest) a w:=
 wpList_plain hgd fun _ hK=>eU w s x t ho base e i z size bytes ht hi hz hsize hby hzs hsz v n xs hs hown B A m c news hx hr h1 h63 hbytes hbase fun v' w' h2 h3 h4=>hK _ _ (h v' w' h2 h3 h4)
theorem bW{ops:Array Oper}{o:Oper}{a:Act}{K:Act->World->Prop}{Q:Exit->Act->World->Prop}{E:Prop}(hgd:o.guard=none)(s x:Operand)(t:TypeId)(ho:o.op=.call {callee:=.builtin .append,args:=#[s,x],argTypes:=#[t,t]})(base:Nat)(e:TypeId)(i:TypeInfo)(z:Value)(size bytes:Nat)(ht:P.underlying t=some (.slice e))(hi:P.info? e=some i)(hz:i.zero=some z)(hsize:i.size=size)(hby:i.bytes=bytes)(hzs:z.cells.size=size)(hsz:0<size)(v:Value)(n:Nat)(xs:List Value)(hs:a.eval s=v)(hown:w.ownsRow base e size v n xs)(B:Nat)(A:Option Addr)(m c:Nat)(news:List Value)(hx:a.eval x=.slice A m c)(hr:eE w B size A m news)(h1:∀u∈news,u.oneCell'=true)(h63:n+m<=maxLen)(hbytes:(n+m)*bytes<=140737488355328)(hbase:base<=w.heap.size)(h:∀v' w',w'.ownsRow base e size v' (n+m) (xs++news)->w.grownBy w' v.ownBlock->(v'.ownBlock=v.ownBlock\/v'.ownBlock=some w.heap.size)->K (a.put o.dst v') w'):
 if Region.wanted o (yielded ops a.tmps)=true then Oper.wp P o a w K Q else E:=by
 have hw:Region.wanted o (yielded ops a.tmps)=true:=by simp[Region.wanted,hgd]
 rw[Kb hw];exact eU w s x t ho base e i z size bytes ht hi hz hsize hby hzs hsz v n xs hs hown B A m c news hx hr h1 h63 hbytes hbase h
end
end
end Go.Proofs.YtgfoliedmhgpnaaGreatDoor
namespace Go
section
variable {l:List ByteArray} {b k i g o n j id size:Nat} {op a:Int} {w w':World} {e:TypeId} {cs:Array Value} {P:Program} {Q:Exit -> Act -> World -> Prop} {v:Value}
section
variable {P:Program} {ops:Array Oper} {md:Region.Mode} {C:World->Prop}
def mH(P:Program)(md:Region.Mode)(ops:Array Oper)(C:World->Prop)(n:Nat)(L:Array Bool->Act->Prop):Nat->Array Bool->Act->Prop
 | 0,listed,a=>L listed a
 | f+1,listed,a=>
  Region.ready md ops listed≠[]/\∀i∈Region.ready md ops listed,i<n/\qOp P ops C i (mH P md ops C n L f (listed.setIfInBounds i true)) a
theorem jm{n g:Nat}{L:Array Bool->Act->Prop}{Q':Exit->Act->World->Prop}(hL:∀listed a w,C w->L listed a->wpAny P md ops Q' g listed a w):
 ∀(f:Nat) (listed:Array Bool) (a:Act) (w:World),C w->mH P md ops C n L f listed a->wpAny P md ops Q' (f+g) listed a w
 | 0,listed,a,w,hw,h=>by rw[Jw];exact hL _ _ _ hw h
 | f+1,listed,a,w,hw,h=>by
  rw[show f+1+g=(f+g)+1 by omega];exact⟨fun h0=>absurd h0 h.1,fun i hi=>wpOp_of_qOp hw (fun a' w' hw' h'=>jm hL f _ a' w' hw' h') (h.2 i hi).2⟩
theorem qH{n i:Nat}{oi:Oper}{v:Value}{L:Array Bool->Act->Prop}(hi:ops[i]?=some oi)(hsel:∀(j:Nat) (o:Oper) cs b,ops[j]?=some o->o.op≠.select cs b)(hs:Region.sinkB md ops n=true)(hc:Region.chainB md ops n=true)(hn:n<ops.size)(hin:i<n)(hdone:∀listed a,L listed a->∀j∈Region.ready md ops listed,n<=j):
 ∀(f:Nat) (listed:Array Bool) (a:Act),HeadInv md ops n listed->
  (∀j oj,ops[j]?=some oj->j≠i->listed.getD j true=false->(∀e∈oj.after,Region.binds md e=true->e.on≠i)->oi.apart ops oj=true)->
  i∈Region.ready md ops listed->YieldsIn P ops C oi v a->
  mH P md ops C n L f (listed.setIfInBounds i true) (a.put oi.dst v)->mH P md ops C n L (f+1) listed a:=by
 intro f
 induction f with
 | zero=>
  intro listed a inv _ hr hy H;have hun:=(mem_ready.1 hr).1;refine⟨fun h=>(by rw[h] at hr;cases hr),fun j hj=>?_⟩
  have hjn:j<n:=by
   rcases Mz j n with h|h
   ·exact h
   ·exact absurd hj (tail_waits hs hc hn inv _ i rfl hin hun j h)
  refine⟨hjn,?_⟩;by_cases hji:j=i
  ·subst hji;exact hy.qOp hi H
  ·have:=hdone _ _ H j (ready_mono hj hji);omega
 | succ f ih=>
  intro listed a inv hfree hr hy H;have hun:=(mem_ready.1 hr).1;refine⟨fun h=>(by rw[h] at hr;cases hr),fun j hj=>?_⟩
  have hjn:j<n:=by
   rcases Mz j n with h|h
   ·exact h
   ·exact absurd hj (tail_waits hs hc hn inv _ i rfl hin hun j h)
  refine⟨hjn,?_⟩;by_cases hji:j=i
  ·subst hji;exact hy.qOp hi H
  ·have h1:=(H.2 j (ready_mono hj hji)).2;obtain⟨hjun,oj,hoj,hall⟩:=mem_ready.1 hj
   have hnot:∀e∈oj.after,Region.binds md e=true->e.on≠i:=fun e he hb heq=>by
    have h1:=hall e he hb;rw[heq,getD_both hun] at h1;cases h1
   have h2:=qOp_put hoj (hfree j oj hoj hji hjun hnot) (fun cs b=>hsel i oi cs b hi) (fun cs b=>hsel j oj cs b hoj) hy h1
   have hfree':∀k ok,ops[k]?=some ok->k≠i->(listed.setIfInBounds j true).getD k true=false->
    (∀e∈ok.after,Region.binds md e=true->e.on≠i)->oi.apart ops ok=true:=fun k ok hk hki hun hno=>by
    refine hfree k ok hk hki ?_ hno;by_cases hjk:j=k
    ·subst hjk;exact hjun
    ·rw[getD_set_ne true hjk] at hun;exact hun
   refine qOp_mono (fun a' h3=>ih (listed.setIfInBounds j true) a' (inv.set hj hjn) hfree' (ready_mono hr (Ne.symm hji)) h3.1 ?_) h2;rw[Array.setIfInBounds_comm _ _ hji];exact h3.2
theorem nX{n g:Nat}{Lq:Act->Prop}(hsel:Region.noSelect ops=true)(hs:Region.sinkB md ops n=true)(hc:Region.chainB md ops n=true)(hn:n<ops.size):
 ∀(l:List Oper) (k:Nat) (listed:Array Bool) (a:Act),(∀j,j<l.length->l[j]?=ops[k+j]?)->k+l.length=n->HeadInv md ops n listed->
 Region.lexHead md ops g l.length k listed=true->wpQuiet P ops C Lq l a->
 mH P md ops C n (fun listed' a'=>Region.seqB md ops g n listed'=true/\Lq a') l.length listed a
 | [],k,listed,a,_,hk,_,hB,h=>by
  have:k=n:=by simpa using hk
  subst this;exact⟨by simpa[Region.lexHead] using hB,h⟩
 | o::l,k,listed,a,hl,hk,inv,hB,h=>by
  have h0:ops[k]?=some o:=by simpa using (hl 0 (by simp)).symm
  simp only[Ks,Region.lexHead,Kz] at hB;obtain⟨⟨hr,hf⟩,hB'⟩:=hB;have hkn:k<n:=by simp only[Ks] at hk;omega
  have hr':k∈Region.ready md ops listed:=by simpa using hr
  have hst:qOp P ops C k (wpQuiet P ops C Lq l) a:=by unfold qOp;simp only[h0];exact h
  obtain⟨v,hy,hK⟩:=yieldsIn_of_qOp h0 hst
  exact qH h0 (Region.noSelect_spec hsel) hs hc hn hkn (fun listed' a' hL=>seqB_ready hL.1) l.length listed a inv (Region.free_spec h0 hf) hr' hy
   (nX hsel hs hc hn l (k+1) _ _ (fun j hj=>by have:=hl (j+1) (by simp;omega);simpa[Nq,Nat.add_comm 1 j] using this) (by simp only[Ks] at hk;omega) (inv.set hr' hkn) hB' hK)
theorem jo{id:Nat}{Q:Exit->Act->World->Prop}{a:Act}{w:World}{l:List Oper}(n:Nat)(hm:P.follows .mixedOrders=true)(hB:Region.lexTailB .any l.toArray n=true)(hC:C {w with drawn:=w.drawn+1})(h:wpQuiet P l.toArray C (fun a'=>∀w',C w'->wpList P l.toArray Q (l.drop n) a' w') (l.take n) a):(Code.region id l.toArray true).wp P Q a w:=by
 simp only[Region.lexTailB,Kz,MD] at hB;obtain⟨⟨⟨⟨hsel,hn⟩,hs⟩,hc⟩,hlex⟩:=hB;have hn':n<l.length:=by simpa using hn
 have htl:(l.take n).length=n:=by simp;omega
 have hdl:(l.drop n).length=l.toArray.size-n:=by simp
 have inv0:HeadInv .any l.toArray n (Array.replicate l.toArray.size false):=
  ⟨by simp,fun j oj _ hl=>(by rw[getD_replicate_false] at hl;cases hl),fun t _ ht=>getD_in (by simpa using ht) (getD_replicate_false _ _)⟩
 have H:=nX (md:=.any) (g:=l.toArray.size-n) hsel hs hc hn (l.take n) 0 _ a (fun j hj=>by
  have hj':j<n:=by rw[htl] at hj;exact hj
  simp[hj']) (by simpa using htl) inv0 (by rw[htl];exact hlex) h
 refine wp_region_any hm ?_
 have:=jm (Q':=Q) (g:=l.toArray.size-n) (fun listed a' w' hw' hL=>by
  have:=wpAny_of_seq (md:=.any) (Q':=Q) (l.drop n) n listed a' w' (fun j=>by simp[MQ]) (by rw[hdl];exact hL.1) (hL.2 w' hw')
  rwa [hdl] at this) _ _ _ _ hC H
 rw[htl,show n+(l.toArray.size-n)=l.toArray.size by omega] at this;exact this
end
end
end Go
namespace Go.Proofs.YtgfoliedmhgpnaaGreatDoor
open Go.RowKit
section
variable {l:List ByteArray} {k n id:Nat} {a:Int} {w w':World} {P:Program} {Q:Exit -> Act -> World -> Prop}
theorem cC{P:Program}{id:Nat}{Q:Exit->Act->World->Prop}{a:Act}{w:World}{l:List Oper}(n:Nat)(hm:P.follows .mixedOrders=true)(hB:Region.lexTailB .any l.toArray n=true)(h:wpQuiet P l.toArray (fun w'=>∃k:BW w,w'=k.val) (fun a'=>∀w',(∃k:BW w,w'=k.val)->wpList P l.toArray Q (l.drop n) a' w') (l.take n) a):(Code.region id l.toArray true).wp P Q a w:=
 jo (C:=fun w'=>∃k:BW w,w'=k.val) n hm hB ⟨⟨w.drew,(Ju _ _).drew⟩,rfl⟩ h
end
structure iG(g:Nat)(w w':World):Prop where
 os:w'.os=w.os
 tape:w'.tape=w.tape
 output:w'.output=w.output
 size:w.heap.size<=w'.heap.size
 block:∀k,k<w.heap.size->k≠g->w'.heap[k]?=w.heap[k]?
section
variable {xs ys:List ByteArray} {b c k i g n off j B base size:Nat} {a:Int} {s:ByteArray} {w w' w1 w2:World} {A:Option Addr} {e t:TypeId} {cs:Array Value} {v:Value}
section
variable {g:Nat} {w w1 w2:World}
theorem iG.refl:iG g w w:=⟨rfl,rfl,rfl,qL,fun _ _ _=>rfl⟩
theorem iG.trans(h:iG g w w1)(k:iG g w1 w2):iG g w w2:=
 ⟨k.os.trans h.os,k.tape.trans h.tape,k.output.trans h.output,KM h.size k.size,fun i hi hg=>(k.block i (Ka hi h.size) hg).trans (h.block i hi hg)⟩
theorem iG.Is(h:Below w.heap.size w w1):iG g w w1:=⟨h.os,h.tape,h.output,h.size,fun k hk _=>h.block k hk⟩
theorem iG.step(h:iG g w w1)(k:Below w1.heap.size w1 w2):iG g w w2:=h.trans (.Is k)
theorem iG.set(h:iG g w w1){p:Addr}(hp:p.block=g)(u:Value):iG g w (w1.setCell p u):=
 ⟨h.os,h.tape,h.output,by simpa[World.setCell] using h.size,fun k hk hg=>(Ku w1 p u k (by rw[hp];exact hg)).trans (h.block k hk hg)⟩
theorem iG.below(h:iG g w w1){B:Nat}(hB:B<=w.heap.size)(hg:B<=g):Below B w w1:=⟨h.os,h.tape,h.output,h.size,fun k hk=>h.block k (by omega) (by omega)⟩
theorem iG.cell(h:iG g w w1){p:Addr}(hp:p.block<w.heap.size)(hg:p.block≠g):w1.cell? p=w.cell? p:=Kh (h.block _ hp hg)
theorem aG.but{b:Nat}{t:TypeId}{cs:Array Value}(h:aG w b t cs)(k:iG g w w1)(hg:b≠g):aG w1 b t cs:=(k.block b h.lt hg).trans h
end
section
variable {α:Type} {rec:α->List Value} {s:Nat}
def aO(rec:α->List Value)(xs:List α):List Value:=xs.flatMap rec
theorem di(rec:α->List Value)(xs ys:List α):aO rec (xs++ys)=aO rec xs++aO rec ys:=by simp[aO]
theorem cw(rec:α->List Value)(xs:List α)(a:α):aO rec (xs++[a])=aO rec xs++rec a:=by simp[aO]
theorem cA(hs:∀a,(rec a).length=s)(xs:List α):(aO rec xs).length=xs.length*s:=by
 induction xs with
 | nil=>simp[aO]
 | cons a l ih=>
  have:aO rec (a::l)=rec a++aO rec l:=rfl;rw[this,KV,ih,hs,Ks,Lk];omega
theorem iY(hs:∀a,(rec a).length=s):∀{xs:List α} {i j:Nat} {a:α} {v:Value},xs[i]?=some a->(rec a)[j]?=some v->(aO rec xs)[i*s+j]?=some v:=by
 intro xs
 induction xs with
 | nil=>intro i j a v h;simp at h
 | cons b l ih=>
  intro i j a v h1 h2;have e:aO rec (b::l)=rec b++aO rec l:=rfl;rw[e];cases i with
  | zero=>
   simp at h1;subst h1;have hj:j<(rec b).length:=(KF.1 h2).1;rw[Ll,Jw,Lc hj];exact h2
  | succ i=>
   have hb:=hs b;rw[Kl (by rw[hb,Lk];omega),hb,show(i+1)*s+j-s=i*s+j by rw[Lk];omega];exact ih (by simpa using h1) h2
structure SR(s:Nat)(rec:α->List Value)(w:World)(A:Option Addr)(n c:Nat)(xs:List α):Prop where
 ln:n=xs.length
 lc:n<=c
 el:0<n->∃b off,A=some ⟨b,off,none⟩/\b<w.heap.size/\∀(i:Nat) (a:α),xs[i]?=some a->∀(j:Nat) (v:Value),(rec a)[j]?=some v->w.cell? ⟨b,off+i*s+j,none⟩=some v
theorem SR.step{w w':World}{A:Option Addr}{n c:Nat}{xs:List α}(h:SR s rec w A n c xs)(hb:Below w.heap.size w w'):SR s rec w' A n c xs:=by
 refine⟨h.ln,h.lc,fun hn=>?_⟩;obtain⟨b,off,h1,h2,h3⟩:=h.el hn;exact⟨b,off,h1,Ka h2 hb.size,fun i a hi j v hj=>(hb.cell (p:=⟨b,off+i*s+j,none⟩) h2).trans (h3 i a hi j v hj)⟩
theorem SR.nil{w:World}{A:Option Addr}{c:Nat}:SR s rec w A 0 c ([]:List α):=⟨rfl,KD _,fun h=>absurd h (On 0)⟩
theorem fH{w:World}{base:Nat}{e:TypeId}{size n:Nat}{v:Value}{xs:List Value}(h:w.ownsRow base e size v n xs){g:Nat}(hg:v.ownBlock=some g):g<w.heap.size:=by
 rcases h.2 with⟨rfl,_⟩|⟨g',cap,cur,rfl,_,hh,_⟩
 ·simp[Value.ownBlock] at hg
 ·simp[Value.ownBlock] at hg;subst hg;rcases Mz g' w.heap.size with hlt|hge
  ·exact hlt
  ·rw[Mo hge] at hh;cases hh
theorem gL{w:World}{base:Nat}{e:TypeId}{size n:Nat}{v:Value}{xs:List Value}(h:w.ownsRow base e size v n xs){g:Nat}(hg:g<base):v.ownBlock≠some g:=by
 rcases h.2 with⟨rfl,_⟩|⟨g',cap,cur,rfl,hge,_⟩
 ·simp[Value.ownBlock]
 ·simp[Value.ownBlock];omega
theorem bF{w:World}{base:Nat}{e:TypeId}{size n:Nat}{v:Value}{xs:List Value}(h:w.ownsRow base e size v n xs):∀g,v.ownBlock=some g->base<=g:=by
 rcases h.2 with⟨rfl,_⟩|⟨g',cap,cur,rfl,hge,_⟩
 ·intro g hg;simp[Value.ownBlock] at hg
 ·intro g hg;simp[Value.ownBlock] at hg;omega
theorem cK{w:World}{base:Nat}{e:TypeId}{size n:Nat}{v:Value}{xs:List Value}(h:w.ownsRow base e size v n xs):∃A c,v=.slice A n c/\n<=c:=by
 rcases h.2 with⟨rfl,rfl⟩|⟨g,cap,cur,hv,_,_,hnc,_⟩
 ·exact⟨none,0,rfl,qL⟩
 ·exact⟨_,_,hv,hnc⟩
theorem bJ{w w':World}{base:Nat}{e:TypeId}{size n:Nat}{v:Value}{xs:List Value}(h:w.ownsRow base e size v n xs)(hb:Below w.heap.size w w'):w'.ownsRow base e size v n xs:=by
 refine⟨h.1,?_⟩;rcases h.2 with h2|⟨g,cap,cur,hv,hg,hh,hr⟩
 ·exact .inl h2
 ·refine .inr ⟨g,cap,cur,hv,hg,?_,hr⟩
  have hlt:g<w.heap.size:=by
   rcases Mz g w.heap.size with hlt|hge
   ·exact hlt
   ·rw[Mo hge] at hh;cases hh
  rw[hb.block g hlt];exact hh
theorem SR.Ik{w:World}{base:Nat}{t:TypeId}{v:Value}{n:Nat}{xs:List α}(hs:∀a,(rec a).length=s)(h:w.ownsRow base t s v n (aO rec xs))(hl:xs.length=n):∃A c,v=.slice A n c/\SR s rec w A n c xs:=by
 rcases h.2 with⟨rfl,rfl⟩|⟨g,cap,cur,rfl,_,hh,hnc,_⟩
 ·exact⟨none,0,rfl,hl.symm,qL,fun h=>absurd h (by omega)⟩
 ·refine⟨_,_,rfl,hl.symm,hnc,fun _=>⟨g,0,rfl,fH h rfl,fun i a hi j u hj=>?_⟩⟩;have:=h.cells (g:=g) rfl (i*s+j) u (iY hs hi hj);rw[dM] at this;rw[Jw] at this ⊢;exact this
theorem bX(w:World)(base:Nat)(e:TypeId)(size:Nat):w.ownsRow base e size (.slice none 0 0) 0 []:=⟨by simp,.inl ⟨rfl,rfl⟩⟩
end
def II(w:World)(g:Nat)(t:TypeId)(n:Nat):Prop:=∃cs,aG w g t cs/\cs.size=n
section
variable {w w':World} {g:Nat} {t:TypeId} {n:Nat}
end
theorem bO{w:World}{b off:Nat}{v:VC}{g:Nat}(h:g≠b):(bH w b off v).heap[g]?=w.heap[g]?:=by
 unfold bH;rw[Ku _ _ _ _ h,Ku _ _ _ _ h,Ku _ _ _ _ h,Ku _ _ _ _ h,Ku _ _ _ _ h]
end
structure Cl(lo mid:Nat)(w:World)(c:VC)(x:aC):Prop where
 k:c.k=x.k
 n:c.n=x.n
 t:c.t=x.t
 tsz:x.t.size<=aH
 ln:c.ln=x.l.length
 lc:c.lc=c.ln
 lsz:c.ln*80<=aH
 l0:c.ln=0->c.LA=none
 la:0<c.ln->∃g,c.LA=some ⟨g,0,none⟩/\lo<=g/\g<mid/\II w g 29 (c.ln*5)/\∀(i:Nat) (y:aC),x.l[i]?=some y->∃e,aS w g (i*5) e/\RV (fun b=>g<b/\b<mid) w e y
 hmid:lo<=mid
 dn:c.dn=x.d.length
 dc:c.dc=c.dn
 dsz:c.dn*96<=aH
 d0:c.dn=0->c.DA=none
 da:0<c.dn->∃g,c.DA=some ⟨g,0,none⟩/\mid<=g/\II w g 77 (c.dn*6)/\∀(i:Nat) (f:cF),x.d[i]?=some f->w.cell? ⟨g,i*6,none⟩=some (.string f.s)/\f.s.size<=aH/\∃e,aS w g (i*6+1) e/\RV (fun b=>g<b) w e f.v
section
variable {i n size:Nat} {w:World} {e t:TypeId} {P:Program}
theorem dC:(Tryz.prog.info? 29).map (fun i=>(i.zero,i.size,i.bytes))=some (some VC.zero.val,5,80):=by kernel_rfl
theorem lO:(Tryz.prog.info? 77).map (fun i=>(i.zero,i.size,i.bytes))=some (some (.agg (#[.string empty]++VC.zero.arr)),6,96):=by kernel_rfl
theorem eV{P:Program}(t e:TypeId)(i:TypeInfo)(z:Value)(ht:P.underlying t=some (.slice e))(hi:P.info? e=some i)(hz:i.zero=some z)(n:Nat)(hbytes:i.bytes*n<=281474976710656)(h63:n<=9223372036854775807)(w:World):
 (Instr.makeSlice t (.int .i64 (n:Int)) (.int .i64 (n:Int))).run P w=.ok (.slice (some ⟨w.heap.size,0,none⟩) n n) (w.alloc (.cells (madeCells z.cells (n*i.size)) e)):=by
 have hb:(i.bytes:Int)*(n:Int)<=281474976710656:=by
  have h:((i.bytes*n:Nat):Int)<=281474976710656:=by omega
  rwa [Int.natCast_mul] at h
 have hr:=run_make (P:=P) w t e i z ht hi hz .i64 .i64 n n (by omega) (by omega) hb (by omega);simp only[Int.toNat_natCast] at hr;exact hr
end
end Go.Proofs.YtgfoliedmhgpnaaGreatDoor
namespace Go.RowKit
section
variable {n B:Nat} {a:Int} {w:World}
theorem Below.Io{B n:Nat}{a w:World}(h:Below B (a.drewN n) w):Below B a w:=⟨h.os,h.tape,h.output,h.size,h.block⟩
end
end Go.RowKit
namespace Go.Proofs.YtgfoliedmhgpnaaGreatDoor
open Go.RowKit
section
variable {b c size:Nat} {x:Int} {w' W:World} {F:Nat -> Prop}
theorem RV.Ih{F:Nat->Prop}{W w':World}{c:VC}{x:aC}(h:RV (fun b=>F b/\b<W.heap.size) W c x)(hb:Below W.heap.size W w'):RV F w' c x:=h.Il fun b hF _=>⟨hF.1,hb.block b hF.2⟩
end
structure CE(w:World)(x:aC)(r:VC)(mid:Nat)(wx:World):Prop where
 b1:aG wx (w.heap.size+1) 29 VC.zero.arr
 b2:aG wx (w.heap.size+2) 29 r.arr
 cl:Cl (w.heap.size+3) mid wx r x
 bel:Below w.heap.size w wx
section
variable {off q:Nat} {W:World} {v:Value}
theorem aF{fn:Func}{p:Tmp}(h:fn.results=#[.cell p 29])(tmps:Array Value)(g1 off:Nat)(h1:tmps[p]?.getD undef=.pointer (some ⟨g1,off,none⟩))(W:World)(v:VC)(q:aS W g1 off v):
 (results fn tmps).run prog W=.ok v.val W:=by
 obtain⟨q0,q1,q2,q3,q4⟩:=q;simp[results,h,h1,asAddr,go_sem,q0,q1,q2,q3,q4]
abbrev PV:=VC×aC
abbrev PF:=VC×cF
def bC(p:PV):List Value:=p.1.list
def cX(p:PF):List Value:=.string p.2.s::p.1.list
theorem bQ(p:PV):(bC p).length=5:=rfl
theorem jp(p:PF):(cX p).length=6:=rfl
theorem cG(p:PV):∀u∈bC p,u.oneCell'=true:=by simp[bC,VC.list,Value.oneCell']
theorem iZ(p:PF):∀u∈cX p,u.oneCell'=true:=by simp[cX,VC.list,Value.oneCell']
end
structure SL(F:Nat->Prop)(w:World)(A:Option Addr)(n c:Nat)(ps:List PV):Prop where
 sr:SR 5 bC w A n c ps
 sz:n*80<=aH
 blk:0<n->∃b off,A=some ⟨b,off,none⟩/\Ft F w b
 rv:∀p∈ps,RV F w p.1 p.2
structure SD(F:Nat->Prop)(w:World)(A:Option Addr)(n c:Nat)(ps:List PF):Prop where
 sr:SR 6 cX w A n c ps
 sz:n*96<=aH
 blk:0<n->∃b off,A=some ⟨b,off,none⟩/\Ft F w b
 ns:∀p∈ps,p.2.s.size<=aH
 rv:∀p∈ps,RV F w p.1 p.2.v
section
variable {l xs:List ByteArray} {b c k i g o n off j m q ln lc base size:Nat} {a x y d:Int} {s:ByteArray} {w w' w3 w4:World} {A LA:Option Addr} {F G:Nat -> Prop} {e t:TypeId} {v:Value}
section
variable {F G:Nat->Prop} {w w':World} {A:Option Addr} {n c:Nat}
theorem lP{b off:Nat}{u:VC}(h:∀(j:Nat) (v:Value),u.list[j]?=some v->w.cell? ⟨b,off+j,none⟩=some v):aS w b off u:=
 ⟨h 0 _ rfl,h 1 _ rfl,h 2 _ rfl,h 3 _ rfl,h 4 _ rfl⟩
theorem oX{b off:Nat}{u:VC}(h:aS w b off u):∀(j:Nat) (v:Value),u.list[j]?=some v->w.cell? ⟨b,off+j,none⟩=some v:=by
 obtain⟨h0,h1,h2,h3,h4⟩:=h;intro j v hj
 match j,hj with
 | 0,hj=>simp[VC.list] at hj;subst hj;exact h0
 | 1,hj=>simp[VC.list] at hj;subst hj;exact h1
 | 2,hj=>simp[VC.list] at hj;subst hj;exact h2
 | 3,hj=>simp[VC.list] at hj;subst hj;exact h3
 | 4,hj=>simp[VC.list] at hj;subst hj;exact h4
 | j+5,hj=>simp[VC.list] at hj
theorem nY{α β:Type}{p:Nat->β->α->Prop}:∀{l:List β},(∀i y,l[i]?=some y->∃u,p i y u)->∃ps:List (α×β),ps.map Prod.snd=l/\∀i q,ps[i]?=some q->p i q.2 q.1:=by
 intro l
 induction l generalizing p with
 | nil=>intro _;exact⟨[],rfl,fun i q h=>by simp at h⟩
 | cons y r ih=>
  intro h;obtain⟨u,hu⟩:=h 0 y rfl;obtain⟨ps,h1,h2⟩:=ih (p:=fun i=>p (i+1)) (fun i y hy=>h (i+1) y (by simpa using hy));refine⟨(u,y)::ps,by simp[h1],fun i q hq=>?_⟩;cases i with
  | zero=>simp at hq;subst hq;exact hu
  | succ i=>exact h2 i q (by simpa using hq)
theorem RV.sl{u:VC}{x:aC}(h:RV F w u x):∃ps:List PV,ps.map Prod.snd=x.l/\SL F w u.LA u.ln u.lc ps:=by
 have ho:=h.open;by_cases hn:0<u.ln
 ·obtain⟨b,off,e,hF,hl⟩:=ho.la hn;obtain⟨ps,h1,h2⟩:=nY hl;have hlen:u.ln=ps.length:=by rw[ho.ln,<-h1];simp
  refine⟨ps,h1,⟨hlen,ho.lc,fun _=>⟨b,off,e,?_,fun i a hi j v hj=>oX (h2 i a hi).1 j v hj⟩⟩,ho.lsz,fun _=>⟨b,off,e,hF⟩,fun p hp=>?_⟩
  ·obtain⟨q,hq⟩:∃q,ps[0]?=some q:=⟨_,Jv (by omega)⟩;exact(h2 0 q hq).1.lt
  ·obtain⟨i,hi⟩:=LP hp;exact(h2 i p hi).2
 ·have h0:u.ln=0:=by omega
  have hx:x.l=[]:=KN (by rw[<-ho.ln];exact h0);exact⟨[],by rw[hx];rfl,⟨by rw[h0];rfl,ho.lc,fun h=>absurd h hn⟩,ho.lsz,fun h=>absurd h hn,fun p hp=>by simp at hp⟩
theorem RV.sd{u:VC}{x:aC}(h:RV F w u x):∃ps:List PF,ps.map Prod.snd=x.d/\SD F w u.DA u.dn u.dc ps:=by
 have ho:=h.open;by_cases hn:0<u.dn
 ·obtain⟨b,off,e,hF,hl⟩:=ho.da hn
  obtain⟨ps,h1,h2⟩:=nY (p:=fun i (f:cF) (v:VC)=>w.cell? ⟨b,off+i*6,none⟩=some (.string f.s)/\f.s.size<=aH/\aS w b (off+i*6+1) v/\RV F w v f.v) (fun i f hf=>by
   obtain⟨h1,h2,v,h3,h4⟩:=hl i f hf
   exact⟨v,h1,h2,h3,h4⟩)
  have hlen:u.dn=ps.length:=by rw[ho.dn,<-h1];simp
  refine⟨ps,h1,⟨hlen,ho.dc,fun _=>⟨b,off,e,?_,fun i a hi j v hj=>?_⟩⟩,ho.dsz,fun _=>⟨b,off,e,hF⟩,fun p hp=>?_,fun p hp=>?_⟩
  ·obtain⟨q,hq⟩:∃q,ps[0]?=some q:=⟨_,Jv (by omega)⟩;exact(h2 0 q hq).2.2.1.lt
  ·obtain⟨k0,_,k1,_⟩:=h2 i a hi;cases j with
   | zero=>simp[cX] at hj;subst hj;exact k0
   | succ j=>
    have:=oX k1 j v (by simpa[cX] using hj);rw[show off+i*6+(j+1)=off+i*6+1+j by omega];exact this
  ·obtain⟨i,hi⟩:=LP hp;exact(h2 i p hi).2.1
  ·obtain⟨i,hi⟩:=LP hp;exact(h2 i p hi).2.2.2
 ·have h0:u.dn=0:=by omega
  have hx:x.d=[]:=KN (by rw[<-ho.dn];exact h0);exact⟨[],by rw[hx];rfl,⟨by rw[h0];rfl,ho.dc,fun h=>absurd h hn⟩,ho.dsz,fun h=>absurd h hn,fun p hp=>by simp at hp,fun p hp=>by simp at hp⟩
theorem RV.Iw{k m:Int}{t:ByteArray}{LA DA:Option Addr}{ln lc dn dc:Nat}{ps:List PV}{fs:List PF}(ht:t.size<=aH)(hl:SL F w LA ln lc ps)(hd:SD F w DA dn dc fs):
 RV F w ⟨k,m,t,LA,ln,lc,DA,dn,dc⟩ (.mk k m t (ps.map Prod.snd) (fs.map Prod.snd)):=by
 refine sK.shut ⟨rfl,rfl,rfl,ht,by simp[aC.l,hl.sr.ln],hl.sr.lc,hl.sz,fun hn=>?_,by simp[aC.d,hd.sr.ln],hd.sr.lc,hd.sz,fun hn=>?_⟩
 ·obtain⟨b,off,e,_,hel⟩:=hl.sr.el hn;obtain⟨b',off',e',hF⟩:=hl.blk hn;rw[e] at e';cases e';refine⟨b,off,e,hF,fun i y hi=>?_⟩;simp only[aC.l,KP] at hi;obtain⟨p,hp,rfl⟩:=LR.1 hi;exact⟨p.1,lP fun j v hj=>hel i p hp j v hj,hl.rv p (Jx hp)⟩
 ·obtain⟨b,off,e,_,hel⟩:=hd.sr.el hn;obtain⟨b',off',e',hF⟩:=hd.blk hn;rw[e] at e';cases e';refine⟨b,off,e,hF,fun i y hi=>?_⟩;simp only[aC.d,KP] at hi;obtain⟨p,hp,rfl⟩:=LR.1 hi;refine⟨hel i p hp 0 _ rfl,hd.ns p (Jx hp),p.1,lP fun j v hj=>?_,hd.rv p (Jx hp)⟩;have:=hel i p hp (j+1) v (by simpa[cX] using hj);rw[show off+i*6+1+j=off+i*6+(j+1) by omega];exact this
theorem SL.Iq{ps:List PV}(h:SL F w A n c ps){i:Nat}{p:PV}(hi:ps[i]?=some p):∃b off,A=some ⟨b,off,none⟩/\F b/\aS w b (off+i*5) p.1/\RV F w p.1 p.2:=by
 have hn:0<n:=by have:=(KF.1 hi).1;have:=h.sr.ln;omega
 obtain⟨b,off,e,_,hel⟩:=h.sr.el hn;obtain⟨b',off',e',hF⟩:=h.blk hn;rw[e] at e';cases e';exact⟨b,off,e,hF.1,lP fun j v hj=>hel i p hi j v hj,h.rv p (Jx hi)⟩
theorem SD.Iq{ps:List PF}(h:SD F w A n c ps){i:Nat}{p:PF}(hi:ps[i]?=some p):∃b off,A=some ⟨b,off,none⟩/\F b/\w.cell? ⟨b,off+i*6,none⟩=some (.string p.2.s)/\aS w b (off+i*6+1) p.1/\RV F w p.1 p.2.v:=by
 have hn:0<n:=by have:=(KF.1 hi).1;have:=h.sr.ln;omega
 obtain⟨b,off,e,_,hel⟩:=h.sr.el hn;obtain⟨b',off',e',hF⟩:=h.blk hn;rw[e] at e';cases e';refine⟨b,off,e,hF.1,hel i p hi 0 _ rfl,lP fun j v hj=>?_,h.rv p (Jx hi)⟩;have:=hel i p hi (j+1) v (by simpa[cX] using hj);rw[show off+i*6+1+j=off+i*6+(j+1) by omega];exact this
theorem SL.step{ps:List PV}(h:SL F w A n c ps)(hb:Below w.heap.size w w'):SL F w' A n c ps:=⟨h.sr.step hb,h.sz,fun hn=>by
 obtain⟨b,off,e,hF⟩:=h.blk hn
 obtain⟨b',off',e',hl,_⟩:=h.sr.el hn
 rw[e] at e'
 cases e'
 exact⟨b,off,e,hF.Il hl fun q hq hql=>⟨hq,hb.block q hql⟩⟩,fun p hp=>(h.rv p hp).step hb⟩
theorem SD.step{ps:List PF}(h:SD F w A n c ps)(hb:Below w.heap.size w w'):SD F w' A n c ps:=⟨h.sr.step hb,h.sz,fun hn=>by
 obtain⟨b,off,e,hF⟩:=h.blk hn
 obtain⟨b',off',e',hl,_⟩:=h.sr.el hn
 rw[e] at e'
 cases e'
 exact⟨b,off,e,hF.Il hl fun q hq hql=>⟨hq,hb.block q hql⟩⟩,h.ns,fun p hp=>(h.rv p hp).step hb⟩
theorem SL.mono{ps:List PV}(h:SL F w A n c ps)(hk:∀b,F b->G b):SL G w A n c ps:=⟨h.sr,h.sz,fun hn=>by obtain⟨b,off,e,hF⟩:=h.blk hn;exact⟨b,off,e,hk b hF.1,fun hG=>hF.2 fun h0=>hG (hk 0 h0)⟩,fun p hp=>(h.rv p hp).mono hk⟩
theorem SL.Ik{base:Nat}{t:TypeId}{v:Value}{ps:List PV}(h:w.ownsRow base t 5 v n (aO bC ps))(hl:ps.length=n)(hz:n*80<=aH)(hF:∀b,base<=b->F b)(hr:∀p∈ps,RV F w p.1 p.2):∃A c,v=.slice A n c/\SL F w A n c ps:=by
 obtain⟨A,c,rfl,hs⟩:=SR.Ik bQ h hl;refine⟨A,c,rfl,hs,hz,fun hn=>?_,hr⟩;obtain⟨b,off,rfl,_⟩:=hs.el hn;rcases h.2 with⟨h',_⟩|⟨g,cap,cur,hv,hg,hbl,_⟩
 ·cases h'
 ·cases hv;exact⟨b,0,rfl,hF b hg,fun _ i=>aG.frozen (t:=t) (cs:=cur) hbl i⟩
theorem SD.Ik{base:Nat}{t:TypeId}{v:Value}{ps:List PF}(h:w.ownsRow base t 6 v n (aO cX ps))(hl:ps.length=n)(hz:n*96<=aH)(hF:∀b,base<=b->F b)(hs:∀p∈ps,p.2.s.size<=aH)(hr:∀p∈ps,RV F w p.1 p.2.v):∃A c,v=.slice A n c/\SD F w A n c ps:=by
 obtain⟨A,c,rfl,hsr⟩:=SR.Ik jp h hl;refine⟨A,c,rfl,hsr,hz,fun hn=>?_,hs,hr⟩;obtain⟨b,off,rfl,_⟩:=hsr.el hn;rcases h.2 with⟨h',_⟩|⟨g,cap,cur,hv,hg,hbl,_⟩
 ·cases h'
 ·cases hv;exact⟨b,0,rfl,hF b hg,fun _ i=>aG.frozen (t:=t) (cs:=cur) hbl i⟩
end
theorem flat_at'{α:Type}{rec:α->List Value}{s:Nat}(hs:∀a,(rec a).length=s)(hp:0<s)(xs:List α)(k:Nat)(hk:k<xs.length*s):∃a v,xs[k/s]?=some a/\(rec a)[k%s]?=some v/\(aO rec xs)[k]?=some v:=by
 have h1:k/s<xs.length:=Nat.div_lt_of_lt_mul (by rw[Og];exact hk);have h2:k%s<s:=Nat.mod_lt _ hp;refine ⟨xs[k / s], (rec xs[k / s])[k % s]'(by rw [hs]; exact h2), Jv h1, Jv (by rw [hs]; exact h2), ?_⟩;have:=iY hs (Jv h1) (Jv (l:=rec xs[k/s]) (i:=k%s) (by rw[hs];exact h2));rw[show k/s*s+k%s=k by rw[Og];exact Nat.div_add_mod k s] at this;exact this
theorem vk{α:Type}{rec:α->List Value}{s:Nat}(hs:∀a,(rec a).length=s){w:World}{g:Nat}{t:TypeId}{L:List α}(h:aG w g t (aO rec L).toArray){base:Nat}(hb:base<=g)(hm:L.length<=maxLen):w.ownsRow base t s (.slice (some ⟨g,0,none⟩) L.length L.length) L.length (aO rec L):=
 ⟨cA hs L,.inr ⟨g,L.length,(aO rec L).toArray,rfl,hb,h,qL,hm,by simp[cA hs],by rw[List.toList_toArray,<-cA hs];exact NH⟩⟩
theorem eF{w3 w4:World}{o:Obj}{row:Option Nat}(hg:(w3.alloc o).grownBy w4 row){p:Addr}{v:Value}(h:w3.cell? p=some v)(hne:row≠some p.block):w4.cell? p=some v:=by
 have hlt:=KY w3 p h;rw[Kh (w:=w3.alloc o) (hg.block p.block (by simp;omega) (fun e=>hne e.symm)),World.cell?_alloc_lt w3 o p hlt];exact h
theorem qh{w3 w4:World}{o:Obj}{row:Option Nat}(hg:(w3.alloc o).grownBy w4 row){p:Addr}(hlt:p.block<w3.heap.size)(hne:row≠some p.block):w4.frozen? p=w3.frozen? p:=by
 rw[Mp (w:=w3.alloc o) (hg.block p.block (by simp;omega) (fun e=>hne e.symm)),Mp (w:=w3) (NB w3 o p.block hlt)]
theorem SL.Il{F G:Nat->Prop}{w w':World}{A:Option Addr}{n c:Nat}{ps:List PV}(h:SL F w A n c ps)(hk:∀b,F b->b<w.heap.size->G b/\w'.heap[b]?=w.heap[b]?):SL G w' A n c ps:=by
 refine⟨⟨h.sr.ln,h.sr.lc,fun hn=>?_⟩,h.sz,fun hn=>?_,fun p hp=>(h.rv p hp).Il hk⟩
 ·obtain⟨b,off,h1,h2,h3⟩:=h.sr.el hn;obtain⟨b',off',h1',hF⟩:=h.blk hn;rw[h1] at h1';cases h1';have he:=(hk b hF.1 h2).2;refine⟨b,off,h1,?_,fun i a hi j v hj=>(Kh (w:=w) (a:=⟨b,off+i*5+j,none⟩) he).trans (h3 i a hi j v hj)⟩;rcases Mz b w'.heap.size with hlt|hge
  ·exact hlt
  ·rw[Mo hge,NN h2] at he;cases he
 ·obtain⟨b,off,h1,h2,h3⟩:=h.sr.el hn;obtain⟨b',off',h1',hF⟩:=h.blk hn;rw[h1] at h1';cases h1';exact⟨b,off,h1,hF.Il h2 hk⟩
theorem gw{w w':World}{base:Nat}{e:TypeId}{size n:Nat}{v:Value}{xs:List Value}(h:w.ownsRow base e size v n xs)(hk:∀g,v.ownBlock=some g->w'.heap[g]?=w.heap[g]?):w'.ownsRow base e size v n xs:=by
 refine⟨h.1,?_⟩;rcases h.2 with h2|⟨g,cap,cur,rfl,hg,hh,hr⟩
 ·exact .inl h2
 ·exact .inr ⟨g,cap,cur,rfl,hg,(hk g rfl).trans hh,hr⟩
end
end Go.Proofs.YtgfoliedmhgpnaaGreatDoor
