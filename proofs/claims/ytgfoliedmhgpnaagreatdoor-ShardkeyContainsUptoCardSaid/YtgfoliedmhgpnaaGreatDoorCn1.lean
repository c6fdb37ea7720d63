/- A part of the proof. -/
import Derived.Test.YtgfoliedmhgpnaaGreatDoorRows
import Derived.Deep.RegionHeld3
import Derived.Maps.RangeWalk
import Derived.Lib.Hide
import Derived.WalkKit
import Derived.WalkSpells
import Derived.WalkLawsBesides
import Derived.Deep.QuietTactic
import Derived.BigQuiet
import Derived.Deep.DeepCutAuto
import Derived.Deep.CutBlock
import Derived.Laws.Rows
import Derived.Laws.ResultCell
import Derived.RegionTactic
import Derived.BigRegion
import Derived.Lib.Bytealg
import Derived.Lib.Small
import Derived.Maps.AppendAt
import Derived.Deep.AppendLies
import Derived.OwnWalk
import Derived.Deep.RegionLaw
import Derived.StillTail
import Derived.IntWalk
import Derived.Shelf.Abstract
import Derived.Lib.ValidU
set_option maxRecDepth 100000
set_option linter.unusedSimpArgs false
set_option maxHeartbeats 16000000
open Go.Proofs.Tryz
open ByteArray (empty)
namespace Go
section
variable {n o i c S:Nat} {w w':World} {P:Program} {Q:Exit -> Act -> World -> Prop} {a:Int} {l r:List ByteArray} {v:Value}
theorem oM {p:Prop} (h:p:=by omega):p:=h
theorem kR {p:Prop} (h:p:=by kernel_rfl):p:=h
theorem dE {p:Prop} (h:p:=by decide):p:=h
theorem sM {p:Prop} (h:p:=by simp):p:=h
theorem sO {p:Prop} (h:p:=by simp;omega):p:=h
theorem iO {p:Prop} (h:p:=by simp[intOf];omega):p:=h
abbrev Bl (w w':World):Prop:=RowKit.Below w.heap.size w w'
abbrev OG:=@Go.RowKit.Below.refl
abbrev OH:=@List.getElem?_eq_getElem
abbrev OI:=@List.getElem?_eq_some_iff
abbrev OJ:=@List.mem_of_getElem?
abbrev OK:=@List.length_append
abbrev OL:=@List.eq_nil_of_length_eq_zero
abbrev OM:=@decide_eq_true
abbrev ON:=@Nat.zero_le
abbrev OO:=@Go.bodyPost_ret
abbrev OP:=@List.mem_append
abbrev OQ:=@if_neg
abbrev OS:=@List.take_of_length_le
abbrev OT:=@List.getElem?_map
abbrev OU:=@Nat.le_trans
abbrev OV:=@decide_eq_false
abbrev OW:=@if_pos
abbrev OX:=@Nat.zero_add
abbrev OY:=@List.append_assoc
abbrev OZ:=@List.length_cons
abbrev Oa:=@List.getElem?_append_right
abbrev Ob:=@Bool.eq_iff_iff
abbrev Oc:=@Go.wpQuiet_nil
abbrev Oe:=@List.length_map
abbrev Of:=@List.cons_append
abbrev Og:=@List.drop_of_length_le
abbrev Oh:=@List.take_append_drop
abbrev Oi:=@List.pairwise_append
abbrev Oj:=@Go.World.block_lt_of_cell?
abbrev Ol:=@Nat.lt_of_lt_of_le
abbrev Om:=@List.append_nil
abbrev On:=@Nat.lt_succ_self
abbrev Oo:=@List.map_append
abbrev Oq:=@Go.Proofs.Tryz.underlying38
abbrev Ot:=@Nat.mul_le_mul_right
abbrev Ou:=@Go.Proofs.Tryz.ntmps95
abbrev Ov:=@Bool.and_eq_true
abbrev Ow:=@List.length_take
abbrev Ox:=@List.mem_singleton
abbrev Oy:=@Go.wp_region_held_drew
abbrev Oz:=@Go.Proofs.Tryz.func95
abbrev PB:=@List.mem_cons
abbrev PD:=@List.mem_map_of_mem
abbrev PE:=@Go.World.cell?_of_block
abbrev PG:=@List.nil_append
abbrev PH:=@Go.wp_region_noPanic
abbrev PJ:=@beq_eq_false_iff_ne
abbrev PK:=@List.mem_map
abbrev PL:=@Go.NoPanic.normal
abbrev PM:=@Go.Proofs.Tryz.underlying26
abbrev PN:=@Array.getElem?_toList
abbrev PO:=@Go.ByteArray.toList_eq
abbrev PP:=@List.getElem?_of_mem
abbrev PQ:=@Go.RowKit.Below.heap_setCell
abbrev PR:=@Go.Proofs.Tryz.ntmps29
abbrev PT:=@Option.map_eq_some_iff
abbrev PU:=@Option.some.injEq
abbrev PW:=@Go.Proofs.Tryz.underlying25
abbrev PX:=@List.getElem?_append_left
abbrev PY:=@Go.Proofs.Tryz.underlying9
abbrev PZ:=@Nat.eq_zero_or_pos
abbrev Pb:=@Go.info_parts
abbrev Pc:=@Go.Proofs.Tryz.func29
abbrev Pd:=@Go.Proofs.Tryz.underlying133
abbrev Pe:=@Go.Proofs.Tryz.underlying35
abbrev Pf:=@List.take_add_one
abbrev Pg:=@UInt8.lt_iff_toNat_lt
abbrev Ph:=@Go.Proofs.Tryz.underlying85
abbrev Pj:=@Go.Proofs.Tryz.underlying29
abbrev Pk:=@Array.length_toList
abbrev Pl:=@List.take_succ_cons
abbrev Pm:=@decide_eq_true_eq
abbrev Pn:=@ByteArray.size_append
abbrev Po:=@Go.Proofs.Tryz.ntmps211
abbrev Pp:=@List.map_cons
abbrev Pq:=@Go.Proofs.Tryz.underlying3
abbrev Pr:=@Go.wpList_store_row
abbrev Ps:=@Option.map_some
abbrev Pt:=@Go.Proofs.Tryz.func211
abbrev Pu:=@List.cons.injEq
abbrev Pv:=@List.map_singleton
abbrev Pw:=@List.getElem_mem
abbrev Px:=@Go.World.cell?_setCell_other
abbrev Py:=@decide_eq_true_iff
abbrev Pz:=@Go.run_string_add_sum
abbrev QB:=@Option.some.inj
abbrev QC:=@Go.DataW.trod_int
abbrev QD:=@Array.toList_inj
abbrev QE:=@Go.RowKit.Below.setCell
abbrev QF:=@List.getElem?_range
abbrev QG:=@List.concat_eq_append
abbrev QH:=@Go.DataW.trod_struct
abbrev QI:=@Option.bind_eq_some_iff
abbrev QJ:=@Nat.add_mul
abbrev QK:=@List.getElem?_take
abbrev QL:=@Nat.mul_le_mul
abbrev QM:=@UInt8.toNat_inj
abbrev QN:=@List.length_nil
abbrev QO:=@ByteArray.ext
abbrev QP:=@List.drop_eq_getElem_cons
abbrev QQ:=@List.drop_succ_cons
abbrev QR:=@beq_iff_eq
abbrev QS:=@Go.Proofs.Tryz.underlying27
abbrev QT:=@List.eq_nil_or_concat
abbrev QU:=@List.take_zero
abbrev QV:=@Go.World.cell?_setCell_same
abbrev QW:=@Nat.add_zero
abbrev QX:=@Go.Proofs.Tryz.underlying5
abbrev QY:=@List.length_eq_one_iff
abbrev QZ:=@Go.Proofs.Tryz.underlying47
abbrev Qa:=@Nat.le_succ_of_le
abbrev Qb:=@List.set_append_right
abbrev Qc:=@List.getElem?_drop
abbrev Qd:=@List.all_eq_true
abbrev Qe:=@Option.getD_some
abbrev Qf:=@Go.Proofs.Tryz.underlying163
abbrev Qg:=@Go.strOfNums_size
abbrev Qh:=@List.mem_of_mem_take
abbrev Qi:=@Nat.pow_le_pow_right
abbrev Qj:=@Go.Result.andThen_ok
abbrev Qk:=@of_decide_eq_true
abbrev Ql:=@Go.DataW.trod_string
abbrev Qm:=@List.length_set
abbrev Qn:=@Nat.lt_or_ge
abbrev Qo:=@Go.Sem.run_bind
abbrev Qp:=@ByteArray.size_extract
abbrev Qq:=@Go.Proofs.Tryz.ntmps22
abbrev Qr:=@Nat.lt_irrefl
abbrev Qs:=@Go.RowKit.Below.heap_alloc
abbrev Qt:=@Go.DataW.trod_slice
abbrev Qu:=@Go.Proofs.Tryz.underlying4
abbrev Qv:=@Bool.false_eq_true
abbrev Qw:=@and_true
abbrev Qx:=@Array.getElem?_eq_some_iff
abbrev Qy:=@Go.run_loadAt_mid
abbrev Qz:=@Go.run_convert_bytes_arg
abbrev RC:=@List.pairwise_iff_getElem
abbrev RH:=@Array.getElem?_eq_getElem
abbrev RI:=@List.mem_filter
abbrev RL:=@Nat.lt_trichotomy
abbrev RM:=@List.map_nil
abbrev RN:=@Go.Proofs.Tryz.func22
abbrev RO:=@Go.Proofs.Tryz.ntmps322
abbrev RQ:=@List.drop_zero
abbrev RR:=@Go.WideShapes.bytes_inj
abbrev RU:=@Go.strOfNums_data
abbrev RX:=@List.any_eq_true
abbrev RY:=@Nat.mul_one
abbrev RZ:=@List.take_append_of_le_length
abbrev Ra:=@Array.getElem?_eq_none
abbrev Rb:=@Go.World.frozen?_of_block
abbrev Rc:=@List.map_map
abbrev Re:=@List.drop_eq_nil_of_le
abbrev Rf:=@Go.Proofs.Tryz.func322
abbrev Rh:=@List.getElem?_toArray
abbrev Ri:=@List.drop_length_add_append
abbrev Rj:=@Go.Proofs.Tryz.underlying32
abbrev Rk:=@List.dropLast_concat
abbrev Rl:=@List.getD_eq_getElem?_getD
abbrev Rm:=@List.perm_append_singleton
abbrev Rn:=@List.length_drop
abbrev Ro:=@Go.Sem.run_pure
abbrev Rp:=@Nat.zero_mul
abbrev Rq:=@List.take_length
abbrev Rr:=@if_true
abbrev Rs:=@Go.Proofs.Tryz.ntmps107
abbrev Ru:=@Go.Proofs.Tryz.ntmps248
abbrev Rv:=@List.getElem?_take_of_lt
abbrev Rw:=@Bool.true_and
abbrev Rx:=@Go.Proofs.Tryz.ntmps156
abbrev Ry:=@Go.Proofs.Tryz.ntmps301
abbrev Rz:=@List.all_append
abbrev SA:=@List.pairwise_cons
abbrev SB:=@List.filter_cons_of_pos
abbrev SC:=@Go.run_underlying
abbrev SE:=@Go.IntWalk.i64_in
abbrev SF:=@List.all_eq_false
abbrev SG:=@Go.Proofs.Tryz.func107
abbrev SH:=@Go.Proofs.Tryz.func248
abbrev SJ:=@Nat.sub_self
abbrev SK:=@Nat.succ_mul
abbrev SM:=@Go.Proofs.Tryz.underlying77
abbrev SN:=@Go.Proofs.Tryz.ntmps77
abbrev SO:=@Go.Proofs.Tryz.func156
abbrev SP:=@Go.Proofs.Tryz.func301
abbrev SQ:=@List.mem_range
abbrev SU:=@Bool.and_eq_false_iff
abbrev SV:=@List.isEmpty_nil
abbrev SW:=@List.perm_middle
abbrev SX:=@List.mem_flatMap
abbrev SY:=@Go.results_cell_tmp
abbrev SZ:=@List.isEmpty_iff
abbrev Sa:=@Go.wpList_store_mid
abbrev Sb:=@Nat.add_assoc
abbrev Sc:=@List.all_cons
abbrev Sd:=@Prod.mk.injEq
abbrev Se:=@Go.wpAnyH_take
abbrev Sf:=@List.mem_append_left
abbrev Sg:=@List.mem_iff_getElem
abbrev Sh:=@Go.Proofs.Tryz.func77
abbrev Si:=@ne_eq
abbrev Sj:=@List.getElem_of_mem
abbrev Sk:=@List.take_length_add_append
abbrev Sl:=@Nat.le_of_lt
abbrev Sm:=@Go.Proofs.Tryz.ntmps79
abbrev Sn:=@Bool.and_false
abbrev Sp:=@UInt8.toNat_ofNat'
abbrev Sq:=@Nat.add_sub_cancel
abbrev Sr:=@Bool.false_and
abbrev Ss:=@List.getLast?_eq_getElem?
abbrev St:=@List.getLast?_eq_some_iff
abbrev Su:=@Classical.byContradiction
abbrev Sv:=@List.extract_eq_take_drop
abbrev Sw:=@List.foldl_append
abbrev Sx:=@List.pairwise_map
abbrev Sy:=@Go.Proofs.Tryz.func79
abbrev Sz:=@Nat.le_succ
abbrev TA:=@Go.Proofs.Tryz.ntmps200
abbrev TB:=@Go.Proofs.Tryz.ntmps213
abbrev TC:=@Go.Proofs.Tryz.ntmps114
abbrev TD:=@Go.Proofs.Tryz.ntmps195
abbrev TE:=@Go.Proofs.Tryz.ntmps140
abbrev TF:=@Go.Proofs.Tryz.ntmps260
abbrev TG:=@List.sum_cons
abbrev TH:=@List.any_cons
abbrev TI:=@Go.IntKind.wrap_u32
abbrev TJ:=@Nat.mul_comm
abbrev TM:=@Nat.pow_succ
abbrev TN:=@Bool.or_eq_true
abbrev TO:=@Nat.not_lt_zero
abbrev TP:=@Nat.min_le_left
abbrev TQ:=@if_false
abbrev TS:=@Nat.mod_lt
theorem qD {p:Prop} (h:p) : RowKit.Hid p := h
theorem qL {n:Nat} : n<=n := Nat.le_refl n
theorem rO {l r : List Oper} {i : Nat} {o : Oper} (h : l.drop i = o :: r) : l.toArray[i]? = some o := by
 have := congrArg List.head? h;rw [List.head?_drop] at this;simpa using this
section
variable {P:Program} {l r:List Oper} {Q:Exit->Act->World->Prop} {md:Region.Mode} {S:World->Prop} {o:Oper} {v:Value} {fuel:Nat} {listed:Array Bool} {a:Act} {w:World} {rs:List Nat}
theorem rT (i:Nat) (hi:l.drop i=o::r) (hy:∀w,S w->Sem.run P (execOp a.eval o) w=Result.ok (Next.value v) w) (h:wpAnyH P md l.toArray Q S fuel (listed.setIfInBounds i true) (a.put o.dst v) w) (h1:Region.noSelect l.toArray=true:=by kernel_rfl) (h2:Region.free md l.toArray listed i=true:=by kernel_rfl) (h3:(Region.ready md l.toArray listed).contains i=true:=by kernel_rfl) (h4:∀(c:List PanicEntry) (a:Act) (w:World),Q (Exit.panic c) (a.put o.dst v) w->Q (Exit.panic c) a w:=by exact fun _ _ _ h=>h) (h5:Region.wanted o (yielded l.toArray a.tmps)=true:=by rfl) (hS:S w:=by assumption):wpAnyH P md l.toArray Q S (fuel+1) listed a w:=Se (rO hi) h1 h2 h3 h4 (Or.inl ⟨h5,hy⟩) hS h
theorem rU (i:Nat) (hi:l.drop i=o::r) (h:wpAnyH P md l.toArray Q S fuel (listed.setIfInBounds i true) (a.put o.dst v) w) (h1:Region.noSelect l.toArray=true:=by kernel_rfl) (h2:Region.free md l.toArray listed i=true:=by kernel_rfl) (h3:(Region.ready md l.toArray listed).contains i=true:=by kernel_rfl) (h4:∀(c:List PanicEntry) (a:Act) (w:World),Q (Exit.panic c) (a.put o.dst v) w->Q (Exit.panic c) a w:=by exact fun _ _ _ h=>h) (h5:Region.wanted o (yielded l.toArray a.tmps)=true:=by rfl) (hy:∀w,S w->Sem.run P (execOp a.eval o) w=Result.ok (Next.value v) w:=by intro w' hSw;(try dsimp only at hSw);go_simp;(try with_reducible rfl)) (hS:S w:=by assumption):wpAnyH P md l.toArray Q S (fuel+1) listed a w:=Se (rO hi) h1 h2 h3 h4 (Or.inl ⟨h5,hy⟩) hS h
theorem rV (i:Nat) (hi:l.drop i=o::r) (h:wpAnyH P md l.toArray Q S fuel (listed.setIfInBounds i true) (a.put o.dst v) w) (h1:Region.noSelect l.toArray=true:=by kernel_rfl) (h2:Region.free md l.toArray listed i=true:=by kernel_rfl) (h3:(Region.ready md l.toArray listed).contains i=true:=by kernel_rfl) (h4:∀(c:List PanicEntry) (a:Act) (w:World),Q (Exit.panic c) (a.put o.dst v) w->Q (Exit.panic c) a w:=by exact fun _ _ _ h=>h) (h5:Region.wanted o (yielded l.toArray a.tmps)=true:=by rfl) (hy:∀w,S w->Sem.run P (execOp a.eval o) w=Result.ok (Next.value v) w:=by intro w' hSw;(try simp only[and_assoc] at hSw);(try dsimp only at hSw);(repeat obtain⟨_,hSw⟩:=hSw);go_simp;(try with_reducible rfl)) (hS:S w:=by assumption):wpAnyH P md l.toArray Q S (fuel+1) listed a w:=Se (rO hi) h1 h2 h3 h4 (Or.inl ⟨h5,hy⟩) hS h
theorem rR (rs:List Nat) (h:AllReadyH P md l.toArray Q S fuel listed a w rs) (hr:Region.ready md l.toArray listed=rs:=by kernel_rfl) (hn:rs≠[]:=by simp):wpAnyH P md l.toArray Q S (fuel+1) listed a w:=wpAnyH_ready hr hn h
theorem rC {i:Nat} (h:∀K':Act->World->Prop,Shut (∀(a:Act) (w:World),S w->(S w->wpAnyH P md l.toArray Q S fuel (listed.setIfInBounds i true) a w)->K' a w)->if Region.wanted o (yielded l.toArray a.tmps)=true then Oper.wp P o a w K' Q else K' (a.put o.dst undef) w) (h2:AllReadyH P md l.toArray Q S fuel listed a w rs) (hi:l.drop i=o::r:=by rfl):AllReadyH P md l.toArray Q S fuel listed a w (i::rs):=AllReadyH.cons (rO hi) h h2
theorem rN:AllReadyH P md l.toArray Q S fuel listed a w []:=AllReadyH.nil
theorem rY (i:Nat) (hi:l.drop i=o::r) (h:∀K':Act->World->Prop,Shut (∀(a:Act) (w:World),S w->(S w->wpAnyH P md l.toArray Q S fuel (listed.setIfInBounds i true) a w)->K' a w)->if Region.wanted o (yielded l.toArray a.tmps)=true then Oper.wp P o a w K' Q else K' (a.put o.dst undef) w) (hr:Region.ready md l.toArray listed=[i]:=by kernel_rfl):wpAnyH P md l.toArray Q S (fuel+1) listed a w:=wpAnyH_ready hr (by simp) (AllReadyH.cons (rO hi) h AllReadyH.nil)
theorem rD (h:Q Exit.normal a w) (f:Nat) (hr:Region.ready md l.toArray listed=[]:=by kernel_rfl):wpAnyH P md l.toArray Q S f listed a w:=wpAnyH_done hr h f
end
end
end Go
namespace Go.Proofs.YtgfoliedmhgpnaaGreatDoor
structure Lw{α:Type}(lt:α->α->Prop):Prop where
 irr:∀a,¬lt a a
 tr:∀{a b c},lt a b->lt b c->lt a c
 tot:∀a b,lt a b\/a=b\/lt b a
section
variable {n i q:Nat} {e:TypeId} {x:Int} {l r:List ByteArray}
section
variable {α:Type} {lt:α->α->Prop}
set_option linter.unusedSectionVars false
variable [DecidableEq α]
def kx(e:α)(out:List (α×α))(r:α×α):List (α×α):=match out.getLast? with
 | none=>out++[r]
 | some q=>if q.2≠e/\q.2=r.1 then out.dropLast++[(q.1,r.2)] else out++[r]
def fw(e:α)(l:List (α×α)):List (α×α):=l.foldl (kx e) []
theorem so{e:α}{out:List (α×α)}{q r:α×α}(hn:out.length=n+1)(hq:out[n]?=some q)(h1:q.2≠e)(h2:q.2=r.1):kx e out r=out.set n (q.1,r.2):=by
 have hl:out.getLast?=some q:=by rw[Ss,hn];exact hq
 obtain⟨d,rfl⟩:=St.1 hl;have hd:d.length=n:=by simpa using hn
 unfold kx;rw[hl];simp only;rw[OW ⟨h1,h2⟩,Rk,<-hd];simp
theorem oc{e:α}{out:List (α×α)}{r:α×α}(h:∀q,out[out.length-1]?=some q->¬(q.2≠e/\q.2=r.1)):kx e out r=out++[r]:=by
 unfold kx;cases hq:out.getLast? with
 | none=>rfl
 | some q=>
  rw[Ss] at hq;simp only;rw[OQ (h q hq)]
theorem iQ{e:α}{l:List (α×α)}{r:α×α}(h:l[i]?=some r):fw e (l.take (i+1))=kx e (fw e (l.take i)) r:=by
 unfold fw;rw[Pf,h,Option.toList_some,Sw];rfl
theorem Bs(e:α)(out:List (α×α))(r:α×α):(kx e out r).length<=out.length+1:=by
 unfold kx;split
 ·simp
 ·split
  ·simp
  ·simp
theorem EH(e:α)(l:List (α×α))(i:Nat):(fw e (l.take i)).length<=i:=by
 induction i with
 | zero=>simp[fw]
 | succ i ih=>
  cases h:l[i]? with
  | none=>
   have hl:=List.getElem?_eq_none_iff.1 h;rw[OS oM];rw[OS hl] at ih;omega
  | some r=>
   rw[iQ h];have:=Bs e (fw e (l.take i)) r;omega
structure Kl(lt:α->α->Prop)(e:α)(l:List (α×α)):Prop where
 ne:∀x∈l,x.2=e\/lt x.1 x.2
 ap:∀i x y,l[i]?=some x->l[i+1]?=some y->x.2≠e/\¬lt y.1 x.2
def fL:List (α×α)->List (α×α)
 | []=>[]
 | x::r=>match fL r with
  | []=>[x]
  | y::s=>if x=y then y::s else x::y::s
theorem lF:∀{l:List (α×α)} (x:α×α),x∈fL l↔x∈l
 | [],x=>Iff.rfl
 | a::r,x=>by
  have ih:=lF (l:=r) x;unfold fL;cases hr:fL r with
  | nil=>rw[hr] at ih;simp only[PB,<-ih]
  | cons y s=>
   rw[hr] at ih;simp only;by_cases h:a=y
   ·rw[OW h,PB (a:=x) (b:=a),<-ih,h,PB];constructor
    ·intro k;exact .inr k
    ·rintro(k|k)
     ·exact .inl k
     ·exact k
   ·rw[OQ h,PB (a:=x) (b:=a),ih,PB (a:=x) (b:=a) (l:=r)]
end
end
open Go.RowKit
section
variable {b o size:Nat} {W w1:World}
theorem vG(hb:Bl W w1):(∀b o,b<W.heap.size->w1.cell? ⟨b,o,none⟩=W.cell? ⟨b,o,none⟩)/\(∀b o,b<W.heap.size->w1.frozen? ⟨b,o,none⟩=W.frozen? ⟨b,o,none⟩):=
 ⟨fun b o h=>hb.cell (p:=⟨b,o,none⟩) h,fun b o h=>hb.frozen (p:=⟨b,o,none⟩) h⟩
end
end Go.Proofs.YtgfoliedmhgpnaaGreatDoor
namespace Go.RowKit
section
variable {k size:Nat} {W w2 w1:World}
theorem Below.step(h:Bl W w1)(k:Bl w1 w2):Bl W w2:=h.trans (k.mono h.size)
end
end Go.RowKit
namespace Go.Proofs.YtgfoliedmhgpnaaGreatDoor
open Go.RowKit
end Go.Proofs.YtgfoliedmhgpnaaGreatDoor
namespace Go.RowKit
section
variable {n B:Nat} {w:World} {a:Int}
theorem Below.drewN{a:World}(h:Below B a w)(n:Nat):Below B a (w.drewN n):=⟨h.os,h.tape,h.output,h.size,h.block⟩
end
end Go.RowKit
namespace Go.Proofs.YtgfoliedmhgpnaaGreatDoor
open Go.RowKit
structure BW(w:World) where
 val:World
 below:Bl w val
section
variable {k g o B i id size:Nat} {w w':World} {e t:TypeId} {cs:Array Value} {P:Program} {Q:Exit -> Act -> World -> Prop} {a:Int} {l:List ByteArray} {v:Value}
instance (w:World):Nonempty (BW w):=⟨⟨w,OG _ _⟩⟩
theorem BW.cell(k:BW w){a:Addr}(h:w.cell? a=some v):k.val.cell? a=some v:=
 (k.below.cell (Oj w a h)).trans h
theorem aL{a:Act}{l:List Oper}(hm:P.follows .mixedOrders=true)(hB:Region.lexB .any l.toArray=true)(h:wpQuiet P l.toArray (fun w'=>∃k:BW w,w'=k.val) (fun a'=>∀w',(∃k:BW w,w'=k.val)->Q .normal a' w') l a):(Code.region id l.toArray true).wp P Q a w:=
  wp_region_quiet (C:=fun w'=>∃k:BW w,w'=k.val) hm hB ⟨⟨w.drew,(OG _ _).drew⟩,rfl⟩ (by simpa using h)
theorem Calls.bw{f:FuncId}{args:Array Value}{k:BW w}(h:Calls P f args k.val fun e w'=>e=.returned v/\Below k.val.heap.size k.val w'):Calls P f args k.val fun e w''=>e=.returned v/\∃k:BW w,w''=k.val:=
  h.mono fun _ _ ⟨he,hb⟩=>⟨he,⟨_,k.below.step hb⟩,rfl⟩
def aG(w:World)(g:Nat)(t:TypeId)(cs:Array Value):Prop:=w.heap[g]?=some (.cells cs t (0,0))
section
variable {w w':World} {g:Nat} {t:TypeId} {cs:Array Value}
theorem aG.lt(h:aG w g t cs):g<w.heap.size:=by
 rcases Qn g w.heap.size with hlt|hge
 ·exact hlt
 ·unfold aG at h;rw[Ra hge] at h;cases h
theorem aG.cell(h:aG w g t cs)(i:Nat):w.cell? ⟨g,i,none⟩=cs[i]?:=cell_of_row w g i cs t (0,0) h
theorem aG.frozen(h:aG w g t cs)(i:Nat):w.frozen? ⟨g,i,none⟩=false:=by
 unfold aG at h;simp[World.frozen?,h]
theorem aG.new(w:World)(t:TypeId)(cs:Array Value):aG (w.alloc (.cells cs t)) w.heap.size t cs:=heap_alloc_new w _
theorem aG.Mm(h:g=w.heap.size):aG (w.alloc (.cells cs t)) g t cs:=by rw[h];exact aG.new w t cs
theorem aG.drew(h:aG w g t cs):aG w.drew g t cs:=h
theorem aG.alloc(h:aG w g t cs)(o:Obj):aG (w.alloc o) g t cs:=(Qs w o g h.lt).trans h
theorem aG.Mo(h:aG w g t cs)(i:Nat)(u:Value):aG (w.setCell ⟨g,i,none⟩ u) g t (cs.setIfInBounds i u):=by
 unfold aG at h ⊢;simp[World.setCell,Array.getElem?_modify,h]
theorem aG.Mu(h:aG w g t cs){p:Addr}(hp:g≠p.block)(u:Value):aG (w.setCell p u) g t cs:=(PQ w p u g hp).trans h
theorem aG.below(h:aG w g t cs)(hb:Below B w w')(hg:g<B):aG w' g t cs:=(hb.block g hg).trans h
theorem aG.grown{row:Option Nat}(h:aG w g t cs)(hb:w.grownBy w' row)(hg:some g≠row):aG w' g t cs:=(hb.block g h.lt hg).trans h
end
theorem aG.step(h:aG w g t cs)(hb:Bl w w'):aG w' g t cs:=h.below hb h.lt
theorem mv(w:World)(o:Obj):(w.alloc o).heap.size=w.heap.size+1:=by simp
end
structure VC where
 k:Int
 n:Int
 t:ByteArray
 LA:Option Addr
 ln:Nat
 lc:Nat
 DA:Option Addr
 dn:Nat
 dc:Nat
section
variable {k b n g B i c ln dn lc off size dc:Nat} {w w':World} {t:TypeId} {cs:Array Value} {P:Program} {Q:Exit -> Act -> World -> Prop} {a:Int} {l:List ByteArray} {v:Value} {s:ByteArray} {A LA DA:Option Addr}
abbrev VC.val(v:VC):Value:=.agg #[.int .i64 v.k,.int .i64 v.n,.string v.t,.slice v.LA v.ln v.lc,.slice v.DA v.dn v.dc]
abbrev VC.arr(v:VC):Array Value:=#[.int .i64 v.k,.int .i64 v.n,.string v.t,.slice v.LA v.ln v.lc,.slice v.DA v.dn v.dc]
def VC.list(c:VC):List Value:=[.int .i64 c.k,.int .i64 c.n,.string c.t,.slice c.LA c.ln c.lc,.slice c.DA c.dn c.dc]
def VC.zero:VC:=⟨0,0,empty,none,0,0,none,0,0⟩
def aO(w:World)(b off:Nat)(v:VC):Prop:=
 w.cell? ⟨b,off,none⟩=some (.int .i64 v.k)/\w.cell? ⟨b,off+1,none⟩=some (.int .i64 v.n)/\w.cell? ⟨b,off+2,none⟩=some (.string v.t)/\
 w.cell? ⟨b,off+3,none⟩=some (.slice v.LA v.ln v.lc)/\w.cell? ⟨b,off+4,none⟩=some (.slice v.DA v.dn v.dc)
theorem aO.lt{v:VC}(h:aO w b off v):b<w.heap.size:=Oj w ⟨b,off,none⟩ h.1
theorem aO.keep{v:VC}(h:aO w b off v)(hb:w'.heap[b]?=w.heap[b]?):aO w' b off v:=by
 have e:∀o,w'.cell? ⟨b,o,none⟩=w.cell? ⟨b,o,none⟩:=fun o=>PE (w:=w) (a:=⟨b,o,none⟩) hb;exact⟨(e _).trans h.1,(e _).trans h.2.1,(e _).trans h.2.2.1,(e _).trans h.2.2.2.1,(e _).trans h.2.2.2.2⟩
theorem aO.step{v:VC}(h:aO w b off v)(hb:Bl w w'):aO w' b off v:=h.keep (hb.block b h.lt)
theorem aO.Mn{v:VC}(h:aG w b t v.arr):aO w b 0 v:=by
 refine⟨?_,?_,?_,?_,?_⟩<;>rw[h.cell]<;>rfl
theorem aO.Mp{w:World}{b:Nat}{t:TypeId}{v:VC}(h:aG w b t v.arr):w.cell? ⟨b,0,none⟩=some (.int .i64 v.k)/\w.cell? ⟨b,1,none⟩=some (.int .i64 v.n)/\w.cell? ⟨b,2,none⟩=some (.string v.t)/\w.cell? ⟨b,3,none⟩=some (.slice v.LA v.ln v.lc)/\w.cell? ⟨b,4,none⟩=some (.slice v.DA v.dn v.dc):=by
 refine⟨?_,?_,?_,?_,?_⟩<;>rw[h.cell]<;>rfl
theorem aX{w:World}{a:Addr}{v:Value}(h:w.cell? a=some v):∀k:BW w,k.val.cell? a=some v:=fun k=>k.cell h
abbrev Rt(w:World)(v:Value)(e:Ending)(w':World):Prop:=e=.returned v/\Bl w w'
section
variable {P:Program} {c:Code} {Q:Exit->Act->World->Prop} {a:Act} {w:World}
theorem ml(A:Array Value)(t:TypeId)(h:∀wa,Hid (aG wa w.heap.size t A)->Hid (Bl w wa)->Code.wp P c Q a wa):Code.wp P c Q a (w.alloc (.cells A t)):=
 h _ (aG.Mm rfl) ((OG _ _).alloc (qL) _)
theorem yS(A:Array Value)(t:TypeId)(B:Array Value)(u:TypeId)(h:∀wa,Hid (aG wa w.heap.size t A)->Hid (aG wa (w.heap.size+1) u B)->Hid (Bl w wa)->Code.wp P c Q a wa):Code.wp P c Q a ((w.alloc (.cells A t)).alloc (.cells B u)):=
 h _ ((aG.Mm (w:=w) rfl).alloc _) (aG.Mm sM) (((OG _ _).alloc (qL) _).alloc sM _)
theorem Mc(A:Array Value)(t:TypeId)(B:Array Value)(u:TypeId)(C:Array Value)(s:TypeId)(h:∀wa,Hid (aG wa w.heap.size t A)->Hid (aG wa (w.heap.size+1) u B)->Hid (aG wa (w.heap.size+2) s C)->Hid (Bl w wa)->Code.wp P c Q a wa):Code.wp P c Q a (((w.alloc (.cells A t)).alloc (.cells B u)).alloc (.cells C s)):=
 h _ (((aG.Mm (w:=w) rfl).alloc _).alloc _) ((aG.Mm sM).alloc _) (aG.Mm sM) ((((OG _ _).alloc (qL) _).alloc sM _).alloc sO _)
end
abbrev bM(w:World)(b off:Nat)(v:VC):World:=
 ((((w.setCell ⟨b,off,none⟩ (.int .i64 v.k)).setCell ⟨b,off+1,none⟩ (.int .i64 v.n)).setCell ⟨b,off+2,none⟩ (.string v.t)).setCell ⟨b,off+3,none⟩ (.slice v.LA v.ln v.lc)).setCell ⟨b,off+4,none⟩ (.slice v.DA v.dn v.dc)
theorem aG.putV{u:VC}(h:aG w g t u.arr)(v:VC):aG (bM w g 0 v) g t v.arr:=
 ((((h.Mo 0 _).Mo 1 _).Mo 2 _).Mo 3 _).Mo 4 _
theorem aG.My(h:aG w g t cs)(hne:g≠b)(off:Nat)(v:VC):aG (bM w b off v) g t cs:=
 ((((h.Mu hne _).Mu hne _).Mu hne _).Mu hne _).Mu hne _
theorem aW{a:World}(h:Below B a w)(hB:B<=b)(off:Nat)(v:VC):Below B a (bM w b off v):=
 ((((h.setCell hB _).setCell hB _).setCell hB _).setCell hB _).setCell hB _
theorem cU{α:Type}{l:List α}{a:α}(h:l[i]?=some a):l.drop i=a::l.drop (i+1):=by
 rw[List.drop_eq_getElem?_toList_append,h];rfl
end
end Go.Proofs.YtgfoliedmhgpnaaGreatDoor
namespace Go.RowKit
section
variable {k B size:Nat} {W w2 w1:World}
theorem Below.Ml(h:Below B W w1)(k:Bl w1 w2)(hB:B<=W.heap.size:=by exact qL):Below B W w2:=h.trans (k.mono (OU hB h.size))
end
end Go.RowKit
namespace Go.Proofs.YtgfoliedmhgpnaaGreatDoor
open Go.RowKit
section
variable {g off size j:Nat} {w:World} {t:TypeId} {l:List ByteArray}
theorem cW(g off j:Nat):(⟨g,off,none⟩:Addr).add j=⟨g,off+j,none⟩:=by
 unfold Addr.add;split
 ·rename_i h;subst h;rfl
 ·rfl
theorem ag(w:World)(t:TypeId)(l:List Value):∀j u,l[j]?=some u->(w.alloc (.cells l.toArray t)).cell? ((⟨w.heap.size,0,none⟩:Addr).add j)=some u:=by
 intro j u h;rw[cW,OX,World.cell?_alloc_new];simpa using h
end
mutual
inductive aC where
 | mk (k n:Int) (t:ByteArray) (l:List aC) (d:List bf)
inductive bf where
 | mk (s:ByteArray) (v:aC)
end
def aC.k:aC->Int | .mk k _ _ _ _=>k
def aC.n:aC->Int | .mk _ n _ _ _=>n
def aC.t:aC->ByteArray | .mk _ _ t _ _=>t
def aC.l:aC->List aC | .mk _ _ _ l _=>l
def aC.d:aC->List bf | .mk _ _ _ _ d=>d
def bf.s:bf->ByteArray | .mk s _=>s
def bf.v:bf->aC | .mk _ v=>v
section
variable {k b n size:Nat} {w w':World} {t:TypeId} {d:Int} {l:List ByteArray} {v:Value} {F G:Nat -> Prop}
def aC.zero:aC:=.mk 0 0 empty [] []
theorem aC.ind{p:aC->Prop}(h:∀k n t l d,(∀v∈l,p v)->(∀f∈d,p f.v)->p (.mk k n t l d)):∀v,p v:=by
 intro v;refine aC.rec (motive_1:=p) (motive_2:=fun f=>p f.v) (motive_3:=fun l=>∀v∈l,p v) (motive_4:=fun d=>∀f∈d,p f.v) ?_ ?_ ?_ ?_ ?_ ?_ v
 ·intro k n t l d hl hd;exact h k n t l d hl hd
 ·intro s v hv;exact hv
 ·intro v hv;simp at hv
 ·intro x r hx hr v hv;rcases PB.1 hv with rfl|hv
  ·exact hx
  ·exact hr v hv
 ·intro v hv;simp at hv
 ·intro x r hx hr v hv;rcases PB.1 hv with rfl|hv
  ·exact hx
  ·exact hr v hv
def lG:Nat:=140737488351232
def aF:Nat:=140737488355328
theorem du:lG<=aF:=by decide
def Md(w:World)(b:Nat):Prop:=∀i,w.frozen? ⟨b,i,none⟩=false
def Ft(F:Nat->Prop)(w:World)(b:Nat):Prop:=F b/\(¬F 0->Md w b)
theorem Ft.Nd:Ft (fun _=>True) w b:=⟨trivial,fun h=>absurd trivial h⟩
theorem Ft.Mr(h:Ft F w b)(hb:b<w.heap.size)(hk:∀b,F b->b<w.heap.size->G b/\w'.heap[b]?=w.heap[b]?):Ft G w' b:=
 ⟨(hk b h.1 hb).1,fun hG i=>(Rb (w:=w) (a:=⟨b,i,none⟩) (hk b h.1 hb).2).trans (h.2 (fun h0=>hG (hk 0 h0 oM).1) i)⟩
end
mutual
def RV(F:Nat->Prop)(w:World):VC->aC->Prop
 | c,.mk k n t l d=>c.k=k/\c.n=n/\c.t=t/\t.size<=aF/\
  c.ln=l.length/\c.ln<=c.lc/\c.ln*80<=aF/\(0<c.ln->∃b off,c.LA=some ⟨b,off,none⟩/\Ft F w b/\Gz F w b off l)/\
  c.dn=d.length/\c.dn<=c.dc/\c.dn*96<=aF/\(0<c.dn->∃b off,c.DA=some ⟨b,off,none⟩/\Ft F w b/\Ha F w b off d)
def Gz(F:Nat->Prop)(w:World):Nat->Nat->List aC->Prop
 | _,_,[]=>True
 | b,off,x::r=>(∃c,aO w b off c/\RV F w c x)/\Gz F w b (off+5) r
def Ha(F:Nat->Prop)(w:World):Nat->Nat->List bf->Prop
 | _,_,[]=>True
 | b,off,f::r=>RF F w b off f/\Ha F w b (off+6) r
def RF(F:Nat->Prop)(w:World):Nat->Nat->bf->Prop
 | b,off,.mk s x=>w.cell? ⟨b,off,none⟩=some (.string s)/\s.size<=aF/\∃c,aO w b (off+1) c/\RV F w c x
end
section
variable {b o i c off size:Nat} {w w':World} {x:Int} {l:List ByteArray} {v:Value} {s:ByteArray} {F G:Nat -> Prop}
section
variable {F G:Nat->Prop} {w w':World}
theorem Gz.at{l:List aC}:∀{b off:Nat},Gz F w b off l->∀(i:Nat) (x:aC),l[i]?=some x->∃c,aO w b (off+i*5) c/\RV F w c x:=by
 induction l with
 | nil=>intro b off _ i x hi;simp at hi
 | cons y r ih=>
  intro b off h i x hi;simp only[Gz] at h;cases i with
  | zero=>
   simp at hi;subst hi;simpa using h.1
  | succ i=>
   obtain⟨c,hc,hx⟩:=ih h.2 i x (by simpa using hi);exact⟨c,by rw[show off+(i+1)*5=off+5+i*5 from by omega];exact hc,hx⟩
theorem Gz.mk{l:List aC}:∀{b off:Nat},(∀(i:Nat) (x:aC),l[i]?=some x->∃c,aO w b (off+i*5) c/\RV F w c x)->Gz F w b off l:=by
 induction l with
 | nil=>intro b off _;simp only[Gz]
 | cons y r ih=>
  intro b off h;simp only[Gz];refine⟨by simpa using h 0 y rfl,ih fun i x hi=>?_⟩;obtain⟨c,hc,hx⟩:=h (i+1) x (by simpa using hi);exact⟨c,by rw[show off+5+i*5=off+(i+1)*5 from by omega];exact hc,hx⟩
theorem RF.parts{f:bf}(h:RF F w b off f):w.cell? ⟨b,off,none⟩=some (.string f.s)/\f.s.size<=aF/\∃c,aO w b (off+1) c/\RV F w c f.v:=by
 cases f;simp only[RF] at h;exact h
theorem RF.mk{f:bf}(h1:w.cell? ⟨b,off,none⟩=some (.string f.s))(h2:f.s.size<=aF)(h3:∃c,aO w b (off+1) c/\RV F w c f.v):RF F w b off f:=by
 cases f;simp only[RF];exact⟨h1,h2,h3⟩
theorem Ha.at{l:List bf}:∀{b off:Nat},Ha F w b off l->∀(i:Nat) (x:bf),l[i]?=some x->RF F w b (off+i*6) x:=by
 induction l with
 | nil=>intro b off _ i x hi;simp at hi
 | cons y r ih=>
  intro b off h i x hi;simp only[Ha] at h;cases i with
  | zero=>
   simp at hi;subst hi;simpa using h.1
  | succ i=>
   have:=ih h.2 i x (by simpa using hi);rw[show off+(i+1)*6=off+6+i*6 from by omega];exact this
theorem Ha.mk{l:List bf}:∀{b off:Nat},(∀(i:Nat) (x:bf),l[i]?=some x->RF F w b (off+i*6) x)->Ha F w b off l:=by
 induction l with
 | nil=>intro b off _;simp only[Ha]
 | cons y r ih=>
  intro b off h;simp only[Ha];refine⟨by simpa using h 0 y rfl,ih fun i x hi=>?_⟩;have:=h (i+1) x (by simpa using hi);rw[show off+6+i*6=off+(i+1)*6 from by omega];exact this
structure pw(F:Nat->Prop)(w:World)(c:VC)(x:aC):Prop where
 k:c.k=x.k
 n:c.n=x.n
 t:c.t=x.t
 tsz:x.t.size<=aF
 ln:c.ln=x.l.length
 lc:c.ln<=c.lc
 lsz:c.ln*80<=aF
 la:0<c.ln->∃b off,c.LA=some ⟨b,off,none⟩/\Ft F w b/\∀(i:Nat) (y:aC),x.l[i]?=some y->∃e,aO w b (off+i*5) e/\RV F w e y
 dn:c.dn=x.d.length
 dc:c.dn<=c.dc
 dsz:c.dn*96<=aF
 da:0<c.dn->∃b off,c.DA=some ⟨b,off,none⟩/\Ft F w b/\∀(i:Nat) (f:bf),x.d[i]?=some f->w.cell? ⟨b,off+i*6,none⟩=some (.string f.s)/\f.s.size<=aF/\∃e,aO w b (off+i*6+1) e/\RV F w e f.v
theorem RV.open{c:VC}{x:aC}(h:RV F w c x):pw F w c x:=by
 cases x with
 | mk k n t l d=>
  simp only[RV] at h;obtain⟨h1,h2,h3,h4,h5,h6,h7,h8,h9,h10,h11,h12⟩:=h;refine⟨h1,h2,h3,h4,h5,h6,h7,fun h=>?_,h9,h10,h11,fun h=>?_⟩
  ·obtain⟨b,off,e,hF,hl⟩:=h8 h;exact⟨b,off,e,hF,fun i y hi=>hl.at i y hi⟩
  ·obtain⟨b,off,e,hF,hl⟩:=h12 h;exact⟨b,off,e,hF,fun i f hi=>(hl.at i f hi).parts⟩
theorem pw.shut{c:VC}{x:aC}(h:pw F w c x):RV F w c x:=by
 cases x with
 | mk k n t l d=>
  simp only[RV];refine⟨h.k,h.n,h.t,h.tsz,h.ln,h.lc,h.lsz,fun h'=>?_,h.dn,h.dc,h.dsz,fun h'=>?_⟩
  ·obtain⟨b,off,e,hF,hl⟩:=h.la h';exact⟨b,off,e,hF,Gz.mk hl⟩
  ·obtain⟨b,off,e,hF,hl⟩:=h.da h';exact⟨b,off,e,hF,Ha.mk fun i f hi=>RF.mk (hl i f hi).1 (hl i f hi).2.1 (hl i f hi).2.2⟩
theorem RV.Mr{x:aC}:∀{c:VC},RV F w c x->(∀b,F b->b<w.heap.size->G b/\w'.heap[b]?=w.heap[b]?)->RV G w' c x:=by
 induction x using aC.ind with
 | h k n t l d ihl ihd=>
  intro c h hk;have ho:=h.open;refine pw.shut ⟨ho.k,ho.n,ho.t,ho.tsz,ho.ln,ho.lc,ho.lsz,fun h'=>?_,ho.dn,ho.dc,ho.dsz,fun h'=>?_⟩
  ·obtain⟨b,off,e,hF,hl⟩:=ho.la h'
   have hb:b<w.heap.size:=by
    obtain⟨y,hy⟩:∃y,l[0]?=some y:=⟨_,OH (by have:=ho.ln;simp only[aC.l] at this;omega)⟩;obtain⟨e',he',_⟩:=hl 0 y hy;exact he'.lt
   refine⟨b,off,e,hF.Mr hb hk,fun i y hi=>?_⟩;obtain⟨e',he',hr⟩:=hl i y hi;exact⟨e',he'.keep (hk b hF.1 hb).2,ihl y (OJ hi) hr hk⟩
  ·obtain⟨b,off,e,hF,hl⟩:=ho.da h'
   have hb:b<w.heap.size:=by
    obtain⟨y,hy⟩:∃y,d[0]?=some y:=⟨_,OH (by have:=ho.dn;simp only[aC.d] at this;omega)⟩;obtain⟨_,_,e',he',_⟩:=hl 0 y hy;exact he'.lt
   refine⟨b,off,e,hF.Mr hb hk,fun i f hi=>?_⟩;obtain⟨hs,hz,e',he',hr⟩:=hl i f hi;exact⟨(PE (w:=w) (a:=⟨b,off+i*6,none⟩) (hk b hF.1 hb).2).trans hs,hz,e',he'.keep (hk b hF.1 hb).2,ihd f (OJ hi) hr hk⟩
theorem RV.mono{c:VC}{x:aC}(h:RV F w c x)(hk:∀b,F b->G b):RV G w c x:=h.Mr fun b hb _=>⟨hk b hb,rfl⟩
theorem RV.keep{c:VC}{x:aC}(h:RV F w c x)(hk:∀b,F b->w'.heap[b]?=w.heap[b]?):RV F w' c x:=h.Mr fun b hb _=>⟨hb,hk b hb⟩
theorem RV.lt{c:VC}{x:aC}(h:RV F w c x):RV (fun b=>F b/\b<w.heap.size) w c x:=h.Mr fun _ hb hl=>⟨⟨hb,hl⟩,rfl⟩
theorem RV.step{c:VC}{x:aC}(h:RV F w c x)(hb:Bl w w'):RV F w' c x:=h.Mr fun b hF hl=>⟨hF,hb.block b hl⟩
theorem RV.alloc{c:VC}{x:aC}(h:RV F w c x)(o:Obj):RV F (w.alloc o) c x:=h.step ((OG _ _).alloc (qL) o)
theorem RV.drewN{c:VC}{x:aC}(h:RV F w c x)(n:Nat):RV F (w.drewN n) c x:=h.keep fun _ _=>rfl
theorem RV.zero:RV F w VC.zero aC.zero:=by
 refine pw.shut ⟨rfl,rfl,rfl,by decide,rfl,qL,by decide,fun h=>absurd h dE,rfl,qL,by decide,fun h=>absurd h dE⟩
end
abbrev RW(w:World)(c:VC)(x:aC):Prop:=RV (fun _=>True) w c x
def aC.parts(x:aC):List aC:=if x.k=6 then x.l else if x.k=5 then x.d.map bf.v else []
end
mutual
def aC.size:aC->Nat
 | .mk k _ _ l d=>1+if k=6 then bE l else if k=5 then sq d else 0
def bE:List aC->Nat
 | []=>0
 | x::r=>x.size+bE r
def sq:List bf->Nat
 | []=>0
 | f::r=>Ak f+sq r
def Ak:bf->Nat
 | .mk _ v=>v.size
end
mutual
def aC.Ms:aC->Nat
 | .mk k _ _ l d=>1+if k=6 then ao l else if k=5 then mM d else 0
def ao:List aC->Nat
 | []=>0
 | x::r=>max x.Ms (ao r)
def mM:List bf->Nat
 | []=>0
 | f::r=>max (pz f) (mM r)
def pz:bf->Nat
 | .mk _ v=>v.Ms
end
section
variable {m i size:Nat} {x y d:Int} {l:List ByteArray} {v:Value}
theorem EI(f:bf):Ak f=f.v.size:=by cases f;simp[Ak,bf.v]
theorem yT(f:bf):pz f=f.v.Ms:=by cases f;simp[pz,bf.v]
theorem EJ(d:List bf):sq d=bE (d.map bf.v):=by
 induction d with
 | nil=>simp[sq,bE]
 | cons f r ih=>simp[sq,bE,ih,EI]
theorem yU(d:List bf):mM d=ao (d.map bf.v):=by
 induction d with
 | nil=>simp[mM,ao]
 | cons f r ih=>simp[mM,ao,ih,yT]
theorem dh(x:aC):x.size=1+bE x.parts:=by
 cases x with
 | mk k n t l d=>
  show aC.size (.mk k n t l d)=1+bE (if k=6 then l else if k=5 then d.map bf.v else []);rw[aC.size];by_cases h6:k=6
  ·rw[OW h6,OW h6]
  ·rw[OQ h6,OQ h6];by_cases h5:k=5
   ·rw[OW h5,OW h5,EJ]
   ·rw[OQ h5,OQ h5,bE]
theorem eD(x:aC):x.Ms=1+ao x.parts:=by
 cases x with
 | mk k n t l d=>
  show aC.Ms (.mk k n t l d)=1+ao (if k=6 then l else if k=5 then d.map bf.v else []);rw[aC.Ms];by_cases h6:k=6
  ·rw[OW h6,OW h6]
  ·rw[OQ h6,OQ h6];by_cases h5:k=5
   ·rw[OW h5,OW h5,yU]
   ·rw[OQ h5,OQ h5,ao]
theorem fB(x:aC):1<=x.size:=by rw[dh];omega
theorem mw(x:aC):1<=x.Ms:=by rw[eD];omega
theorem nW(l m:List aC):bE (l++m)=bE l+bE m:=by
 induction l with
 | nil=>simp[bE]
 | cons x r ih=>simp[bE,ih];omega
theorem lH(l m:List aC):ao (l++m)=max (ao l) (ao m):=by
 induction l with
 | nil=>simp[ao]
 | cons x r ih=>simp only[Of,ao,ih];omega
theorem take_snoc'{α:Type}{l:List α}{y:α}(h:l[i]?=some y):l.take (i+1)=l.take i++[y]:=by
 rw[Pf,h];rfl
theorem kK{l:List aC}{y:aC}(h:l[i]?=some y):bE (l.take (i+1))=bE (l.take i)+y.size:=by
 rw[take_snoc' h,nW];simp[bE]
theorem nX{l:List aC}{y:aC}(h:l[i]?=some y):ao (l.take (i+1))=max (ao (l.take i)) y.Ms:=by
 rw[take_snoc' h,lH];simp[ao]
theorem iY(l:List aC)(i:Nat):bE (l.take i)<=bE l:=by
 conv=>rhs;rw[<-Oh i l,nW]
 omega
theorem uM(l:List aC)(i:Nat):ao (l.take i)<=ao l:=by
 conv=>rhs;rw[<-Oh i l,lH]
 omega
theorem su{l:List aC}{y:aC}(h:y∈l):y.size<=bE l:=by
 induction l with
 | nil=>simp at h
 | cons x r ih=>
  simp only[bE];rcases PB.1 h with rfl|h
  ·omega
  ·have:=ih h;omega
theorem vH{l:List aC}{y:aC}(h:y∈l):y.Ms<=ao l:=by
 induction l with
 | nil=>simp at h
 | cons x r ih=>
  simp only[ao];rcases PB.1 h with rfl|h
  ·omega
  ·have:=ih h;omega
theorem cy{x y:aC}(h:y∈x.parts):y.size<x.size:=by
 have:=su h;rw[dh x];omega
theorem iG{x y:aC}(h:y∈x.parts):y.Ms<x.Ms:=by
 have:=vH h;rw[eD x];omega
def bV(x:aC)(most:Int):Int:=min (x.size:Int) most
def bH(x:aC)(most:Int):Int:=min (x.Ms:Int) most
abbrev cd(x y:Int):Int:=Lib.compareInt x y
def bh(a b:ByteArray):Int:=Lib.compareBytes a.data.toList b.data.toList
end
mutual
def aZ:aC->aC->Int
 | .mk k n t l d,y=>
  if k≠y.k then cd k y.k
  else if k=3\/k=9\/k=10 then cd n y.n
  else if k=4\/k=7\/k=8 then bh t y.t
  else if k=6 then dA l y.l
  else if k=5 then cI d y.d
  else 0
def dA:List aC->List aC->Int
 | [],m=>if m.isEmpty then 0 else -1
 | _::_,[]=>1
 | x::r,y::s=>if aZ x y≠0 then aZ x y else dA r s
def cI:List bf->List bf->Int
 | [],m=>if m.isEmpty then 0 else -1
 | _::_,[]=>1
 | x::r,y::s=>if Bt x y≠0 then Bt x y else cI r s
def Bt:bf->bf->Int
 | .mk s v,g=>if bh s g.s≠0 then bh s g.s else aZ v g.v
end
section
variable {k b n g o B m i c base cap size j K:Nat} {w w':World} {e t:TypeId} {P:Program} {Q:Exit -> Act -> World -> Prop} {a op x y d:Int} {l:List ByteArray} {v v':Value} {s:ByteArray} {A:Option Addr} {xs:List Value}
theorem uN(f g:bf):Bt f g=if bh f.s g.s≠0 then bh f.s g.s else aZ f.v g.v:=by cases f;rw[Bt];rfl
theorem iH(x y:aC):aZ x y=if x.k≠y.k then cd x.k y.k else if x.k=3\/x.k=9\/x.k=10 then cd x.n y.n else if x.k=4\/x.k=7\/x.k=8 then bh x.t y.t
 else if x.k=6 then dA x.l y.l else if x.k=5 then cI x.d y.d else 0:=by
 cases x;rw[aZ];rfl
theorem bX{x y:aC}(h:x.k≠y.k):aZ x y=cd x.k y.k:=by rw[iH,OW h]
theorem iZ{x y:aC}(h:x.k=y.k)(h':x.k=3\/x.k=9\/x.k=10):aZ x y=cd x.n y.n:=by rw[iH,OQ (by simpa using h),OW h']
theorem fy{x y:aC}(h:x.k=y.k)(h':x.k=4\/x.k=7\/x.k=8):aZ x y=bh x.t y.t:=by rw[iH,OQ (by simpa using h),OQ oM,OW h']
theorem sw{x y:aC}(h:x.k=y.k)(h':x.k=6):aZ x y=dA x.l y.l:=by rw[iH,OQ (by simpa using h),OQ oM,OQ oM,OW h']
theorem qH{x y:aC}(h:x.k=y.k)(h':x.k=5):aZ x y=cI x.d y.d:=by rw[iH,OQ (by simpa using h),OQ oM,OQ oM,OQ oM,OW h']
theorem fM{x y:aC}(h:x.k=y.k)(h3:x.k≠3)(h9:x.k≠9)(h10:x.k≠10)(h4:x.k≠4)(h7:x.k≠7)(h8:x.k≠8)(h6:x.k≠6)(h5:x.k≠5):aZ x y=0:=by
 rw[iH,OQ (by simpa using h),OQ oM,OQ oM,OQ h6,OQ h5]
theorem gW(a b:Nat):cd (a:Int) (b:Int)=if a<b then -1 else if b<a then 1 else 0:=by
 unfold cd Lib.compareInt;rcases RL a b with h|h|h
 ·rw[OW oM,OW h]
 ·rw[OQ oM,OQ oM,OQ oM,OQ oM]
 ·rw[OQ oM,OW oM,OQ oM,OW h]
theorem vI{l m:List aC}(h1:i<=l.length)(h2:i<=m.length)(h:l.length<=i\/m.length<=i):dA (l.drop i) (m.drop i)=cd (l.length:Int) (m.length:Int):=by
 rw[gW];by_cases hl:l.length<=i
 ·rw[Og hl,dA];by_cases hm:m.length<=i
  ·rw[Og hm,SV,OW (Eq.refl true),OQ oM,OQ oM]
  ·rw[OQ sO,OW oM]
 ·have hm:m.length<=i:=oM
  rw[Og hm,QP (by omega:i<l.length),dA,OQ oM,OW oM]
theorem Al{l m:List aC}{x y:aC}(hx:l[i]?=some x)(hy:m[i]?=some y):dA (l.drop i) (m.drop i)=if aZ x y≠0 then aZ x y else dA (l.drop (i+1)) (m.drop (i+1)):=by
 rw[cU hx,cU hy,dA]
theorem vJ{l m:List bf}(h1:i<=l.length)(h2:i<=m.length)(h:l.length<=i\/m.length<=i):cI (l.drop i) (m.drop i)=cd (l.length:Int) (m.length:Int):=by
 rw[gW];by_cases hl:l.length<=i
 ·rw[Og hl,cI];by_cases hm:m.length<=i
  ·rw[Og hm,SV,OW (Eq.refl true),OQ oM,OQ oM]
  ·rw[OQ sO,OW oM]
 ·have hm:m.length<=i:=oM
  rw[Og hm,QP (by omega:i<l.length),cI,OQ oM,OW oM]
theorem An{l m:List bf}{x y:bf}(hx:l[i]?=some x)(hy:m[i]?=some y):cI (l.drop i) (m.drop i)=if bh x.s y.s≠0 then bh x.s y.s else if aZ x.v y.v≠0 then aZ x.v y.v else cI (l.drop (i+1)) (m.drop (i+1)):=by
 rw[cU hx,cU hy,cI,uN];by_cases hb:bh x.s y.s=0
 ·simp[hb]
 ·simp[hb]
theorem tA(k:Int):(k=3\/k=9\/k=10)\/(k=4\/k=7\/k=8)\/k=6\/k=5\/(k≠3/\k≠9/\k≠10/\k≠4/\k≠7/\k≠8/\k≠6/\k≠5):=oM
theorem nY(a:Addr)(n:Nat):(a.add n).block=a.block:=by unfold Addr.add;split<;>rfl
theorem yV(a:Addr)(i j:Nat):(a.add i).add j=a.add (i+j):=by
 unfold Addr.add;by_cases hi:i=0<;>by_cases hj:j=0<;>simp[hi,hj,Sb]
def dz(w:World)(B size:Nat)(A:Option Addr)(n:Nat)(xs:List Value):Prop:=
 xs.length=n*size/\(0<n->∃ad,A=some ad/\ad.block<B/\∀j u,xs[j]?=some u->w.cell? (ad.add j)=some u)
section
variable {w w':World} {B B' size n:Nat} {A:Option Addr} {xs:List Value}
theorem dz.keep(h:dz w B size A n xs)(hk:∀p:Addr,p.block<B->w'.cell? p=w.cell? p):dz w' B size A n xs:=
 ⟨h.1,fun hn=>by
  obtain⟨ad,e,hb,hc⟩:=h.2 hn
  exact⟨ad,e,hb,fun j u hu=>(hk _ (by rw[nY];exact hb)).trans (hc j u hu)⟩⟩
theorem dz.below(h:dz w B size A n xs)(hb:Below B w w'):dz w' B size A n xs:=h.keep fun _ hp=>hb.cell hp
theorem dz.alloc(h:dz w B size A n xs)(hB:B<=w.heap.size)(o:Obj):dz (w.alloc o) B size A n xs:=h.keep fun p hp=>World.cell?_alloc_lt w o p oM
theorem dz.cut(h:dz w B size A n xs)(hk:k<=n)(hc:n<=cap):
 dz w B size (if cap=k then A else A.map (·.add (k*size))) (n-k) (xs.drop (k*size)):=by
 refine⟨by rw[Rn,h.1,Nat.sub_mul],fun hn=>?_⟩;obtain⟨ad,rfl,hb,hcell⟩:=h.2 oM;rw[OQ oM];refine⟨ad.add (k*size),rfl,by rw[nY];exact hb,fun j u hu=>?_⟩;rw[yV];exact hcell _ u (by rw[<-hu,Qc])
end
section
variable {P:Program} (w:World)
theorem nZ(base:Nat)(t ty e:TypeId)(i:TypeInfo)(size:Nat)(ht:P.underlying t=some (.slice e))(hi:P.info? e=some i)(v:Value)(n:Nat)(xs:List Value)(hown:w.ownsRow base e size v n xs)(c:Nat):(Builtin.append_ #[t,t] ty #[v,.slice none 0 c]).run P w=.ok v w:=by
  rcases hown.2 with⟨rfl,rfl⟩|⟨g,cap,cur,rfl,_,_,hnc,_⟩
  ·simp[Builtin.append_,SC ht,sizeOf,typeInfo,hi,Builtin.lenOf,Builtin.firstCells]
  ·simp[Builtin.append_,SC ht,sizeOf,typeInfo,hi,Builtin.lenOf,Builtin.firstCells,hnc,storeCells]
theorem qI(base:Nat)(t ty e:TypeId)(i:TypeInfo)(z:Value)(size bytes:Nat)(ht:P.underlying t=some (.slice e))(hi:P.info? e=some i)(hz:i.zero=some z)(hsize:i.size=size)(hby:i.bytes=bytes)(hzs:z.cells.size=size)(hsz:0<size)(v:Value)(n:Nat)(xs:List Value)(hown:w.ownsRow base e size v n xs)(B:Nat)(A:Option Addr)(m c:Nat)(news:List Value)(hr:dz w B size A m news)(h1:∀u∈news,u.oneCell'=true)(h63:n+m<=maxLen)(hbytes:(n+m)*bytes<=140737488355328)(hbase:base<=w.heap.size):
  ∃v' w',(Builtin.append_ #[t,t] ty #[v,.slice A m c]).run P w=.ok v' w'/\w'.ownsRow base e size v' (n+m) (xs++news)/\w.grownBy w' v.ownBlock/\
   (v'.ownBlock=v.ownBlock\/v'.ownBlock=some w.heap.size):=by
  rcases A with _|ad
  ·have hm:m=0:=by
    rcases PZ m with h0|h0
    ·exact h0
    ·obtain⟨ad,h,_⟩:=hr.2 h0;cases h
   subst hm;have hn:news=[]:=OL (by simpa using hr.1);subst hn;exact⟨v,w,nZ w base t ty e i size ht hi v n xs hown c,by simpa using hown,World.grownBy.refl w _,.inl rfl⟩
  ·have hcells:∀j u,news[j]?=some u->w.cell? (ad.add j)=some u:=by
    intro j u hu;rcases PZ m with h0|h0
    ·subst h0;have hn:news=[]:=OL (by simpa using hr.1);subst hn;simp at hu
    ·obtain⟨ad',h,_,hc⟩:=hr.2 h0;injection h with h
     subst h;exact hc j u hu
   obtain⟨v',w',hrun,h2,h3,_,h5⟩:=run_append_own_at (P:=P) w base t ty e i z size bytes ht hi hz hsize hby hzs hsz v n xs hown ad m c news hr.1 hcells h1 h63 hbytes hbase;exact⟨v',w',hrun,h2,h3,h5⟩
theorem fC{o:Oper}{a:Act}{K:Act->World->Prop}(s x:Operand)(t:TypeId)(ho:o.op=.call {callee:=.builtin .append,args:=#[s,x],argTypes:=#[t,t]})(base:Nat)(e:TypeId)(i:TypeInfo)(z:Value)(size bytes:Nat)(ht:P.underlying t=some (.slice e))(hi:P.info? e=some i)(hz:i.zero=some z)(hsize:i.size=size)(hby:i.bytes=bytes)(hzs:z.cells.size=size)(hsz:0<size)(v:Value)(n:Nat)(xs:List Value)(hs:a.eval s=v)(hown:w.ownsRow base e size v n xs)(B:Nat)(A:Option Addr)(m c:Nat)(news:List Value)(hx:a.eval x=.slice A m c)(hr:dz w B size A m news)(h1:∀u∈news,u.oneCell'=true)(h63:n+m<=maxLen)(hbytes:(n+m)*bytes<=140737488355328)(hbase:base<=w.heap.size)(h:∀v' w',w'.ownsRow base e size v' (n+m) (xs++news)->w.grownBy w' v.ownBlock->(v'.ownBlock=v.ownBlock\/v'.ownBlock=some w.heap.size)->K (a.put o.dst v') w'):o.wp P a w K Q:=by
  obtain⟨v',w',hrun,h2,h3,h4⟩:=qI (P:=P) w base t o.type e i z size bytes ht hi hz hsize hby hzs hsz v n xs hown B A m c news hr h1 h63 hbytes hbase;unfold Oper.wp execOp;simp only[ho,resolve,invoke,builtin,Qo,Ro,Qj,List.map_toArray,Pp,RM,hs,hx,hrun];exact h v' w' h2 h3 h4
theorem aE{ops:Array Oper}{rest:List Oper}{o:Oper}{a:Act}(hgd:o.guard=none)(s x:Operand)(t:TypeId)(ho:o.op=.call {callee:=.builtin .append,args:=#[s,x],argTypes:=#[t,t]})(base:Nat)(e:TypeId)(i:TypeInfo)(z:Value)(size bytes:Nat)(ht:P.underlying t=some (.slice e))(hi:P.info? e=some i)(hz:i.zero=some z)(hsize:i.size=size)(hby:i.bytes=bytes)(hzs:z.cells.size=size)(hsz:0<size)(v:Value)(n:Nat)(xs:List Value)(hs:a.eval s=v)(hown:w.ownsRow base e size v n xs)(B:Nat)(A:Option Addr)(m c:Nat)(news:List Value)(hx:a.eval x=.slice A m c)(hr:dz w B size A m news)(h1:∀u∈news,u.oneCell'=true)(h63:n+m<=maxLen)(hbytes:(n+m)*bytes<=140737488355328)(hbase:base<=w.heap.size)(h:∀v' w',w'.ownsRow base e size v' (n+m) (xs++news)->w.grownBy w' v.ownBlock->(v'.ownBlock=v.ownBlock\/v'.ownBlock=some w.heap.size)->wpList P ops Q rest (a.put o.dst v') w'):wpList P ops Q (o::rest) a w:=
  wpList_plain hgd fun _ hK=>fC w s x t ho base e i z size bytes ht hi hz hsize hby hzs hsz v n xs hs hown B A m c news hx hr h1 h63 hbytes hbase fun v' w' h2 h3 h4=>hK _ _ (h v' w' h2 h3 h4)
theorem bG{ops:Array Oper}{o:Oper}{a:Act}{K:Act->World->Prop}{E:Prop}(hgd:o.guard=none)(s x:Operand)(t:TypeId)(ho:o.op=.call {callee:=.builtin .append,args:=#[s,x],argTypes:=#[t,t]})(base:Nat)(e:TypeId)(i:TypeInfo)(z:Value)(size bytes:Nat)(ht:P.underlying t=some (.slice e))(hi:P.info? e=some i)(hz:i.zero=some z)(hsize:i.size=size)(hby:i.bytes=bytes)(hzs:z.cells.size=size)(hsz:0<size)(v:Value)(n:Nat)(xs:List Value)(hs:a.eval s=v)(hown:w.ownsRow base e size v n xs)(B:Nat)(A:Option Addr)(m c:Nat)(news:List Value)(hx:a.eval x=.slice A m c)(hr:dz w B size A m news)(h1:∀u∈news,u.oneCell'=true)(h63:n+m<=maxLen)(hbytes:(n+m)*bytes<=140737488355328)(hbase:base<=w.heap.size)(h:∀v' w',w'.ownsRow base e size v' (n+m) (xs++news)->w.grownBy w' v.ownBlock->(v'.ownBlock=v.ownBlock\/v'.ownBlock=some w.heap.size)->K (a.put o.dst v') w'):
  if Region.wanted o (yielded ops a.tmps)=true then Oper.wp P o a w K Q else E:=by
  have hw:Region.wanted o (yielded ops a.tmps)=true:=by simp[Region.wanted,hgd]
  rw[OW hw];exact fC w s x t ho base e i z size bytes ht hi hz hsize hby hzs hsz v n xs hs hown B A m c news hx hr h1 h63 hbytes hbase h
end
end
end Go.Proofs.YtgfoliedmhgpnaaGreatDoor
namespace Go
section
variable {k b n g o i id size j:Nat} {w w':World} {e:TypeId} {cs:Array Value} {P:Program} {Q:Exit -> Act -> World -> Prop} {a op:Int} {l:List ByteArray} {v:Value}
section
variable {P:Program} {ops:Array Oper} {md:Region.Mode} {C:World->Prop}
def na(P:Program)(md:Region.Mode)(ops:Array Oper)(C:World->Prop)(n:Nat)(L:Array Bool->Act->Prop):Nat->Array Bool->Act->Prop
 | 0,listed,a=>L listed a
 | f+1,listed,a=>
  Region.ready md ops listed≠[]/\∀i∈Region.ready md ops listed,i<n/\qOp P ops C i (na P md ops C n L f (listed.setIfInBounds i true)) a
theorem lI{L:Array Bool->Act->Prop}{Q':Exit->Act->World->Prop}(hL:∀listed a w,C w->L listed a->wpAny P md ops Q' g listed a w):
 ∀(f:Nat) (listed:Array Bool) (a:Act) (w:World),C w->na P md ops C n L f listed a->wpAny P md ops Q' (f+g) listed a w
 | 0,listed,a,w,hw,h=>by rw[OX];exact hL _ _ _ hw h
 | f+1,listed,a,w,hw,h=>by
  rw[show f+1+g=(f+g)+1 by omega];exact⟨fun h0=>absurd h0 h.1,fun i hi=>wpOp_of_qOp hw (fun a' w' hw' h'=>lI hL f _ a' w' hw' h') (h.2 i hi).2⟩
theorem sS{oi:Oper}{L:Array Bool->Act->Prop}(hi:ops[i]?=some oi)(hsel:∀(j:Nat) (o:Oper) cs b,ops[j]?=some o->o.op≠.select cs b)(hs:Region.sinkB md ops n=true)(hc:Region.chainB md ops n=true)(hn:n<ops.size)(hin:i<n)(hdone:∀listed a,L listed a->∀j∈Region.ready md ops listed,n<=j):
  ∀(f:Nat) (listed:Array Bool) (a:Act),HeadInv md ops n listed->
   (∀j oj,ops[j]?=some oj->j≠i->listed.getD j true=false->(∀e∈oj.after,Region.binds md e=true->e.on≠i)->oi.apart ops oj=true)->
   i∈Region.ready md ops listed->YieldsIn P ops C oi v a->
   na P md ops C n L f (listed.setIfInBounds i true) (a.put oi.dst v)->na P md ops C n L (f+1) listed a:=by
  intro f
  induction f with
  | zero=>
   intro listed a inv _ hr hy H;have hun:=(mem_ready.1 hr).1;refine⟨fun h=>(by rw[h] at hr;cases hr),fun j hj=>?_⟩
   have hjn:j<n:=by
    rcases Qn j n with h|h
    ·exact h
    ·exact absurd hj (tail_waits hs hc hn inv _ i rfl hin hun j h)
   refine⟨hjn,?_⟩;by_cases hji:j=i
   ·subst hji;exact hy.qOp hi H
   ·have:=hdone _ _ H j (ready_mono hj hji);omega
  | succ f ih=>
   intro listed a inv hfree hr hy H;have hun:=(mem_ready.1 hr).1;refine⟨fun h=>(by rw[h] at hr;cases hr),fun j hj=>?_⟩
   have hjn:j<n:=by
    rcases Qn j n with h|h
    ·exact h
    ·exact absurd hj (tail_waits hs hc hn inv _ i rfl hin hun j h)
   refine⟨hjn,?_⟩;by_cases hji:j=i
   ·subst hji;exact hy.qOp hi H
   ·have h1:=(H.2 j (ready_mono hj hji)).2;obtain⟨hjun,oj,hoj,hall⟩:=mem_ready.1 hj
    have hnot:∀e∈oj.after,Region.binds md e=true->e.on≠i:=fun e he hb heq=>by
     have h1:=hall e he hb;rw[heq,getD_both hun] at h1;cases h1
    have h2:=qOp_put hoj (hfree j oj hoj hji hjun hnot) (fun cs b=>hsel i oi cs b hi) (fun cs b=>hsel j oj cs b hoj) hy h1
    have hfree':∀k ok,ops[k]?=some ok->k≠i->(listed.setIfInBounds j true).getD k true=false->
     (∀e∈ok.after,Region.binds md e=true->e.on≠i)->oi.apart ops ok=true:=fun k ok hk hki hun hno=>by
     refine hfree k ok hk hki ?_ hno;by_cases hjk:j=k
     ·subst hjk;exact hjun
     ·rw[getD_set_ne true hjk] at hun;exact hun
    refine qOp_mono (fun a' h3=>ih (listed.setIfInBounds j true) a' (inv.set hj hjn) hfree' (ready_mono hr (Ne.symm hji)) h3.1 ?_) h2;rw[Array.setIfInBounds_comm _ _ hji];exact h3.2
theorem pH{Lq:Act->Prop}(hsel:Region.noSelect ops=true)(hs:Region.sinkB md ops n=true)(hc:Region.chainB md ops n=true)(hn:n<ops.size):
 ∀(l:List Oper) (k:Nat) (listed:Array Bool) (a:Act),(∀j,j<l.length->l[j]?=ops[k+j]?)->k+l.length=n->HeadInv md ops n listed->
 Region.lexHead md ops g l.length k listed=true->wpQuiet P ops C Lq l a->
 na P md ops C n (fun listed' a'=>Region.seqB md ops g n listed'=true/\Lq a') l.length listed a
 | [],k,listed,a,_,hk,_,hB,h=>by
  have:k=n:=by simpa using hk
  subst this;exact⟨by simpa[Region.lexHead] using hB,h⟩
 | o::l,k,listed,a,hl,hk,inv,hB,h=>by
  have h0:ops[k]?=some o:=by simpa using (hl 0 sM).symm
  simp only[OZ,Region.lexHead,Ov] at hB;obtain⟨⟨hr,hf⟩,hB'⟩:=hB;have hkn:k<n:=by simp only[OZ] at hk;omega
  have hr':k∈Region.ready md ops listed:=by simpa using hr
  have hst:qOp P ops C k (wpQuiet P ops C Lq l) a:=by unfold qOp;simp only[h0];exact h
  obtain⟨v,hy,hK⟩:=yieldsIn_of_qOp h0 hst
  exact sS h0 (Region.noSelect_spec hsel) hs hc hn hkn (fun listed' a' hL=>seqB_ready hL.1) l.length listed a inv (Region.free_spec h0 hf) hr' hy
   (pH hsel hs hc hn l (k+1) _ _ (fun j hj=>by have:=hl (j+1) sO;simpa[Sb,Nat.add_comm 1 j] using this) (by simp only[OZ] at hk;omega) (inv.set hr' hkn) hB' hK)
theorem lJ{a:Act}{l:List Oper}(n:Nat)(hm:P.follows .mixedOrders=true)(hB:Region.lexTailB .any l.toArray n=true)(hC:C {w with drawn:=w.drawn+1})(h:wpQuiet P l.toArray C (fun a'=>∀w',C w'->wpList P l.toArray Q (l.drop n) a' w') (l.take n) a):(Code.region id l.toArray true).wp P Q a w:=by
  simp only[Region.lexTailB,Ov,Pm] at hB;obtain⟨⟨⟨⟨hsel,hn⟩,hs⟩,hc⟩,hlex⟩:=hB;have hn':n<l.length:=by simpa using hn
  have htl:(l.take n).length=n:=by simp;omega
  have hdl:(l.drop n).length=l.toArray.size-n:=by simp
  have inv0:HeadInv .any l.toArray n (Array.replicate l.toArray.size false):=
   ⟨by simp,fun j oj _ hl=>(by rw[getD_replicate_false] at hl;cases hl),fun t _ ht=>getD_in (by simpa using ht) (getD_replicate_false _ _)⟩
  have H:=pH (md:=.any) (g:=l.toArray.size-n) hsel hs hc hn (l.take n) 0 _ a (fun j hj=>by
   have hj':j<n:=by rw[htl] at hj;exact hj
   simp[hj']) (by simpa using htl) inv0 (by rw[htl];exact hlex) h
  refine wp_region_any hm ?_
  have:=lI (Q':=Q) (g:=l.toArray.size-n) (fun listed a' w' hw' hL=>by
   have:=wpAny_of_seq (md:=.any) (Q':=Q) (l.drop n) n listed a' w' (fun j=>by simp[Qc]) (by rw[hdl];exact hL.1) (hL.2 w' hw')
   rwa [hdl] at this) _ _ _ _ hC H
  rw[htl,show n+(l.toArray.size-n)=l.toArray.size by omega] at this;exact this
end
end
end Go
namespace Go.Proofs.YtgfoliedmhgpnaaGreatDoor
open Go.RowKit
section
variable {k n id:Nat} {w w':World} {P:Program} {Q:Exit -> Act -> World -> Prop} {a:Int} {l:List ByteArray}
theorem cK{a:Act}{l:List Oper}(n:Nat)(hm:P.follows .mixedOrders=true)(hB:Region.lexTailB .any l.toArray n=true)(h:wpQuiet P l.toArray (fun w'=>∃k:BW w,w'=k.val) (fun a'=>∀w',(∃k:BW w,w'=k.val)->wpList P l.toArray Q (l.drop n) a' w') (l.take n) a):(Code.region id l.toArray true).wp P Q a w:=
  lJ (C:=fun w'=>∃k:BW w,w'=k.val) n hm hB ⟨⟨w.drew,(OG _ _).drew⟩,rfl⟩ h
end
structure fD(g:Nat)(w w':World):Prop where
 os:w'.os=w.os
 tape:w'.tape=w.tape
 output:w'.output=w.output
 size:w.heap.size<=w'.heap.size
 block:∀k,k<w.heap.size->k≠g->w'.heap[k]?=w.heap[k]?
section
variable {k b n g B m i c base size j:Nat} {w w' wr w2 w1:World} {e t:TypeId} {cs:Array Value} {a x y most:Int} {l ys:List ByteArray} {v:Value} {s:ByteArray} {A:Option Addr} {ha:Bool} {xs:List Value}
section
variable {g:Nat} {w w1 w2:World}
theorem fD.refl:fD g w w:=⟨rfl,rfl,rfl,qL,fun _ _ _=>rfl⟩
theorem fD.trans(h:fD g w w1)(k:fD g w1 w2):fD g w w2:=
 ⟨k.os.trans h.os,k.tape.trans h.tape,k.output.trans h.output,OU h.size k.size,fun i hi hg=>(k.block i (Ol hi h.size) hg).trans (h.block i hi hg)⟩
theorem fD.Mv(h:Bl w w1):fD g w w1:=⟨h.os,h.tape,h.output,h.size,fun k hk _=>h.block k hk⟩
theorem fD.step(h:fD g w w1)(k:Bl w1 w2):fD g w w2:=h.trans (.Mv k)
theorem fD.set(h:fD g w w1){p:Addr}(hp:p.block=g)(u:Value):fD g w (w1.setCell p u):=
 ⟨h.os,h.tape,h.output,by simpa[World.setCell] using h.size,fun k hk hg=>(PQ w1 p u k (by rw[hp];exact hg)).trans (h.block k hk hg)⟩
theorem fD.below(h:fD g w w1)(hB:B<=w.heap.size)(hg:B<=g):Below B w w1:=⟨h.os,h.tape,h.output,h.size,fun k hk=>h.block k oM oM⟩
theorem fD.cell(h:fD g w w1){p:Addr}(hp:p.block<w.heap.size)(hg:p.block≠g):w1.cell? p=w.cell? p:=PE (h.block _ hp hg)
theorem aG.but(h:aG w b t cs)(k:fD g w w1)(hg:b≠g):aG w1 b t cs:=(k.block b h.lt hg).trans h
end
section
variable {α:Type} {rec:α->List Value} {s:Nat}
def aN(rec:α->List Value)(xs:List α):List Value:=xs.flatMap rec
theorem dT(rec:α->List Value)(xs ys:List α):aN rec (xs++ys)=aN rec xs++aN rec ys:=by simp[aN]
theorem cS(rec:α->List Value)(xs:List α)(a:α):aN rec (xs++[a])=aN rec xs++rec a:=by simp[aN]
theorem bv(hs:∀a,(rec a).length=s)(xs:List α):(aN rec xs).length=xs.length*s:=by
 induction xs with
 | nil=>simp[aN]
 | cons a l ih=>
  have:aN rec (a::l)=rec a++aN rec l:=rfl;rw[this,OK,ih,hs,OZ,QJ];omega
theorem gX(hs:∀a,(rec a).length=s):∀{xs:List α} {i j:Nat} {a:α} {v:Value},xs[i]?=some a->(rec a)[j]?=some v->(aN rec xs)[i*s+j]?=some v:=by
 intro xs
 induction xs with
 | nil=>intro i j a v h;simp at h
 | cons b l ih=>
  intro i j a v h1 h2;have e:aN rec (b::l)=rec b++aN rec l:=rfl;rw[e];cases i with
  | zero=>
   simp at h1;subst h1;have hj:j<(rec b).length:=(OI.1 h2).1;rw[Rp,OX,PX hj];exact h2
  | succ i=>
   have hb:=hs b;rw[Oa (by rw[hb,QJ];omega),hb,show(i+1)*s+j-s=i*s+j by rw[QJ];omega];exact ih (by simpa using h1) h2
structure SR(s:Nat)(rec:α->List Value)(w:World)(A:Option Addr)(n c:Nat)(xs:List α):Prop where
 ln:n=xs.length
 lc:n<=c
 el:0<n->∃b off,A=some ⟨b,off,none⟩/\b<w.heap.size/\∀(i:Nat) (a:α),xs[i]?=some a->∀(j:Nat) (v:Value),(rec a)[j]?=some v->w.cell? ⟨b,off+i*s+j,none⟩=some v
theorem SR.step{xs:List α}(h:SR s rec w A n c xs)(hb:Bl w w'):SR s rec w' A n c xs:=by
 refine⟨h.ln,h.lc,fun hn=>?_⟩;obtain⟨b,off,h1,h2,h3⟩:=h.el hn;exact⟨b,off,h1,Ol h2 hb.size,fun i a hi j v hj=>(hb.cell (p:=⟨b,off+i*s+j,none⟩) h2).trans (h3 i a hi j v hj)⟩
theorem SR.nil:SR s rec w A 0 c ([]:List α):=⟨rfl,ON _,fun h=>absurd h (Qr 0)⟩
theorem eO(h:w.ownsRow base e size v n xs)(hg:v.ownBlock=some g):g<w.heap.size:=by
 rcases h.2 with⟨rfl,_⟩|⟨g',cap,cur,rfl,_,hh,_⟩
 ·simp[Value.ownBlock] at hg
 ·simp[Value.ownBlock] at hg;subst hg;rcases Qn g' w.heap.size with hlt|hge
  ·exact hlt
  ·rw[Ra hge] at hh;cases hh
theorem gr(h:w.ownsRow base e size v n xs)(hg:g<base):v.ownBlock≠some g:=by
 rcases h.2 with⟨rfl,_⟩|⟨g',cap,cur,rfl,hge,_⟩
 ·simp[Value.ownBlock]
 ·simp[Value.ownBlock];omega
theorem ak(h:w.ownsRow base e size v n xs):∀g,v.ownBlock=some g->base<=g:=by
 rcases h.2 with⟨rfl,_⟩|⟨g',cap,cur,rfl,hge,_⟩
 ·intro g hg;simp[Value.ownBlock] at hg
 ·intro g hg;simp[Value.ownBlock] at hg;omega
theorem aY(h:w.ownsRow base e size v n xs):∃A c,v=.slice A n c/\n<=c:=by
 rcases h.2 with⟨rfl,rfl⟩|⟨g,cap,cur,hv,_,_,hnc,_⟩
 ·exact⟨none,0,rfl,qL⟩
 ·exact⟨_,_,hv,hnc⟩
theorem af(h:w.ownsRow base e size v n xs)(hb:Bl w w'):w'.ownsRow base e size v n xs:=by
 refine⟨h.1,?_⟩;rcases h.2 with h2|⟨g,cap,cur,hv,hg,hh,hr⟩
 ·exact .inl h2
 ·refine .inr ⟨g,cap,cur,hv,hg,?_,hr⟩
  have hlt:g<w.heap.size:=by
   rcases Qn g w.heap.size with hlt|hge
   ·exact hlt
   ·rw[Ra hge] at hh;cases hh
  rw[hb.block g hlt];exact hh
theorem SR.Mq{xs:List α}(hs:∀a,(rec a).length=s)(h:w.ownsRow base t s v n (aN rec xs))(hl:xs.length=n):∃A c,v=.slice A n c/\SR s rec w A n c xs:=by
 rcases h.2 with⟨rfl,rfl⟩|⟨g,cap,cur,rfl,_,hh,hnc,_⟩
 ·exact⟨none,0,rfl,hl.symm,qL,fun h=>absurd h oM⟩
 ·refine⟨_,_,rfl,hl.symm,hnc,fun _=>⟨g,0,rfl,eO h rfl,fun i a hi j u hj=>?_⟩⟩;have:=h.cells (g:=g) rfl (i*s+j) u (gX hs hi hj);rw[cW] at this;rw[OX] at this ⊢;exact this
theorem bP(w:World)(base:Nat)(e:TypeId)(size:Nat):w.ownsRow base e size (.slice none 0 0) 0 []:=⟨by simp,.inl ⟨rfl,rfl⟩⟩
end
def dO{α:Type}(l:List α)(k:Nat):List α->List α
 | []=>l
 | v::vs=>dO (l.set k v) (k+1) vs
theorem mx{α:Type}:∀(vs l:List α) (k:Nat),k+vs.length<=l.length->dO l k vs=l.take k++vs++l.drop (k+vs.length):=by
 intro vs
 induction vs with
 | nil=>intro l k _;simp[dO]
 | cons v vs ih=>
  intro l k h;simp only[OZ] at h;rw[dO,ih _ _ sO,List.take_set,List.drop_set_of_lt oM]
  have e1:(l.take (k+1)).set k v=l.take k++[v]:=by
   rw[List.take_succ_eq_append_getElem oM,Qb _ _ sO];simp;rw[show k-min k l.length=0 by omega];rfl
  rw[e1];simp only[OY,List.singleton_append,OZ,show k+1+vs.length=k+(vs.length+1) by omega]
def TR(a b c:Int):Prop:=a<=0->b<=0->c<=0/\(c=0↔a=0/\b=0)
def EK(g:Nat)(Inv:Nat->World->Prop)(Fin:World->Prop)(i:Nat)(wr:World)(e:Ending)(w':World):Prop:=
 ∃b,e=.returned (.bool b)/\fD g wr w'/\(b=true->Inv (i+1) w')/\(b=false->Fin w')
def Hf(g:Nat)(Fin:World->Prop)(w:World)(e:Ending)(w':World):Prop:=e=.returned (.tuple #[])/\fD g w w'/\Fin w'
theorem vK(f:FuncId)(g m:Nat)(x:aC)(c:VC)(w:World)(h:RV (fun b=>b≠g) w c x)(Inv:Nat->World->Prop)(Fin:World->Prop)(hent:∀args w,(callFunc f args).run prog w=.ok (.enter f args) w)(h0:Inv 0 w)(hst:∀i w1 w2,Inv i w1->Bl w1 w2->Inv i w2)(hs:∀(i:Nat) (y:aC) (u:VC) (wr:World),x.parts[i]?=some y->Inv i wr->fD g w wr->RW wr u y->Calls prog f #[u.val,.pointer (some ⟨g,0,none⟩),.pointer (some ⟨m,0,none⟩)] wr (EK g Inv Fin i wr))(he:∀wr,Inv x.parts.length wr->Fin wr):
  Calls prog 196 #[c.val,.func (.func f) #[] #[.pointer (some ⟨g,0,none⟩),.pointer (some ⟨m,0,none⟩)]] w (Hf g Fin w):=by
  obtain⟨ck,cn,ct,LA,ln,lc,DA,dn,dc⟩:=c;have ho:=h.open;have hln:ln<=140737488355328:=by have:=ho.lsz;unfold aF at this;simp only at this;omega
  have hdn:dn<=140737488355328:=by have:=ho.dsz;unfold aF at this;simp only at this;omega
  have HO:=qD ho;have HS:=qD hs;have HE:=qD he;have H0:=qD (hst 0 w _ h0 ((OG _ _).alloc (qL) (Obj.cells #[.int .i64 ck,.int .i64 cn,.string ct,.slice LA ln lc,.slice DA dn dc] 29)));have HT:=qD hst;clear ho h hs he h0 hst;cases h6:(ck==6)
  ·cases h5:(ck==5)
   ·have HP:Hid (x.parts.length=0):=by
     have:=HO.out.k;simp only at this;simp at h6 h5;simp[Hid,aC.parts,<-this,h6,h5]
    go_enter func196,ntmps196;go_wp2_with fail
    go_end0
    exact⟨rfl,fD.Mv ((OG _ _).alloc (qL) _),HE.out _ (by rw[HP.out];exact H0.out)⟩
   ·have HP:Hid (x.parts=x.d.map bf.v):=by
     have:=HO.out.k;simp only at this;simp at h5;simp[Hid,aC.parts,<-this,h5]
    go_enter func196,ntmps196;go_wp2_with fail
    go_loopw [29] (fun v29 wr=>∃i:Nat,i<=dn/\v29=.int .i64 i/\Inv i wr/\fD g w wr) (fun v29 _=>dn-(intOf v29).toNat)
    ·exact⟨0,ON _,rfl,H0.out,fD.Mv ((OG _ _).alloc (qL) _)⟩
    case round=>
     obtain⟨i,hi,rfl,I1,I2⟩:=hrel;have J1:=qD I1;have J2:=qD I2;by_cases hlt:i<dn
     ·obtain⟨b,off,hDA,hbg,hel⟩:=HO.out.da (by show 0<dn;omega);obtain⟨y,hy⟩:∃y,x.d[i]?=some y:=⟨_,OH (by have:=HO.out.dn;simp only at this;omega)⟩;obtain⟨s0,hsz,u,hu,hr⟩:=hel i y hy;simp only at hDA;subst hDA;obtain⟨u0,u1,u2,u3,u4⟩:=hu.keep (I2.block b hu.lt hbg.1);have t0:=(I2.cell (p:=⟨b,off+i*6,none⟩) hu.lt hbg.1).trans s0;have hb:b<wr.heap.size:=by have:=hu.lt;have:=I2.size;omega
      have HR:=qD ((hr.Mr (G:=fun _=>True) fun q hq hl=>⟨trivial,I2.block q hl hq⟩).alloc (.cells #[.string y.s,.int .i64 u.k,.int .i64 u.n,.string u.t,.slice u.LA u.ln u.lc,.slice u.DA u.dn u.dc] 77));have HI:=qD (HT.out i wr _ I1 ((OG _ _).alloc (qL) (Obj.cells #[.string y.s,.int .i64 u.k,.int .i64 u.n,.string u.t,.slice u.LA u.ln u.lc,.slice u.DA u.dn u.dc] 77)));have HB:=qD (I2.step ((OG _ _).alloc (qL) (Obj.cells #[.string y.s,.int .i64 u.k,.int .i64 u.n,.string u.t,.slice u.LA u.ln u.lc,.slice u.DA u.dn u.dc] 77)));have HY:Hid (x.parts[i]?=some y.v):=by rw[Hid,HP.out,OT,hy];rfl
      clear hel hr hu hy I1 I2 s0 hsz;go_wp2_with fail;refine(HS.out i y.v u _ HY.out HI.out HB.out HR.out).mono ?_;rintro e w1 ⟨b1,rfl,hb1,ht,hf⟩;cases b1
      ·have HF:=qD (hf rfl);have HB1:=qD (HB.out.trans hb1);clear ht hf hb1;go_wp2_with fail
       go_end0
       exact⟨rfl,HB1.out,HF.out⟩
      ·have HF:=qD (ht rfl);have HB1:=qD (HB.out.trans hb1);clear ht hf hb1;go_wp2_with fail;go_roundw
       ·exact⟨i+1,by omega,by go_num,HF.out,HB1.out⟩
       ·exact iO
     ·obtain rfl:i=dn:=oM
      go_wp2_with fail
      go_end0
      exact⟨rfl,J2.out,HE.out _ (by rw[HP.out,Oe];have:=HO.out.dn;simp only at this;rw[<-this];exact J1.out)⟩
  ·have HP:Hid (x.parts=x.l):=by
    have:=HO.out.k;simp only at this;simp at h6;simp[Hid,aC.parts,<-this,h6]
   go_enter func196,ntmps196;go_wp2_with fail
   go_loopw [15] (fun v15 wr=>∃i:Nat,i<=ln/\v15=.int .i64 i/\Inv i wr/\fD g w wr) (fun v15 _=>ln-(intOf v15).toNat)
   ·exact⟨0,ON _,rfl,H0.out,fD.Mv ((OG _ _).alloc (qL) _)⟩
   case round=>
    obtain⟨i,hi,rfl,I1,I2⟩:=hrel;have J1:=qD I1;have J2:=qD I2;by_cases hlt:i<ln
    ·obtain⟨b,off,hLA,hbg,hel⟩:=HO.out.la (by show 0<ln;omega);obtain⟨y,hy⟩:∃y,x.l[i]?=some y:=⟨_,OH (by have:=HO.out.ln;simp only at this;omega)⟩;obtain⟨u,hu,hr⟩:=hel i y hy;simp only at hLA;subst hLA;obtain⟨u0,u1,u2,u3,u4⟩:=hu.keep (I2.block b hu.lt hbg.1);have hb:b<wr.heap.size:=by have:=hu.lt;have:=I2.size;omega
     have HR:=qD ((hr.Mr (G:=fun _=>True) fun q hq hl=>⟨trivial,I2.block q hl hq⟩).alloc (.cells u.arr 29));have HI:=qD (HT.out i wr _ I1 ((OG _ _).alloc (qL) (Obj.cells u.arr 29)));have HB:=qD (I2.step ((OG _ _).alloc (qL) (Obj.cells u.arr 29)));have HY:Hid (x.parts[i]?=some y):=by rw[Hid,HP.out];exact hy
     clear hel hr hu hy I1 I2;go_wp2_with fail;refine(HS.out i y u _ HY.out HI.out HB.out HR.out).mono ?_;rintro e w1 ⟨b1,rfl,hb1,ht,hf⟩;cases b1
     ·have HF:=qD (hf rfl);have HB1:=qD (HB.out.trans hb1);clear ht hf hb1;go_wp2_with fail
      go_end0
      exact⟨rfl,HB1.out,HF.out⟩
     ·have HF:=qD (ht rfl);have HB1:=qD (HB.out.trans hb1);clear ht hf hb1;go_wp2_with fail;go_roundw
      ·exact⟨i+1,by omega,by go_num,HF.out,HB1.out⟩
      ·exact iO
    ·obtain rfl:i=ln:=oM
     go_wp2_with fail
     go_end0
     exact⟨rfl,J2.out,HE.out _ (by rw[HP.out];have:=HO.out.ln;simp only at this;rw[<-this];exact J1.out)⟩
theorem jc(h1:-9223372036854775808<=a)(h2:a<=9223372036854775807):IntKind.i64.wrap a=a:=SE _ ⟨h1,h2⟩
def Ao(x:aC):Prop:=∀(c:VC) (most:Int) (w:World),RW w c x->1<=most->most<=1025->
 Calls prog 149 #[c.val,.int .i64 most] w (Rt w (.int .i64 (bV x most)))
theorem yW(y:aC)(ih:Ao y)(u:VC)(g m:Nat)(n most:Int)(w:World)(h:RW w u y)(hg:aG w g 3 #[.int .i64 n])(hm:aG w m 3 #[.int .i64 most])(hne:m≠g)(h1:1<=n)(h2:n<most)(h3:most<=1025):
 Calls prog 197 #[u.val,.pointer (some ⟨g,0,none⟩),.pointer (some ⟨m,0,none⟩)] w fun e w'=>e=.returned (.bool (decide (n+bV y (most-n)<most)))/\fD g w w'/\aG w' g 3 #[.int .i64 (n+bV y (most-n))]:=by
 have HG:=qD (hg.alloc (.cells u.arr 29));have HM:=qD (hm.alloc (.cells u.arr 29));have HU:Hid (aG (w.alloc (.cells u.arr 29)) w.heap.size 29 u.arr):=aG.Mm rfl;have H:=qD (h.alloc (.cells u.arr 29));have HB:=qD ((OG w.heap.size w).alloc (qL) (Obj.cells u.arr 29));have IH:=qD ih;have hgl:=hg.lt;have hml:=hm.lt
 have r1:1<=bV y (most-n)/\bV y (most-n)<=most-n:=by
  have:=fB y;unfold bV;omega
 clear h hg hm ih;go_enter func197,ntmps197;go_wp2_with fail;generalize w.alloc (.cells u.arr 29)=w1 at*;have E0:=aX (HG.out.cell 0);have E1:=aX (HM.out.cell 0);have E2:=aX (HU.out.cell 0);have E3:=aX (HU.out.cell 1);have E4:=aX (HU.out.cell 2);have E5:=aX (HU.out.cell 3);have E6:=aX (HU.out.cell 4);have W1:IntKind.i64.wrap (most-n)=most-n:=jc oM oM;have W2:IntKind.i64.wrap (n+bV y (most-n))=n+bV y (most-n):=jc oM oM
 have K1:Hid (∀q:BW w1,Calls prog 149 #[u.val,.int .i64 (most-n)] q.val fun e w''=>e=.returned (.int .i64 (bV y (most-n)))/\∃q:BW w1,w''=q.val):=fun q=>
  Calls.bw (IH.out u (most-n) q.val (H.out.step q.below) oM oM)
 refine cK 7 kR kR ?_;simp only[Pl,QU,QQ,RQ]
 repeat(go_big_quiet_step (with_reducible exact K1.out _))
 refine Oc ?_;rintro _ ⟨kw,rfl⟩;have F0:=(HG.out.step kw.below).frozen 0;have JG:=qD ((HG.out.step kw.below).Mo 0 (.int .i64 (n+bV y (most-n))));have JB:=qD ((fD.Mv (g:=g) (HB.out.Ml kw.below)).set (p:=⟨g,0,none⟩) rfl (.int .i64 (n+bV y (most-n))));have e0:=E0 kw;have e1:=E1 kw;have hnm:g≠m:=fun e=>hne e.symm;clear E0 E1 E2 E3 E4 E5 E6 K1 W1 W2 HG HM HU H HB IH;generalize kw.val=w2 at*;go_wp2;go_ret;exact⟨rfl,JB.out,JG.out⟩
def Ap(x:aC):Prop:=∀(c:VC) (most:Int) (w:World),RW w c x->1<=most->most<=17->
 Calls prog 150 #[c.val,.int .i64 most] w (Rt w (.int .i64 (bH x most)))
theorem yX(y:aC)(ih:Ap y)(u:VC)(g m:Nat)(n most:Int)(w:World)(h:RW w u y)(hg:aG w g 3 #[.int .i64 n])(hm:aG w m 3 #[.int .i64 most])(hne:m≠g)(h1:0<=n)(h2:n<most-1)(h3:most<=17):
 Calls prog 198 #[u.val,.pointer (some ⟨g,0,none⟩),.pointer (some ⟨m,0,none⟩)] w fun e w'=>e=.returned (.bool (decide (max n (bH y (most-1))<most-1)))/\fD g w w'/\aG w' g 3 #[.int .i64 (max n (bH y (most-1)))]:=by
 have HG:=qD (hg.alloc (.cells u.arr 29));have HM:=qD (hm.alloc (.cells u.arr 29));have HU:Hid (aG (w.alloc (.cells u.arr 29)) w.heap.size 29 u.arr):=aG.Mm rfl;have H:=qD (h.alloc (.cells u.arr 29));have HB:=qD ((OG w.heap.size w).alloc (qL) (Obj.cells u.arr 29));have IH:=qD ih;have hgl:=hg.lt;have hml:=hm.lt
 have r1:1<=bH y (most-1)/\bH y (most-1)<=most-1:=by
  have:=mw y;unfold bH;omega
 clear h hg hm ih;by_cases hle:n<bH y (most-1)
 ·have HX:Hid (max n (bH y (most-1))=bH y (most-1)):=by unfold Hid;omega
  go_enter func198,ntmps198;go_wp2_with fail;generalize w.alloc (.cells u.arr 29)=w1 at*;have E0:=aX (HG.out.cell 0);have E1:=aX (HM.out.cell 0);have E2:=aX (HU.out.cell 0);have E3:=aX (HU.out.cell 1);have E4:=aX (HU.out.cell 2);have E5:=aX (HU.out.cell 3);have E6:=aX (HU.out.cell 4);have W1:IntKind.i64.wrap (most-1)=most-1:=jc oM oM
  have K1:Hid (∀q:BW w1,Calls prog 150 #[u.val,.int .i64 (most-1)] q.val fun e w''=>e=.returned (.int .i64 (bH y (most-1)))/\∃q:BW w1,w''=q.val):=fun q=>
   Calls.bw (IH.out u (most-1) q.val (H.out.step q.below) oM oM)
  refine cK 6 kR kR ?_;simp only[Pl,QU,QQ,RQ]
  repeat(go_big_quiet_step (with_reducible exact K1.out _))
  refine Oc ?_;rintro _ ⟨kw,rfl⟩;have F0:=(HG.out.step kw.below).frozen 0;have JG:=qD ((HG.out.step kw.below).Mo 0 (.int .i64 (bH y (most-1))));have JB:=qD ((fD.Mv (g:=g) (HB.out.Ml kw.below)).set (p:=⟨g,0,none⟩) rfl (.int .i64 (bH y (most-1))));have e0:=E0 kw;have e1:=E1 kw;have hnm:g≠m:=fun e=>hne e.symm;clear E0 E1 E2 E3 E4 E5 E6 K1 W1 HG HM HU H HB IH;generalize kw.val=w2 at*;go_wp2;go_ret;exact⟨by rw[HX.out];first|rfl|(rw[OM h2];rfl),JB.out,by rw[HX.out];exact JG.out⟩
 ·have HX:Hid (max n (bH y (most-1))=n):=by unfold Hid;omega
  go_enter func198,ntmps198;go_wp2_with fail;generalize w.alloc (.cells u.arr 29)=w1 at*;have E0:=aX (HG.out.cell 0);have E1:=aX (HM.out.cell 0);have E2:=aX (HU.out.cell 0);have E3:=aX (HU.out.cell 1);have E4:=aX (HU.out.cell 2);have E5:=aX (HU.out.cell 3);have E6:=aX (HU.out.cell 4);have W1:IntKind.i64.wrap (most-1)=most-1:=jc oM oM
  have K1:Hid (∀q:BW w1,Calls prog 150 #[u.val,.int .i64 (most-1)] q.val fun e w''=>e=.returned (.int .i64 (bH y (most-1)))/\∃q:BW w1,w''=q.val):=fun q=>
   Calls.bw (IH.out u (most-1) q.val (H.out.step q.below) oM oM)
  refine cK 6 kR kR ?_;simp only[Pl,QU,QQ,RQ]
  repeat(go_big_quiet_step (with_reducible exact K1.out _))
  refine Oc ?_;rintro _ ⟨kw,rfl⟩;have F0:=(HG.out.step kw.below).frozen 0;have JG:=qD ((HG.out.step kw.below).Mo 0 (.int .i64 n));have JB:=qD ((fD.Mv (g:=g) (HB.out.Ml kw.below)).set (p:=⟨g,0,none⟩) rfl (.int .i64 n));have e0:=E0 kw;have e1:=E1 kw;have hnm:g≠m:=fun e=>hne e.symm;clear E0 E1 E2 E3 E4 E5 E6 K1 W1 HG HM HU H HB IH;generalize kw.val=w2 at*;go_wp2;go_ret;exact⟨by rw[HX.out];first|rfl|(rw[OM h2];rfl),JB.out,by rw[HX.out];exact JG.out⟩
theorem aC.NZ{p:aC->Prop}(h:∀x,(∀y∈x.parts,p y)->p x):∀x,p x:=by
 intro x
 induction x using aC.ind with
 | h k n t l d ihl ihd=>
  refine h _ fun y hy=>?_;unfold aC.parts at hy;split at hy
  ·exact ihl y hy
  ·split at hy
   ·obtain⟨f,hf,rfl⟩:=PK.1 hy;exact ihd f hf
   ·simp at hy
def Lx(x:aC)(most:Int)(g m:Nat)(i:Nat)(wr:World):Prop:=
 1+(bE (x.parts.take i):Int)<most/\aG wr g 3 #[.int .i64 (1+(bE (x.parts.take i):Int))]/\aG wr m 3 #[.int .i64 most]
theorem yY{x y:aC}(hy:x.parts[i]?=some y):
 (decide (1+(bE (x.parts.take i):Int)+bV y (most-(1+(bE (x.parts.take i):Int)))<most)=true->
   1+(bE (x.parts.take (i+1)):Int)<most/\1+(bE (x.parts.take i):Int)+bV y (most-(1+(bE (x.parts.take i):Int)))=1+(bE (x.parts.take (i+1)):Int))/\
 (decide (1+(bE (x.parts.take i):Int)+bV y (most-(1+(bE (x.parts.take i):Int)))<most)=false->
   1+(bE (x.parts.take i):Int)+bV y (most-(1+(bE (x.parts.take i):Int)))=bV x most):=by
 have h1:=kK hy;have h2:=iY x.parts (i+1);have h3:=dh x;unfold bV;constructor
 ·intro hd;simp at hd;omega
 ·intro hd;simp at hd;omega
open Go.Shelf in
theorem Bu:∀x,Ao x:=by
 refine aC.NZ fun x ih=>?_;intro c most w h h1 h2;have hx:=fB x;cases hm:((1:Int)==most)
 ·have hm':1<most:=by simp at hm;omega
  have H:=qD h;have IH:=qD ih;clear h ih;go_enter func149,ntmps149;go_wp2_with fail;have B1:aG (((w.alloc (.cells c.arr 29)).alloc (.cells #[.int .i64 most] 3)).alloc (.cells #[.int .i64 1] 3)) (w.heap.size+1) 3 #[.int .i64 most]:=(aG.Mm sM).alloc _;have B2:aG (((w.alloc (.cells c.arr 29)).alloc (.cells #[.int .i64 most] 3)).alloc (.cells #[.int .i64 1] 3)) (w.heap.size+1+1) 3 #[.int .i64 1]:=aG.Mm sM;have B3:Bl w (((w.alloc (.cells c.arr 29)).alloc (.cells #[.int .i64 most] 3)).alloc (.cells #[.int .i64 1] 3)):=(((OG _ _).alloc (qL) _).alloc sM _).alloc sO _;have B4:=H.out.lt.Mr (G:=fun b=>b≠w.heap.size+1+1) (w':=(((w.alloc (.cells c.arr 29)).alloc (.cells #[.int .i64 most] 3)).alloc (.cells #[.int .i64 1] 3))) fun b hb _=>⟨by omega,B3.block b hb.2⟩;have hsz:(((w.alloc (.cells c.arr 29)).alloc (.cells #[.int .i64 most] 3)).alloc (.cells #[.int .i64 1] 3)).heap.size=w.heap.size+3:=by simp
  refine(vK 197 (w.heap.size+1+1) (w.heap.size+1) x c _ B4 (Lx x most (w.heap.size+1+1) (w.heap.size+1)) (fun wr=>aG wr (w.heap.size+1+1) 3 #[.int .i64 (bV x most)]) (enters_of func197 kR rfl) ⟨by simpa[bE] using hm',by simpa[bE] using B2,B1⟩ ?_ ?_ ?_).mono ?_
  ·rintro i w1 w2 ⟨a,b,d⟩ hb;exact⟨a,b.step hb,d.step hb⟩
  ·rintro i y u wr hy ⟨a,b,d⟩ hb hr;obtain⟨n1,n2⟩:=yY (most:=most) hy;refine(yW y (IH.out y (OJ hy)) u _ _ _ most wr hr b d oM oM a h2).mono ?_;rintro e w' ⟨rfl,k1,k2⟩;refine⟨_,rfl,k1,fun hd=>?_,fun hd=>?_⟩
   ·obtain⟨n3,n4⟩:=n1 hd;rw[n4] at k2;exact⟨n3,k2,d.but k1 oM⟩
   ·rw[n2 hd] at k2;exact k2
  ·rintro wr ⟨a,b,d⟩;rw[Rq] at a b
   have e:1+(bE x.parts:Int)=bV x most:=by
    have:=dh x;unfold bV;omega
   rw[e] at b;exact b
  ·rintro e w' ⟨rfl,hb,hf⟩;have q:=hf.cell 0;simp at q;have HB:=qD (B3.trans (hb.below oM oM));clear B1 B2 B3 B4 hb hf H IH;go_wp2;go_ret;exact⟨rfl,HB.out⟩
 ·obtain rfl:most=1:=by simp at hm;omega
  clear h ih;go_enter func149,ntmps149;go_wp2;go_ret;refine⟨?_,((((OG _ _).alloc (qL) _).alloc sM _).alloc sO _)⟩;have e:bV x 1=1:=by unfold bV;omega
  rw[e];rfl
theorem Hg{k:IntKind}{b:Int}(h:a=b):Ending.returned (.int k a)=.returned (.int k b):=by rw[h]
def Ly(x:aC)(most:Int)(g m:Nat)(i:Nat)(wr:World):Prop:=
 (ao (x.parts.take i):Int)<most-1/\aG wr g 3 #[.int .i64 (ao (x.parts.take i):Int)]/\aG wr m 3 #[.int .i64 most]
theorem yZ{x y:aC}(hy:x.parts[i]?=some y):
 (decide (max (ao (x.parts.take i):Int) (bH y (most-1))<most-1)=true->
   (ao (x.parts.take (i+1)):Int)<most-1/\max (ao (x.parts.take i):Int) (bH y (most-1))=(ao (x.parts.take (i+1)):Int))/\
 (decide (max (ao (x.parts.take i):Int) (bH y (most-1))<most-1)=false->(ao (x.parts.take i):Int)<most-1->
   max (ao (x.parts.take i):Int) (bH y (most-1))=bH x most-1):=by
 have h1:=nX hy;have h2:=uM x.parts (i+1);have h3:=eD x;unfold bH;constructor
 ·intro hd;simp at hd;omega
 ·intro hd _;simp at hd;omega
open Go.Shelf in
theorem Bv:∀x,Ap x:=by
 refine aC.NZ fun x ih=>?_;intro c most w h h1 h2;have hx:=mw x;cases hm:(most==1)
 ·have hm':1<most:=by simp at hm;omega
  have H:=qD h;have IH:=qD ih;clear h ih;go_enter func150,ntmps150;go_wp2_with fail;have B1:aG (((w.alloc (.cells c.arr 29)).alloc (.cells #[.int .i64 most] 3)).alloc (.cells #[.int .i64 0] 3)) (w.heap.size+1) 3 #[.int .i64 most]:=(aG.Mm sM).alloc _;have B2:aG (((w.alloc (.cells c.arr 29)).alloc (.cells #[.int .i64 most] 3)).alloc (.cells #[.int .i64 0] 3)) (w.heap.size+1+1) 3 #[.int .i64 0]:=aG.Mm sM;have B3:Bl w (((w.alloc (.cells c.arr 29)).alloc (.cells #[.int .i64 most] 3)).alloc (.cells #[.int .i64 0] 3)):=(((OG _ _).alloc (qL) _).alloc sM _).alloc sO _;have B4:=H.out.lt.Mr (G:=fun b=>b≠w.heap.size+1+1) (w':=(((w.alloc (.cells c.arr 29)).alloc (.cells #[.int .i64 most] 3)).alloc (.cells #[.int .i64 0] 3))) fun b hb _=>⟨by omega,B3.block b hb.2⟩;have hsz:(((w.alloc (.cells c.arr 29)).alloc (.cells #[.int .i64 most] 3)).alloc (.cells #[.int .i64 0] 3)).heap.size=w.heap.size+3:=by simp
  refine(vK 198 (w.heap.size+1+1) (w.heap.size+1) x c _ B4 (Ly x most (w.heap.size+1+1) (w.heap.size+1)) (fun wr=>aG wr (w.heap.size+1+1) 3 #[.int .i64 (bH x most-1)]) (enters_of func198 kR rfl) ⟨by simp[ao];omega,by simpa[ao] using B2,B1⟩ ?_ ?_ ?_).mono ?_
  ·rintro i w1 w2 ⟨a,b,d⟩ hb;exact⟨a,b.step hb,d.step hb⟩
  ·rintro i y u wr hy ⟨a,b,d⟩ hb hr;obtain⟨n1,n2⟩:=yZ (most:=most) hy;refine(yX y (IH.out y (OJ hy)) u _ _ _ most wr hr b d oM oM a h2).mono ?_;rintro e w' ⟨rfl,k1,k2⟩;refine⟨_,rfl,k1,fun hd=>?_,fun hd=>?_⟩
   ·obtain⟨n3,n4⟩:=n1 hd;rw[n4] at k2;exact⟨n3,k2,d.but k1 oM⟩
   ·rw[n2 hd a] at k2;exact k2
  ·rintro wr ⟨a,b,d⟩;rw[Rq] at a b
   have e:(ao x.parts:Int)=bH x most-1:=by
    have:=eD x;unfold bH;omega
   rw[e] at b;exact b
  ·rintro e w' ⟨rfl,hb,hf⟩;have q:=hf.cell 0;simp at q;have HB:=qD (B3.trans (hb.below oM oM));clear B1 B2 B3 B4 hb hf H IH;have r1:1<=bH x most/\bH x most<=17:=by unfold bH;omega
   go_wp2;go_ret;exact⟨Hg oM,HB.out⟩
 ·obtain rfl:most=1:=by simp at hm;omega
  clear h ih;go_enter func150,ntmps150;go_wp2;go_ret;refine⟨?_,(((OG _ _).alloc (qL) _).alloc sM _)⟩;have e:bH x 1=1:=by unfold bH;omega
  rw[e];rfl
def sQ(b:UInt8):Bool:=decide (33<=b.toNat)&&decide (b.toNat<=126)&&!(b.toNat==46)
def JN(b:UInt8):Bool:=decide (32<=b.toNat)&&decide (b.toNat<=126)
def aM(s:ByteArray):Bool:=decide (1<=s.size)&&decide (s.size<=32)&&!(s.data.toList.head?.map UInt8.toNat==some 36)&&s.data.toList.all sQ
def jd(s:ByteArray):Bool:=decide (1<=s.size)&&decide (s.size<=128)&&s.data.toList.all JN
theorem ia(s:ByteArray)(i:Nat)(h:i<s.size):s.data.toList[i]?=some s[i]:=by
 rw[OH (by simpa using h)];rfl
theorem nd{p:UInt8->Bool}(h:i<s.size)(ha:(s.data.toList.take i).all p=true)(hp:p s[i]=true):(s.data.toList.take (i+1)).all p=true:=by
 rw[take_snoc' (ia s i h),Rz,ha];simp[hp]
theorem fg{p:UInt8->Bool}(h:i<s.size)(hp:p s[i]=false):s.data.toList.all p=false:=by
 rw[SF];exact⟨s[i],OJ (ia s i h),by simp[hp]⟩
theorem qA{p:UInt8->Bool}(h:s.size<=i)(ha:(s.data.toList.take i).all p=true):s.data.toList.all p=true:=by
 rwa [OS (by simpa using h)] at ha
theorem mN(s:ByteArray)(h:0<s.size):s.data.toList.head?.map UInt8.toNat=some s[0].toNat:=by
 rw[List.head?_eq_getElem?,ia s 0 h];rfl
theorem ng{p:UInt8->Bool}{l:List UInt8}:(l.take 0).all p=true:=by simp
theorem my(s:ByteArray)(w:World):Calls prog 200 #[.string s] w fun e w'=>e=.returned (.bool (aM s))/\w'=w:=by
 by_cases h1:s.size<1
 ·have HV:Hid (aM s=false):=by unfold Hid aM;rw[OV oM];rfl
  go_enter func200,TA;go_wp2;go_ret;exact⟨by rw[HV.out];rfl,rfl⟩
 by_cases h2:32<s.size
 ·have HV:Hid (aM s=false):=by unfold Hid aM;rw[OM oM,OV oM];rfl
  go_enter func200,TA;go_wp2;go_ret;exact⟨by rw[HV.out];rfl,rfl⟩
 cases h3:((s[0].toNat:Int)==36);rotate_left
 ·have HV:Hid (aM s=false):=by
   have:s[0].toNat=36:=by simp at h3;omega
   unfold Hid aM;rw[OM oM,OM oM,mN s oM,this];rfl
  go_enter func200,TA;go_wp2;go_ret;exact⟨by rw[HV.out];rfl,rfl⟩
 have HA:Hid (aM s=s.data.toList.all sQ):=by
  have:¬s[0].toNat=36:=by simp at h3;omega
  unfold Hid aM;rw[OM oM,OM oM,mN s oM];simp[this]
 go_enter func200,TA;go_wp2_with fail
 go_loopw [19] (fun v wr=>∃i:Nat,i<=s.size/\v=.int .i64 i/\(s.data.toList.take i).all sQ=true/\wr=w) (fun v _=>s.size-(intOf v).toNat)
 ·exact⟨0,ON _,rfl,ng,rfl⟩
 case round=>
  obtain⟨i,hi,rfl,ha,rfl⟩:=hrel;have HL:=qD ha;clear ha;by_cases hlt:i<s.size
  ·have hx:=s[i].toNat_lt;by_cases hb:(s[i].toNat:Int)<33
   ·have HV:Hid (aM s=false):=by rw[Hid,HA.out];exact fg hlt (by unfold sQ;rw[OV oM];rfl)
    go_wp2;go_ret;exact⟨by rw[HV.out];rfl,rfl⟩
   by_cases hc:126<(s[i].toNat:Int)
   ·have HV:Hid (aM s=false):=by rw[Hid,HA.out];exact fg hlt (by unfold sQ;rw[OM oM,OV oM];rfl)
    go_wp2;go_ret;exact⟨by rw[HV.out];rfl,rfl⟩
   cases hd:((s[i].toNat:Int)==46);rotate_left
   ·have HV:Hid (aM s=false):=by
     have:s[i].toNat=46:=by simp at hd;omega
     rw[Hid,HA.out];exact fg hlt (by unfold sQ;rw[this];rfl)
    go_wp2;go_ret;exact⟨by rw[HV.out];rfl,rfl⟩
   have HN:Hid ((s.data.toList.take (i+1)).all sQ=true):=by
    have:¬s[i].toNat=46:=by simp at hd;omega
    exact nd hlt HL.out (by unfold sQ;rw[OM oM,OM oM];simp[this])
   go_wp2_with fail;go_roundw
   ·exact⟨i+1,by omega,by go_num,HN.out,trivial⟩
   ·exact iO
  ·have HV:Hid (aM s=true):=by rw[Hid,HA.out];exact qA oM HL.out
   go_wp2;go_ret;exact⟨by rw[HV.out];rfl,rfl⟩
theorem iR(s:ByteArray)(w:World):Calls prog 59 #[.string s] w fun e w'=>e=.returned (.bool (aM s))/\w'=w:=by
 by_cases h1:s.size<1
 ·have HV:Hid (aM s=false):=by unfold Hid aM;rw[OV oM];rfl
  go_enter func59,ntmps59;go_wp2;go_ret;exact⟨by rw[HV.out];rfl,rfl⟩
 by_cases h2:32<s.size
 ·have HV:Hid (aM s=false):=by unfold Hid aM;rw[OM oM,OV oM];rfl
  go_enter func59,ntmps59;go_wp2;go_ret;exact⟨by rw[HV.out];rfl,rfl⟩
 cases h3:((s[0].toNat:Int)==36);rotate_left
 ·have HV:Hid (aM s=false):=by
   have:s[0].toNat=36:=by simp at h3;omega
   unfold Hid aM;rw[OM oM,OM oM,mN s oM,this];rfl
  go_enter func59,ntmps59;go_wp2;go_ret;exact⟨by rw[HV.out];rfl,rfl⟩
 have HA:Hid (aM s=s.data.toList.all sQ):=by
  have:¬s[0].toNat=36:=by simp at h3;omega
  unfold Hid aM;rw[OM oM,OM oM,mN s oM];simp[this]
 go_enter func59,ntmps59;go_wp2_with fail
 go_loopw [3] (fun v wr=>∃i:Nat,i<=s.size/\v=.int .i64 i/\(s.data.toList.take i).all sQ=true/\wr=w) (fun v _=>s.size-(intOf v).toNat)
 ·exact⟨0,ON _,rfl,ng,rfl⟩
 case round=>
  obtain⟨i,hi,rfl,ha,rfl⟩:=hrel;have HL:=qD ha;clear ha;by_cases hlt:i<s.size
  ·have hx:=s[i].toNat_lt;by_cases hb:(s[i].toNat:Int)<33
   ·have HV:Hid (aM s=false):=by rw[Hid,HA.out];exact fg hlt (by unfold sQ;rw[OV oM];rfl)
    go_wp2;go_ret;exact⟨by rw[HV.out];rfl,rfl⟩
   by_cases hc:126<(s[i].toNat:Int)
   ·have HV:Hid (aM s=false):=by rw[Hid,HA.out];exact fg hlt (by unfold sQ;rw[OM oM,OV oM];rfl)
    go_wp2;go_ret;exact⟨by rw[HV.out];rfl,rfl⟩
   cases hd:((s[i].toNat:Int)==46);rotate_left
   ·have HV:Hid (aM s=false):=by
     have:s[i].toNat=46:=by simp at hd;omega
     rw[Hid,HA.out];exact fg hlt (by unfold sQ;rw[this];rfl)
    go_wp2;go_ret;exact⟨by rw[HV.out];rfl,rfl⟩
   have HN:Hid ((s.data.toList.take (i+1)).all sQ=true):=by
    have:¬s[i].toNat=46:=by simp at hd;omega
    exact nd hlt HL.out (by unfold sQ;rw[OM oM,OM oM];simp[this])
   go_wp2_with fail;go_roundw
   ·exact⟨i+1,by omega,by go_num,HN.out,trivial⟩
   ·exact iO
  ·have HV:Hid (aM s=true):=by rw[Hid,HA.out];exact qA oM HL.out
   go_wp2;go_ret;exact⟨by rw[HV.out];rfl,rfl⟩
def cE(t:ByteArray):Bool:=Lib.validD t.data.toList
def dU(k n:Int)(t:ByteArray)(ln dn:Nat):Prop:=
 (k=3\/k=9\/k=10\/n=0)/\(k=4\/k=7\/k=8\/t.size=0)/\(k=6\/ln=0)/\(k=5\/dn=0)/\
 (k=1\/k=2\/k=11\/k=3\/(k=9/\(n=0\/n=1))\/(k=10/\0<=n)\/(k=4/\t.size<=4096/\cE t=true)\/(k=7/\t.size<=4096)\/(k=8/\t.size=12)\/k=6\/k=5)
def ib(nm:ByteArray->Bool)(d:List bf):Prop:=(∀f∈d,nm f.s=true)/\(d.map bf.s).Nodup
end
mutual
def aw(nm:ByteArray->Bool):aC->Prop
 | .mk k n t l d=>dU k n t l.length d.length/\nh nm l/\ni nm d/\ib nm d
def nh(nm:ByteArray->Bool):List aC->Prop
 | []=>True
 | x::r=>aw nm x/\nh nm r
def ni(nm:ByteArray->Bool):List bf->Prop
 | []=>True
 | f::r=>ya nm f/\ni nm r
def ya(nm:ByteArray->Bool):bf->Prop
 | .mk _ v=>aw nm v
end
section
variable {k b n m i b' c:Nat} {t:TypeId} {a x y d:Int} {l:List ByteArray} {v:Value} {s:ByteArray}
theorem vL(nm:ByteArray->Bool)(l:List aC):nh nm l↔∀y∈l,aw nm y:=by
 induction l with
 | nil=>simp[nh]
 | cons x r ih=>simp[nh,ih]
theorem yb(nm:ByteArray->Bool)(f:bf):ya nm f↔aw nm f.v:=by cases f;simp only[ya];rfl
theorem vM(nm:ByteArray->Bool)(d:List bf):ni nm d↔∀f∈d,aw nm f.v:=by
 induction d with
 | nil=>simp[ni]
 | cons x r ih=>simp[ni,ih,yb]
theorem aT(nm:ByteArray->Bool)(x:aC):aw nm x↔dU x.k x.n x.t x.l.length x.d.length/\(∀y∈x.l,aw nm y)/\(∀f∈x.d,aw nm f.v)/\ib nm x.d:=by
 cases x;rw[aw,vL,vM];rfl
def bz(nm:ByteArray->Bool)(d:List bf):Prop:=ib nm d/\∀f∈d,aw nm f.v
noncomputable def aQ(nm:ByteArray->Bool)(x:aC):Bool:=@decide (aw nm x) (Classical.propDecidable _)
noncomputable def dV(nm:ByteArray->Bool)(d:List bf):Bool:=@decide (bz nm d) (Classical.propDecidable _)
section
variable {nm:ByteArray->Bool} {x:aC} {d:List bf}
theorem ci(h:aw nm x):aQ nm x=true:=by unfold aQ;exact @OM _ (Classical.propDecidable _) h
theorem iI(h:¬aw nm x):aQ nm x=false:=by unfold aQ;exact @OV _ (Classical.propDecidable _) h
theorem eE:aQ nm x=true↔aw nm x:=by unfold aQ;exact @Py _ (Classical.propDecidable _)
theorem kL:aQ nm x=false↔¬aw nm x:=by unfold aQ;exact @decide_eq_false_iff_not _ (Classical.propDecidable _)
theorem iJ(h:bz nm d):dV nm d=true:=by unfold dV;exact @OM _ (Classical.propDecidable _) h
theorem dI(h:¬bz nm d):dV nm d=false:=by unfold dV;exact @OV _ (Classical.propDecidable _) h
theorem bz.nil:bz nm []:=⟨⟨by simp,by simp⟩,by simp⟩
theorem bz.next{f:bf}(h:bz nm (d.take i))(hf:d[i]?=some f)(h1:nm f.s=true)(h2:f.s∉(d.take i).map bf.s)(h3:aw nm f.v):bz nm (d.take (i+1)):=by
 rw[take_snoc' hf];refine⟨⟨fun g hg=>?_,?_⟩,fun g hg=>?_⟩
 ·rcases OP.1 hg with hg|hg
  ·exact h.1.1 g hg
  ·simp at hg;subst hg;exact h1
 ·rw[Oo,List.nodup_append];refine⟨h.1.2,by simp,fun a ha b hb=>?_⟩;simp at hb;subst hb;intro e;subst e;exact h2 ha
 ·rcases OP.1 hg with hg|hg
  ·exact h.2 g hg
  ·simp at hg;subst hg;exact h3
theorem bz.NM{f:bf}(hf:d[i]?=some f)(h1:nm f.s=false):¬bz nm d:=fun h=>by
 have:=h.1.1 f (OJ hf);rw[h1] at this;cases this
theorem bz.NJ{f:bf}(hf:d[i]?=some f)(h1:¬aw nm f.v):¬bz nm d:=fun h=>h1 (h.2 f (OJ hf))
theorem bz.NU{f:bf}(hf:d[i]?=some f)(h1:f.s∈(d.take i).map bf.s):¬bz nm d:=fun h=>by
 have hn:=h.1.2;have e:d=d.take i++f::d.drop (i+1):=by rw[<-cU hf,Oh]
 rw[e,Oo,List.nodup_append] at hn;exact hn.2.2 f.s h1 f.s sM rfl
end
theorem Bw{nm:ByteArray->Bool}{x:aC}(hk:x.k=5)(hh:dU x.k x.n x.t x.l.length x.d.length):aQ nm x=dV nm x.d:=by
 have hl:x.l=[]:=OL (by have:=hh.2.2.1;omega);by_cases h:bz nm x.d
 ·rw[iJ h];exact ci ((aT nm x).2 ⟨hh,by simp[hl],h.2,h.1⟩)
 ·rw[dI h];exact iI fun hs=>h ⟨((aT nm x).1 hs).2.2.2,((aT nm x).1 hs).2.2.1⟩
theorem ye{nm:ByteArray->Bool}{x:aC}(hk:x.k=6)(hh:dU x.k x.n x.t x.l.length x.d.length)(h:∀y∈x.l,aw nm y):aQ nm x=true:=by
 have hd:x.d=[]:=OL (by have:=hh.2.2.2.1;omega);exact ci ((aT nm x).2 ⟨hh,h,by simp[hd],by simp[hd,ib]⟩)
theorem aR{nm:ByteArray->Bool}{x:aC}(h:¬dU x.k x.n x.t x.l.length x.d.length):aQ nm x=false:=iI fun hs=>h ((aT nm x).1 hs).1
theorem nj{nm:ByteArray->Bool}{x:aC}{y:aC}(hy:x.l[i]?=some y)(h:¬aw nm y):aQ nm x=false:=iI fun hs=>h (((aT nm x).1 hs).2.1 y (OJ hy))
theorem br{nm:ByteArray->Bool}{x:aC}(h5:x.k≠5)(h6:x.k≠6)(hh:dU x.k x.n x.t x.l.length x.d.length):aQ nm x=true:=by
 have hl:x.l=[]:=OL (by have:=hh.2.2.1;omega);have hd:x.d=[]:=OL (by have:=hh.2.2.2.1;omega);exact ci ((aT nm x).2 ⟨hh,by simp[hl],by simp[hd],by simp[hd,ib]⟩)
noncomputable def aJ(x:aC):Bool:=decide (x.size<=1024)&&decide (x.Ms<=16)&&aQ aM x
def mi(c d:Int):Int:=if c≠0 then c else d
theorem qJ(c d:Int):c≠0/\mi c d=c\/c=0/\mi c d=d:=by
 unfold mi;by_cases h:c=0
 ·exact .inr ⟨h,by simp[h]⟩
 ·exact .inl ⟨h,by simp[h]⟩
theorem TR.lx{b c a' b' c':Int}(h:TR a b c)(h':TR a' b' c'):TR (mi a a') (mi b b') (mi c c'):=by
 intro h1 h2;rcases qJ a a' with ha|ha<;>rcases qJ b b' with hb|hb<;>rcases qJ c c' with hc|hc
 all_goals
  have H:=h oM oM;by_cases hab:a=0/\b=0
  ·have H':=h' oM oM;omega
  ·omega
theorem vN(a b:Int):-1<=cd a b/\cd a b<=1:=by unfold cd Lib.compareInt;repeat' split<;>omega
theorem od(a b:Int):cd b a=-cd a b:=by unfold cd Lib.compareInt;repeat' split<;>omega
theorem dJ(a b:Int):a<b/\cd a b=-1\/a=b/\cd a b=0\/b<a/\cd a b=1:=by unfold cd Lib.compareInt;repeat' split<;>omega
theorem uO(a b c:Int):TR (cd a b) (cd b c) (cd a c):=by
 unfold TR;intro h1 h2;rcases dJ a b with h|h|h<;>rcases dJ b c with h' | h' | h'<;>rcases dJ a c with h3|h3|h3<;>omega
theorem eg{b:Int}:cd a b=0↔a=b:=by unfold cd Lib.compareInt;repeat' split<;>omega
theorem tB:∀a b:List UInt8,-1<=Lib.compareBytes a b/\Lib.compareBytes a b<=1
 | [],[]=>by simp[Lib.compareBytes]
 | [],_::_=>by simp[Lib.compareBytes]
 | _::_,[]=>by simp[Lib.compareBytes]
 | a::a2,b::b2=>by
  rw[Lib.compareBytes]
  repeat' split
  ·omega
  ·omega
  ·exact tB a2 b2
theorem fz(a b:UInt8)(l m:List UInt8):Lib.compareBytes (a::l) (b::m)=mi (cd (a.toNat:Int) (b.toNat:Int)) (Lib.compareBytes l m):=by
 rw[Lib.compareBytes];unfold cd Lib.compareInt mi;have e1:a<b↔a.toNat<b.toNat:=Pg;have e2:b<a↔b.toNat<a.toNat:=Pg;rcases RL a.toNat b.toNat with h|h|h
 ·rw[OW (e1.2 h),OW (show(a.toNat:Int)<b.toNat by omega)];rfl
 ·rw[OQ (by rw[e1];omega),OQ (by rw[e2];omega),OQ (show ¬(a.toNat:Int)<b.toNat by omega),OQ (show ¬(a.toNat:Int)>b.toNat by omega)];rfl
 ·rw[OQ (by rw[e1];omega),OW (e2.2 h),OQ (show ¬(a.toNat:Int)<b.toNat by omega),OW (show(a.toNat:Int)>b.toNat by omega)];rfl
theorem je{c c' d':Int}(h:c'=-c)(h':d'=-d):mi c' d'=-mi c d:=by unfold mi;repeat' split<;>omega
theorem uP{c:Int}(h:-1<=c/\c<=1)(h':-1<=d/\d<=1):-1<=mi c d/\mi c d<=1:=by unfold mi;split<;>omega
theorem lK{c:Int}:mi c d=0↔c=0/\d=0:=by unfold mi;split<;>omega
theorem qK:∀a b:List UInt8,Lib.compareBytes b a=-Lib.compareBytes a b
 | [],[]=>by simp[Lib.compareBytes]
 | [],_::_=>by simp[Lib.compareBytes]
 | _::_,[]=>by simp[Lib.compareBytes]
 | a::a2,b::b2=>by rw[fz,fz];exact je (od _ _) (qK a2 b2)
theorem vO:∀a b c:List UInt8,TR (Lib.compareBytes a b) (Lib.compareBytes b c) (Lib.compareBytes a c)
 | [],[],[]=>by simp[Lib.compareBytes,TR]
 | [],[],_::_=>by simp[Lib.compareBytes,TR]
 | [],_::_,[]=>by simp[Lib.compareBytes,TR]
 | [],_::_,_::_=>by simp[Lib.compareBytes,TR]
 | _::_,[],[]=>by simp[Lib.compareBytes,TR]
 | _::_,[],_::_=>by simp[Lib.compareBytes,TR]
 | _::_,_::_,[]=>by simp[Lib.compareBytes,TR]
 | a::a2,b::b2,c::c2=>by
  rw[fz,fz,fz];exact(uO _ _ _).lx (vO a2 b2 c2)
theorem qM:∀a b:List UInt8,Lib.compareBytes a b=0↔a=b
 | [],[]=>by simp[Lib.compareBytes]
 | [],_::_=>by simp[Lib.compareBytes]
 | _::_,[]=>by simp[Lib.compareBytes]
 | a::a2,b::b2=>by
  rw[fz,lK,eg,qM a2 b2];constructor
  ·rintro⟨h1,rfl⟩;rw[show a=b from QM.1 oM]
  ·intro h;injection h with h1 h2
   exact⟨by rw[h1],h2⟩
theorem jf{a b:ByteArray}:bh a b=0↔a=b:=by
 unfold bh;rw[qM];exact⟨fun h=>RR h,fun h=>by rw[h]⟩
end
structure EL(x:aC):Prop where
 rng:∀y,-1<=aZ x y/\aZ x y<=1
 anti:∀y,aZ y x=-aZ x y
 tr:∀y z,TR (aZ x y) (aZ y z) (aZ x z)
structure MA(l:List aC):Prop where
 rng:∀m,-1<=dA l m/\dA l m<=1
 anti:∀m,dA m l=-dA l m
 tr:∀m n,TR (dA l m) (dA m n) (dA l n)
structure MB(l:List bf):Prop where
 rng:∀m,-1<=cI l m/\cI l m<=1
 anti:∀m,cI m l=-cI l m
 tr:∀m n,TR (cI l m) (cI m n) (cI l n)
section
variable {k b g m c:Nat} {a x y:Int} {l r:List ByteArray} {v:Value} {s:ByteArray}
theorem ic(f g:bf):Bt f g=mi (bh f.s g.s) (aZ f.v g.v):=by rw[uN];rfl
theorem gA(x y:aC)(r s:List aC):dA (x::r) (y::s)=mi (aZ x y) (dA r s):=by rw[dA];rfl
theorem gB(x y:bf)(r s:List bf):cI (x::r) (y::s)=mi (Bt x y) (cI r s):=by rw[cI];rfl
theorem Km:∀l:List aC,(∀x∈l,EL x)->MA l:=by
 intro l
 induction l with
 | nil=>
  intro _;refine⟨fun m=>?_,fun m=>?_,fun m n=>?_⟩
  ·cases m<;>simp[dA]
  ·cases m<;>simp[dA]
  ·cases m<;>cases n<;>simp[dA,TR]
 | cons x r ih=>
  intro h;have hx:=h x sM;have hr:=ih fun y hy=>h y (by simp[hy]);refine⟨fun m=>?_,fun m=>?_,fun m n=>?_⟩
  ·cases m with
   | nil=>simp[dA]
   | cons y s=>rw[gA];exact uP (hx.rng y) (hr.rng s)
  ·cases m with
   | nil=>simp[dA]
   | cons y s=>rw[gA,gA];exact je (hx.anti y) (hr.anti s)
  ·cases m with
   | nil=>cases n<;>simp[dA,TR]
   | cons y s=>
    cases n with
    | nil=>simp[dA,TR]
    | cons z t=>
     rw[gA,gA,gA];exact(hx.tr y z).lx (hr.tr s t)
theorem qN(a b:ByteArray):-1<=bh a b/\bh a b<=1:=tB _ _
theorem gC(a b:ByteArray):bh b a=-bh a b:=qK _ _
theorem nk(a b c:ByteArray):TR (bh a b) (bh b c) (bh a c):=vO _ _ _
theorem MC:∀l:List bf,(∀f∈l,EL f.v)->MB l:=by
 intro l
 induction l with
 | nil=>
  intro _;refine⟨fun m=>?_,fun m=>?_,fun m n=>?_⟩
  ·cases m<;>simp[cI]
  ·cases m<;>simp[cI]
  ·cases m<;>cases n<;>simp[cI,TR]
 | cons x r ih=>
  intro h;have hx:=h x sM;have hr:=ih fun y hy=>h y (by simp[hy]);refine⟨fun m=>?_,fun m=>?_,fun m n=>?_⟩
  ·cases m with
   | nil=>simp[cI]
   | cons y s=>rw[gB,ic];exact uP (uP (qN _ _) (hx.rng y.v)) (hr.rng s)
  ·cases m with
   | nil=>simp[cI]
   | cons y s=>rw[gB,gB,ic,ic];exact je (je (gC _ _) (hx.anti y.v)) (hr.anti s)
  ·cases m with
   | nil=>cases n<;>simp[cI,TR]
   | cons y s=>
    cases n with
    | nil=>simp[cI,TR]
    | cons z t=>
     rw[gB,gB,gB,ic,ic,ic];exact((nk _ _ _).lx (hx.tr y.v z.v)).lx (hr.tr s t)
def qO(x y:aC):Int:=if x.k=3\/x.k=9\/x.k=10 then cd x.n y.n else if x.k=4\/x.k=7\/x.k=8 then bh x.t y.t else if x.k=6 then dA x.l y.l else if x.k=5 then cI x.d y.d else 0
theorem nB{x y:aC}(h:x.k=y.k):aZ x y=qO x y:=by rw[iH,OQ (by simpa using h)];rfl
theorem Ix:∀x,EL x:=by
 intro x
 induction x using aC.ind with
 | h k n t l d ihl ihd=>
 have hL:=Km l ihl;have hD:=MC d ihd
 have rK:∀y,-1<=qO (.mk k n t l d) y/\qO (.mk k n t l d) y<=1:=by
  intro y;unfold qO;split
  ·exact vN _ _
  ·split
   ·exact qN _ _
   ·split
    ·exact hL.rng y.l
    ·split
     ·exact hD.rng y.d
     ·omega
 have aK:∀y,y.k=k->qO y (.mk k n t l d)=-qO (.mk k n t l d) y:=by
  intro y hy;unfold qO;rw[hy];simp only[show(aC.mk k n t l d).k=k from rfl];split
  ·exact od _ _
  ·split
   ·exact gC _ _
   ·split
    ·exact hL.anti y.l
    ·split
     ·exact hD.anti y.d
     ·rfl
 have tK:∀y z,y.k=k->TR (qO (.mk k n t l d) y) (qO y z) (qO (.mk k n t l d) z):=by
  intro y z hy;unfold qO;rw[hy];simp only[show(aC.mk k n t l d).k=k from rfl];split
  ·exact uO _ _ _
  ·split
   ·exact nk _ _ _
   ·split
    ·exact hL.tr y.l z.l
    ·split
     ·exact hD.tr y.d z.d
     ·simp[TR]
 refine⟨fun y=>?_,fun y=>?_,fun y z=>?_⟩
 ·by_cases h:(aC.mk k n t l d).k=y.k
  ·rw[nB h];exact rK y
  ·rw[bX h];exact vN _ _
 ·by_cases h:(aC.mk k n t l d).k=y.k
  ·rw[nB h,nB h.symm];exact aK y h.symm
  ·rw[bX h,bX (fun e=>h e.symm)];exact od _ _
 ·intro h1 h2;have hk:(aC.mk k n t l d).k=k:=rfl
  have ek:cd k y.k<=0:=by
   by_cases h:k=y.k
   ·rw[eg.2 h];omega
   ·rw[bX (by rw[hk];exact h)] at h1;exact h1
  have ek2:cd y.k z.k<=0:=by
   by_cases h:y.k=z.k
   ·rw[eg.2 h];omega
   ·rw[bX h] at h2;exact h2
  have ek3:=uO k y.k z.k ek ek2;by_cases h:k=y.k
  ·by_cases h':y.k=z.k
   ·rw[nB (y:=y) (by rw[hk];exact h)] at h1 ⊢;rw[nB h'] at h2 ⊢;rw[nB (y:=z) (by rw[hk];omega)];exact tK y z h.symm h1 h2
   ·have h3:k≠z.k:=oM
    rw[bX h'] at h2 ⊢;rw[bX (y:=z) (by rw[hk];exact h3),hk,<-h];have:=fun e=>h3 (eg.1 e);rw[<-h] at h2;refine⟨h2,fun e=>absurd e this,fun e=>absurd e.2 this⟩
  ·have h3:cd k y.k≠0:=fun e=>h (eg.1 e);have h4:cd k z.k≠0:=fun e=>h3 (ek3.2.1 e).1;have e1:aZ (.mk k n t l d) y=cd k y.k:=bX (by rw[hk];exact h);have e2:aZ (.mk k n t l d) z=cd k z.k:=bX (by rw[hk];exact fun e=>h4 (eg.2 e));rw[e1,e2];exact⟨ek3.1,fun e=>absurd e h4,fun e=>absurd e.1 h3⟩
theorem iS(x y:aC):aZ y x=-aZ x y:=(Ix x).anti y
theorem Aq(x y z:aC):TR (aZ x y) (aZ y z) (aZ x z):=(Ix x).tr y z
theorem Bx(x:aC):aZ x x=0:=by have:=iS x x;omega
theorem Hh{l:List aC}:∀{m:List aC},(∀x∈l,∀y,aZ x y=0->y∈m->x=y)->dA l m=0->l=m:=by
 induction l with
 | nil=>intro m _ h;cases m with
  | nil=>rfl
  | cons y s=>simp[dA] at h
 | cons x r ih=>
  intro m hx h;cases m with
  | nil=>simp[dA] at h
  | cons y s=>
   rw[gA,lK] at h;rw[hx x sM y h.1 sM,ih (fun a ha b hb hm=>hx a (by simp[ha]) b hb (by simp[hm])) h.2]
theorem Hi{l:List bf}:∀{m:List bf},(∀x∈l,∀y,aZ x.v y.v=0->y∈m->x.v=y.v)->cI l m=0->l=m:=by
 induction l with
 | nil=>intro m _ h;cases m with
  | nil=>rfl
  | cons y s=>simp[cI] at h
 | cons x r ih=>
  intro m hx h;cases m with
  | nil=>simp[cI] at h
  | cons y s=>
   rw[gB,lK,ic,lK] at h;have e1:x.s=y.s:=jf.1 h.1.1;have e2:x.v=y.v:=hx x sM y h.1.2 sM;have e:x=y:=by cases x;cases y;simp only[bf.s,bf.v] at e1 e2;rw[e1,e2]
   rw[e,ih (fun a ha b hb hm=>hx a (by simp[ha]) b hb (by simp[hm])) h.2]
theorem mO{nm:ByteArray->Bool}:∀x y:aC,aw nm x->aw nm y->aZ x y=0->x=y:=by
 intro x
 induction x using aC.ind with
 | h k n t l d ihl ihd=>
 intro y hx hy h;obtain⟨hx0,hx1,hx2,_⟩:=(aT nm _).1 hx;obtain⟨hy0,hy1,hy2,_⟩:=(aT nm _).1 hy
 have hk:k=y.k:=by
  by_cases e:(aC.mk k n t l d).k=y.k
  ·exact e
  ·rw[bX e] at h;exact absurd (eg.1 h) e
 cases y with
 | mk k' n' t' l' d'=>
 simp only[aC.k,aC.n,aC.t,aC.l,aC.d] at*;subst hk;have h':(if k=3\/k=9\/k=10 then cd n n' else if k=4\/k=7\/k=8 then bh t t' else if k=6 then dA l l' else if k=5 then cI d d' else 0)=0:=(nB (x:=.mk k n t l d) (y:=.mk k n' t' l' d') rfl).symm.trans h;have nil:∀{α:Type} {a b:List α},a.length=0->b.length=0->a=b:=fun ha hb=>by rw[OL ha,OL hb]
 have emp:∀{a b:ByteArray},a.size=0->b.size=0->a=b:=fun {a b} ha hb=>RR (by
  rw[OL (l:=a.data.toList) (by simpa using ha),OL (l:=b.data.toList) (by simpa using hb)])
 obtain⟨a1,a2,a3,a4,_⟩:=hx0;obtain⟨b1,b2,b3,b4,_⟩:=hy0;split at h'
 ·rename_i hi
  rw[eg.1 h',emp (a:=t) (b:=t') oM oM,nil (a:=l) (b:=l') oM oM,nil (a:=d) (b:=d') oM oM]
 ·split at h'
  ·rename_i hi ht
   rw[show n=n' by omega,jf.1 h',nil (a:=l) (b:=l') oM oM,nil (a:=d) (b:=d') oM oM]
  ·split at h'
   ·rename_i hi ht h6
    rw[show n=n' by omega,emp (a:=t) (b:=t') oM oM,nil (a:=d) (b:=d') oM oM,
     Hh (fun a ha b hb hm=>ihl a ha b (hx1 a ha) (hy1 b hm) hb) h']
   ·split at h'
    ·rename_i hi ht h6 h5
     rw[show n=n' by omega,emp (a:=t) (b:=t') oM oM,nil (a:=l) (b:=l') oM oM,
      Hi (fun a ha b hb hm=>ihd a ha b.v (hx2 a ha) (hy2 b hm) hb) h']
    ·rw[show n=n' by omega,emp (a:=t) (b:=t') oM oM,nil (a:=l) (b:=l') oM oM,nil (a:=d) (b:=d') oM oM]
end
end Go.Proofs.YtgfoliedmhgpnaaGreatDoor
