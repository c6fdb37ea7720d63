/- Parts of the proof, joined: MgCarI, MgSorted, IvRec, IvBaseA1, ShAwPure, ShKey1. -/
import Derived.Test.YtlmmgjgkmbmgpaaGreatDoorCa15
import Derived.Test.YtlmmgjgkmbmgpaaGreatDoorCa20
import Derived.Test.YtlmmgjgkmbmgpaaGreatDoorCa19
import Derived.Test.YtlmmgjgkmbmgpaaGreatDoorCa22
import Derived.Test.YtlmmgjgkmbmgpaaGreatDoorCa23
import Derived.Test.YtlmmgjgkmbmgpaaGreatDoorCa21
import Derived.Test.YtlmmgjgkmbmgpaaGreatDoorCa13
import Derived.Test.YtlmmgjgkmbmgpaaGreatDoorCa2
import Derived.Test.YtlmmgjgkmbmgpaaGreatDoorCa10
import Derived.Test.YtlmmgjgkmbmgpaaGreatDoorCa6
import Derived.Test.YtlmmgjgkmbmgpaaGreatDoorCa3
import Derived.Test.YtlmmgjgkmbmgpaaGreatDoorCa16
import Derived.Test.YtlmmgjgkmbmgpaaGreatDoorCa18
import Derived.Test.YtlmmgjgkmbmgpaaGreatDoorCa4
import Derived.Deep.RegionHeld3
import Derived.Laws.OwnMore
/- The state of the walk of MigrateCarries: what holds between two changes. -/
namespace Go.Proofs.YtlmmgjgkmbmgpaaGreatDoor
open Go.RowKit
set_option linter.unusedSimpArgs false

theorem keyE_partsM {ks : List Od} {ha : Bool} (h : keyE ks ha = 0) : ks.length ≤ 8 ∧ (ha = true → ks.length = 1) := by
  unfold keyE at h
  split at h
  · rename_i h1; exact absurd h h1
  · rename_i h1
    split at h
    · cases h
    · rename_i h2
      have h3 : ordE ks = 0 := by simpa using h1
      unfold ordE at h3
      split at h3
      · cases h3
      · rename_i h4
        have h5 : ¬ ks.length = 0 := fun e => h2 (.inl e)
        exact ⟨by omega, fun hh => by
          have : ¬ 1 < ks.length := fun e => h2 (.inr ⟨hh, e⟩)
          omega⟩
theorem exec_mid {P : Program} {op : Oper} {a : Act} {w : World} {ty : TypeId} {x : Operand} {b o : Nat} {cs : List Value} {d : TypeDesc} (ho : op.op = .load ty x) (hx : a.eval x = .pointer (some ⟨b, o, none⟩)) (hc : w.rangeAt b o cs)
    (hu : P.underlying ty = some d) (hd : d.isRow = true) (hi : (P.info? ty).map (·.size) = some cs.length) : (execOp a.eval op).run P w = .ok (.value (.agg cs.toArray)) w := by
  unfold execOp
  simp only [ho, hx, Instr.loadAt, Instr.sureAddr, Sem.run_bind, Sem.run_pure, Result.andThen_ok, run_loadVar_mid w b o ty cs d hc hu hd hi]
theorem rangeAt_step {w w' : World} {b o : Nat} {cs : List Value} (h : w.rangeAt b o cs) (hb : Below w.heap.size w w') : w'.rangeAt b o cs :=
  fun j v hj => (hb.cell (World.block_lt_of_cell? w _ (h j v hj))).trans (h j v hj)
theorem rangeAt_row {w : World} {b o g : Nat} {cs : List Value} (h : w.rangeAt b o cs) (hne : b ≠ g) (row : Array Value) : (w.setRow g row).rangeAt b o cs :=
  fun j v hj => (World.cell?_of_block (setRow_other w g b row hne)).trans (h j v hj)
theorem XS.range {w : World} {A : Option Addr} {n c : Nat} {xs : List PX} (h : XS w A n c xs) {i : Nat} {p : PX} (hp : xs[i]? = some p) : ∃ b off, A = some ⟨b, off, none⟩ ∧ b < w.heap.size ∧ w.rangeAt b (off + i * 78) p.1 ∧ IsW w p.1 p.2 := by
  have hi : i < xs.length := (List.getElem?_eq_some_iff.1 hp).1
  obtain ⟨b, off, e, hl, hc⟩ := h.sr.el (by have := h.sr.ln; omega)
  exact ⟨b, off, e, hl, fun j v hj => hc i p hp j v hj, h.is p (List.mem_of_getElem? hp)⟩
theorem WS.range {F : Nat → Prop} {w : World} {A : Option Addr} {n c : Nat} {ps : List PW} (h : WS F w A n c ps) {i : Nat} {p : PW} (hp : ps[i]? = some p) : ∃ b off, A = some ⟨b, off, none⟩ ∧ b < w.heap.size ∧ w.rangeAt b (off + i * 78) (recC78 p.1) ∧ RW1 F w p.1 p.2 := by
  have hi : i < ps.length := (List.getElem?_eq_some_iff.1 hp).1
  obtain ⟨b, off, e, hl, hc⟩ := h.sr.el (by have := h.sr.ln; omega)
  exact ⟨b, off, e, hl, fun j v hj => hc i p hp j v hj, h.el p (List.mem_of_getElem? hp)⟩
/-- a write of the program as a caller's write -/
def wxOf (p : PW) : Wx := ⟨p.1.kd, p.1.sp, p.1.key, p.2.key, p.1.doc, p.2.doc, none, 0, 0⟩
theorem isW_rec {w : World} {p : PW} (h : RW1 (fun _ => True) w p.1 p.2) : IsW w (recC78 p.1) (wxOf p) :=
  ⟨rfl, rfl, rfl, fun j u hj => by
    match j, hj with
    | 0, hj => exact hj
    | 1, hj => exact hj
    | 2, hj => exact hj
    | 3, hj => exact hj
    | 4, hj => exact hj
    | j + 5, hj => simp [wxOf, VC.list] at hj, fun j u hj => by
    match j, hj with
    | 0, hj => exact hj
    | 1, hj => exact hj
    | 2, hj => exact hj
    | 3, hj => exact hj
    | 4, hj => exact hj
    | j + 5, hj => simp [wxOf, VC.list] at hj, rfl, by show p.1.sp.size ≤ reach; rw [h.sp]; exact h.sz, h.key, h.doc⟩
theorem carryX_of {w : World} {p : PW} {F : Nat → Prop} (h : RW1 F w p.1 p.2) (L : List Val) : carryX L (wxOf p) = carryV L p.2 := by
  unfold carryX carryV wxOf
  simp only [h.kd]
theorem carryV_len (L : List Val) (w : Wt) : (carryV L w).length ≤ L.length + 1 := by
  unfold carryV
  rw [List.length_append]
  have := List.length_filter_le (fun x => !sameId w.key x) L
  split <;> simp <;> omega
theorem carryX_wt (L : List Val) (x : Wx) : carryX L x = carryV L (wtX x) := rfl
theorem noteX_wt (R : Ro) (sp lo hi : ByteArray) (x : Wx) : noteX R sp lo hi x = noteL R sp lo hi (wtX x) := rfl
theorem noteL_len (R : Ro) (sp lo hi : ByteArray) (w : Wt) : (noteL R sp lo hi w).length ≤ 1 := by
  unfold noteL
  split
  · split
    · simp
    · split <;> simp
  · simp
theorem WsI.row_move {lo : Nat} {w wr : World} {v : Value} {ps : List PW} {g : Nat} {t : TypeId} {a : MA} {M : Mv} (h : WsI lo w v ps wr) (q : Blk wr g t (marr a M)) (h0 : 0 < g) (h1 : w.heap.size ≤ g) (h2 : g < lo) (cs : Array Value) : WsI lo w v ps (wr.setRow g cs) :=
  ⟨own_keep h.own fun b hb => setRow_other _ _ _ _ (by have := own_ge h.own b hb; omega), fun p hp => by
    have := h.rv p hp
    exact ⟨this.kd, this.sp, this.si, this.sz, this.key.row_move q h0 cs, this.doc.row_move q h0 cs⟩, h.lo, below_row h.bel h1 cs⟩
abbrev sarr (a : RA) (R : Ro) (lo : ByteArray) (tt ea : Int) (DA : Option Addr) (dn dc : Nat) (XA : Option Addr) (xn xc : Nat) : Array Value :=
  #[.string R.sp, .slice a.KA a.kn a.kc, .bool R.ha, .int .i64 R.ep, .int .i64 R.ver, .slice a.CA a.cn a.cc, .string lo, .int .i64 tt, .slice DA dn dc, .slice XA xn xc, .int .i64 ea]
/-- the migration between two changes -/
abbrev mvC (M : Mv) (cp ch : List Wt) : Mv := ⟨M.sp, M.lo, M.hi, M.fr, M.tt, 2, cp, ch⟩
/-- what holds ahead of change i: ds the documents, al the writes that were loaded, cp and ch what the migration holds -/
structure CarI (w : World) (lo g gx : Nat) (X : Array Value) (R : Ro) (M : Mv) (i : Nat) (A : Option Addr) (n c : Nat) (ds : List PV) (v : Value) (al : List PW) (mb : MA) (cp ch : List Wt) (wr : World) : Prop where
  be : Below w.heap.size w wr
  sz : lo ≤ wr.heap.size
  bx : Blk wr gx 31 X
  bm : Blk wr g 37 (marr mb (mvC M cp ch))
  mr : MR wr mb (mvC M cp ch)
  sl : SL (fun b => v.ownBlock ≠ some b) wr A n c ds
  nl : n ≤ 20 + i
  vs : WsI lo w v al wr
  st : Story R M.sp M.lo M.hi (ds.map Prod.snd) (al.map Prod.snd ++ (cp ++ ch))
  ln : al.length + (cp.length + ch.length) ≤ 20 + i
theorem CarI.step {w wr w' : World} {lo g gx i n c : Nat} {X : Array Value} {R : Ro} {M : Mv} {A : Option Addr} {ds : List PV} {v : Value} {al : List PW} {mb : MA} {cp ch : List Wt} (h : CarI w lo g gx X R M i A n c ds v al mb cp ch wr) (hb : Below wr.heap.size wr w') : CarI w lo g gx X R M i A n c ds v al mb cp ch w' :=
  ⟨h.be.step' hb, Nat.le_trans h.sz hb.size, h.bx.step hb, h.bm.step hb, h.mr.step hb, h.sl.step hb, h.nl, h.vs.step hb, h.st, h.ln⟩
theorem CarI.next {w wr : World} {lo g gx i n c : Nat} {X : Array Value} {R : Ro} {M : Mv} {A : Option Addr} {ds : List PV} {v : Value} {al : List PW} {mb : MA} {cp ch : List Wt} (h : CarI w lo g gx X R M i A n c ds v al mb cp ch wr) : CarI w lo g gx X R M (i + 1) A n c ds v al mb cp ch wr :=
  { h with nl := by have := h.nl; omega, ln := by have := h.ln; omega }
/-- the migration's writes were loaded: they were appended, and the migration is stored without them -/
theorem CarI.load {w wr w1 w2 : World} {lo g gx i n c : Nat} {X : Array Value} {R : Ro} {M : Mv} {A : Option Addr} {ds : List PV} {v v' : Value} {al ls : List PW} {mb : MA} {cp ch : List Wt} {LA : Option Addr} {ln lc m : Nat}
    (h : CarI w lo g gx X R M i A n c ds v al mb cp ch wr) (hg0 : 0 < g) (hg1 : w.heap.size ≤ g) (hg2 : g < lo) (hx : gx ≠ g) (hgx : gx < lo) (hb : Below wr.heap.size wr w1) (hs : WS (fun b => wr.heap.size ≤ b) w1 LA ln lc ls) (hl : ls.map Prod.snd = cp ++ ch)
    (hm : m = al.length + ls.length) (ho : w2.ownsRow lo 68 78 v' m (flat recW al ++ flat recW ls)) (hgr : (w1.setRow g (marr MA.zero (mvC M [] []))).grownBy w2 v.ownBlock) (hat : v'.ownBlock = v.ownBlock ∨ v'.ownBlock = some (w1.setRow g (marr MA.zero (mvC M [] []))).heap.size) :
    CarI w lo g gx X R M i A n c ds v' (al ++ ls) MA.zero [] [] w2 := by
  have C1 := h.step hb
  have hlg : g < (w1.setRow g (marr MA.zero (mvC M [] []))).heap.size := by rw [size_setRow]; exact C1.bm.lt
  have hne : ∀ b, b < lo → v.ownBlock ≠ some b := fun b hb e => by have := own_ge h.vs.own b e; omega
  have V1 := C1.vs.row_move C1.bm hg0 hg1 hg2 (marr MA.zero (mvC M [] []))
  have hrw : ∀ p ∈ ls, RW1 (fun b => v.ownBlock ≠ some b) (w1.setRow g (marr MA.zero (mvC M [] []))) p.1 p.2 := fun p hp => by
    have := (hs.el p hp).mono (G := fun b => v.ownBlock ≠ some b) fun b hb e => by have := own_lt h.vs.own e; omega
    exact ⟨this.kd, this.sp, this.si, this.sz, this.key.row_move C1.bm hg0 _, this.doc.row_move C1.bm hg0 _⟩
  have hln : ls.length = cp.length + ch.length := by
    have := congrArg List.length hl
    rw [List.length_map, List.length_append] at this
    exact this
  have hown : ∀ b, v.ownBlock = some b → lo ≤ b := own_ge h.vs.own
  have hbm : Blk (w1.setRow g (marr MA.zero (mvC M [] []))) g 37 (marr MA.zero (mvC M [] [])) := C1.bm.row _
  have hbx : Blk (w1.setRow g (marr MA.zero (mvC M [] []))) gx 31 X := C1.bx.row_far hx _
  have hS := C1.sl.row_move C1.bm hg0 (marr MA.zero (mvC M [] []))
  refine ⟨?_, ?_, ?_, ?_, ?_, ?_, h.nl, V1.addL hrw hm ho hgr hat, ?_, ?_⟩
  · exact (below_row C1.be hg1 _).grown hgr (by rw [size_setRow]; exact C1.be.size) (fun k hk => by have := hown k hk; have := h.vs.lo; omega)
  · have := hgr.size; rw [size_setRow] at this; exact Nat.le_trans C1.sz this
  · exact hbx.grown hgr fun e => hne gx hgx e.symm
  · exact hbm.grown hgr fun e => hne g hg2 e.symm
  · exact ⟨h.mr.sp, ⟨[], rfl, WS.nil⟩, ⟨[], rfl, WS.nil⟩⟩
  · refine hS.keepG fun b hb hl => ⟨?_, hgr.block b hl fun e => hb e.symm⟩
    rcases hat with e | e <;> rw [e]
    · exact hb
    · intro e'
      injection e' with e'
      omega
  · have := h.st
    rw [List.map_append, hl, List.append_nil, List.append_nil]
    exact this
  · rw [List.length_append, hln]
    have := h.ln
    simp
    omega
/-- a change: the documents are carried on, and the migration notes it -/
theorem CarI.note {w wr w1 w2 : World} {lo g gx i n c n' c' : Nat} {X : Array Value} {R : Ro} {M : Mv} {A A' : Option Addr} {ds es : List PV} {v : Value} {al : List PW} {mb mb' : MA} {cp ch : List Wt} {x : Wx}
    (h : CarI w lo g gx X R M i A n c ds v al mb cp ch wr) (hg0 : 0 < g) (hg1 : w.heap.size ≤ g) (hg2 : g < lo) (hx : gx ≠ g) (hb : Below wr.heap.size wr w1)
    (hs : SL (fun b => v.ownBlock ≠ some b ∨ wr.heap.size ≤ b) w1 A' n' c' es) (he : es.map Prod.snd = carryX (ds.map Prod.snd) x) (hb2 : Below w1.heap.size w1 w2) (hm : MR w2 mb' (mvC M cp (ch ++ noteX R M.sp M.lo M.hi x)))
    (hf : FitW R M.sp M.lo M.hi (ds.map Prod.snd) (wtX x)) :
    CarI w lo g gx X R M (i + 1) A' n' c' es v al mb' cp (ch ++ noteX R M.sp M.lo M.hi x) (w2.setRow g (marr mb' (mvC M cp (ch ++ noteX R M.sp M.lo M.hi x)))) := by
  have C2 := (h.step hb).step hb2
  refine ⟨below_row C2.be hg1 _, by rw [size_setRow]; exact C2.sz, C2.bx.row_far hx _, C2.bm.row _, hm.row_move C2.bm hg0 _, ?_, ?_, C2.vs.row_move C2.bm hg0 hg1 hg2 _, ?_, ?_⟩
  · refine ((hs.step hb2).mono fun b hb => ?_).row_move C2.bm hg0 _
    rcases hb with hb | hb
    · exact hb
    · intro e
      have := own_lt h.vs.own e
      omega
  · have h1 := congrArg List.length he
    have h2 := carryV_len (ds.map Prod.snd) (wtX x)
    rw [carryX_wt] at h1
    rw [List.length_map] at h1 h2
    have h3 := hs.sr.ln
    have h4 := h.sl.sr.ln
    have := h.nl
    omega
  · rw [he, carryX_wt, noteX_wt]
    have := h.st.next hf
    rw [List.append_assoc, List.append_assoc] at this
    exact this
  · have := noteL_len R M.sp M.lo M.hi (wtX x)
    rw [noteX_wt, List.length_append]
    have := h.ln
    omega
end Go.Proofs.YtlmmgjgkmbmgpaaGreatDoor



/- The law's sorted. Printed by gen_mgsort.py. -/
namespace Go.Proofs.YtlmmgjgkmbmgpaaGreatDoor
open Go.RowKit
set_option linter.unusedSimpArgs false

theorem alloc_leS {a : Nat} {w : World} (h : a ≤ w.heap.size) (o : Obj) : a ≤ (w.alloc o).heap.size := by simp; omega
theorem StV.len {l m : List Val} (h : StV l m) : m.length = l.length := by
  obtain ⟨S, hs, rfl⟩ := h
  have h1 := hs.perm.length_eq
  have h2 : ∀ (l : List Val) (n : Nat), (tagFrom n l).length = l.length := by
    intro l
    induction l with
    | nil => intro n; rfl
    | cons a r ih => intro n; simp [tagFrom, ih]
  rw [List.length_map, h1, h2]
theorem pickL_snoc (docs ks : List Val) (k : Val) : pickL docs (ks ++ [k]) = pickL docs ks ++ (docs.find? (fun d => sameId k d)).toList := by
  unfold pickL
  rw [List.flatMap_append]
  simp
theorem pick_at {ps : List PV} {m : Nat} {p : PV} {k : Val} (hp : ps[m]? = some p) (hno : ∀ (i : Nat) (y : PV), i < m → ps[i]? = some y → sameId k y.2 = false) (hs : sameId k p.2 = true) : (ps.map Prod.snd).find? (fun d => sameId k d) = some p.2 := by
  induction ps generalizing m with
  | nil => simp at hp
  | cons a r ih =>
    rw [List.map_cons, List.find?_cons]
    cases m with
    | zero =>
      simp at hp
      subst hp
      rw [hs]
    | succ m =>
      have h0 := hno 0 a (by omega) rfl
      rw [h0]
      exact ih (by simpa using hp) fun i y hi hy => hno (i + 1) y (by omega) (by simpa using hy)
theorem pick_none {ps : List PV} {k : Val} (hno : ∀ (i : Nat) (y : PV), i < ps.length → ps[i]? = some y → sameId k y.2 = false) : (ps.map Prod.snd).find? (fun d => sameId k d) = none := by
  rw [List.find?_eq_none]
  intro x hx
  obtain ⟨y, hy, rfl⟩ := List.mem_map.1 hx
  obtain ⟨i, hi⟩ := List.getElem?_of_mem hy
  rw [hno i y (List.getElem?_eq_some_iff.1 hi).1 hi]
  simp
def SdOk (L : List Val) (w : World) (e : Ending) (w' : World) : Prop := ∃ (A : Option Addr) (n c : Nat) (qs : List PV), e = .returned (.slice A n c) ∧ SortedD L (qs.map Prod.snd) ∧ SL (fun _ => True) w' A n c qs ∧ Below w.heap.size w w'

set_option maxRecDepth 100000 in
set_option maxHeartbeats 4000000 in
theorem sorted_any (ps : List PV) (A : Option Addr) (n c : Nat) (w : World) (h : SL (fun _ => True) w A n c ps) (hn : n ≤ 900) :
    Calls Tryz.prog 19 #[.slice A n c] w (SdOk (ps.map Prod.snd) w) := by
  obtain ⟨i0, hi0, hy0, hy1, hy2⟩ := info_parts info_value
  have H := Lib.hid h
  have HLN : Hid (n = ps.length) := h.sr.ln
  clear h
  go_enter Tryz.func19, Tryz.ntmps19
  go_wp2_with fail
  go_loopw [3, 5] (fun u3 u5 wr => ∃ (i : Nat) (qs : List PV), i ≤ n ∧ u5 = .int .i64 i ∧ qs.map Prod.snd = ((ps.map Prod.snd).take i).map idV ∧ VsI w u3 qs wr) (fun _ u5 _ => n - (intOf u5).toNat)
  case atStart => exact ⟨0, [], Nat.zero_le _, rfl, rfl, VsI.start w⟩
  case round =>
    obtain ⟨i, qs, hile, rfl, hqs, hvs⟩ := hrel
    have HQS := Lib.hid hqs
    have VS := Lib.hid hvs
    have hql : qs.length ≤ 900 := by
      have h1 := congrArg List.length hqs
      rw [List.length_map, List.length_map, List.length_take] at h1
      omega
    have HQN : Hid (qs.length = i) := by
      have h1 := congrArg List.length hqs
      rw [List.length_map, List.length_map, List.length_take, List.length_map] at h1
      have := HLN.out
      unfold Hid
      omega
    clear hqs hvs
    by_cases hlt : i < n
    · obtain ⟨p, hp⟩ : ∃ p, ps[i]? = some p := ⟨_, List.getElem?_eq_getElem (by have := HLN.out; omega)⟩
      have HPi := Lib.hid hp
      obtain ⟨b, off, rfl, _, hu, hr⟩ := (H.out.step VS.out.bel).vat hp
      have HPR : Hid (RV (fun b => True ∧ b < w.heap.size) wr p.1 p.2) := ((H.out.rv p (List.mem_of_getElem? hp)).lt).step VS.out.bel
      obtain ⟨a0, a1, a2, a3, a4⟩ := hu
      have i0' : (0 : Int) ≤ (i : Int) := by omega
      have i1' : (i : Int) < (n : Int) := by omega
      clear hp hr
      go_wp2_with fail
      refine (id51_any p.2 p.1 wr HPR.out).mono ?_
      rintro e wb ⟨c1, rfl, hr, hb⟩
      have VS2 := Lib.hid (VS.out.step hb)
      have HRP : Hid (RV (fun b => Value.ownBlock u3 ≠ some b) wb c1 (idV p.2)) := hr.mono fun b hb => VS2.out.far (.inl hb.2)
      clear hr hb VS HPR a0 a1 a2 a3 a4
      have HQ2 : Hid ((qs ++ [(c1, idV p.2)]).map Prod.snd = ((ps.map Prod.snd).take (i + 1)).map idV) := by
        rw [Hid, take_snoc' (show (ps.map Prod.snd)[i]? = some p.2 by rw [List.getElem?_map, HPi.out]; rfl), List.map_append, List.map_append, HQS.out]
        rfl
      have hlo : w.heap.size ≤ wb.heap.size := VS2.out.bel.size
      have LK := Lib.hid (VS2.out.step ((Below.refl wb.heap.size wb).alloc (Nat.le_refl _) (Obj.cells (VC.arr c1) 46)))
      have HRZ : Hid (RV (fun b => Value.ownBlock u3 ≠ some b) (wb.alloc (Obj.cells (VC.arr c1) 46)) c1 (idV p.2)) := RV.alloc (HRP.out) _
      go_wp2_with (at_builtin; refine wpList_append_any _ rfl _ _ 28 rfl w.heap.size 46 i0 VC.zero.val 5 80 Tryz.underlying28 hi0 hy0 hy1 hy2 rfl (by decide) u3 qs.length (flat recV qs) rfl LK.out.own _ _ 1 _ (recV (c1, (idV p.2))) rfl ⟨rfl, fun _ => ⟨_, rfl, Nat.lt_succ_self _, news_at _ _ _⟩⟩ (recV_one _) (by unfold maxLen; omega) (by omega) (alloc_leS hlo _) ?_)
      intro v' w6 hown hgr hat
      have HI := Lib.hid (LK.out.add (p := (c1, (idV p.2))) HRZ.out rfl hown hgr (by rw [size_alloc]; exact hat))
      clear hown hgr hat LK HRZ
      go_wp2_with fail
      go_roundw
      case rel => exact ⟨i + 1, qs ++ [(c1, idV p.2)], by omega, by go_num, HQ2.out, HI.out⟩
      case measure => simp [intOf]; omega
    · have hik : i = n := by omega
      subst hik
      have HALL : Hid (qs.map Prod.snd = (ps.map Prod.snd).map idV) := by
        have := HQS.out
        rwa [List.take_of_length_le (by rw [List.length_map, HLN.out]; exact Nat.le_refl _)] at this
      obtain ⟨A1, c1, hu, hsl⟩ := VS.out.sl (by omega)
      have HSL := Lib.hid hsl
      have HBR := Lib.hid VS.out.bel
      subst hu
      clear hsl VS HQS
      generalize wr = wq at *
      go_wp2_with fail
      refine (refSort_any qs A1 qs.length c1 wq HSL.out).mono ?_
      rintro e w2 ⟨A2, n2, c2, ks, rfl, hst, hsl, hb⟩
      have hkn : n2 = ks.length := hsl.sr.ln
      have hkl : ks.length = qs.length := by
        have h1 := hst.len
        simpa using h1
      have HST : Hid (StV ((ps.map Prod.snd).map idV) (ks.map Prod.snd)) := by rw [Hid, ← HALL.out]; exact hst
      have HKN := Lib.hid hkn
      have hn2 : n2 ≤ 900 := by omega
      have HK := Lib.hid hsl
      have HBS := Lib.hid (HBR.out.step' hb)
      clear hst hsl hb HSL HBR hkn hkl HALL
      go_wp2_with fail
      go_loopw [4, 6] (fun u4 u6 wr => ∃ (j : Nat) (os : List PV), j ≤ n2 ∧ u6 = .int .i64 j ∧ os.map Prod.snd = pickL (ps.map Prod.snd) ((ks.map Prod.snd).take j) ∧ os.length ≤ j ∧ VsI w2 u4 os wr) (fun _ u6 _ => n2 - (intOf u6).toNat)
      case atStart => exact ⟨0, [], Nat.zero_le _, rfl, rfl, Nat.le_refl _, VsI.start w2⟩
      case round =>
        obtain ⟨j, os, hjle, rfl, hos, hol, hvs⟩ := hrel
        have HOS := Lib.hid hos
        have VX := Lib.hid hvs
        clear hos hvs
        generalize wr = wo at *
        by_cases hlt : j < n2
        · obtain ⟨q, hq⟩ : ∃ q, ks[j]? = some q := ⟨_, List.getElem?_eq_getElem (by have := HKN.out; omega)⟩
          have HKJ := Lib.hid hq
          have j0' : (0 : Int) ≤ (j : Int) := by omega
          have j1' : (j : Int) < (n2 : Int) := by omega
          clear hq
          go_wp2_with fail
          go_loopw [4, 7] (fun u4 u7 wr => ∃ m : Nat, m ≤ i ∧ u7 = .int .i64 m ∧ (∀ (i : Nat) (y : PV), i < m → ps[i]? = some y → sameId q.2 y.2 = false) ∧ VsI w2 u4 os wr) (fun _ u7 _ => i - (intOf u7).toNat)
          case atStart => exact ⟨0, Nat.zero_le _, rfl, fun i y hi => absurd hi (by omega), VX.out⟩
          case round =>
            obtain ⟨m, hmle, rfl, hno, hvx⟩ := hrel
            clear VX
            have HNO := Lib.hid hno
            have VX := Lib.hid hvx
            clear hno hvx
            by_cases hlm : m < i
            · obtain ⟨p, hp⟩ : ∃ p, ps[m]? = some p := ⟨_, List.getElem?_eq_getElem (by have := HLN.out; omega)⟩
              have HPM := Lib.hid hp
              have HBX := Lib.hid (HBS.out.step' VX.out.bel)
              obtain ⟨b, off, rfl, _, hu, hr⟩ := (H.out.step HBX.out).vat hp
              obtain ⟨bk, ok, rfl, _, hu2, hr2⟩ := (HK.out.step VX.out.bel).vat HKJ.out
              have HPA := Lib.hid hu
              have HQA := Lib.hid hu2
              have HPR := Lib.hid hr
              have HQR := Lib.hid hr2
              have m0' : (0 : Int) ≤ (m : Int) := by omega
              have m1' : (m : Int) < (i : Int) := by omega
              clear hp hu hr hu2 hr2
              go_upto_region 13 with fail
              have B : Hid (Below wr.heap.size wr wr.drew) := Lib.hid ((Below.refl wr.heap.size wr).drew)
              have KSS : Hid (∀ w' : World, Below wr.heap.size wr w' → (fun w' => w'.cell? ⟨b, off + m * 5, none⟩ = some (.int .i64 p.1.k) ∧ w'.cell? ⟨b, off + m * 5 + 1, none⟩ = some (.int .i64 p.1.n) ∧ w'.cell? ⟨b, off + m * 5 + 2, none⟩ = some (.string p.1.t) ∧ w'.cell? ⟨b, off + m * 5 + 3, none⟩ = some (.slice p.1.LA p.1.ln p.1.lc) ∧ w'.cell? ⟨b, off + m * 5 + 4, none⟩ = some (.slice p.1.DA p.1.dn p.1.dc) ∧ w'.cell? ⟨bk, ok + j * 5, none⟩ = some (.int .i64 q.1.k) ∧ w'.cell? ⟨bk, ok + j * 5 + 1, none⟩ = some (.int .i64 q.1.n) ∧ w'.cell? ⟨bk, ok + j * 5 + 2, none⟩ = some (.string q.1.t) ∧ w'.cell? ⟨bk, ok + j * 5 + 3, none⟩ = some (.slice q.1.LA q.1.ln q.1.lc) ∧ w'.cell? ⟨bk, ok + j * 5 + 4, none⟩ = some (.slice q.1.DA q.1.dn q.1.dc)) w') := Lib.hid fun w' hb => by
                obtain ⟨a0, a1, a2, a3, a4⟩ := HPA.out
                obtain ⟨b0, b1, b2, b3, b4⟩ := HQA.out
                have cl : ∀ {x : Addr} {v : Value}, wr.cell? x = some v → w'.cell? x = some v := fun h => (hb.cell (World.block_lt_of_cell? wr _ h)).trans h
                exact ⟨cl a0, cl a1, cl a2, cl a3, cl a4, cl b0, cl b1, cl b2, cl b3, cl b4⟩
              have SRP : Hid (∀ w' : World, Below wr.heap.size wr w' → RW w' p.1 p.2) := Lib.hid fun w' hb => HPR.out.step hb
              have SRQ : Hid (∀ w' : World, Below wr.heap.size wr w' → RW w' q.1 q.2) := Lib.hid fun w' hb => HQR.out.step hb
              refine wp_region_noPanic ?_
              refine wp_region_held_drew (S := (fun w' => w'.cell? ⟨b, off + m * 5, none⟩ = some (.int .i64 p.1.k) ∧ w'.cell? ⟨b, off + m * 5 + 1, none⟩ = some (.int .i64 p.1.n) ∧ w'.cell? ⟨b, off + m * 5 + 2, none⟩ = some (.string p.1.t) ∧ w'.cell? ⟨b, off + m * 5 + 3, none⟩ = some (.slice p.1.LA p.1.ln p.1.lc) ∧ w'.cell? ⟨b, off + m * 5 + 4, none⟩ = some (.slice p.1.DA p.1.dn p.1.dc) ∧ w'.cell? ⟨bk, ok + j * 5, none⟩ = some (.int .i64 q.1.k) ∧ w'.cell? ⟨bk, ok + j * 5 + 1, none⟩ = some (.int .i64 q.1.n) ∧ w'.cell? ⟨bk, ok + j * 5 + 2, none⟩ = some (.string q.1.t) ∧ w'.cell? ⟨bk, ok + j * 5 + 3, none⟩ = some (.slice q.1.LA q.1.ln q.1.lc) ∧ w'.cell? ⟨bk, ok + j * 5 + 4, none⟩ = some (.slice q.1.DA q.1.dn q.1.dc))) (by kernel_rfl) ?_ (fun hHeld => ?_)
              · (try dsimp only); exact KSS.out _ B.out
              generalize wr.drew = v0 at *
              refine wpAnyH_take (i := 0) (v := ?_) (take_at rfl) (by kernel_rfl) (by kernel_rfl) (by kernel_rfl) (fun _ _ _ h => h) (Or.inl ⟨by rfl, ?_⟩) (by assumption) ?_
              rotate_left
              · intro w' hSw; (try dsimp only at hSw); go_simp; (try with_reducible rfl)
              (try simp only [Act.put, List.setIfInBounds_toArray, List.set_cons_zero, List.set_cons_succ])
              refine wpAnyH_take (i := 1) (v := ?_) (take_at rfl) (by kernel_rfl) (by kernel_rfl) (by kernel_rfl) (fun _ _ _ h => h) (Or.inl ⟨by rfl, ?_⟩) (by assumption) ?_
              rotate_left
              · intro w' hSw; (try dsimp only at hSw); go_simp; (try with_reducible rfl)
              (try simp only [Act.put, List.setIfInBounds_toArray, List.set_cons_zero, List.set_cons_succ])
              refine wpAnyH_take (i := 2) (v := ?_) (take_at rfl) (by kernel_rfl) (by kernel_rfl) (by kernel_rfl) (fun _ _ _ h => h) (Or.inl ⟨by rfl, ?_⟩) (by assumption) ?_
              rotate_left
              · intro w' hSw; (try dsimp only at hSw); go_simp; (try with_reducible rfl)
              (try simp only [Act.put, List.setIfInBounds_toArray, List.set_cons_zero, List.set_cons_succ])
              refine wpAnyH_take (i := 3) (v := ?_) (take_at rfl) (by kernel_rfl) (by kernel_rfl) (by kernel_rfl) (fun _ _ _ h => h) (Or.inl ⟨by rfl, ?_⟩) (by assumption) ?_
              rotate_left
              · intro w' hSw; (try dsimp only at hSw); go_simp; (try with_reducible rfl)
              (try simp only [Act.put, List.setIfInBounds_toArray, List.set_cons_zero, List.set_cons_succ])
              refine wpAnyH_take (i := 5) (v := ?_) (take_at rfl) (by kernel_rfl) (by kernel_rfl) (by kernel_rfl) (fun _ _ _ h => h) (Or.inl ⟨by rfl, ?_⟩) (by assumption) ?_
              rotate_left
              · intro w' hSw; (try dsimp only at hSw); go_simp; (try with_reducible rfl)
              (try simp only [Act.put, List.setIfInBounds_toArray, List.set_cons_zero, List.set_cons_succ])
              refine wpAnyH_take (i := 6) (v := ?_) (take_at rfl) (by kernel_rfl) (by kernel_rfl) (by kernel_rfl) (fun _ _ _ h => h) (Or.inl ⟨by rfl, ?_⟩) (by assumption) ?_
              rotate_left
              · intro w' hSw; (try dsimp only at hSw); go_simp; (try with_reducible rfl)
              (try simp only [Act.put, List.setIfInBounds_toArray, List.set_cons_zero, List.set_cons_succ])
              refine wpAnyH_take (i := 7) (v := ?_) (take_at rfl) (by kernel_rfl) (by kernel_rfl) (by kernel_rfl) (fun _ _ _ h => h) (Or.inl ⟨by rfl, ?_⟩) (by assumption) ?_
              rotate_left
              · intro w' hSw; (try dsimp only at hSw); go_simp; (try with_reducible rfl)
              (try simp only [Act.put, List.setIfInBounds_toArray, List.set_cons_zero, List.set_cons_succ])
              refine wpAnyH_take (i := 8) (v := ?_) (take_at rfl) (by kernel_rfl) (by kernel_rfl) (by kernel_rfl) (fun _ _ _ h => h) (Or.inl ⟨by rfl, ?_⟩) (by assumption) ?_
              rotate_left
              · intro w' hSw; (try dsimp only at hSw); go_simp; (try with_reducible rfl)
              (try simp only [Act.put, List.setIfInBounds_toArray, List.set_cons_zero, List.set_cons_succ])
              refine wpAnyH_ready (rs := [4]) (by kernel_rfl) (by simp) ?_
              refine AllReadyH.cons (take_at rfl) (fun K hK => ?_) AllReadyH.nil
              go_simp
              refine (id51_any p.2 _ v0 (SRP.out _ B.out)).mono ?_
              rintro e3 y1 ⟨c1, rfl, hr, hb⟩
              have R1 := Lib.hid hr
              clear hr
              replace B := Lib.hid (B.out.step' hb)
              clear hb
              (try go_wp2_with fail)
              refine hK.out _ _ ?_ (fun hHeld2 => ?_)
              · (try dsimp only); exact KSS.out _ B.out
              clear hK K hHeld
              have hHeld := hHeld2
              clear hHeld2
              (try simp only [Act.put, List.setIfInBounds_toArray, List.set_cons_zero, List.set_cons_succ])
              refine wpAnyH_ready (rs := [9]) (by kernel_rfl) (by simp) ?_
              refine AllReadyH.cons (take_at rfl) (fun K hK => ?_) AllReadyH.nil
              go_simp
              refine (requal_any _ _ c1 q.1 y1 R1.out (SRQ.out _ B.out)).mono ?_
              rintro e3 y2 ⟨rfl, hb⟩
              replace B := Lib.hid (B.out.step' hb)
              clear hb
              (try go_wp2_with fail)
              refine hK.out _ _ ?_ (fun hHeld2 => ?_)
              · (try dsimp only); exact KSS.out _ B.out
              clear hK K hHeld
              have hHeld := hHeld2
              clear hHeld2
              (try simp only [Act.put, List.setIfInBounds_toArray, List.set_cons_zero, List.set_cons_succ])
              refine wpAnyH_done (by kernel_rfl) ?_ _
              refine NoPanic.normal ?_
              obtain ⟨ce, hce⟩ : ∃ ce, cmpV (idV p.2) q.2 = ce := ⟨_, rfl⟩
              rw [hce]
              have HCE := Lib.hid hce
              clear hce
              have VS2 := Lib.hid (VX.out.step B.out)
              have HPA2 : Hid (VAt y2 b (off + m * 5) p.1) := by
                obtain ⟨a0, a1, a2, a3, a4⟩ := HPA.out
                have cl : ∀ {x : Addr} {v : Value}, wr.cell? x = some v → y2.cell? x = some v := fun h => (B.out.cell (World.block_lt_of_cell? wr _ h)).trans h
                exact ⟨cl a0, cl a1, cl a2, cl a3, cl a4⟩
              by_cases hz : ce = 0
              · have HF : Hid (os.map Prod.snd ++ [p.2] = pickL (ps.map Prod.snd) ((ks.map Prod.snd).take (j + 1))) := by
                  rw [Hid, take_snoc' (show (ks.map Prod.snd)[j]? = some q.2 by rw [List.getElem?_map, HKJ.out]; rfl), pickL_snoc, ← HOS.out]
                  congr 1
                  rw [pick_at HPM.out HNO.out (by unfold sameId; rw [HCE.out, hz]; rfl)]
                  rfl
                subst hz
                have HBE2 := Lib.hid (HBS.out.step' VS2.out.bel)
                have HRP : Hid (RV (fun b => Value.ownBlock u4 ≠ some b) y2 p.1 p.2) := ((H.out.rv p (List.mem_of_getElem? HPM.out)).lt.step HBE2.out).mono fun b hb => VS2.out.far (.inl (by have := HBS.out.size; have := hb.2; omega))
                clear B R1 KSS SRP SRQ hHeld VX HPA
                obtain ⟨a0, a1, a2, a3, a4⟩ := HPA2.out
                have hlo : w2.heap.size ≤ y2.heap.size := VS2.out.bel.size
                have LK := Lib.hid (VS2.out.step ((Below.refl y2.heap.size y2).alloc (Nat.le_refl _) (Obj.cells (VC.arr p.1) 46)))
                have HRZ : Hid (RV (fun b => Value.ownBlock u4 ≠ some b) (y2.alloc (Obj.cells (VC.arr p.1) 46)) p.1 p.2) := RV.alloc (HRP.out) _
                go_wp2_with (at_builtin; refine wpList_append_any _ rfl _ _ 28 rfl w2.heap.size 46 i0 VC.zero.val 5 80 Tryz.underlying28 hi0 hy0 hy1 hy2 rfl (by decide) u4 os.length (flat recV os) rfl LK.out.own _ _ 1 _ (recV (p.1, p.2)) rfl ⟨rfl, fun _ => ⟨_, rfl, Nat.lt_succ_self _, news_at _ _ _⟩⟩ (recV_one _) (by unfold maxLen; omega) (by omega) (alloc_leS hlo _) ?_)
                intro v' w6 hown hgr hat
                have HI := Lib.hid (LK.out.add (p := (p.1, p.2)) HRZ.out rfl hown hgr (by rw [size_alloc]; exact hat))
                clear hown hgr hat LK HRZ a0 a1 a2 a3 a4
                go_wp2_with fail
                go_roundw
                case rel => exact ⟨j + 1, os ++ [(p.1, p.2)], by omega, by go_num, by rw [List.map_append]; exact HF.out, by simp; omega, HI.out⟩
                case measure => simp [intOf]; omega
              · have hzb : (ce == 0) = false := by simpa using hz
                have HNN : Hid (∀ (i : Nat) (y : PV), i < m + 1 → ps[i]? = some y → sameId q.2 y.2 = false) := Lib.hid fun i y hi hy => by
                  rcases Nat.lt_or_ge i m with h | h
                  · exact HNO.out i y h hy
                  · have : i = m := by omega
                    subst this
                    rw [HPM.out] at hy
                    cases hy
                    unfold sameId
                    rw [HCE.out]
                    exact hzb
                clear B R1 KSS SRP SRQ hHeld HPA HPA2
                go_wp2_with fail
                go_roundw
                case rel => exact ⟨m + 1, by omega, by go_num, HNN.out, VS2.out⟩
                case measure => simp [intOf]; omega
            · have hmi : m = i := by omega
              subst hmi
              have HF : Hid (os.map Prod.snd = pickL (ps.map Prod.snd) ((ks.map Prod.snd).take (j + 1))) := by
                rw [Hid, take_snoc' (show (ks.map Prod.snd)[j]? = some q.2 by rw [List.getElem?_map, HKJ.out]; rfl), pickL_snoc, pick_none (by rw [← HLN.out]; exact HNO.out), ← HOS.out]
                simp
              go_wp2_with fail
              go_roundw
              case rel => exact ⟨j + 1, os, by omega, by go_num, HF.out, by omega, VX.out⟩
              case measure => simp [intOf]; omega
        · have hjk : j = n2 := by omega
          subst hjk
          have HF : Hid (os.map Prod.snd = pickL (ps.map Prod.snd) (ks.map Prod.snd)) := by
            have := HOS.out
            rwa [List.take_of_length_le (by rw [List.length_map, HKN.out]; exact Nat.le_refl _)] at this
          obtain ⟨A4, c4, hu, hsl⟩ := VX.out.sl (by omega)
          have HSL := Lib.hid hsl
          have HBE := Lib.hid (HBS.out.step' VX.out.bel)
          subst hu
          clear hsl VX
          go_wp2_with fail
          go_ret
          exact ⟨A4, os.length, c4, os, rfl, ⟨_, HST.out, HF.out⟩, HSL.out, HBE.out⟩

end Go.Proofs.YtlmmgjgkmbmgpaaGreatDoor



/- Cuts, spans and intervals in memory. -/
namespace Go.Proofs.YtlmmgjgkmbmgpaaGreatDoor
open Go.RowKit

abbrev PC := PV × Bool
abbrev PS := PC × PC
section
variable {w w' : World} {b off : Nat}
end

section
variable {w w' : World}
variable {A : Option Addr} {n c : Nat}
end
end Go.Proofs.YtlmmgjgkmbmgpaaGreatDoor



/- The contract of interval.intervals. · The contracts of interval.Normal, Has, All and Points. · The contracts of interval.Points, All and Rest. · The contract of interval.Rest. -/
namespace Go.RowKit
theorem Below.kc {w w' : World} (hb : Below w.heap.size w w') {a : Addr} {v : Value} (h : w.cell? a = some v) : w'.cell? a = some v := (hb.cell (World.block_lt_of_cell? w a h)).trans h
end Go.RowKit
namespace Go.Proofs.YtlmmgjgkmbmgpaaGreatDoor
open Go.RowKit

end Go.Proofs.YtlmmgjgkmbmgpaaGreatDoor

namespace Go.Proofs.YtlmmgjgkmbmgpaaGreatDoor
open Go.RowKit

end Go.Proofs.YtlmmgjgkmbmgpaaGreatDoor



/- What the first checks of the layers shardkey and router compute, at closed arguments. -/
namespace Go.Proofs.YtlmmgjgkmbmgpaaGreatDoor
open Go.RowKit

def ka : ByteArray := ⟨#[97]⟩
def vI (n : Int) : Val := .mk 3 n ByteArray.empty [] []
def cI (n : Int) : VC := ⟨3, n, ByteArray.empty, none, 0, 0, none, 0, 0⟩
def ks1 : List Od := [⟨[ka], false⟩]
theorem sound_i (n : Int) : SoundV nameB (vI n) := (SoundV_iff _ _).2 ⟨⟨.inl rfl, .inr (.inr (.inr rfl)), .inr rfl, .inr rfl, .inr (.inr (.inr (.inl rfl)))⟩, by simp [vI, Val.l], by simp [vI, Val.d], by simp [vI, Val.d, NamesP]⟩
theorem sound_null : SoundV nameB nullV := (SoundV_iff _ _).2 ⟨by simp [HeadP, nullV, Val.k, Val.n, Val.t, Val.l, Val.d], by simp [nullV, Val.l], by simp [nullV, Val.d], by simp [nullV, Val.d, NamesP]⟩
theorem valid_null : validV nullV = true := by
  have h1 : nullV.size = 1 := by simp [nullV, Val.size]
  have h2 : nullV.height = 1 := by simp [nullV, Val.height]
  unfold validV
  rw [decide_eq_true (by omega), decide_eq_true (by omega), soundB_true sound_null]
  rfl
theorem allow_valid {x : Val} (h : validV x = true) : allowB x = true := by unfold allowB; rw [h, Bool.or_true]
end Go.Proofs.YtlmmgjgkmbmgpaaGreatDoor



/- The key of the first checks. -/
namespace Go.Proofs.YtlmmgjgkmbmgpaaGreatDoor
open Go.RowKit

theorem st_ka {w : World} {g : Nat} (h : Blk w g 9 #[.string ka]) : ST w (some ⟨g, 0, none⟩) 1 1 [ka] := by
  refine ⟨⟨rfl, Nat.le_refl _, fun _ => ⟨g, 0, rfl, h.lt, fun i a hi j v hj => ?_⟩⟩, by show 1 * 16 ≤ reach; decide, fun s hs => ?_⟩
  · cases i with
    | zero =>
      simp at hi
      subst hi
      cases j with
      | zero => simp [recT] at hj; subst hj; exact h.cell 0
      | succ j => simp [recT] at hj
    | succ i => simp at hi
  · simp at hs; subst hs; show 1 ≤ reach; decide
theorem ks_ka {w : World} {g1 g2 : Nat} (h1 : Blk w g1 9 #[.string ka]) (h2 : Blk w g2 130 #[.slice (some ⟨g1, 0, none⟩) 1 1, .bool false]) : KS w (some ⟨g2, 0, none⟩) 1 1 ks1 := by
  refine ⟨[⟨some ⟨g1, 0, none⟩, 1, 1, false⟩], ⟨⟨rfl, Nat.le_refl _, fun _ => ⟨g2, 0, rfl, h2.lt, fun i a hi j v hj => ?_⟩⟩, by show 1 * 32 ≤ reach; decide, rfl, fun i o q ho hq => ?_⟩⟩
  · cases i with
    | zero =>
      simp at hi
      subst hi
      match j, hj with
      | 0, hj => simp [recO] at hj; subst hj; exact h2.cell 0
      | 1, hj => simp [recO] at hj; subst hj; exact h2.cell 1
      | j + 2, hj => simp [recO] at hj
    | succ i => simp at hi
  · cases i with
    | zero =>
      simp at ho
      simp [ks1] at hq
      subst ho hq
      exact ⟨rfl, st_ka h1⟩
    | succ i => simp at ho
theorem rw_i {F : Nat → Prop} (n : Int) (w : World) : RV F w (cI n) (vI n) := RVs.shut ⟨rfl, rfl, rfl, by show 0 ≤ reach; decide, rfl, Nat.le_refl _, by show 0 * 80 ≤ reach; decide, fun h => absurd h (by show ¬ (0 < 0); omega), rfl, Nat.le_refl _, by show 0 * 96 ≤ reach; decide, fun h => absurd h (by show ¬ (0 < 0); omega)⟩
abbrev cD (g : Nat) : VC := ⟨5, 0, ByteArray.empty, none, 0, 0, some ⟨g, 0, none⟩, 1, 1⟩
abbrev k5 : ByteArray := ⟨#[3, 128, 0, 0, 0, 0, 0, 0, 5]⟩
end Go.Proofs.YtlmmgjgkmbmgpaaGreatDoor


