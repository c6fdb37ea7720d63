/- Parts of the proof, joined: MgCopy, MgCW, MgStartP, MgStart. -/
import Derived.Test.YtlmmgjgkmbmgpaaGreatDoorEb16
import Derived.Test.YtlmmgjgkmbmgpaaGreatDoorEb3
import Derived.Test.YtlmmgjgkmbmgpaaGreatDoorEb15
import Derived.Test.YtlmmgjgkmbmgpaaGreatDoorEb1
import Derived.Test.YtlmmgjgkmbmgpaaGreatDoorEb11
import Derived.Deep.RegionHeld3
/- The contract of migrate.copyValue (XRoCopy with the name changed). -/
namespace Go.Proofs.YtlmmgjgkmbmgpaaGreatDoor
open Go.RowKit

set_option maxHeartbeats 1000000 in
theorem cloneV_any (xs : List PV) (A : Option Addr) (n c : Nat) (w : World) (h : SR 5 recV w A n c xs) (hn : n * 80 ≤ reach) :
    Calls Tryz.prog 122 #[.slice A n c] w fun e w' => ∃ v, e = .returned v ∧ w'.ownsRow w.heap.size 46 5 v n (flat recV xs) ∧ Below w.heap.size w w' := by
  obtain ⟨j0, hj0, hy0, hy1, hy2⟩ := info_parts info_value
  have HL := Lib.hid h.ln
  unfold reach at hn
  cases A with
  | none =>
    have h0 : n = 0 := by
      rcases Nat.eq_zero_or_pos n with h0 | h0
      · exact h0
      · obtain ⟨b, off, e, _⟩ := h.el h0; cases e
    subst h0
    have HX : Hid (xs = []) := List.eq_nil_of_length_eq_zero HL.out.symm
    clear h
    have kn := fun (w : World) => Lib.run_eql_slice_nil (P := Tryz.prog) w 28 46 none 0 c 0 0 Tryz.underlying28
    go_enter Tryz.func122, Tryz.ntmps122
    go_wp2_with fail
    go_ret
    exact ⟨_, rfl, by rw [HX.out]; exact own_nil _ _ _ _, Below.refl _ _⟩
  | some ad =>
    have HR := Lib.hid (h.reads recV_length (by omega))
    have hO : (w.alloc (Obj.cells #[] 46)).ownsRow w.heap.size 46 5 (.slice (some ⟨w.heap.size, 0, none⟩) 0 0) 0 [] :=
      ⟨rfl, .inr ⟨w.heap.size, 0, #[], rfl, Nat.le_refl _, Blk.new_at rfl, Nat.le_refl _, Nat.zero_le _, rfl, rfl⟩⟩
    have HO := Lib.hid hO
    have H1 := Lib.hid (flat_one recV_one xs)
    clear h hO
    have kn := fun (w : World) => Lib.run_eql_slice_nil (P := Tryz.prog) w 28 46 (some ad) n c 0 0 Tryz.underlying28
    go_enter Tryz.func122, Tryz.ntmps122
    go_wp2_with (at_builtin; refine wpList_append_any _ rfl _ _ 28 rfl w.heap.size 46 j0 VC.zero.val 5 80 Tryz.underlying28 hj0 hy0 hy1 hy2 rfl (by decide) (.slice (some ⟨w.heap.size, 0, none⟩) 0 0) 0 [] rfl HO.out w.heap.size (some ad) n c (flat recV xs) rfl (HR.out.alloc (Nat.le_refl _) _) H1.out (by unfold maxLen; omega) (by omega) (by simp) ?_)
    intro v' w2 hown hg _
    go_wp2_with fail
    go_ret
    refine ⟨v', rfl, by simpa using hown, ?_⟩
    exact ((Below.refl w.heap.size w).alloc (Nat.le_refl _) _).grown hg (by simp) (fun k hk => by simp [Value.ownBlock] at hk; omega)

set_option maxHeartbeats 1000000 in
theorem cloneF_any (xs : List PF) (A : Option Addr) (n c : Nat) (w : World) (h : SR 6 recF w A n c xs) (hn : n * 96 ≤ reach) :
    Calls Tryz.prog 123 #[.slice A n c] w fun e w' => ∃ v, e = .returned v ∧ w'.ownsRow w.heap.size 98 6 v n (flat recF xs) ∧ Below w.heap.size w w' := by
  obtain ⟨j0, hj0, hy0, hy1, hy2⟩ := info_parts info_field
  have HL := Lib.hid h.ln
  unfold reach at hn
  cases A with
  | none =>
    have h0 : n = 0 := by
      rcases Nat.eq_zero_or_pos n with h0 | h0
      · exact h0
      · obtain ⟨b, off, e, _⟩ := h.el h0; cases e
    subst h0
    have HX : Hid (xs = []) := List.eq_nil_of_length_eq_zero HL.out.symm
    clear h
    have kn := fun (w : World) => Lib.run_eql_slice_nil (P := Tryz.prog) w 44 98 none 0 c 0 0 Tryz.underlying44
    go_enter Tryz.func123, Tryz.ntmps123
    go_wp2_with fail
    go_ret
    exact ⟨_, rfl, by rw [HX.out]; exact own_nil _ _ _ _, Below.refl _ _⟩
  | some ad =>
    have HR := Lib.hid (h.reads recF_length (by omega))
    have hO : (w.alloc (Obj.cells #[] 98)).ownsRow w.heap.size 98 6 (.slice (some ⟨w.heap.size, 0, none⟩) 0 0) 0 [] :=
      ⟨rfl, .inr ⟨w.heap.size, 0, #[], rfl, Nat.le_refl _, Blk.new_at rfl, Nat.le_refl _, Nat.zero_le _, rfl, rfl⟩⟩
    have HO := Lib.hid hO
    have H1 := Lib.hid (flat_one recF_one xs)
    clear h hO
    have kn := fun (w : World) => Lib.run_eql_slice_nil (P := Tryz.prog) w 44 98 (some ad) n c 0 0 Tryz.underlying44
    go_enter Tryz.func123, Tryz.ntmps123
    go_wp2_with (at_builtin; refine wpList_append_any _ rfl _ _ 44 rfl w.heap.size 98 j0 (.agg (#[.string ByteArray.empty] ++ VC.zero.arr)) 6 96 Tryz.underlying44 hj0 hy0 hy1 hy2 rfl (by decide) (.slice (some ⟨w.heap.size, 0, none⟩) 0 0) 0 [] rfl HO.out w.heap.size (some ad) n c (flat recF xs) rfl (HR.out.alloc (Nat.le_refl _) _) H1.out (by unfold maxLen; omega) (by omega) (by simp) ?_)
    intro v' w2 hown hg _
    go_wp2_with fail
    go_ret
    refine ⟨v', rfl, by simpa using hown, ?_⟩
    exact ((Below.refl w.heap.size w).alloc (Nat.le_refl _) _).grown hg (by simp) (fun k hk => by simp [Value.ownBlock] at hk; omega)

/-- a row of values, of which the first i are copies -/
structure CqI (w : World) (g : Nat) (l : List Val) (i : Nat) (ps : List PV) (wr : World) : Prop where
  row : ∃ R : List Value, Blk wr g 46 (flat recV ps ++ R).toArray
  len : ps.length = l.length
  el : ∀ (j : Nat) (p : PV), ps[j]? = some p → ∃ y, l[j]? = some y ∧ (j < i → RV (fun b => w.heap.size ≤ b ∧ b ≠ g) wr p.1 y) ∧ (i ≤ j → RV (fun b => b < w.heap.size) wr p.1 y)
theorem CqI.lt {w : World} {g : Nat} {l : List Val} {i : Nat} {ps : List PV} {wr : World} (h : CqI w g l i ps wr) : g < wr.heap.size := by
  obtain ⟨R, hR⟩ := h.row
  exact hR.lt
theorem CqI.step {w : World} {g : Nat} {l : List Val} {i : Nat} {ps : List PV} {wr w' : World} (h : CqI w g l i ps wr) (hb : Below wr.heap.size wr w') : CqI w g l i ps w' := by
  obtain ⟨R, hR⟩ := h.row
  refine ⟨⟨R, hR.step hb⟩, h.len, fun j p hp => ?_⟩
  obtain ⟨y, hy, h1, h2⟩ := h.el j p hp
  exact ⟨y, hy, fun hj => (h1 hj).step hb, fun hj => (h2 hj).step hb⟩
theorem CqI.cells {w : World} {g : Nat} {l : List Val} {i : Nat} {ps : List PV} {wr : World} (h : CqI w g l i ps wr) {j : Nat} {p : PV} (hp : ps[j]? = some p) {k : Nat} {v : Value} (hk : (recV p)[k]? = some v) : wr.cell? ⟨g, j * 5 + k, none⟩ = some v := by
  obtain ⟨R, hR⟩ := h.row
  rw [hR.cell]
  have h1 := flat_get recV_length hp hk
  have h2 : j * 5 + k < (flat recV ps).length := (List.getElem?_eq_some_iff.1 h1).1
  rw [List.getElem?_toArray, List.getElem?_append_left h2]
  exact h1
theorem CqI.frozen {w : World} {g : Nat} {l : List Val} {i : Nat} {ps : List PV} {wr : World} (h : CqI w g l i ps wr) (k : Nat) : wr.frozen? ⟨g, k, none⟩ = false := by
  obtain ⟨R, hR⟩ := h.row
  exact hR.frozen k
theorem CqI.put {w : World} {g : Nat} {l : List Val} {i : Nat} {ps : List PV} {wr : World} {c' : VC} {p : PV} {y : Val} (h : CqI w g l i ps wr) (hp : ps[i]? = some p) (hy : l[i]? = some y) (hg : w.heap.size ≤ g) (hr : RV (fun b => w.heap.size ≤ b ∧ b ≠ g) wr c' y) :
    CqI w g l (i + 1) (ps.set i (c', y)) (setV wr g (i * 5) c') := by
  have hi : i < ps.length := (List.getElem?_eq_some_iff.1 hp).1
  obtain ⟨R, hR⟩ := h.row
  refine ⟨⟨R, ?_⟩, by rw [List.length_set]; exact h.len, fun j q hq => ?_⟩
  · have h1 : Blk (wr.setCells g (i * 5) c'.list) g 46 (setList (flat recV ps ++ R) (i * 5) c'.list).toArray := hR.setCells c'.list (i * 5)
    have hf : (flat recV ps).length = ps.length * 5 := flat_length recV_length ps
    have hm : (i + 1) * 5 ≤ ps.length * 5 := Nat.mul_le_mul_right _ hi
    have e1 : setList (flat recV ps ++ R) (i * 5) c'.list = flat recV (ps.set i (c', y)) ++ R := by
      rw [setList_eq _ _ _ (by rw [List.length_append, hf]; simp [VC.list]; omega)]
      have e2 : (flat recV ps ++ R).take (i * 5) = flat recV (ps.take i) := by
        rw [List.take_append_of_le_length (by rw [hf]; omega)]
        exact flat_take recV_length ps i
      have e3 : (flat recV ps ++ R).drop (i * 5 + c'.list.length) = flat recV (ps.drop (i + 1)) ++ R := by
        rw [show i * 5 + c'.list.length = (i + 1) * 5 by simp [VC.list]; omega, List.drop_append_of_le_length (by rw [hf]; exact hm), flat_drop recV_length]
      rw [e2, e3, List.set_eq_take_append_cons_drop, if_pos hi, flat_append]
      have e4 : flat recV ((c', y) :: ps.drop (i + 1)) = recV (c', y) ++ flat recV (ps.drop (i + 1)) := rfl
      rw [e4]
      simp [recV]
    rw [← e1]
    exact h1
  · have keep : ∀ {G : Nat → Prop} {e : VC} {z : Val}, RV G wr e z → (∀ b, G b → b ≠ g) → RV G (setV wr g (i * 5) c') e z := fun hz hG => hz.keep fun b hb => heap_setV (hG b hb)
    by_cases hj : j = i
    · subst hj
      rw [List.getElem?_set_self hi] at hq
      cases hq
      skip
      exact ⟨y, hy, fun _ => keep hr fun b hb => hb.2, fun h' => by omega⟩
    · rw [List.getElem?_set_ne (fun e => hj e.symm)] at hq
      obtain ⟨z, hz, h1, h2⟩ := h.el j q hq
      exact ⟨z, hz, fun h' => keep (h1 (by omega)) fun b hb => hb.2, fun h' => keep (h2 (by omega)) fun b hb => by omega⟩
/-- a row of fields, of which the first i are copies -/
structure CfI (w : World) (g : Nat) (l : List Fld) (i : Nat) (ps : List PF) (wr : World) : Prop where
  row : ∃ R : List Value, Blk wr g 98 (flat recF ps ++ R).toArray
  len : ps.length = l.length
  el : ∀ (j : Nat) (p : PF), ps[j]? = some p → ∃ y, l[j]? = some y ∧ y.s = p.2.s ∧ p.2.s.size ≤ reach ∧ (j < i → RV (fun b => w.heap.size ≤ b ∧ b ≠ g) wr p.1 y.v) ∧ (i ≤ j → RV (fun b => b < w.heap.size) wr p.1 y.v)
theorem CfI.lt {w : World} {g : Nat} {l : List Fld} {i : Nat} {ps : List PF} {wr : World} (h : CfI w g l i ps wr) : g < wr.heap.size := by
  obtain ⟨R, hR⟩ := h.row
  exact hR.lt
theorem CfI.step {w : World} {g : Nat} {l : List Fld} {i : Nat} {ps : List PF} {wr w' : World} (h : CfI w g l i ps wr) (hb : Below wr.heap.size wr w') : CfI w g l i ps w' := by
  obtain ⟨R, hR⟩ := h.row
  refine ⟨⟨R, hR.step hb⟩, h.len, fun j p hp => ?_⟩
  obtain ⟨y, hy, hs, hz, h1, h2⟩ := h.el j p hp
  exact ⟨y, hy, hs, hz, fun hj => (h1 hj).step hb, fun hj => (h2 hj).step hb⟩
theorem CfI.cells {w : World} {g : Nat} {l : List Fld} {i : Nat} {ps : List PF} {wr : World} (h : CfI w g l i ps wr) {j : Nat} {p : PF} (hp : ps[j]? = some p) {k : Nat} {v : Value} (hk : (recF p)[k]? = some v) : wr.cell? ⟨g, j * 6 + k, none⟩ = some v := by
  obtain ⟨R, hR⟩ := h.row
  rw [hR.cell]
  have h1 := flat_get recF_length hp hk
  have h2 : j * 6 + k < (flat recF ps).length := (List.getElem?_eq_some_iff.1 h1).1
  rw [List.getElem?_toArray, List.getElem?_append_left h2]
  exact h1
theorem CfI.frozen {w : World} {g : Nat} {l : List Fld} {i : Nat} {ps : List PF} {wr : World} (h : CfI w g l i ps wr) (k : Nat) : wr.frozen? ⟨g, k, none⟩ = false := by
  obtain ⟨R, hR⟩ := h.row
  exact hR.frozen k
theorem CfI.put {w : World} {g : Nat} {l : List Fld} {i : Nat} {ps : List PF} {wr : World} {c' : VC} {p : PF} {y : Fld} (h : CfI w g l i ps wr) (hp : ps[i]? = some p) (hy : l[i]? = some y) (hg : w.heap.size ≤ g) (hs : y.s = p.2.s) (hr : RV (fun b => w.heap.size ≤ b ∧ b ≠ g) wr c' y.v) :
    CfI w g l (i + 1) (ps.set i (c', p.2)) (setV wr g (i * 6 + 1) c') := by
  have hi : i < ps.length := (List.getElem?_eq_some_iff.1 hp).1
  obtain ⟨R, hR⟩ := h.row
  refine ⟨⟨R, ?_⟩, by rw [List.length_set]; exact h.len, fun j q hq => ?_⟩
  · have h1 : Blk (wr.setCells g (i * 6 + 1) c'.list) g 98 (setList (flat recF ps ++ R) (i * 6 + 1) c'.list).toArray := hR.setCells c'.list (i * 6 + 1)
    have hf : (flat recF ps).length = ps.length * 6 := flat_length recF_length ps
    have hm : (i + 1) * 6 ≤ ps.length * 6 := Nat.mul_le_mul_right _ hi
    have e1 : setList (flat recF ps ++ R) (i * 6 + 1) c'.list = flat recF (ps.set i (c', p.2)) ++ R := by
      rw [setList_eq _ _ _ (by rw [List.length_append, hf]; simp [VC.list]; omega)]
      have e2 : (flat recF ps ++ R).take (i * 6 + 1) = flat recF (ps.take i) ++ [.string p.2.s] := by
        rw [List.take_append_of_le_length (by rw [hf]; omega)]
        rw [show i * 6 + 1 = i * 6 + 1 from rfl, List.take_add, flat_take recF_length, flat_drop recF_length, drop_of hp]
        rfl
      have e3 : (flat recF ps ++ R).drop (i * 6 + 1 + c'.list.length) = flat recF (ps.drop (i + 1)) ++ R := by
        rw [show i * 6 + 1 + c'.list.length = (i + 1) * 6 by simp [VC.list]; omega, List.drop_append_of_le_length (by rw [hf]; exact hm), flat_drop recF_length]
      rw [e2, e3, List.set_eq_take_append_cons_drop, if_pos hi, flat_append]
      have e4 : flat recF ((c', p.2) :: ps.drop (i + 1)) = recF (c', p.2) ++ flat recF (ps.drop (i + 1)) := rfl
      rw [e4]
      simp [recF]
    rw [← e1]
    exact h1
  · have keep : ∀ {G : Nat → Prop} {e : VC} {z : Val}, RV G wr e z → (∀ b, G b → b ≠ g) → RV G (setV wr g (i * 6 + 1) c') e z := fun hz hG => hz.keep fun b hb => heap_setV (hG b hb)
    by_cases hj : j = i
    · subst hj
      rw [List.getElem?_set_self hi] at hq
      cases hq
      obtain ⟨z, hz, hzs, hzz, _⟩ := h.el j p hp
      exact ⟨y, hy, hs, hzz, fun _ => keep hr fun b hb => hb.2, fun h' => by omega⟩
    · rw [List.getElem?_set_ne (fun e => hj e.symm)] at hq
      obtain ⟨z, hz, hs1, hz1, h1, h2⟩ := h.el j q hq
      exact ⟨z, hz, hs1, hz1, fun h' => keep (h1 (by omega)) fun b hb => hb.2, fun h' => keep (h2 (by omega)) fun b hb => by omega⟩

theorem copy_join {w5 : World} {lo : Nat} {ck cn : Int} {ct : ByteArray} {A1 A2 : Option Addr} {ln c1 dn c2 : Nat} {k n : Int} {t : ByteArray} {l : List Val} {d : List Fld} (hk : ck = k) (hn : cn = n) (ht : ct = t) (hz : t.size ≤ reach)
    (hl : RV (fun b => lo ≤ b) w5 ⟨6, 0, ByteArray.empty, A1, ln, c1, none, 0, 0⟩ (.mk 6 0 ByteArray.empty l [])) (hd : RV (fun b => lo ≤ b) w5 ⟨5, 0, ByteArray.empty, none, 0, 0, A2, dn, c2⟩ (.mk 5 0 ByteArray.empty [] d)) :
    RV (fun b => lo ≤ b) w5 ⟨ck, cn, ct, A1, ln, c1, A2, dn, c2⟩ (.mk k n t l d) := by
  have fl := hl.open
  have fd := hd.open
  exact RVs.shut ⟨hk, hn, ht, hz, fl.ln, fl.lc, fl.lsz, fl.la, fd.dn, fd.dc, fd.dsz, fd.da⟩
theorem copy_far {w5 : World} {a lo : Nat} {e : VC} (h : a + 2 ≤ lo) : ∀ b, lo ≤ b → b < w5.heap.size → a ≤ b ∧ (setV w5 (a + 1) 0 e).heap[b]? = w5.heap[b]? := fun b hb _ => ⟨by omega, heap_setV (by omega)⟩
set_option maxRecDepth 100000 in
set_option maxHeartbeats 4000000 in
theorem mcopy_any (x : Val) : ∀ (c : VC) (w : World), RW w c x → Calls Tryz.prog 80 #[c.val] w (CopyOk w x) := by
  induction x using Val.ind with
  | h k n t l d ihl ihd =>
  intro c w h
  obtain ⟨ps, hps, hsl⟩ := h.sl
  obtain ⟨fs, hfs, hsd⟩ := h.sd
  obtain ⟨ck, cn, ct, LA, ln, lc, DA, dn, dc⟩ := c
  have HO := Lib.hid h.open
  have hlz : ln * 80 ≤ 140737488355328 := h.open.lsz
  have hdz : dn * 96 ≤ 140737488355328 := h.open.dsz
  have hln : ln ≤ 140737488355328 := by omega
  have hdn : dn ≤ 140737488355328 := by omega
  have HLL : Hid (ln = l.length) := h.open.ln
  have HDD : Hid (dn = d.length) := h.open.dn
  have HPS : Hid (ps.map Prod.snd = l) := hps
  have HFS : Hid (fs.map Prod.snd = d) := hfs
  have HSL := Lib.hid hsl
  have HSD := Lib.hid hsd
  have HIL := Lib.hid ihl
  have HID := Lib.hid ihd
  have B0 : Hid (Blk ((w.alloc (Obj.cells (VC.arr ⟨ck, cn, ct, LA, ln, lc, DA, dn, dc⟩) 46)).alloc (Obj.cells VC.zero.arr 46)) w.heap.size 46 (VC.arr ⟨ck, cn, ct, LA, ln, lc, DA, dn, dc⟩)) := (Blk.new_at rfl).alloc _
  have B1 : Hid (Blk ((w.alloc (Obj.cells (VC.arr ⟨ck, cn, ct, LA, ln, lc, DA, dn, dc⟩) 46)).alloc (Obj.cells VC.zero.arr 46)) (w.heap.size + 1) 46 VC.zero.arr) := Blk.new_at (by simp)
  have BE : Hid (Below w.heap.size w ((w.alloc (Obj.cells (VC.arr ⟨ck, cn, ct, LA, ln, lc, DA, dn, dc⟩) 46)).alloc (Obj.cells VC.zero.arr 46))) := ((Below.refl _ _).alloc (Nat.le_refl _) _).alloc (by simp) _
  have HWA : Hid (((w.alloc (Obj.cells (VC.arr ⟨ck, cn, ct, LA, ln, lc, DA, dn, dc⟩) 46)).alloc (Obj.cells VC.zero.arr 46)).heap.size = w.heap.size + 2) := by simp [Hid]
  clear h hps hfs hsl hsd ihl ihd hlz hdz
  go_enter Tryz.func80, Tryz.ntmps80
  go_upto_region 1 with fail
  change Code.wp _ _ _ _ ((w.alloc (Obj.cells (VC.arr ⟨ck, cn, ct, LA, ln, lc, DA, dn, dc⟩) 46)).alloc (Obj.cells VC.zero.arr 46))
  generalize ((w.alloc (Obj.cells (VC.arr ⟨ck, cn, ct, LA, ln, lc, DA, dn, dc⟩) 46)).alloc (Obj.cells VC.zero.arr 46)) = wa at *
  have HCV := Lib.hid (cloneV_any ps LA ln lc wa (HSL.out.sr.step BE.out) HSL.out.sz)
  have k3 := B0.out.cell 3
  have kz := B0.out.frozen
  simp at k3
  go_wp2_with fail
  refine HCV.out.mono ?_
  rintro e w1 ⟨v1, rfl, hown, hb⟩
  obtain ⟨A1, c1, rfl, hc1⟩ := own_slice hown
  have C0 := Lib.hid (B0.out.step hb)
  have C1 := Lib.hid (B1.out.step hb)
  have CE := Lib.hid (BE.out.step' hb)
  have hown2 := own_far hown (p := ⟨w.heap.size, 3, none⟩) (fun e => by have h1 : wa.heap.size ≤ w.heap.size := own_ge hown _ e; have h2 := HWA.out; omega) (.slice A1 ln c1)
  clear hb B0 B1 HCV k3 kz
  have k3 := C0.out.cell 3
  have kz := C0.out.frozen
  simp at k3
  go_upto_region 2 with fail
  change Code.wp _ _ _ _ (w1.setCell ⟨w.heap.size, 3, none⟩ (.slice A1 ln c1))
  have D0 : Hid (Blk (w1.setCell ⟨w.heap.size, 3, none⟩ (.slice A1 ln c1)) w.heap.size 46 (VC.arr ⟨ck, cn, ct, A1, ln, c1, DA, dn, dc⟩)) := C0.out.set_ 3 _
  have D1 : Hid (Blk (w1.setCell ⟨w.heap.size, 3, none⟩ (.slice A1 ln c1)) (w.heap.size + 1) 46 VC.zero.arr) := C1.out.far (p := ⟨w.heap.size, 3, none⟩) (by show w.heap.size + 1 ≠ w.heap.size; omega) _
  have DE : Hid (Below w.heap.size w (w1.setCell ⟨w.heap.size, 3, none⟩ (.slice A1 ln c1))) := CE.out.setCell (by show w.heap.size ≤ w.heap.size; omega) _
  generalize w1.setCell ⟨w.heap.size, 3, none⟩ (.slice A1 ln c1) = w2 at *
  have HOW := Lib.hid hown2
  have HC1 := Lib.hid hc1
  clear hown hown2 k3 kz C0 C1 CE hc1
  have k3 := D0.out.cell 3
  simp at k3
  go_upto_block 0 with fail
  go_cut [] (fun wx => Blk wx w.heap.size 46 (VC.arr ⟨ck, cn, ct, A1, ln, c1, DA, dn, dc⟩) ∧ Blk wx (w.heap.size + 1) 46 VC.zero.arr ∧ RV (fun b => wa.heap.size ≤ b) wx ⟨6, 0, ByteArray.empty, A1, ln, c1, none, 0, 0⟩ (.mk 6 0 ByteArray.empty l []) ∧ Below w.heap.size w wx)
  case first =>
    rcases Nat.eq_zero_or_pos ln with h0 | h0
    · subst h0
      go_upto_region 3 with fail
      go_loopw [3, 12] (fun _ u12 wr => u12 = .int .i64 0 ∧ wr = w2) (fun _ _ _ => 0)
      case atStart => exact ⟨rfl, rfl⟩
      case round =>
        obtain ⟨rfl, rfl⟩ := hrel
        go_wp2_with fail
        go_meet
        refine ⟨D0.out, D1.out, RVs.shut ⟨rfl, rfl, rfl, by show 0 ≤ reach; decide, HLL.out, HC1.out, by show 0 * 80 ≤ reach; decide, fun h => absurd h (by show ¬ (0 < 0); omega), rfl, Nat.le_refl _, by show 0 * 96 ≤ reach; decide, fun h => absurd h (by show ¬ (0 < 0); omega)⟩, DE.out⟩
    · obtain ⟨g, cap, hv, hgb, hgl⟩ := HOW.out.form h0
      cases hv
      obtain ⟨R, hR, _, _, _, _⟩ := own_blk HOW.out
      have HG : Hid (wa.heap.size ≤ g) := hgb
      have HG2 : Hid (w.heap.size ≤ g) := by have := HWA.out; unfold Hid; omega
      have HNE : Hid (w.heap.size ≠ g ∧ w.heap.size + 1 ≠ g) := by have := HWA.out; exact ⟨by omega, by omega⟩
      have Q0 : Hid (CqI wa g l 0 ps w2) := ⟨⟨R, hR⟩, by rw [← HPS.out, List.length_map], fun j p hp => ⟨p.2, by rw [← HPS.out, List.getElem?_map, hp]; rfl, fun hj => absurd hj (by omega), fun _ => ((HSL.out.rv p (List.mem_of_getElem? hp)).lt.keep fun b hb => DE.out.block b hb.2).mono fun b hb => (by have := HWA.out; have := hb.2; omega : b < wa.heap.size)⟩⟩
      have HI := HIL
      clear hR hgl hgb
      go_upto_region 3 with fail
      clear k3
      go_loopw [3, 12] (fun _ u12 wr => ∃ (i : Nat) (qs : List PV), i ≤ ln ∧ u12 = .int .i64 i ∧ Blk wr w.heap.size 46 (VC.arr ⟨ck, cn, ct, some ⟨g, 0, none⟩, ln, c1, DA, dn, dc⟩) ∧ Blk wr (w.heap.size + 1) 46 VC.zero.arr ∧ CqI wa g l i qs wr ∧ Below w.heap.size w wr) (fun _ u12 _ => ln - (intOf u12).toNat)
      case atStart => exact ⟨0, ps, Nat.zero_le _, rfl, D0.out, D1.out, Q0.out, DE.out⟩
      case round =>
        obtain ⟨i, qs, hi, rfl, E0, E1, J, EE⟩ := hrel
        have HE0 := Lib.hid E0
        have HE1 := Lib.hid E1
        have J2 := Lib.hid J
        have HEE := Lib.hid EE
        by_cases hlt : i < ln
        · obtain ⟨p, hp⟩ : ∃ p, qs[i]? = some p := ⟨_, List.getElem?_eq_getElem (by have h1 := J.len; have h2 := HLL.out; omega)⟩
          obtain ⟨y, hy, _, hrv⟩ := J.el i p hp
          have HPI := Lib.hid hp
          have HY := Lib.hid hy
          have HC := Lib.hid (HI.out y (List.mem_of_getElem? hy))
          have RP : Hid (RW wr p.1 y) := (hrv (Nat.le_refl _)).mono fun _ _ => trivial
          have lb0 := E0.lt
          have gl := J.lt
          have HWL : Hid (wa.heap.size ≤ wr.heap.size) := by have h1 := HG.out; unfold Hid; omega
          have i0' : (0 : Int) ≤ (i : Int) := by omega
          have i1' : (i : Int) < (ln : Int) := by omega
          have k3 := E0.cell 3
          simp at k3
          go_upto_region 5 with fail
          have B0' : Hid (Below wr.heap.size wr wr.drew) := Lib.hid ((Below.refl wr.heap.size wr).drew)
          have KC : Hid (∀ w' : World, Below wr.heap.size wr w' → w'.cell? ⟨w.heap.size, 3, none⟩ = some (.slice (some ⟨g, 0, none⟩) ln c1)) := Lib.hid fun w' hb => (hb.cell (p := ⟨w.heap.size, 3, none⟩) lb0).trans k3
          have KD : Hid (∀ (W : World) (e : VC), Below wr.heap.size wr W → (setV W g (i * 5) e).cell? ⟨w.heap.size, 3, none⟩ = some (.slice (some ⟨g, 0, none⟩) ln c1)) := Lib.hid fun W e hb => (World.cell?_of_block (w := W) (a := ⟨w.heap.size, 3, none⟩) (heap_setV HNE.out.1)).trans (KC.out W hb)
          clear hp hy hrv E0 E1 J EE k3
          refine wp_region_noPanic ?_
          refine wp_region_held_drew (S := (fun w' => w'.cell? ⟨w.heap.size, 3, none⟩ = some (.slice (some ⟨g, 0, none⟩) ln c1))) (by kernel_rfl) ?_ (fun hHeld => ?_)
          · (try dsimp only); exact KC.out _ B0'.out
          have JW := Lib.hid (J2.out.step B0'.out)
          have y0 := JW.out.cells HPI.out (k := 0) rfl
          have y1 := JW.out.cells HPI.out (k := 1) rfl
          have y2 := JW.out.cells HPI.out (k := 2) rfl
          have y3 := JW.out.cells HPI.out (k := 3) rfl
          have y4 := JW.out.cells HPI.out (k := 4) rfl
          simp only [Nat.add_zero] at y0 y1 y2 y3 y4
          have HW0 : Hid (wr.heap.size = wr.drew.heap.size) := rfl
          generalize wr.drew = W0 at *
          have B := B0'
          refine wpAnyH_take (i := 0) (v := ?_) (take_at rfl) (by kernel_rfl) (by kernel_rfl) (by kernel_rfl) (fun _ _ _ h => h) (Or.inl ⟨by rfl, ?_⟩) (by assumption) ?_
          rotate_left
          · intro w' hSw; (try dsimp only at hSw); go_simp; (try with_reducible rfl)
          (try simp only [Act.put, List.setIfInBounds_toArray, List.set_cons_zero, List.set_cons_succ])
          refine wpAnyH_take (i := 1) (v := ?_) (take_at rfl) (by kernel_rfl) (by kernel_rfl) (by kernel_rfl) (fun _ _ _ h => h) (Or.inl ⟨by rfl, ?_⟩) (by assumption) ?_
          rotate_left
          · intro w' hSw; (try dsimp only at hSw); go_simp; (try with_reducible rfl)
          (try simp only [Act.put, List.setIfInBounds_toArray, List.set_cons_zero, List.set_cons_succ])
          refine wpAnyH_take (i := 2) (v := ?_) (take_at rfl) (by kernel_rfl) (by kernel_rfl) (by kernel_rfl) (fun _ _ _ h => h) (Or.inl ⟨by rfl, ?_⟩) (by assumption) ?_
          rotate_left
          · intro w' hSw; (try dsimp only at hSw); go_simp; (try with_reducible rfl)
          (try simp only [Act.put, List.setIfInBounds_toArray, List.set_cons_zero, List.set_cons_succ])
          refine wpAnyH_take (i := 3) (v := ?_) (take_at rfl) (by kernel_rfl) (by kernel_rfl) (by kernel_rfl) (fun _ _ _ h => h) (Or.inl ⟨by rfl, ?_⟩) (by assumption) ?_
          rotate_left
          · intro w' hSw; (try dsimp only at hSw); go_simp; (try with_reducible rfl)
          (try simp only [Act.put, List.setIfInBounds_toArray, List.set_cons_zero, List.set_cons_succ])
          refine wpAnyH_take (i := 4) (v := ?_) (take_at rfl) (by kernel_rfl) (by kernel_rfl) (by kernel_rfl) (fun _ _ _ h => h) (Or.inl ⟨by rfl, ?_⟩) (by assumption) ?_
          rotate_left
          · intro w' hSw; (try dsimp only at hSw); go_simp; (try with_reducible rfl)
          (try simp only [Act.put, List.setIfInBounds_toArray, List.set_cons_zero, List.set_cons_succ])
          refine wpAnyH_take (i := 5) (v := ?_) (take_at rfl) (by kernel_rfl) (by kernel_rfl) (by kernel_rfl) (fun _ _ _ h => h) (Or.inl ⟨by rfl, ?_⟩) (by assumption) ?_
          rotate_left
          · intro w' hSw; (try dsimp only at hSw); go_simp; (try with_reducible rfl)
          (try simp only [Act.put, List.setIfInBounds_toArray, List.set_cons_zero, List.set_cons_succ])
          refine wpAnyH_take (i := 6) (v := ?_) (take_at rfl) (by kernel_rfl) (by kernel_rfl) (by kernel_rfl) (fun _ _ _ h => h) (Or.inl ⟨by rfl, ?_⟩) (by assumption) ?_
          rotate_left
          · intro w' hSw; (try dsimp only at hSw); go_simp; (try with_reducible rfl)
          (try simp only [Act.put, List.setIfInBounds_toArray, List.set_cons_zero, List.set_cons_succ])
          refine wpAnyH_ready (rs := [7]) (by kernel_rfl) (by simp) ?_
          refine AllReadyH.cons (take_at rfl) (fun K hK => ?_) AllReadyH.nil
          go_simp
          refine hK.out _ _ ?_ (fun hHeld2 => ?_)
          · (try dsimp only); exact KC.out _ B.out
          clear hK K hHeld
          have hHeld := hHeld2
          clear hHeld2
          (try simp only [Act.put, List.setIfInBounds_toArray, List.set_cons_zero, List.set_cons_succ])
          clear y0 y1 y2 y3 y4 JW
          refine wpAnyH_ready (rs := [8]) (by kernel_rfl) (by simp) ?_
          refine AllReadyH.cons (take_at rfl) (fun K hK => ?_) AllReadyH.nil
          go_simp
          refine (HC.out p.1 W0 (RP.out.step B.out)).mono ?_
          rintro e W1 ⟨c9, rfl, hr, hb⟩
          have R9 := Lib.hid hr
          have BW := Lib.hid hb
          replace B := Lib.hid (B.out.step' hb)
          clear hb hr
          (try go_wp2_with fail)
          refine hK.out _ _ ?_ (fun hHeld2 => ?_)
          · (try dsimp only); exact KC.out _ B.out
          clear hK K hHeld
          have hHeld := hHeld2
          clear hHeld2
          (try simp only [Act.put, List.setIfInBounds_toArray, List.set_cons_zero, List.set_cons_succ])
          refine wpAnyH_take (i := 9) (v := ?_) (take_at rfl) (by kernel_rfl) (by kernel_rfl) (by kernel_rfl) (fun _ _ _ h => h) (Or.inl ⟨by rfl, ?_⟩) (by assumption) ?_
          rotate_left
          · intro w' hSw; (try dsimp only at hSw); go_simp; (try with_reducible rfl)
          (try simp only [Act.put, List.setIfInBounds_toArray, List.set_cons_zero, List.set_cons_succ])
          refine wpAnyH_ready (rs := [10]) (by kernel_rfl) (by simp) ?_
          refine AllReadyH.cons (take_at rfl) (fun K hK => ?_) AllReadyH.nil
          have J9 := Lib.hid (J2.out.step B.out)
          have z9 := J9.out.frozen
          have y0 := J9.out.cells HPI.out (k := 0) rfl
          have y1 := J9.out.cells HPI.out (k := 1) rfl
          have y2 := J9.out.cells HPI.out (k := 2) rfl
          have y3 := J9.out.cells HPI.out (k := 3) rfl
          have y4 := J9.out.cells HPI.out (k := 4) rfl
          simp only [Nat.add_zero] at y0 y1 y2 y3 y4
          go_simp
          refine hK.out _ _ (KD.out W1 c9 B.out) (fun hHeld2 => ?_)
          clear hHeld hHeld2 hK K y0 y1 y2 y3 y4 z9
          (try simp only [Act.put, List.setIfInBounds_toArray, List.set_cons_zero, List.set_cons_succ])
          refine wpAnyH_done (by kernel_rfl) ?_ _
          refine NoPanic.normal ?_
          have HN : Hid (CqI wa g l (i + 1) (qs.set i (c9, y)) (setV W1 g (i * 5) c9)) := (J2.out.step B.out).put HPI.out HY.out HG.out (R9.out.mono fun b hb => by have h2 := HW0.out; have hb' : W0.heap.size ≤ b := hb; exact ⟨by have := HWL.out; omega, by omega⟩)
          have HN0 := Lib.hid ((HE0.out.step B.out).farV (b := g) HNE.out.1 (i * 5) c9)
          have HN1 := Lib.hid ((HE1.out.step B.out).farV (b := g) HNE.out.2 (i * 5) c9)
          have HNB := Lib.hid (below_setV (HEE.out.step' B.out ) (B := w.heap.size) HG2.out (i * 5) c9)
          clear R9 BW B HE0 HE1 HEE J2 RP HC KC KD
          go_wp2_with fail
          go_roundw
          case rel => exact ⟨i + 1, _, hlt, by go_num, HN0.out, HN1.out, HN.out, HNB.out⟩
          case measure => simp [intOf]; omega
        · obtain rfl : i = ln := by omega
          have HBK : Hid (∀ b off, some (⟨g, 0, none⟩ : Addr) = some ⟨b, off, none⟩ → b = g ∧ off = 0) := fun b off e => by cases e; exact ⟨rfl, rfl⟩
          clear E0 E1 J EE
          go_wp2_with fail
          go_meet
          refine ⟨HE0.out, HE1.out, RVs.shut ⟨rfl, rfl, rfl, by show 0 ≤ reach; decide, HLL.out, HC1.out, HSL.out.sz, fun _ => ⟨g, 0, rfl, ⟨HG.out, fun _ q => J2.out.frozen q⟩, fun j y hj => ?_⟩, rfl, Nat.le_refl _, by show 0 * 96 ≤ reach; decide, fun h => absurd h (by show ¬ (0 < 0); omega)⟩, HEE.out⟩
          obtain ⟨p, hp⟩ : ∃ p, qs[j]? = some p := ⟨_, List.getElem?_eq_getElem (by have h1 := J2.out.len; have h2 := (List.getElem?_eq_some_iff.1 hj).1; simp only [Val.l] at h2; omega)⟩
          obtain ⟨z, hz, h1, _⟩ := J2.out.el j p hp
          have hzy : z = y := Option.some.inj (hz.symm.trans hj)
          subst hzy
          have hjl : j < i := by have h2 := (List.getElem?_eq_some_iff.1 hj).1; simp only [Val.l] at h2; have := HLL.out; omega
          exact ⟨p.1, vat_of fun q v hq => by rw [Nat.zero_add]; exact J2.out.cells hp hq, (h1 hjl).mono fun b hb => hb.1⟩
  case rest =>
    obtain ⟨hb0, hb1, hrl, hbe⟩ := hcut
    have HRL := Lib.hid hrl.lt
    have C0 := Lib.hid hb0
    have C1 := Lib.hid hb1
    have CE := Lib.hid hbe
    clear D0 D1 DE HOW hb0 hb1 hrl hbe BE k3
    generalize wc = w3 at *
    have hle3 : w.heap.size ≤ w3.heap.size := CE.out.size
    have hwa3 : wa.heap.size ≤ w3.heap.size := by have h1 := C1.out.lt; have h2 := HWA.out; omega
    have HCF := Lib.hid (cloneF_any fs DA dn dc w3 (HSD.out.sr.step CE.out) HSD.out.sz)
    have k4 := C0.out.cell 4
    have kz := C0.out.frozen
    simp at k4
    go_wp2_with fail
    refine HCF.out.mono ?_
    rintro e wz ⟨v2, rfl, hown, hb⟩
    obtain ⟨A2, c2, rfl, hc2⟩ := own_slice hown
    have C0' := Lib.hid (C0.out.step hb)
    have C1' := Lib.hid (C1.out.step hb)
    have CE' := Lib.hid (CE.out.step' hb)
    have HRL' := Lib.hid (HRL.out.step hb)
    have hsz := hb.size
    have hown2 := own_far hown (p := ⟨w.heap.size, 4, none⟩) (fun e => by have h1 : w3.heap.size ≤ w.heap.size := own_ge hown _ e; have h2 := HWA.out; omega) (.slice A2 dn c2)
    clear hb C0 C1 CE HCF k4 kz HRL
    have k4 := C0'.out.cell 4
    have kz := C0'.out.frozen
    simp at k4
    go_upto_region 8 with fail
    change Code.wp _ _ _ _ (wz.setCell ⟨w.heap.size, 4, none⟩ (.slice A2 dn c2))
    have D0 : Hid (Blk (wz.setCell ⟨w.heap.size, 4, none⟩ (.slice A2 dn c2)) w.heap.size 46 (VC.arr ⟨ck, cn, ct, A1, ln, c1, A2, dn, c2⟩)) := C0'.out.set_ 4 _
    have D1 : Hid (Blk (wz.setCell ⟨w.heap.size, 4, none⟩ (.slice A2 dn c2)) (w.heap.size + 1) 46 VC.zero.arr) := C1'.out.far (p := ⟨w.heap.size, 4, none⟩) (by show w.heap.size + 1 ≠ w.heap.size; omega) _
    have DE : Hid (Below w.heap.size w (wz.setCell ⟨w.heap.size, 4, none⟩ (.slice A2 dn c2))) := CE'.out.setCell (by show w.heap.size ≤ w.heap.size; omega) _
    have HRL4 : Hid (RV (fun b => wa.heap.size ≤ b ∧ b < w3.heap.size) (wz.setCell ⟨w.heap.size, 4, none⟩ (.slice A2 dn c2)) ⟨6, 0, ByteArray.empty, A1, ln, c1, none, 0, 0⟩ (.mk 6 0 ByteArray.empty l [])) := HRL'.out.keep fun b hb => Below.heap_setCell wz ⟨w.heap.size, 4, none⟩ _ b (by have := HWA.out; have := hb.1; show b ≠ w.heap.size; omega)
    have HW3 : Hid (w3.heap.size ≤ (wz.setCell ⟨w.heap.size, 4, none⟩ (.slice A2 dn c2)).heap.size) := by simpa [Hid, World.setCell] using hsz
    generalize wz.setCell ⟨w.heap.size, 4, none⟩ (.slice A2 dn c2) = w4 at *
    have HOW := Lib.hid hown2
    have HC2 := Lib.hid hc2
    clear hown hown2 k4 kz C0' C1' CE' hc2 HRL' hsz
    have k4 := D0.out.cell 4
    simp at k4
    go_upto_block 2 with fail
    go_cut [] (fun wx => Blk wx w.heap.size 46 (VC.arr ⟨ck, cn, ct, A1, ln, c1, A2, dn, c2⟩) ∧ Blk wx (w.heap.size + 1) 46 VC.zero.arr ∧ RV (fun b => wa.heap.size ≤ b) wx ⟨5, 0, ByteArray.empty, none, 0, 0, A2, dn, c2⟩ (.mk 5 0 ByteArray.empty [] d) ∧ Below w3.heap.size w4 wx)
    case first =>
      rcases Nat.eq_zero_or_pos dn with h0 | h0
      · subst h0
        go_upto_region 9 with fail
        go_loopw [4, 33] (fun _ u12 wr => u12 = .int .i64 0 ∧ wr = w4) (fun _ _ _ => 0)
        case atStart => exact ⟨rfl, rfl⟩
        case round =>
          obtain ⟨rfl, rfl⟩ := hrel
          go_wp2_with fail
          go_meet
          refine ⟨D0.out, D1.out, RVs.shut ⟨rfl, rfl, rfl, by show 0 ≤ reach; decide, rfl, Nat.le_refl _, by show 0 * 80 ≤ reach; decide, fun h => absurd h (by show ¬ (0 < 0); omega), HDD.out, HC2.out, by show 0 * 96 ≤ reach; decide, fun h => absurd h (by show ¬ (0 < 0); omega)⟩, Below.refl _ _⟩
      · obtain ⟨g, cap, hv, hgb, hgl⟩ := HOW.out.form h0
        cases hv
        obtain ⟨R, hR, _, _, _, _⟩ := own_blk HOW.out
        have HG3 : Hid (w3.heap.size ≤ g) := hgb
        have HG : Hid (wa.heap.size ≤ g) := by unfold Hid; omega
        have HNE : Hid (w.heap.size ≠ g ∧ w.heap.size + 1 ≠ g) := by have := HWA.out; exact ⟨by omega, by omega⟩
        have Q0 : Hid (CfI wa g d 0 fs w4) := ⟨⟨R, hR⟩, by rw [← HFS.out, List.length_map], fun j p hp => ⟨p.2, by rw [← HFS.out, List.getElem?_map, hp]; rfl, rfl, HSD.out.ns p (List.mem_of_getElem? hp), fun hj => absurd hj (by omega), fun _ => ((HSD.out.rv p (List.mem_of_getElem? hp)).lt.keep fun b hb => DE.out.block b hb.2).mono fun b hb => (by have := HWA.out; have := hb.2; omega : b < wa.heap.size)⟩⟩
        have HI := HID
        clear hR hgl hgb HLL
        have HLL := HDD
        go_upto_region 9 with fail
        clear k4
        go_loopw [4, 33] (fun _ u12 wr => ∃ (i : Nat) (qs : List PF), i ≤ dn ∧ u12 = .int .i64 i ∧ Blk wr w.heap.size 46 (VC.arr ⟨ck, cn, ct, A1, ln, c1, some ⟨g, 0, none⟩, dn, c2⟩) ∧ Blk wr (w.heap.size + 1) 46 VC.zero.arr ∧ CfI wa g d i qs wr ∧ Below w3.heap.size w4 wr) (fun _ u12 _ => dn - (intOf u12).toNat)
        case atStart => exact ⟨0, fs, Nat.zero_le _, rfl, D0.out, D1.out, Q0.out, Below.refl _ _⟩
        case round =>
          obtain ⟨i, qs, hi, rfl, E0, E1, J, EE⟩ := hrel
          have HE0 := Lib.hid E0
          have HE1 := Lib.hid E1
          have J2 := Lib.hid J
          have HEE := Lib.hid EE
          by_cases hlt : i < dn
          · obtain ⟨p, hp⟩ : ∃ p, qs[i]? = some p := ⟨_, List.getElem?_eq_getElem (by have h1 := J.len; have h2 := HLL.out; omega)⟩
            obtain ⟨y, hy, hys, hyz, _, hrv⟩ := J.el i p hp
            have HPI := Lib.hid hp
            have HY := Lib.hid hy
            have HYS := Lib.hid hys
            have HC := Lib.hid (HI.out y (List.mem_of_getElem? hy))
            have RP : Hid (RW wr p.1 y.v) := (hrv (Nat.le_refl _)).mono fun _ _ => trivial
            have lb0 := E0.lt
            have gl := J.lt
            have HWL : Hid (wa.heap.size ≤ wr.heap.size) := by have h1 := HG.out; unfold Hid; omega
            have i0' : (0 : Int) ≤ (i : Int) := by omega
            have i1' : (i : Int) < (dn : Int) := by omega
            have k3 := E0.cell 4
            simp at k3
            go_upto_region 11 with fail
            have B0' : Hid (Below wr.heap.size wr wr.drew) := Lib.hid ((Below.refl wr.heap.size wr).drew)
            have KC : Hid (∀ w' : World, Below wr.heap.size wr w' → w'.cell? ⟨w.heap.size, 4, none⟩ = some (.slice (some ⟨g, 0, none⟩) dn c2)) := Lib.hid fun w' hb => (hb.cell (p := ⟨w.heap.size, 4, none⟩) lb0).trans k3
            have KD : Hid (∀ (W : World) (e : VC), Below wr.heap.size wr W → (setV W g (i * 6 + 1) e).cell? ⟨w.heap.size, 4, none⟩ = some (.slice (some ⟨g, 0, none⟩) dn c2)) := Lib.hid fun W e hb => (World.cell?_of_block (w := W) (a := ⟨w.heap.size, 4, none⟩) (heap_setV HNE.out.1)).trans (KC.out W hb)
            clear hp hy hrv hys hyz E0 E1 J EE k3
            refine wp_region_noPanic ?_
            refine wp_region_held_drew (S := (fun w' => w'.cell? ⟨w.heap.size, 4, none⟩ = some (.slice (some ⟨g, 0, none⟩) dn c2))) (by kernel_rfl) ?_ (fun hHeld => ?_)
            · (try dsimp only); exact KC.out _ B0'.out
            have JW := Lib.hid (J2.out.step B0'.out)
            have y0 := JW.out.cells HPI.out (k := 1) rfl
            have y1 := JW.out.cells HPI.out (k := 2) rfl
            have y2 := JW.out.cells HPI.out (k := 3) rfl
            have y3 := JW.out.cells HPI.out (k := 4) rfl
            have y4 := JW.out.cells HPI.out (k := 5) rfl
            have HW0 : Hid (wr.heap.size = wr.drew.heap.size) := rfl
            generalize wr.drew = W0 at *
            have B := B0'
            refine wpAnyH_take (i := 0) (v := ?_) (take_at rfl) (by kernel_rfl) (by kernel_rfl) (by kernel_rfl) (fun _ _ _ h => h) (Or.inl ⟨by rfl, ?_⟩) (by assumption) ?_
            rotate_left
            · intro w' hSw; (try dsimp only at hSw); go_simp; (try with_reducible rfl)
            (try simp only [Act.put, List.setIfInBounds_toArray, List.set_cons_zero, List.set_cons_succ])
            refine wpAnyH_take (i := 1) (v := ?_) (take_at rfl) (by kernel_rfl) (by kernel_rfl) (by kernel_rfl) (fun _ _ _ h => h) (Or.inl ⟨by rfl, ?_⟩) (by assumption) ?_
            rotate_left
            · intro w' hSw; (try dsimp only at hSw); go_simp; (try with_reducible rfl)
            (try simp only [Act.put, List.setIfInBounds_toArray, List.set_cons_zero, List.set_cons_succ])
            refine wpAnyH_take (i := 2) (v := ?_) (take_at rfl) (by kernel_rfl) (by kernel_rfl) (by kernel_rfl) (fun _ _ _ h => h) (Or.inl ⟨by rfl, ?_⟩) (by assumption) ?_
            rotate_left
            · intro w' hSw; (try dsimp only at hSw); go_simp; (try with_reducible rfl)
            (try simp only [Act.put, List.setIfInBounds_toArray, List.set_cons_zero, List.set_cons_succ])
            refine wpAnyH_take (i := 3) (v := ?_) (take_at rfl) (by kernel_rfl) (by kernel_rfl) (by kernel_rfl) (fun _ _ _ h => h) (Or.inl ⟨by rfl, ?_⟩) (by assumption) ?_
            rotate_left
            · intro w' hSw; (try dsimp only at hSw); go_simp; (try with_reducible rfl)
            (try simp only [Act.put, List.setIfInBounds_toArray, List.set_cons_zero, List.set_cons_succ])
            refine wpAnyH_take (i := 4) (v := ?_) (take_at rfl) (by kernel_rfl) (by kernel_rfl) (by kernel_rfl) (fun _ _ _ h => h) (Or.inl ⟨by rfl, ?_⟩) (by assumption) ?_
            rotate_left
            · intro w' hSw; (try dsimp only at hSw); go_simp; (try with_reducible rfl)
            (try simp only [Act.put, List.setIfInBounds_toArray, List.set_cons_zero, List.set_cons_succ])
            refine wpAnyH_take (i := 5) (v := ?_) (take_at rfl) (by kernel_rfl) (by kernel_rfl) (by kernel_rfl) (fun _ _ _ h => h) (Or.inl ⟨by rfl, ?_⟩) (by assumption) ?_
            rotate_left
            · intro w' hSw; (try dsimp only at hSw); go_simp; (try with_reducible rfl)
            (try simp only [Act.put, List.setIfInBounds_toArray, List.set_cons_zero, List.set_cons_succ])
            refine wpAnyH_take (i := 6) (v := ?_) (take_at rfl) (by kernel_rfl) (by kernel_rfl) (by kernel_rfl) (fun _ _ _ h => h) (Or.inl ⟨by rfl, ?_⟩) (by assumption) ?_
            rotate_left
            · intro w' hSw; (try dsimp only at hSw); go_simp; (try with_reducible rfl)
            (try simp only [Act.put, List.setIfInBounds_toArray, List.set_cons_zero, List.set_cons_succ])
            refine wpAnyH_take (i := 7) (v := ?_) (take_at rfl) (by kernel_rfl) (by kernel_rfl) (by kernel_rfl) (fun _ _ _ h => h) (Or.inl ⟨by rfl, ?_⟩) (by assumption) ?_
            rotate_left
            · intro w' hSw; (try dsimp only at hSw); go_simp; (try with_reducible rfl)
            (try simp only [Act.put, List.setIfInBounds_toArray, List.set_cons_zero, List.set_cons_succ])
            refine wpAnyH_ready (rs := [8]) (by kernel_rfl) (by simp) ?_
            refine AllReadyH.cons (take_at rfl) (fun K hK => ?_) AllReadyH.nil
            go_simp
            refine hK.out _ _ ?_ (fun hHeld2 => ?_)
            · (try dsimp only); exact KC.out _ B.out
            clear hK K hHeld
            have hHeld := hHeld2
            clear hHeld2
            (try simp only [Act.put, List.setIfInBounds_toArray, List.set_cons_zero, List.set_cons_succ])
            clear y0 y1 y2 y3 y4 JW
            refine wpAnyH_ready (rs := [9]) (by kernel_rfl) (by simp) ?_
            refine AllReadyH.cons (take_at rfl) (fun K hK => ?_) AllReadyH.nil
            go_simp
            refine (HC.out p.1 W0 (RP.out.step B.out)).mono ?_
            rintro e W1 ⟨c9, rfl, hr, hb⟩
            have R9 := Lib.hid hr
            have BW := Lib.hid hb
            replace B := Lib.hid (B.out.step' hb)
            clear hb hr
            (try go_wp2_with fail)
            refine hK.out _ _ ?_ (fun hHeld2 => ?_)
            · (try dsimp only); exact KC.out _ B.out
            clear hK K hHeld
            have hHeld := hHeld2
            clear hHeld2
            (try simp only [Act.put, List.setIfInBounds_toArray, List.set_cons_zero, List.set_cons_succ])
            refine wpAnyH_take (i := 10) (v := ?_) (take_at rfl) (by kernel_rfl) (by kernel_rfl) (by kernel_rfl) (fun _ _ _ h => h) (Or.inl ⟨by rfl, ?_⟩) (by assumption) ?_
            rotate_left
            · intro w' hSw; (try dsimp only at hSw); go_simp; (try with_reducible rfl)
            (try simp only [Act.put, List.setIfInBounds_toArray, List.set_cons_zero, List.set_cons_succ])
            refine wpAnyH_take (i := 11) (v := ?_) (take_at rfl) (by kernel_rfl) (by kernel_rfl) (by kernel_rfl) (fun _ _ _ h => h) (Or.inl ⟨by rfl, ?_⟩) (by assumption) ?_
            rotate_left
            · intro w' hSw; (try dsimp only at hSw); go_simp; (try with_reducible rfl)
            (try simp only [Act.put, List.setIfInBounds_toArray, List.set_cons_zero, List.set_cons_succ])
            refine wpAnyH_ready (rs := [12]) (by kernel_rfl) (by simp) ?_
            refine AllReadyH.cons (take_at rfl) (fun K hK => ?_) AllReadyH.nil
            have J9 := Lib.hid (J2.out.step B.out)
            have z9 := J9.out.frozen
            have y0 := J9.out.cells HPI.out (k := 1) rfl
            have y1 := J9.out.cells HPI.out (k := 2) rfl
            have y2 := J9.out.cells HPI.out (k := 3) rfl
            have y3 := J9.out.cells HPI.out (k := 4) rfl
            have y4 := J9.out.cells HPI.out (k := 5) rfl
            go_simp
            refine hK.out _ _ (KD.out W1 c9 B.out) (fun hHeld2 => ?_)
            clear hHeld hHeld2 hK K y0 y1 y2 y3 y4 z9
            (try simp only [Act.put, List.setIfInBounds_toArray, List.set_cons_zero, List.set_cons_succ])
            refine wpAnyH_done (by kernel_rfl) ?_ _
            refine NoPanic.normal ?_
            have HN : Hid (CfI wa g d (i + 1) (qs.set i (c9, p.2)) (setV W1 g (i * 6 + 1) c9)) := (J2.out.step B.out).put HPI.out HY.out HG.out HYS.out (R9.out.mono fun b hb => by have h2 := HW0.out; have hb' : W0.heap.size ≤ b := hb; exact ⟨by have := HWL.out; omega, by omega⟩)
            have HN0 := Lib.hid ((HE0.out.step B.out).farV (b := g) HNE.out.1 (i * 6 + 1) c9)
            have HN1 := Lib.hid ((HE1.out.step B.out).farV (b := g) HNE.out.2 (i * 6 + 1) c9)
            have HNB := Lib.hid (below_setV (HEE.out.step' B.out (by have := HW3.out; omega)) (B := w3.heap.size) HG3.out (i * 6 + 1) c9)
            clear R9 BW B HE0 HE1 HEE J2 RP HC KC KD
            go_wp2_with fail
            go_roundw
            case rel => exact ⟨i + 1, _, hlt, by go_num, HN0.out, HN1.out, HN.out, HNB.out⟩
            case measure => simp [intOf]; omega
          · obtain rfl : i = dn := by omega
            clear E0 E1 J EE
            go_wp2_with fail
            go_meet
            refine ⟨HE0.out, HE1.out, RVs.shut ⟨rfl, rfl, rfl, by show 0 ≤ reach; decide, rfl, Nat.le_refl _, by show 0 * 80 ≤ reach; decide, fun h => absurd h (by show ¬ (0 < 0); omega), HDD.out, HC2.out, HSD.out.sz, fun _ => ⟨g, 0, rfl, ⟨HG.out, fun _ q => J2.out.frozen q⟩, fun j y hj => ?_⟩⟩, HEE.out⟩
            obtain ⟨p, hp⟩ : ∃ p, qs[j]? = some p := ⟨_, List.getElem?_eq_getElem (by have h1 := J2.out.len; have h2 := (List.getElem?_eq_some_iff.1 hj).1; simp only [Val.d] at h2; omega)⟩
            obtain ⟨z, hz, hzs, hzz, h1, _⟩ := J2.out.el j p hp
            have hzy : z = y := Option.some.inj (hz.symm.trans hj)
            subst hzy
            have hjl : j < i := by have h2 := (List.getElem?_eq_some_iff.1 hj).1; simp only [Val.d] at h2; have := HDD.out; omega
            refine ⟨by rw [Nat.zero_add, hzs]; exact J2.out.cells hp (k := 0) rfl, by rw [hzs]; exact hzz, p.1, vat_of fun q v hq => ?_, (h1 hjl).mono fun b hb => hb.1⟩
            have := J2.out.cells hp (k := q + 1) (by simpa [recF] using hq)
            rw [show 0 + j * 6 + 1 + q = j * 6 + (q + 1) by omega]
            exact this
    case rest =>
      obtain ⟨hb0, hb1, hrd, hbe⟩ := hcut
      have HRD := Lib.hid hrd
      have E0 := Lib.hid hb0
      have E1 := Lib.hid hb1
      have HRL5 := Lib.hid (HRL4.out.keep fun b hb => hbe.block b hb.2)
      have EE := Lib.hid (DE.out.trans (hbe.mono hle3))
      clear D0 D1 DE HOW hb0 hb1 hrd hbe k4 HRL4
      generalize wc = w5 at *
      obtain ⟨a0, a1, a2, a3, a4⟩ := VAt.of_blk E0.out
      simp only [Nat.zero_add] at a0 a1 a2 a3 a4
      obtain ⟨b0, b1, b2, b3, b4⟩ := VAt.of_blk E1.out
      simp only [Nat.zero_add] at b0 b1 b2 b3 b4
      have bz := E1.out.frozen
      go_wp2_with fail
      have q := VAt.of_blk (E1.out.putV ⟨ck, cn, ct, A1, ln, c1, A2, dn, c2⟩)
      refine bodyPost_ret (results_val rfl _ _ _ rfl _ ⟨ck, cn, ct, A1, ln, c1, A2, dn, c2⟩ q) rfl ?_
      have hj := copy_join HO.out.k HO.out.n HO.out.t HO.out.tsz (HRL5.out.mono fun b hb => hb.1) HRD.out
      have hle : w.heap.size + 2 ≤ wa.heap.size := by rw [HWA.out]; exact Nat.le_refl _
      have hk := hj.keepG (G := fun b => w.heap.size ≤ b) (w' := setV w5 (w.heap.size + 1) 0 ⟨ck, cn, ct, A1, ln, c1, A2, dn, c2⟩) (copy_far hle)
      exact ⟨⟨ck, cn, ct, A1, ln, c1, A2, dn, c2⟩, rfl, hk, below_setV (b := w.heap.size + 1) EE.out (Nat.le_add_right _ _) 0 ⟨ck, cn, ct, A1, ln, c1, A2, dn, c2⟩⟩

end Go.Proofs.YtlmmgjgkmbmgpaaGreatDoor



/- migrate.copyWrites. -/
namespace Go.Proofs.YtlmmgjgkmbmgpaaGreatDoor
open Go.RowKit

theorem setList_flat {α : Type} {rec : α → List Value} {s : Nat} (hs : ∀ a, (rec a).length = s) {xs : List α} {i o : Nat} {a a' : α} {vs : List Value} (h : xs[i]? = some a) (ho : o + vs.length ≤ s) (he : setList (rec a) o vs = rec a') :
    setList (flat rec xs) (i * s + o) vs = flat rec (xs.set i a') := by
  have hi : i < xs.length := (List.getElem?_eq_some_iff.1 h).1
  have e1 : flat rec xs = flat rec (xs.take i) ++ (rec a ++ flat rec (xs.drop (i + 1))) := by
    have h1 : xs = xs.take i ++ (a :: xs.drop (i + 1)) := by rw [← drop_of h, List.take_append_drop]
    have h2 : flat rec xs = flat rec (xs.take i ++ (a :: xs.drop (i + 1))) := by rw [← h1]
    rw [h2, flat_append]
    rfl
  have hl : (flat rec (xs.take i)).length = i * s := by rw [flat_length hs, List.length_take, Nat.min_eq_left (by omega)]
  have hr := hs a
  have e2 : xs.set i a' = xs.take i ++ (a' :: xs.drop (i + 1)) := by rw [List.set_eq_take_append_cons_drop, if_pos hi]
  have e3 : flat rec (xs.set i a') = flat rec (xs.take i) ++ (rec a' ++ flat rec (xs.drop (i + 1))) := by
    rw [e2, flat_append]
    rfl
  rw [e3, ← he, e1, setList_eq _ _ _ (by rw [List.length_append, List.length_append, hl]; omega), setList_eq vs (rec a) o (by omega)]
  generalize flat rec (xs.take i) = F1 at *
  generalize flat rec (xs.drop (i + 1)) = F2 at *
  rw [← hl, List.take_length_add_append, List.take_append_of_le_length (by omega), Nat.add_assoc, List.drop_length_add_append, List.drop_append_of_le_length (by omega)]
  simp only [List.append_assoc]
theorem own_setCellsM {base g n cap size : Nat} {t : TypeId} : ∀ (vs : List Value) {w : World} {xs : List Value} (o : Nat), w.ownsRow base t size (.slice (some ⟨g, 0, none⟩) n cap) n xs → (w.setCells g o vs).ownsRow base t size (.slice (some ⟨g, 0, none⟩) n cap) n (setList xs o vs)
  | [], _, _, _, h => h
  | v :: r, _, _, o, h => own_setCellsM r (o + 1) (own_set h o v)
def WC.putK (q : WC) (c : VC) : WC := ⟨q.kd, q.sp, c, q.doc, q.si⟩
def WC.putD (q : WC) (c : VC) : WC := ⟨q.kd, q.sp, q.key, c, q.si⟩
theorem putK_rec (q : PW) (c : VC) : setList (recW q) 2 c.list = recW (q.1.putK c, q.2) := by
  obtain ⟨⟨kd, sp, ⟨k1, k2, k3, k4, k5, k6, k7, k8, k9⟩, dd, si⟩, x⟩ := q
  rfl
theorem putD_rec (q : PW) (c : VC) : setList (recW q) 7 c.list = recW (q.1.putD c, q.2) := by
  obtain ⟨⟨kd, sp, ⟨k1, k2, k3, k4, k5, k6, k7, k8, k9⟩, ⟨d1, d2, d3, d4, d5, d6, d7, d8, d9⟩, si⟩, x⟩ := q
  rfl

/-- the copy in progress: the first i keys and the first m documents are copies -/
structure CwI (w : World) (g n c : Nat) (ps : List PW) (i m : Nat) (qs : List PW) (wr : World) : Prop where
  own : wr.ownsRow w.heap.size 68 78 (.slice (some ⟨g, 0, none⟩) n c) n (flat recW qs)
  ln : qs.length = n
  vs : qs.map Prod.snd = ps.map Prod.snd
  hd : ∀ q ∈ qs, q.1.kd = q.2.kd ∧ q.1.sp = q.2.sp ∧ q.1.si = q.2.si ∧ q.2.sp.size ≤ reach
  key : ∀ (j : Nat) (q : PW), qs[j]? = some q → RV (fun b => (j < i ∧ w.heap.size ≤ b ∧ b ≠ g) ∨ (i ≤ j ∧ b < w.heap.size)) wr q.1.key q.2.key
  doc : ∀ (j : Nat) (q : PW), qs[j]? = some q → RV (fun b => (j < m ∧ w.heap.size ≤ b ∧ b ≠ g) ∨ (m ≤ j ∧ b < w.heap.size)) wr q.1.doc q.2.doc
theorem CwI.ge {w : World} {g n c : Nat} {ps : List PW} {i m : Nat} {qs : List PW} {wr : World} (h : CwI w g n c ps i m qs wr) : w.heap.size ≤ g := own_ge h.own g rfl
theorem CwI.lt {w : World} {g n c : Nat} {ps : List PW} {i m : Nat} {qs : List PW} {wr : World} (h : CwI w g n c ps i m qs wr) : g < wr.heap.size := own_lt h.own rfl
theorem CwI.step {w : World} {g n c : Nat} {ps : List PW} {i m : Nat} {qs : List PW} {wr w' : World} (h : CwI w g n c ps i m qs wr) (hb : Below wr.heap.size wr w') : CwI w g n c ps i m qs w' :=
  ⟨own_step h.own hb, h.ln, h.vs, h.hd, fun j q hq => (h.key j q hq).step hb, fun j q hq => (h.doc j q hq).step hb⟩
theorem map_set_eq {ps qs : List PW} {i : Nat} {q q' : PW} (h : qs.map Prod.snd = ps.map Prod.snd) (hq : qs[i]? = some q) (he : q'.2 = q.2) : (qs.set i q').map Prod.snd = ps.map Prod.snd := by
  rw [← h, List.map_set, he]
  refine List.ext_getElem? fun j => ?_
  by_cases hj : i = j
  · subst hj
    have := (List.getElem?_eq_some_iff.1 hq).1
    rw [List.getElem?_set_self (by rw [List.length_map]; exact this), List.getElem?_map, hq]
    rfl
  · rw [List.getElem?_set_ne hj]
theorem CwI.putK {w : World} {g n c : Nat} {ps : List PW} {i m : Nat} {qs : List PW} {wr : World} {c' : VC} {q : PW} (h : CwI w g n c ps i m qs wr) (hq : qs[i]? = some q) (hr : RV (fun b => w.heap.size ≤ b ∧ b ≠ g) wr c' q.2.key) :
    CwI w g n c ps (i + 1) m (qs.set i (q.1.putK c', q.2)) (setV wr g (i * 78 + 2) c') := by
  have hg := h.ge
  have keep : ∀ {G : Nat → Prop} {e : VC} {z : Val}, RV G wr e z → (∀ b, G b → b ≠ g) → RV G (setV wr g (i * 78 + 2) c') e z := fun hz hG => hz.keep fun b hb => heap_setV (hG b hb)
  have hi : i < qs.length := (List.getElem?_eq_some_iff.1 hq).1
  refine ⟨?_, by rw [List.length_set]; exact h.ln, map_set_eq h.vs hq rfl, fun p hp => ?_, fun j p hp => ?_, fun j p hp => ?_⟩
  · rw [← setList_flat recW_length hq (by simp [VC.list]) (putK_rec q c')]
    exact own_setCellsM c'.list (i * 78 + 2) h.own
  · rcases List.mem_or_eq_of_mem_set hp with hp | rfl
    · exact h.hd p hp
    · exact h.hd q (List.mem_of_getElem? hq)
  · by_cases hj : j = i
    · subst hj
      rw [List.getElem?_set_self hi] at hp
      cases hp
      exact keep (hr.mono fun b hb => .inl ⟨by omega, hb⟩) fun b hb => by rcases hb with hb | hb <;> omega
    · rw [List.getElem?_set_ne (fun e => hj e.symm)] at hp
      exact keep ((h.key j p hp).mono fun b hb => hb.elim (fun hb => .inl ⟨by omega, hb.2⟩) (fun hb => .inr ⟨by omega, hb.2⟩)) fun b hb => by rcases hb with hb | hb <;> omega
  · by_cases hj : j = i
    · subst hj
      rw [List.getElem?_set_self hi] at hp
      cases hp
      exact keep (h.doc j q hq) fun b hb => by rcases hb with hb | hb <;> omega
    · rw [List.getElem?_set_ne (fun e => hj e.symm)] at hp
      exact keep (h.doc j p hp) fun b hb => by rcases hb with hb | hb <;> omega
theorem CwI.putD {w : World} {g n c : Nat} {ps : List PW} {i m : Nat} {qs : List PW} {wr : World} {c' : VC} {q : PW} (h : CwI w g n c ps i m qs wr) (hq : qs[m]? = some q) (hr : RV (fun b => w.heap.size ≤ b ∧ b ≠ g) wr c' q.2.doc) :
    CwI w g n c ps i (m + 1) (qs.set m (q.1.putD c', q.2)) (setV wr g (m * 78 + 7) c') := by
  have hg := h.ge
  have keep : ∀ {G : Nat → Prop} {e : VC} {z : Val}, RV G wr e z → (∀ b, G b → b ≠ g) → RV G (setV wr g (m * 78 + 7) c') e z := fun hz hG => hz.keep fun b hb => heap_setV (hG b hb)
  have hi : m < qs.length := (List.getElem?_eq_some_iff.1 hq).1
  refine ⟨?_, by rw [List.length_set]; exact h.ln, map_set_eq h.vs hq rfl, fun p hp => ?_, fun j p hp => ?_, fun j p hp => ?_⟩
  · rw [← setList_flat recW_length hq (by simp [VC.list]) (putD_rec q c')]
    exact own_setCellsM c'.list (m * 78 + 7) h.own
  · rcases List.mem_or_eq_of_mem_set hp with hp | rfl
    · exact h.hd p hp
    · exact h.hd q (List.mem_of_getElem? hq)
  · by_cases hj : j = m
    · subst hj
      rw [List.getElem?_set_self hi] at hp
      cases hp
      exact keep (h.key j q hq) fun b hb => by rcases hb with hb | hb <;> omega
    · rw [List.getElem?_set_ne (fun e => hj e.symm)] at hp
      exact keep (h.key j p hp) fun b hb => by rcases hb with hb | hb <;> omega
  · by_cases hj : j = m
    · subst hj
      rw [List.getElem?_set_self hi] at hp
      cases hp
      exact keep (hr.mono fun b hb => .inl ⟨by omega, hb⟩) fun b hb => by rcases hb with hb | hb <;> omega
    · rw [List.getElem?_set_ne (fun e => hj e.symm)] at hp
      exact keep ((h.doc j p hp).mono fun b hb => hb.elim (fun hb => .inl ⟨by omega, hb.2⟩) (fun hb => .inr ⟨by omega, hb.2⟩)) fun b hb => by rcases hb with hb | hb <;> omega
theorem CwI.cellK {w : World} {g n c : Nat} {ps : List PW} {i m : Nat} {qs : List PW} {wr : World} (h : CwI w g n c ps i m qs wr) {j : Nat} {q : PW} (hq : qs[j]? = some q) {k : Nat} {u : Value} (hk : (recW q)[k]? = some u) : wr.cell? ⟨g, j * 78 + k, none⟩ = some u ∧ wr.frozen? ⟨g, j * 78 + k, none⟩ = false :=
  own_cell h.own (flat_get recW_length hq hk)

/-- what copyWrites hands back -/
def CwOk (w : World) (n : Nat) (ps : List PW) (e : Ending) (w' : World) : Prop :=
  ∃ (A : Option Addr) (c : Nat) (qs : List PW), e = .returned (.slice A n c) ∧ qs.map Prod.snd = ps.map Prod.snd ∧ qs.length = n ∧ w'.ownsRow w.heap.size 68 78 (.slice A n c) n (flat recW qs) ∧
    (∀ p ∈ qs, RW1 (fun b => w.heap.size ≤ b ∧ (Value.slice A n c).ownBlock ≠ some b) w' p.1 p.2) ∧ Below w.heap.size w w'

set_option maxRecDepth 100000 in
set_option maxHeartbeats 2000000 in
theorem copyWrites_any (ps : List PW) (A : Option Addr) (n c : Nat) (w : World) (h : WS (fun _ => True) w A n c ps) (hn : n ≤ 100000) : Calls Tryz.prog 79 #[.slice A n c] w (CwOk w n ps) := by
  have H := Lib.hid h
  have HLN : Hid (n = ps.length) := h.sr.ln
  have HCL := Lib.hid (cloneW_any ps A n c w h hn)
  have HN := Lib.hid hn
  clear h
  go_enter Tryz.func79, Tryz.ntmps79
  go_wp2_with fail
  refine HCL.out.mono ?_
  rintro e w1 ⟨v, rfl, hown, hb⟩
  obtain ⟨A1, c1, rfl, hc1⟩ := own_slice hown
  have HO := Lib.hid hown
  have HB := Lib.hid hb
  clear hown hb HCL
  rcases Nat.eq_zero_or_pos n with h0 | h0
  · subst h0
    have HPS : Hid (ps = []) := List.eq_nil_of_length_eq_zero HLN.out.symm
    go_wp2_with fail
    go_loopw [3, 8] (fun _ u8 wr => u8 = .int .i64 0 ∧ wr = w1) (fun _ _ _ => 0)
    case atStart => exact ⟨rfl, rfl⟩
    case round =>
      obtain ⟨rfl, rfl⟩ := hrel
      go_wp2_with fail
      go_ret
      have hps := HPS.out
      subst hps
      exact ⟨A1, c1, [], rfl, rfl, rfl, HO.out, fun p hp => by simp at hp, HB.out⟩
  obtain ⟨g, cap, hv, hgb, hgl⟩ := HO.out.form h0
  have hA : A1 = some ⟨g, 0, none⟩ := by injection hv
  subst hA
  have I0 : Hid (CwI w g n c1 ps 0 0 ps w1) := ⟨HO.out, HLN.out.symm, rfl, fun q hq => ⟨(H.out.el q hq).kd, (H.out.el q hq).sp, (H.out.el q hq).si, (H.out.el q hq).sz⟩,
    fun j q hq => ((H.out.el q (List.mem_of_getElem? hq)).key.lt.keep fun b hb => HB.out.block b hb.2).mono fun b hb => .inr ⟨Nat.zero_le _, hb.2⟩,
    fun j q hq => ((H.out.el q (List.mem_of_getElem? hq)).doc.lt.keep fun b hb => HB.out.block b hb.2).mono fun b hb => .inr ⟨Nat.zero_le _, hb.2⟩⟩
  clear hv hgb hgl
  go_wp2_with fail
  go_loopw [3, 8] (fun _ u8 wr => ∃ (i : Nat) (qs : List PW), i ≤ n ∧ u8 = .int .i64 i ∧ CwI w g n c1 ps i i qs wr ∧ Below w.heap.size w wr) (fun _ u8 _ => n - (intOf u8).toNat)
  case atStart => exact ⟨0, ps, Nat.zero_le _, rfl, I0.out, HB.out⟩
  case round =>
    obtain ⟨i, qs, hi, rfl, I, hbel⟩ := hrel
    have J := Lib.hid I
    have HBE := Lib.hid hbel
    by_cases hlt : i < n
    · obtain ⟨q, hq⟩ : ∃ q, qs[i]? = some q := ⟨_, List.getElem?_eq_getElem (by rw [I.ln]; exact hlt)⟩
      have HQ := Lib.hid hq
      have HK := Lib.hid ((I.key i q hq).mono (G := fun _ => True) fun _ _ => trivial)
      clear I hbel hq
      obtain ⟨⟨kd, sp, ⟨k1, k2, k3, k4, k5, k6, k7, k8, k9⟩, ⟨d1, d2, d3, d4, d5, d6, d7, d8, d9⟩, si⟩, x⟩ := q
      have i0 : (0 : Int) ≤ (i : Int) := by omega
      have i1 : (i : Int) < (n : Int) := by omega
      obtain ⟨y0, -⟩ := J.out.cellK HQ.out (k := 2) rfl
      obtain ⟨y1, -⟩ := J.out.cellK HQ.out (k := 3) rfl
      obtain ⟨y2, -⟩ := J.out.cellK HQ.out (k := 4) rfl
      obtain ⟨y3, -⟩ := J.out.cellK HQ.out (k := 5) rfl
      obtain ⟨y4, -⟩ := J.out.cellK HQ.out (k := 6) rfl
      have HMC := Lib.hid (mcopy_any x.key ⟨k1, k2, k3, k4, k5, k6, k7, k8, k9⟩ wr HK.out)
      go_wp2_with fail
      refine HMC.out.mono ?_
      rintro e w2 ⟨⟨e1, e2, e3, e4, e5, e6, e7, e8, e9⟩, rfl, hr, hb⟩
      have HR := Lib.hid hr
      have J2 := Lib.hid (J.out.step hb)
      have HB2 := Lib.hid (HBE.out.step' hb)
      have HSZ : Hid (g < wr.heap.size ∧ w.heap.size ≤ wr.heap.size) := ⟨J.out.lt, HBE.out.size⟩
      clear hr hb HMC HK y0 y1 y2 y3 y4
      obtain ⟨y0, z0⟩ := J2.out.cellK HQ.out (k := 2) rfl
      obtain ⟨y1, z1⟩ := J2.out.cellK HQ.out (k := 3) rfl
      obtain ⟨y2, z2⟩ := J2.out.cellK HQ.out (k := 4) rfl
      obtain ⟨y3, z3⟩ := J2.out.cellK HQ.out (k := 5) rfl
      obtain ⟨y4, z4⟩ := J2.out.cellK HQ.out (k := 6) rfl
      have J3 : Hid (CwI w g n c1 ps (i + 1) i _ (setV w2 g (i * 78 + 2) ⟨e1, e2, e3, e4, e5, e6, e7, e8, e9⟩)) := J2.out.putK HQ.out (HR.out.mono fun b hb => (by have := HSZ.out; omega : w.heap.size ≤ b ∧ b ≠ g))
      have HB3 : Hid (Below w.heap.size w (setV w2 g (i * 78 + 2) ⟨e1, e2, e3, e4, e5, e6, e7, e8, e9⟩)) := below_setV HB2.out J2.out.ge (i * 78 + 2) ⟨e1, e2, e3, e4, e5, e6, e7, e8, e9⟩
      go_upto_region 6 with fail
      change Code.wp _ _ _ _ (setV w2 g (i * 78 + 2) ⟨e1, e2, e3, e4, e5, e6, e7, e8, e9⟩)
      generalize setV w2 g (i * 78 + 2) ⟨e1, e2, e3, e4, e5, e6, e7, e8, e9⟩ = w3 at *
      clear y0 y1 y2 y3 y4 z0 z1 z2 z3 z4 HR J2 HB2
      have HQ3 : Hid ((qs.set i (WC.putK ⟨kd, sp, ⟨k1, k2, k3, k4, k5, k6, k7, k8, k9⟩, ⟨d1, d2, d3, d4, d5, d6, d7, d8, d9⟩, si⟩ ⟨e1, e2, e3, e4, e5, e6, e7, e8, e9⟩, x))[i]? = some (WC.putK ⟨kd, sp, ⟨k1, k2, k3, k4, k5, k6, k7, k8, k9⟩, ⟨d1, d2, d3, d4, d5, d6, d7, d8, d9⟩, si⟩ ⟨e1, e2, e3, e4, e5, e6, e7, e8, e9⟩, x)) := List.getElem?_set_self (List.getElem?_eq_some_iff.1 HQ.out).1
      obtain ⟨y0, -⟩ := J3.out.cellK HQ3.out (k := 7) rfl
      obtain ⟨y1, -⟩ := J3.out.cellK HQ3.out (k := 8) rfl
      obtain ⟨y2, -⟩ := J3.out.cellK HQ3.out (k := 9) rfl
      obtain ⟨y3, -⟩ := J3.out.cellK HQ3.out (k := 10) rfl
      obtain ⟨y4, -⟩ := J3.out.cellK HQ3.out (k := 11) rfl
      have HMC := Lib.hid (mcopy_any x.doc ⟨d1, d2, d3, d4, d5, d6, d7, d8, d9⟩ w3 ((J3.out.doc i _ HQ3.out).mono fun _ _ => trivial))
      go_wp2_with fail
      refine HMC.out.mono ?_
      rintro e w4 ⟨⟨f1, f2, f3, f4, f5, f6, f7, f8, f9⟩, rfl, hr, hb⟩
      have HR := Lib.hid hr
      have J4 := Lib.hid (J3.out.step hb)
      have HB4 := Lib.hid (HB3.out.step' hb)
      have HSZ3 : Hid (g < w3.heap.size ∧ w.heap.size ≤ w3.heap.size) := ⟨J3.out.lt, HB3.out.size⟩
      clear hr hb HMC y0 y1 y2 y3 y4
      obtain ⟨y0, z0⟩ := J4.out.cellK HQ3.out (k := 7) rfl
      obtain ⟨y1, z1⟩ := J4.out.cellK HQ3.out (k := 8) rfl
      obtain ⟨y2, z2⟩ := J4.out.cellK HQ3.out (k := 9) rfl
      obtain ⟨y3, z3⟩ := J4.out.cellK HQ3.out (k := 10) rfl
      obtain ⟨y4, z4⟩ := J4.out.cellK HQ3.out (k := 11) rfl
      have J5 : Hid (CwI w g n c1 ps (i + 1) (i + 1) _ (setV w4 g (i * 78 + 7) ⟨f1, f2, f3, f4, f5, f6, f7, f8, f9⟩)) := J4.out.putD HQ3.out (HR.out.mono fun b hb => (by have := HSZ3.out; omega : w.heap.size ≤ b ∧ b ≠ g))
      have HB5 : Hid (Below w.heap.size w (setV w4 g (i * 78 + 7) ⟨f1, f2, f3, f4, f5, f6, f7, f8, f9⟩)) := below_setV HB4.out J4.out.ge (i * 78 + 7) ⟨f1, f2, f3, f4, f5, f6, f7, f8, f9⟩
      go_upto_region 7 with fail
      change Code.wp _ _ _ _ (setV w4 g (i * 78 + 7) ⟨f1, f2, f3, f4, f5, f6, f7, f8, f9⟩)
      generalize setV w4 g (i * 78 + 7) ⟨f1, f2, f3, f4, f5, f6, f7, f8, f9⟩ = w5 at *
      clear y0 y1 y2 y3 y4 z0 z1 z2 z3 z4 HR J4 HB4
      go_wp2_with fail
      go_roundw
      case rel => exact ⟨i + 1, _, by omega, by go_num, J5.out, HB5.out⟩
      case measure => simp [intOf]; omega
    · have hik : i = n := by omega
      subst hik
      clear I hbel
      go_wp2_with fail
      go_ret
      exact ⟨_, c1, qs, rfl, J.out.vs, J.out.ln, J.out.own, fun p hp => by
        obtain ⟨j, hj⟩ := List.getElem?_of_mem hp
        have hjl : j < i := by have := (List.getElem?_eq_some_iff.1 hj).1; rw [J.out.ln] at this; exact this
        obtain ⟨e1, e2, e3, e4⟩ := J.out.hd p hp
        have hF : ∀ b, ((j < i ∧ w.heap.size ≤ b ∧ b ≠ g) ∨ (i ≤ j ∧ b < w.heap.size)) → w.heap.size ≤ b ∧ (Value.slice (some ⟨g, 0, none⟩) i c1).ownBlock ≠ some b := fun b hb => by
          rcases hb with hb | hb
          · exact ⟨hb.2.1, fun e => by injection e with e; exact hb.2.2 e.symm⟩
          · omega
        exact ⟨e1, e2, e3, e4, (J.out.key j p hj).mono hF, (J.out.doc j p hj).mono hF⟩, HBE.out⟩

end Go.Proofs.YtlmmgjgkmbmgpaaGreatDoor



/- migrate.Start as plain data, and that Give is possible behind it. -/
namespace Go.Proofs.YtlmmgjgkmbmgpaaGreatDoor
open Go.RowKit

def startR (R : Ro) (lo : ByteArray) (t : Int) : Mv × Int :=
  if idxI (begB lo) R.cs < 0 then (Mv.zero, 15)
  else if t < 0 ∨ 8 ≤ t then (Mv.zero, 1)
  else match R.cs[(idxI (begB lo) R.cs).toNat]? with
    | none => (Mv.zero, 15)
    | some c => if c.sh = t ∨ c.ju = true then (Mv.zero, 23) else (⟨R.sp, c.lo, c.hi, c.sh, t, 1, [], []⟩, 0)
structure Started (R : Ro) (key : ByteArray) (t : Int) (M : Mv) : Prop where
  sp : M.sp = R.sp
  lo : M.lo = key
  tt : M.tt = t
  st : M.st = 1
  cp : M.cp = []
  ch : M.ch = []
  gi : (giveR R key t).2 = 0
theorem startR_ok {R : Ro} {lo : ByteArray} {t : Int} (h : (startR R lo t).2 = 0) : Started R lo t (startR R lo t).1 := by
  rcases idxI_range (begB lo) R.cs with ⟨hf, _⟩ | ⟨i, c, hf, hic, hin, _⟩
  · unfold startR at h
    rw [hf, if_pos (by omega)] at h
    exact absurd (show (15 : Int) = 0 from h) (by omega)
  have e : startR R lo t = if t < 0 ∨ 8 ≤ t then (Mv.zero, 1) else if c.sh = t ∨ c.ju = true then (Mv.zero, 23) else (⟨R.sp, c.lo, c.hi, c.sh, t, 1, [], []⟩, 0) := by
    unfold startR
    rw [if_neg (by omega), hf, Int.toNat_natCast, hic]
  have g : giveR R lo t = if t < 0 ∨ 8 ≤ t then (Ro.zero, 1) else if c.sh = t ∨ c.ju = true then (Ro.zero, 23) else (⟨R.sp, R.ks, R.ha, R.ep, nx R.ver, touch (repl R.cs i 1 [⟨c.lo, c.hi, t, nx R.ver, c.ju⟩]) c.sh (nx R.ver)⟩, 0) := by
    unfold giveR
    rw [if_neg (by omega), hf, Int.toNat_natCast, hic]
  rw [e] at h ⊢
  by_cases h1 : t < 0 ∨ 8 ≤ t
  · rw [if_pos h1] at h; exact absurd h (by decide)
  by_cases h2 : c.sh = t ∨ c.ju = true
  · rw [if_neg h1, if_pos h2] at h; exact absurd h (by decide)
  rw [if_neg h1, if_neg h2] at g ⊢
  have hlo : c.lo = lo := by
    have h3 : c.lo.toList = lo.toList := by simpa [begB] using hin
    exact bytes_eq.1 h3
  exact ⟨rfl, hlo, rfl, rfl, rfl, rfl, by rw [g]⟩
end Go.Proofs.YtlmmgjgkmbmgpaaGreatDoor



/- The contract of migrate.Start; results with a migration. -/
namespace Go.Proofs.YtlmmgjgkmbmgpaaGreatDoor
open Go.RowKit
set_option linter.unusedSimpArgs false

theorem sizeM : (Tryz.prog.info? 37).map (·.size) = some 8 := by kernel_rfl
theorem marr_all (a : MA) (M : Mv) : (marr a M).all (·.oneCell') = true := by simp [marr, Value.oneCell']
theorem loadM {w : World} {g : Nat} {cs : Array Value} (h : Blk w g 37 cs) (hz : cs.size = 8) : (loadVar 37 ⟨g, 0, none⟩).run Tryz.prog w = .ok (.agg cs) w :=
  run_loadVar_row w g _ _ cs _ _ h Tryz.underlying37 rfl (by rw [sizeM, hz])
theorem results_mv {fn : Func} {p u : Tmp} (h : fn.results = #[.cell p 37, .tmp u]) (tmps : Array Value) (g : Nat) (h1 : tmps.getD p undef = .pointer (some ⟨g, 0, none⟩)) (e : Value) (h2 : tmps.getD u undef = e)
    (W : World) (a : MA) (M : Mv) (q : Blk W g 37 (marr a M)) : (results fn tmps).run Tryz.prog W = .ok (.tuple #[mval a M, e]) W := by
  rw [results_cell_tmp h, h1, h2]
  simp [asAddr, loadM q rfl]
theorem results_mv1 {fn : Func} {p : Tmp} (h : fn.results = #[.cell p 37]) (tmps : Array Value) (g : Nat) (h1 : tmps.getD p undef = .pointer (some ⟨g, 0, none⟩))
    (W : World) (a : MA) (M : Mv) (q : Blk W g 37 (marr a M)) : (results fn tmps).run Tryz.prog W = .ok (mval a M) W :=
  results_cell_row h tmps W g _ _ _ _ h1 q Tryz.underlying37 rfl (by rw [sizeM]; rfl)

theorem mstart1_any (x : Ch) (m : Nat) (key : ByteArray) (w : World) (h : w.cell? ⟨m, 0, none⟩ = some (.string key)) :
    Calls Tryz.prog 40 #[aggC x, .pointer (some ⟨m, 0, none⟩)] w fun e w' => e = .returned (.bool (begB key x)) ∧ Below w.heap.size w w' := by
  have hm := World.block_lt_of_cell? w _ h
  go_enter Tryz.func40, Tryz.ntmps40
  go_wp2_with fail
  go_ret
  exact ⟨rfl, (Below.refl _ _).alloc (Nat.le_refl _) _⟩

set_option maxRecDepth 100000 in
set_option maxHeartbeats 2000000 in
theorem start_any (R : Ro) (a : RA) (lo : ByteArray) (t : Int) (w : World) (h : RR w a R) : Calls Tryz.prog 10 #[rval a R, .string lo, .int .i64 t] w
    fun e w' => e = .returned (.tuple #[mval MA.zero (startR R lo t).1, .int .i64 (startR R lo t).2]) ∧ Below w.heap.size w w' := by
  obtain ⟨KA, kn, kc, CA, cn, cc⟩ := a
  have H := Lib.hid h
  clear h
  have B0 : Hid (Blk (((w.alloc (Obj.cells (rarr ⟨KA, kn, kc, CA, cn, cc⟩ R) 27)).alloc (Obj.cells #[.string lo] 9)).alloc (Obj.cells (marr MA.zero Mv.zero) 37)) w.heap.size 27 (rarr ⟨KA, kn, kc, CA, cn, cc⟩ R)) := ((Blk.new_at rfl).alloc _).alloc _
  have B1 : Hid (Blk (((w.alloc (Obj.cells (rarr ⟨KA, kn, kc, CA, cn, cc⟩ R) 27)).alloc (Obj.cells #[.string lo] 9)).alloc (Obj.cells (marr MA.zero Mv.zero) 37)) (w.heap.size + 1) 9 #[.string lo]) := (Blk.new_at (by simp)).alloc _
  have B2 : Hid (Blk (((w.alloc (Obj.cells (rarr ⟨KA, kn, kc, CA, cn, cc⟩ R) 27)).alloc (Obj.cells #[.string lo] 9)).alloc (Obj.cells (marr MA.zero Mv.zero) 37)) (w.heap.size + 2) 37 (marr MA.zero Mv.zero)) := Blk.new_at (by simp)
  have BE : Hid (Below w.heap.size w (((w.alloc (Obj.cells (rarr ⟨KA, kn, kc, CA, cn, cc⟩ R) 27)).alloc (Obj.cells #[.string lo] 9)).alloc (Obj.cells (marr MA.zero Mv.zero) 37))) := (((Below.refl _ _).alloc (Nat.le_refl _) _).alloc (by simp) _).alloc (by simp; omega) _
  go_enter Tryz.func10, Tryz.ntmps10
  go_upto_region 1 with fail
  change Code.wp _ _ _ _ (((w.alloc (Obj.cells (rarr ⟨KA, kn, kc, CA, cn, cc⟩ R) 27)).alloc (Obj.cells #[.string lo] 9)).alloc (Obj.cells (marr MA.zero Mv.zero) 37))
  generalize (((w.alloc (Obj.cells (rarr ⟨KA, kn, kc, CA, cn, cc⟩ R) 27)).alloc (Obj.cells #[.string lo] 9)).alloc (Obj.cells (marr MA.zero Mv.zero) 37)) = wa at *
  have HIX := Lib.hid (indexC_any 40 (w.heap.size + 1) (begB lo) R.cs CA cn cc wa (H.out.cs.step BE.out) (fun _ _ => rfl) fun x wr hb => mstart1_any x _ lo wr ((B1.out.step hb).cell 0))
  have q5 : wa.cell? ⟨w.heap.size, 5, none⟩ = some (.slice CA cn cc) := B0.out.cell 5
  go_wp2_with fail
  refine HIX.out.mono ?_
  rintro e w2 ⟨rfl, hb1⟩
  have F0 := Lib.hid (B0.out.step hb1)
  have F2 := Lib.hid (B2.out.step hb1)
  have FE := Lib.hid (BE.out.step' hb1)
  clear hb1 B0 B1 B2 BE q5 HIX
  rcases idxI_range (begB lo) R.cs with ⟨hf, _⟩ | ⟨i, c, hf, hic, hin, _⟩
  · rw [hf]
    have HV : Hid (startR R lo t = (Mv.zero, 15)) := by unfold Hid startR; rw [hf]; rfl
    clear hf
    go_wp2_with (refine wpList_store_row rfl 37 _ _ rfl (w.heap.size + 2) (marr MA.zero Mv.zero) rfl rfl 37 _ F2.out (by rw [sizeM]; rfl) rfl (marr_all _ _) ?_)
    refine bodyPost_ret (results_mv rfl _ (w.heap.size + 2) rfl (.int .i64 15) rfl _ MA.zero Mv.zero (Blk.row F2.out _)) rfl ?_
    exact ⟨by rw [HV.out], below_row FE.out (by omega) _⟩
  rw [hf]
  have hn : Hid (cn = R.cs.length) := H.out.cs.ln
  have HV : Hid (startR R lo t = if t < 0 ∨ 8 ≤ t then (Mv.zero, 1) else if c.sh = t ∨ c.ju = true then (Mv.zero, 23) else (⟨R.sp, c.lo, c.hi, c.sh, t, 1, [], []⟩, 0)) := by
    unfold Hid startR
    rw [if_neg (by omega), hf, Int.toNat_natCast, hic]
  have HIC := Lib.hid hic
  clear hic hin hf
  by_cases hz0 : t < 0
  · have HVE : Hid (startR R lo t = (Mv.zero, 1)) := by rw [Hid, HV.out, if_pos (.inl hz0)]
    go_wp2_with (refine wpList_store_row rfl 37 _ _ rfl (w.heap.size + 2) (marr MA.zero Mv.zero) rfl rfl 37 _ F2.out (by rw [sizeM]; rfl) rfl (marr_all _ _) ?_)
    refine bodyPost_ret (results_mv rfl _ (w.heap.size + 2) rfl (.int .i64 1) rfl _ MA.zero Mv.zero (Blk.row F2.out _)) rfl ?_
    exact ⟨by rw [HVE.out], below_row FE.out (by omega) _⟩
  by_cases hz8 : 8 ≤ t
  · have HVE : Hid (startR R lo t = (Mv.zero, 1)) := by rw [Hid, HV.out, if_pos (.inr hz8)]
    go_wp2_with (refine wpList_store_row rfl 37 _ _ rfl (w.heap.size + 2) (marr MA.zero Mv.zero) rfl rfl 37 _ F2.out (by rw [sizeM]; rfl) rfl (marr_all _ _) ?_)
    refine bodyPost_ret (results_mv rfl _ (w.heap.size + 2) rfl (.int .i64 1) rfl _ MA.zero Mv.zero (Blk.row F2.out _)) rfl ?_
    exact ⟨by rw [HVE.out], below_row FE.out (by omega) _⟩
  have HV2 : Hid (startR R lo t = if c.sh = t ∨ c.ju = true then (Mv.zero, 23) else (⟨R.sp, c.lo, c.hi, c.sh, t, 1, [], []⟩, 0)) := by rw [Hid, HV.out, if_neg (by omega)]
  clear HV
  obtain ⟨q0, q1, q2, q3, q4, q5, qz⟩ := blk_ro F0.out
  simp only at q1 q5
  have hicn : i < cn := by rw [hn.out]; exact (List.getElem?_eq_some_iff.1 HIC.out).1
  obtain ⟨b, off, x, hA, hbl, hx, e0, e1, e2, e3, e4⟩ := H.out.cs.sr.at5 hicn
  rw [HIC.out] at hx
  injection hx with hx
  subst hx
  simp only at hA
  subst hA
  obtain ⟨clo, chi, csh, cver, cju⟩ := c
  have j0 := (FE.out.cell (p := ⟨b, off + i * 5, none⟩) hbl).trans e0
  have j1 := (FE.out.cell (p := ⟨b, off + i * 5 + 1, none⟩) hbl).trans e1
  have j2 := (FE.out.cell (p := ⟨b, off + i * 5 + 2, none⟩) hbl).trans e2
  have j3 := (FE.out.cell (p := ⟨b, off + i * 5 + 3, none⟩) hbl).trans e3
  have j4 := (FE.out.cell (p := ⟨b, off + i * 5 + 4, none⟩) hbl).trans e4
  simp only at j0 j1 j2 j3 j4
  have HV : Hid (startR R lo t = if csh = t ∨ cju = true then (Mv.zero, 23) else (⟨R.sp, clo, chi, csh, t, 1, [], []⟩, 0)) := HV2.out
  clear e0 e1 e2 e3 e4 HV2 HIC
  go_upto_region 7 with fail
  change Code.wp _ _ _ _ (w2.alloc (Obj.cells (recC ⟨clo, chi, csh, cver, cju⟩).toArray 80))
  have P0 := Lib.hid (F0.out.alloc (Obj.cells (recC ⟨clo, chi, csh, cver, cju⟩).toArray 80))
  have P2 := Lib.hid (F2.out.alloc (Obj.cells (recC ⟨clo, chi, csh, cver, cju⟩).toArray 80))
  have PC : Hid (Blk (w2.alloc (Obj.cells (recC ⟨clo, chi, csh, cver, cju⟩).toArray 80)) w2.heap.size 80 (recC ⟨clo, chi, csh, cver, cju⟩).toArray) := Blk.new_at rfl
  have PE := Lib.hid (FE.out.alloc FE.out.size (Obj.cells (recC ⟨clo, chi, csh, cver, cju⟩).toArray 80))
  clear j0 j1 j2 j3 j4 q0 q1 q2 q3 q4 q5 qz F0 F2 FE
  generalize w2.alloc (Obj.cells (recC ⟨clo, chi, csh, cver, cju⟩).toArray 80) = wf at *
  generalize w2.heap.size = gc at *
  obtain ⟨q0, q1, q2, q3, q4, q5, qz⟩ := blk_ro P0.out
  have k0 : wf.cell? ⟨gc, 0, none⟩ = some (.string clo) := PC.out.cell 0
  have k1 : wf.cell? ⟨gc, 1, none⟩ = some (.string chi) := PC.out.cell 1
  have k2 : wf.cell? ⟨gc, 2, none⟩ = some (.int .i64 csh) := PC.out.cell 2
  have k4 : wf.cell? ⟨gc, 4, none⟩ = some (.bool cju) := PC.out.cell 4
  simp only at q1 q5
  cases hsz : (csh == t)
  rotate_left
  · have HVE : Hid (startR R lo t = (Mv.zero, 23)) := by rw [Hid, HV.out, if_pos (.inl (by simpa using hsz))]
    go_wp2_with (refine wpList_store_row rfl 37 _ _ rfl (w.heap.size + 2) (marr MA.zero Mv.zero) rfl rfl 37 _ P2.out (by rw [sizeM]; rfl) rfl (marr_all _ _) ?_)
    refine bodyPost_ret (results_mv rfl _ (w.heap.size + 2) rfl (.int .i64 23) rfl _ MA.zero Mv.zero (Blk.row P2.out _)) rfl ?_
    exact ⟨by rw [HVE.out], below_row PE.out (by omega) _⟩
  cases cju
  rotate_left
  · have HVE : Hid (startR R lo t = (Mv.zero, 23)) := by rw [Hid, HV.out, if_pos (.inr rfl)]
    go_wp2_with (refine wpList_store_row rfl 37 _ _ rfl (w.heap.size + 2) (marr MA.zero Mv.zero) rfl rfl 37 _ P2.out (by rw [sizeM]; rfl) rfl (marr_all _ _) ?_)
    refine bodyPost_ret (results_mv rfl _ (w.heap.size + 2) rfl (.int .i64 23) rfl _ MA.zero Mv.zero (Blk.row P2.out _)) rfl ?_
    exact ⟨by rw [HVE.out], below_row PE.out (by omega) _⟩
  have HVE : Hid (startR R lo t = (⟨R.sp, clo, chi, csh, t, 1, [], []⟩, 0)) := by rw [Hid, HV.out, if_neg (by simpa using hsz)]
  go_wp2_with (refine wpList_store_row rfl 37 _ _ rfl (w.heap.size + 2) (marr MA.zero ⟨R.sp, clo, chi, csh, t, 1, [], []⟩) rfl rfl 37 _ P2.out (by rw [sizeM]; rfl) rfl (marr_all _ _) ?_)
  refine bodyPost_ret (results_mv rfl _ (w.heap.size + 2) rfl (.int .i64 0) rfl _ MA.zero ⟨R.sp, clo, chi, csh, t, 1, [], []⟩ (Blk.row P2.out _)) rfl ?_
  exact ⟨by rw [HVE.out], below_row PE.out (by omega) _⟩

end Go.Proofs.YtlmmgjgkmbmgpaaGreatDoor


