/- The walk of the law ValueParts. -/
import Derived.Test.YtckeccfbadlhhaaDoorValAwake
import Derived.Test.YtckeccfbadlhhaaDoorValOpen
namespace Go.Proofs.YtckeccfbadlhhaaDoor
open Go.RowKit

theorem valid_parts {x : Val} (h : validV x = true) : x.size ≤ 1024 ∧ x.height ≤ 16 ∧ SoundV nameB x := by
  unfold validV at h
  simp only [Bool.and_eq_true, decide_eq_true_eq] at h
  exact ⟨h.1.1, h.1.2, soundB_iff.1 h.2⟩
theorem valid_of {x : Val} (h1 : x.size ≤ 1024) (h2 : x.height ≤ 16) (h3 : SoundV nameB x) : validV x = true := by
  unfold validV
  rw [decide_eq_true h1, decide_eq_true h2, soundB_true h3]
  rfl
theorem sound_part {nm : ByteArray → Bool} {x y : Val} (h : SoundV nm x) (hy : y ∈ x.parts) : SoundV nm y := by
  obtain ⟨_, h1, h2, _⟩ := (SoundV_iff nm x).1 h
  unfold Val.parts at hy
  split at hy
  · exact h1 y hy
  · split at hy
    · obtain ⟨f, hf, rfl⟩ := List.mem_map.1 hy
      exact h2 f hf
    · simp at hy
theorem valid_part {x y : Val} (h : validV x = true) (hy : y ∈ x.parts) : validV y = true ∧ nodesV y = y.size ∧ depthV y = y.height := by
  obtain ⟨h1, h2, h3⟩ := valid_parts h
  have a := parts_size hy
  have b := parts_height hy
  refine ⟨valid_of (by omega) (by omega) (sound_part h3 hy), ?_, ?_⟩
  · unfold nodesV nodesI; omega
  · unfold depthV depthI; omega

set_option maxRecDepth 100000 in
set_option maxHeartbeats 2000000 in
theorem valueParts_walk (c : VC) (x : Val) (w : World) (hT : Tabs w) (h : RW w c x) : Calls Tryd.prog 7 #[c.val] w fun e w' => e = .returned (.bool true) ∧ Below w.heap.size w w' := by
  have HT := Lib.hid hT
  have H := Lib.hid h
  have HZ := Lib.hid ((Below.refl w.heap.size w).alloc (Nat.le_refl _) (Obj.cells c.arr 25))
  have HB : Hid (Blk (w.alloc (Obj.cells c.arr 25)) w.heap.size 25 c.arr) := Blk.new_at rfl
  clear h hT
  by_cases h1 : 2000 < c.ln
  · go_enter Tryd.func7, Tryd.ntmps7
    go_wp2_with fail
    refine (awake_any _ (HT.out.step HZ.out)).mono ?_
    rintro e w9 ⟨rfl, hb9⟩
    go_wp2_with fail
    go_ret
    exact ⟨rfl, HZ.out.step' hb9⟩
  by_cases h2 : 2000 < c.dn
  · go_enter Tryd.func7, Tryd.ntmps7
    go_wp2_with fail
    refine (awake_any _ (HT.out.step HZ.out)).mono ?_
    rintro e w9 ⟨rfl, hb9⟩
    go_wp2_with fail
    go_ret
    exact ⟨rfl, HZ.out.step' hb9⟩
  go_enter Tryd.func7, Tryd.ntmps7
  go_wp2_with fail
  refine (valid_any x c _ (HT.out.step HZ.out) (H.out.step HZ.out)).mono ?_
  rintro e w1 ⟨rfl, hb1⟩
  have Z1 := Lib.hid (HZ.out.step' hb1)
  have B1 := Lib.hid (HB.out.step hb1)
  clear hb1
  cases hv : validV x
  · go_wp2_with fail
    refine (awake_any _ (HT.out.step Z1.out)).mono ?_
    rintro e w9 ⟨rfl, hb9⟩
    go_wp2_with fail
    go_ret
    exact ⟨rfl, Z1.out.step' hb9⟩
  obtain ⟨g1, g2, g3⟩ := valid_parts hv
  have HV := Lib.hid hv
  have hps := size_parts x
  have hph := height_parts x
  have HPS := Lib.hid hps
  have HPH := Lib.hid hph
  clear hv g3 hps hph
  obtain ⟨a0, a1, a2, a3, a4⟩ := VAt.of_blk B1.out
  go_wp2_with fail
  refine (rparts_any x c _ (H.out.step Z1.out)).mono ?_
  rintro e w2 ⟨A, n, cc, ps, rfl, hx, hsl, hb2⟩
  have Z2 := Lib.hid (Z1.out.step' hb2)
  have B2 := Lib.hid (B1.out.step hb2)
  have HX := Lib.hid hx
  have HL := Lib.hid hsl
  have HN := Lib.hid hsl.sr.ln
  have hz := hsl.sz
  unfold reach at hz
  clear hx hsl hb2 a0 a1 a2 a3 a4
  go_wp2_with fail
  go_loopw [3, 4, 6] (fun v3 v4 v6 wr => ∃ i : Nat, i ≤ n ∧ v6 = .int .i64 i ∧ v3 = .int .i64 (1 + (sizeL (x.parts.take i) : Int)) ∧ v4 = .int .i64 (heightL (x.parts.take i) : Int) ∧ Below w2.heap.size w2 wr) (fun _ _ v6 _ => n - (intOf v6).toNat)
  case atStart => exact ⟨0, Nat.zero_le _, rfl, by simp [sizeL], by simp [heightL], Below.refl _ _⟩
  case round =>
    obtain ⟨i, hi, rfl, rfl, rfl, I⟩ := hrel
    have J := Lib.hid I
    have s1 := sizeL_take x.parts i
    have s2 := heightL_take x.parts i
    have s3 : sizeL x.parts ≤ 1023 := by have := HPS.out; omega
    have s4 : heightL x.parts ≤ 15 := by have := HPH.out; omega
    have r1 : sizeL (x.parts.take i) ≤ 1023 := by omega
    have r2 : heightL (x.parts.take i) ≤ 15 := by omega
    by_cases hlt : i < n
    · obtain ⟨p, hp⟩ : ∃ p, ps[i]? = some p := ⟨_, List.getElem?_eq_getElem (by have := HN.out; omega)⟩
      obtain ⟨b, off, rfl, _, hu, hr⟩ := HL.out.vat hp
      have hy : x.parts[i]? = some p.2 := by rw [← HX.out, List.getElem?_map, hp]; rfl
      obtain ⟨v1, v2, v3⟩ := valid_part HV.out (List.mem_of_getElem? hy)
      have t1 := sizeL_snoc hy
      have t2 := heightL_snoc hy
      have t3 := sizeL_take x.parts (i + 1)
      have t4 := heightL_take x.parts (i + 1)
      have q1 : p.2.size ≤ 1023 := by omega
      have q2 : p.2.height ≤ 15 := by omega
      have T1 := Lib.hid t1
      have T2 := Lib.hid t2
      have V1 := Lib.hid v1
      have V2 := Lib.hid v2
      have V3 := Lib.hid v3
      have HR := Lib.hid (hr.step I)
      have HU := Lib.hid (hu.step I)
      have HTr := Lib.hid ((HT.out.step Z2.out).step I)
      clear hp hu hr hy v1 v2 v3 t1 t2 t3 t4 s1 s2 s3 s4 I
      obtain ⟨y0, y1, y2, y3, y4⟩ := HU.out
      go_wp2_with fail
      refine (valid_any p.2 p.1 _ HTr.out HR.out).mono ?_
      rintro e w3 ⟨rfl, hb3⟩
      rw [V1.out]
      clear y0 y1 y2 y3 y4
      have U3 := Lib.hid (HU.out.step hb3)
      have R3 := Lib.hid (HR.out.step hb3)
      have J3 := Lib.hid (J.out.step' hb3)
      clear hb3
      obtain ⟨y0, y1, y2, y3, y4⟩ := U3.out
      go_wp2_with fail
      refine (nodesV_any p.2 p.1 _ R3.out).mono ?_
      rintro e w4 ⟨rfl, hb4⟩
      rw [V2.out]
      clear y0 y1 y2 y3 y4
      have U4 := Lib.hid (U3.out.step hb4)
      have R4 := Lib.hid (R3.out.step hb4)
      have J4 := Lib.hid (J3.out.step' hb4)
      clear hb4
      obtain ⟨y0, y1, y2, y3, y4⟩ := U4.out
      go_wp2_with fail
      refine (depthV_any p.2 p.1 _ R4.out).mono ?_
      rintro e w5 ⟨rfl, hb5⟩
      rw [V3.out]
      clear y0 y1 y2 y3 y4
      have J5 := Lib.hid (J4.out.step' hb5)
      clear hb5
      by_cases hle : (heightL (x.parts.take i) : Int) < (p.2.height : Int)
      all_goals
        go_wp2_with fail
        go_roundw
        case rel => exact ⟨i + 1, by omega, by go_num, by congr 1; have := T1.out; omega, by congr 1; have := T2.out; omega, J5.out⟩
        case measure => simp [intOf]; omega
    · have e1 : x.parts.take i = x.parts := List.take_of_length_le (by rw [← HX.out, List.length_map, ← HN.out]; omega)
      rw [e1] at r1 r2 ⊢
      have HNd : Hid (nodesV x = 1 + (sizeL x.parts : Int)) := by have := HPS.out; unfold Hid nodesV nodesI; omega
      have HDp : Hid (depthV x = (heightL x.parts : Int) + 1) := by have := HPH.out; unfold Hid depthV depthI; omega
      obtain ⟨a0, a1, a2, a3, a4⟩ := VAt.of_blk (B2.out.step I)
      have d1 : decide (1 + (sizeL x.parts : Int) ≤ 1024) = true := decide_eq_true (by omega)
      have d2 : decide ((heightL x.parts : Int) < 16) = true := decide_eq_true (by omega)
      clear e1 s1 s2 I
      go_wp2_with fail
      refine (nodesV_any x c _ (H.out.step (Z2.out.step' J.out))).mono ?_
      rintro e w3 ⟨rfl, hb3⟩
      rw [HNd.out]
      have J3 := Lib.hid (J.out.step' hb3)
      clear hb3 a0 a1 a2 a3 a4
      obtain ⟨a0, a1, a2, a3, a4⟩ := VAt.of_blk (B2.out.step J3.out)
      go_wp2_with fail
      refine (depthV_any x c _ (H.out.step (Z2.out.step' J3.out))).mono ?_
      rintro e w4 ⟨rfl, hb4⟩
      rw [HDp.out]
      have J4 := Lib.hid (J3.out.step' hb4)
      clear hb4 a0 a1 a2 a3 a4
      go_wp2_with fail
      refine (awake_any _ (HT.out.step (Z2.out.step' J4.out))).mono ?_
      rintro e w9 ⟨rfl, hb9⟩
      go_wp2_with fail
      go_ret
      exact ⟨rfl, (Z2.out.step' J4.out).step' hb9⟩

end Go.Proofs.YtckeccfbadlhhaaDoor
