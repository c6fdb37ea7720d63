/- The contract of chunks.named. -/
import Derived.Test.YtgcklgkhdokchaaDoorValSound
import Derived.Test.YtgcklgkhdokchaaDoorChBaseA
namespace Go.Proofs.YtgcklgkhdokchaaDoor
open Go.RowKit

/-- a document with one field, null -/
def nullV : Val := .mk 2 0 ByteArray.empty [] []
def docN (s : ByteArray) : Val := .mk 5 0 ByteArray.empty [] [.mk s nullV]
theorem sound_docN (s : ByteArray) : SoundV nameB (docN s) ↔ nameB s = true := by
  rw [SoundV_iff]
  constructor
  · rintro ⟨_, _, _, h⟩
    exact h.1 (.mk s nullV) (by simp [docN, Val.d])
  · intro h
    refine ⟨⟨.inr (.inr (.inr rfl)), .inr (.inr (.inr rfl)), .inr rfl, .inl rfl, by right; right; right; right; right; right; right; right; right; right; rfl⟩, fun y hy => by simp [docN, Val.l] at hy, fun f hf => ?_, ⟨fun f hf => ?_, by simp [docN, Val.d]⟩⟩
    · simp [docN, Val.d] at hf
      subst hf
      show SoundV nameB nullV
      rw [SoundV_iff]
      exact ⟨⟨.inr (.inr (.inr rfl)), .inr (.inr (.inr rfl)), .inr rfl, .inr rfl, .inr (.inl rfl)⟩, fun y hy => by simp [nullV, Val.l] at hy, fun f hf => by simp [nullV, Val.d] at hf, ⟨fun f hf => by simp [nullV, Val.d] at hf, by simp [nullV, Val.d]⟩⟩
    · simp [docN, Val.d] at hf
      subst hf
      exact h
theorem validV_docN (s : ByteArray) : validV (docN s) = nameB s := by
  have h1 : (docN s).size = 2 := by simp [docN, nullV, Val.size, sizeD, sizeF]
  have h2 : (docN s).height = 2 := by simp [docN, nullV, Val.height, heightD, heightF]
  unfold validV
  rw [h1, h2]
  cases h : nameB s
  · rw [soundB_false (by rw [sound_docN, h]; simp)]
    rfl
  · rw [soundB_true ((sound_docN s).2 h)]
    rfl
theorem rw_docN {w : World} {g : Nat} {s : ByteArray} (h : Blk w g 81 #[.string s, .int .i64 2, .int .i64 0, .string ⟨#[]⟩, .slice none 0 0, .slice none 0 0]) (hs : s.size ≤ reach) :
    RW w ⟨5, 0, ⟨#[]⟩, none, 0, 0, some ⟨g, 0, none⟩, 1, 1⟩ (docN s) := by
  refine RVs.shut ⟨rfl, rfl, rfl, by show 0 ≤ reach; exact Nat.zero_le _, rfl, Nat.le_refl _, by show 0 * 80 ≤ reach; decide, fun h => absurd h (Nat.lt_irrefl 0), rfl, Nat.le_refl _, by show 1 * 96 ≤ reach; decide, fun _ => ⟨g, 0, rfl, Ft.top, fun i f hf => ?_⟩⟩
  have hi : i = 0 := by
    have := (List.getElem?_eq_some_iff.1 hf).1
    simp [docN, Val.d] at this
    exact this
  subst hi
  simp [docN, Val.d] at hf
  subst hf
  refine ⟨by rw [h.cell]; rfl, hs, ⟨2, 0, ⟨#[]⟩, none, 0, 0, none, 0, 0⟩, ⟨?_, ?_, ?_, ?_, ?_⟩, ?_⟩
  iterate 5 rw [h.cell]; rfl
  exact RVs.shut ⟨rfl, rfl, rfl, by show 0 ≤ reach; exact Nat.zero_le _, rfl, Nat.le_refl _, by show 0 * 80 ≤ reach; decide, fun h => absurd h (Nat.lt_irrefl 0), rfl, Nat.le_refl _, by show 0 * 96 ≤ reach; decide, fun h => absurd h (Nat.lt_irrefl 0)⟩
set_option maxRecDepth 100000 in
theorem named_any (s : ByteArray) (w : World) (hT : Tabs w) (hs : s.size ≤ reach) : Calls Tryd.prog 44 #[.string s] w fun e w' => e = .returned (.bool (nameB s)) ∧ Below w.heap.size w w' := by
  have HT := Lib.hid hT
  clear hT
  have HV := Lib.hid (validV_docN s)
  go_enter Tryd.func44, Tryd.ntmps44
  go_wp2_with fail
  have hB : Blk ((w.alloc (Obj.cells #[.int .i64 2, .int .i64 0, .string ⟨#[]⟩, .slice none 0 0, .slice none 0 0] 78)).alloc (Obj.cells #[.string s, .int .i64 2, .int .i64 0, .string ⟨#[]⟩, .slice none 0 0, .slice none 0 0] 81)) (w.heap.size + 1) 81 #[.string s, .int .i64 2, .int .i64 0, .string ⟨#[]⟩, .slice none 0 0, .slice none 0 0] := Blk.new_at (by simp)
  refine (valid_any (docN s) ⟨5, 0, ⟨#[]⟩, none, 0, 0, some ⟨w.heap.size + 1, 0, none⟩, 1, 1⟩ _ ((HT.out.alloc _).alloc _) (rw_docN hB hs)).mono ?_
  rintro e w1 ⟨rfl, hb⟩
  go_wp2_with fail
  go_ret
  exact ⟨by rw [HV.out]; rfl, (((Below.refl _ _).alloc (Nat.le_refl _) _).alloc (by simp) _).step' hb⟩

end Go.Proofs.YtgcklgkhdokchaaDoor
