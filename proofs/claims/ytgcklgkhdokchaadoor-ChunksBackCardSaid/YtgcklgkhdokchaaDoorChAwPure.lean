/- What awake's calls compute. -/
import Derived.Test.YtgcklgkhdokchaaDoorChMidLaw
import Derived.Lib.Small
namespace Go.Proofs.YtgcklgkhdokchaaDoor
open Go.RowKit

abbrev aC : ByteArray := ⟨#[99]⟩
abbrev aA : ByteArray := ⟨#[97]⟩
abbrev aB : ByteArray := ⟨#[98]⟩
abbrev aM : ByteArray := ⟨#[109]⟩
abbrev aK : List Od := [⟨[aA], false⟩]
def aR : Ro := ⟨aC, aK, false, 1, 1, [⟨ByteArray.empty, ByteArray.empty, 0, 1, false⟩]⟩
def aS : Ro := ⟨aC, aK, false, 1, 2, [⟨ByteArray.empty, aM, 0, 2, false⟩, ⟨aM, ByteArray.empty, 0, 2, false⟩]⟩
def aG : Ro := ⟨aC, aK, false, 1, 3, [⟨ByteArray.empty, aM, 0, 3, false⟩, ⟨aM, ByteArray.empty, 1, 3, false⟩]⟩
def aJ : Ro := ⟨aC, aK, false, 1, 3, [⟨ByteArray.empty, ByteArray.empty, 0, 3, false⟩]⟩
theorem aw_new : newR aC aK false 0 = (aR, 0) := by kernel_rfl
theorem aw_split : splitR aR aM = (aS, 0) := by kernel_rfl
theorem aw_give : giveR aS aM 1 = (aG, 0) := by kernel_rfl
theorem aw_join : joinR aS aM = (aJ, 0) := by kernel_rfl
theorem aw_find : idxI (inB aM) aS.cs = 1 := by kernel_rfl
theorem aw_form : routE ⟨aC, aK, false, 1, 1, []⟩ = 4 := by kernel_rfl
theorem aw_mid : midOf (distL [aA, aC, aB, aA]) = aB := by
  rw [← mid_eq]
  kernel_rfl

end Go.Proofs.YtgcklgkhdokchaaDoor
