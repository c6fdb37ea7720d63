/- Parts of the proof, joined: EncOrder, ShOrdPure, ShEncodesWalk, ValTexts, ValRefCmp, ShOrderWalk, EncOpen, ShOrderLaw. -/
import Derived.Test.YtblepmmibhphhaaGreatDoorB1
import Derived.Test.YtblepmmibhphhaaGreatDoorB6
import Derived.Test.YtblepmmibhphhaaGreatDoorB18
import Derived.Test.YtblepmmibhphhaaGreatDoorB7
import Derived.Test.YtblepmmibhphhaaGreatDoorB8
import Derived.Test.YtblepmmibhphhaaGreatDoorB4
import Derived.Test.YtblepmmibhphhaaGreatDoorCards
import Derived.Test.YtblepmmibhphhaaGreatDoorTie
import Derived.Lib.LaidIn
import Derived.Lib.LaidU8T
import Derived.PinnedBridge
import Derived.Deep.DeepHandedRow
import Derived.Deep.DeepWitnessRowRef
import Derived.ProofKit
import Derived.SizedLaws
import Derived.OpenShut
import Derived.ShutString
import Derived.ChangeOld
import Derived.Below
import Derived.SevenTiedAt
/- The order of encodings is the order of the values. Plain law. -/
namespace Go.Proofs.YtblepmmibhphhaaGreatDoor
open Go.RowKit

/-- the order of lists of numbers, letter by letter -/
def lexI : List Int → List Int → Int
  | [], [] => 0
  | [], _ :: _ => -1
  | _ :: _, [] => 1
  | a :: r, b :: s => if a < b then -1 else if b < a then 1 else lexI r s
theorem lexI_same : ∀ (p a b : List Int), lexI (p ++ a) (p ++ b) = lexI a b
  | [], a, b => rfl
  | x :: p, a, b => by rw [List.cons_append, List.cons_append, lexI, if_neg (by omega), if_neg (by omega), lexI_same p a b]
theorem lexI_cons (x : Int) (a b : List Int) : lexI (x :: a) (x :: b) = lexI a b := lexI_same [x] a b
theorem lexI_lt {x y : Int} (h : x < y) (a b : List Int) : lexI (x :: a) (y :: b) = -1 := by rw [lexI, if_pos h]
theorem lexI_gt {x y : Int} (h : y < x) (a b : List Int) : lexI (x :: a) (y :: b) = 1 := by rw [lexI, if_neg (by omega), if_pos h]
theorem lexI_self (a : List Int) : lexI a a = 0 := by have := lexI_same a [] []; simpa [lexI] using this
theorem lexI_eq : ∀ {a b : List Int}, lexI a b = 0 → a = b
  | [], [], _ => rfl
  | [], _ :: _, h => by rw [lexI] at h; omega
  | _ :: _, [], h => by rw [lexI] at h; omega
  | x :: r, y :: s, h => by
    rw [lexI] at h
    split at h
    · omega
    split at h
    · omega
    rw [show x = y by omega, lexI_eq h]
theorem lexI_bytes : ∀ l m : List UInt8, Lib.compareBytes l m = lexI (l.map fun x => (x.toNat : Int)) (m.map fun x => (x.toNat : Int))
  | [], [] => rfl
  | [], _ :: _ => rfl
  | _ :: _, [] => rfl
  | a :: r, b :: s => by
    rw [List.map_cons, List.map_cons, lexI, Lib.compareBytes, lexI_bytes r s]
    have e : ∀ p q : UInt8, p < q ↔ (p.toNat : Int) < (q.toNat : Int) := fun p q => by rw [UInt8.lt_iff_toNat_lt]; omega
    by_cases h : a < b
    · rw [if_pos h, if_pos ((e a b).1 h)]
    · have h2 : ¬ ((a.toNat : Int) < (b.toNat : Int)) := fun h' => h ((e a b).2 h')
      by_cases g : b < a
      · rw [if_neg h, if_pos g, if_neg h2, if_pos ((e b a).1 g)]
      · have g2 : ¬ ((b.toNat : Int) < (a.toNat : Int)) := fun h' => g ((e b a).2 h')
        rw [if_neg h, if_neg g, if_neg h2, if_neg g2]

/-- 'first c, then d' -/
def orI (c d : Int) : Int := if c ≠ 0 then c else d
theorem orI_zero (d : Int) : orI 0 d = d := rfl
theorem orI_ne {c : Int} (h : c ≠ 0) (d : Int) : orI c d = c := by unfold orI; rw [if_pos h]
theorem orI_assoc (a b c : Int) : orI (orI a b) c = orI a (orI b c) := by
  unfold orI
  by_cases h : a = 0 <;> simp [h]

/-- digits, the highest first -/
def dig : Nat → Nat → List Int
  | 0, _ => []
  | k + 1, u => ((u / 256 ^ k % 256 : Nat) : Int) :: dig k u
theorem dig_order (a b : List Int) (u v : Nat) : ∀ k, lexI (dig k u ++ a) (dig k v ++ b) = orI (cmpI ((u % 256 ^ k : Nat) : Int) ((v % 256 ^ k : Nat) : Int)) (lexI a b)
  | 0 => by
    have e : ∀ x : Nat, x % 256 ^ 0 = 0 := fun x => by simp [Nat.mod_one]
    rw [e, e, cmpI_nat, if_neg (by omega), if_neg (by omega), orI_zero]
    rfl
  | k + 1 => by
    have e : ∀ x : Nat, x % 256 ^ (k + 1) = 256 ^ k * (x / 256 ^ k % 256) + x % 256 ^ k := fun x => by
      rw [Nat.pow_succ, Nat.mod_mul, Nat.add_comm]
    have hp : 0 < 256 ^ k := Nat.pow_pos (by omega)
    have hu := Nat.mod_lt u hp
    have hv := Nat.mod_lt v hp
    rw [dig, dig, List.cons_append, List.cons_append]
    rcases Nat.lt_trichotomy (u / 256 ^ k % 256) (v / 256 ^ k % 256) with h | h | h
    · have hm := Nat.mul_le_mul_left (256 ^ k) (Nat.succ_le_of_lt h)
      rw [Nat.mul_succ] at hm
      rw [lexI_lt (by omega), e, e, cmpI_nat, if_pos (by omega)]
      rfl
    · rw [h, lexI_cons, dig_order a b u v k, e, e, h]
      congr 1
      rw [cmpI_nat, cmpI_nat]
      generalize 256 ^ k * (v / 256 ^ k % 256) = D
      generalize u % 256 ^ k = U at *
      generalize v % 256 ^ k = V at *
      rcases Nat.lt_trichotomy U V with h1 | h1 | h1
      · have h2 : D + U < D + V := by omega
        rw [if_pos h1, if_pos h2]
      · subst h1
        rw [if_neg (Nat.lt_irrefl _), if_neg (Nat.lt_irrefl _), if_neg (Nat.lt_irrefl _), if_neg (Nat.lt_irrefl _)]
      · have h2 : ¬ U < V := by omega
        have h3 : ¬ D + U < D + V := by omega
        have h4 : D + V < D + U := by omega
        rw [if_neg h2, if_pos h1, if_neg h3, if_pos h4]
    · have hm := Nat.mul_le_mul_left (256 ^ k) (Nat.succ_le_of_lt h)
      rw [Nat.mul_succ] at hm
      rw [lexI_gt (by omega), e, e, cmpI_nat, if_neg (by omega), if_pos (by omega)]
      rfl
theorem nums_dig (n : Int) : nums n = dig 8 (U64 n) := by
  simp [nums, numsTo, num8, dig, List.range, List.range.loop]
/-- a number of 64 bits -/
def In64 (n : Int) : Prop := -9223372036854775808 ≤ n ∧ n ≤ 9223372036854775807
theorem nums_order {n m : Int} (hn : In64 n) (hm : In64 m) (a b : List Int) : lexI (nums n ++ a) (nums m ++ b) = orI (cmpI n m) (lexI a b) := by
  unfold In64 at hn hm
  rw [nums_dig, nums_dig, dig_order]
  congr 1
  have e : ∀ x : Int, -9223372036854775808 ≤ x ∧ x ≤ 9223372036854775807 → ((U64 x % 256 ^ 8 : Nat) : Int) = x + 9223372036854775808 := fun x hx => by
    have h8 : (256 : Nat) ^ 8 = 18446744073709551616 := by decide
    unfold U64
    rw [h8]
    omega
  rw [e n hn, e m hm]
  unfold cmpI Lib.compareInt
  by_cases h1 : n < m
  · rw [if_pos (by omega), if_pos h1]
  · rw [if_neg (by omega), if_neg h1]
    by_cases h2 : n > m
    · rw [if_pos (by omega), if_pos h2]
    · rw [if_neg (by omega), if_neg h2]

theorem u8_pos {x : UInt8} (h : x ≠ 0) : 0 < x.toNat := by
  rcases Nat.eq_zero_or_pos x.toNat with h0 | h0
  · exact absurd (UInt8.toNat_inj.1 h0) h
  · exact h0
theorem byteN_zero : byteN 0 = [0, 255] := rfl
theorem byteN_pos {x : UInt8} (h : x ≠ 0) : byteN x = [(x.toNat : Int)] := by unfold byteN; rw [if_neg h]
theorem text_order (a b : List Int) : ∀ l m : List UInt8, lexI (textN l ++ (0 :: 0 :: a)) (textN m ++ (0 :: 0 :: b)) = orI (Lib.compareBytes l m) (lexI a b)
  | [], [] => by simp only [textN, List.nil_append, Lib.compareBytes, orI_zero]; rw [lexI_cons, lexI_cons]
  | [], y :: s => by
    simp only [textN, List.nil_append, Lib.compareBytes]
    by_cases h : y = 0
    · subst h
      simp only [byteN_zero, List.cons_append, List.nil_append]
      rw [lexI_cons, lexI_lt (by omega)]
      rfl
    · have := u8_pos h
      simp only [byteN_pos h, List.cons_append, List.nil_append]
      rw [lexI_lt (by omega)]
      rfl
  | x :: r, [] => by
    simp only [textN, List.nil_append, Lib.compareBytes]
    by_cases h : x = 0
    · subst h
      simp only [byteN_zero, List.cons_append, List.nil_append]
      rw [lexI_cons, lexI_gt (by omega)]
      rfl
    · have := u8_pos h
      simp only [byteN_pos h, List.cons_append, List.nil_append]
      rw [lexI_gt (by omega)]
      rfl
  | x :: r, y :: s => by
    simp only [textN, Lib.compareBytes, List.append_assoc]
    by_cases h : x < y
    · have hl := UInt8.lt_iff_toNat_lt.1 h
      rw [if_pos h]
      by_cases hx : x = 0
      · subst hx
        have hy : y ≠ 0 := by rintro rfl; exact absurd hl (Nat.lt_irrefl _)
        have hz : (0 : UInt8).toNat = 0 := rfl
        have := u8_pos hy
        simp only [byteN_zero, byteN_pos hy, List.cons_append, List.nil_append]
        rw [lexI_lt (by omega)]
        rfl
      · have hy : y ≠ 0 := by rintro rfl; exact absurd hl (Nat.not_lt_zero _)
        simp only [byteN_pos hx, byteN_pos hy, List.cons_append, List.nil_append]
        rw [lexI_lt (by omega)]
        rfl
    · rw [if_neg h]
      by_cases g : y < x
      · have hl := UInt8.lt_iff_toNat_lt.1 g
        rw [if_pos g]
        by_cases hy : y = 0
        · subst hy
          have hx : x ≠ 0 := by rintro rfl; exact absurd hl (Nat.lt_irrefl _)
          have := u8_pos hx
          simp only [byteN_zero, byteN_pos hx, List.cons_append, List.nil_append]
          rw [lexI_gt (by omega)]
          rfl
        · have hx : x ≠ 0 := by rintro rfl; exact absurd hl (Nat.not_lt_zero _)
          simp only [byteN_pos hx, byteN_pos hy, List.cons_append, List.nil_append]
          rw [lexI_gt (by omega)]
          rfl
      · have e : x = y := by
          apply UInt8.toNat_inj.1
          have h1 : ¬ x.toNat < y.toNat := fun h' => h (UInt8.lt_iff_toNat_lt.2 h')
          have h2 : ¬ y.toNat < x.toNat := fun h' => g (UInt8.lt_iff_toNat_lt.2 h')
          omega
        subst e
        rw [if_neg g, lexI_same]
        exact text_order a b r s
theorem name_order (a b : List Int) : ∀ l m : List UInt8, (∀ x ∈ l, x ≠ 0) → (∀ x ∈ m, x ≠ 0) →
    lexI ((l.map fun x => (x.toNat : Int)) ++ (0 :: a)) ((m.map fun x => (x.toNat : Int)) ++ (0 :: b)) = orI (Lib.compareBytes l m) (lexI a b)
  | [], [], _, _ => by simp only [List.map_nil, List.nil_append, Lib.compareBytes, orI_zero]; rw [lexI_cons]
  | [], y :: s, _, hm => by
    have := u8_pos (hm y (by simp))
    simp only [List.map_nil, List.nil_append, List.map_cons, List.cons_append, Lib.compareBytes]
    rw [lexI_lt (by omega)]
    rfl
  | x :: r, [], hl, _ => by
    have := u8_pos (hl x (by simp))
    simp only [List.map_nil, List.nil_append, List.map_cons, List.cons_append, Lib.compareBytes]
    rw [lexI_gt (by omega)]
    rfl
  | x :: r, y :: s, hl, hm => by
    simp only [List.map_cons, List.cons_append, Lib.compareBytes]
    by_cases h : x < y
    · have h1 := UInt8.lt_iff_toNat_lt.1 h
      rw [if_pos h, lexI_lt (by omega)]
      rfl
    · rw [if_neg h]
      by_cases g : y < x
      · have h1 := UInt8.lt_iff_toNat_lt.1 g
        rw [if_pos g, lexI_gt (by omega)]
        rfl
      · have e : x = y := by
          apply UInt8.toNat_inj.1
          have h1 : ¬ x.toNat < y.toNat := fun h' => h (UInt8.lt_iff_toNat_lt.2 h')
          have h2 : ¬ y.toNat < x.toNat := fun h' => g (UInt8.lt_iff_toNat_lt.2 h')
          omega
        subst e
        rw [if_neg g, lexI_cons]
        exact name_order a b r s (fun x hx => hl x (by simp [hx])) fun x hx => hm x (by simp [hx])
theorem name_nz {s : ByteArray} (h : nameB s = true) : ∀ x ∈ s.data.toList, x ≠ 0 := by
  intro x hx e
  subst e
  simp only [nameB, Bool.and_eq_true] at h
  have := List.all_eq_true.1 h.2 _ hx
  revert this
  decide

/- every number in a value is one of 64 bits -/
mutual
def NumsV : Val → Prop
  | .mk _ n _ l d => In64 n ∧ NumsL l ∧ NumsD d
def NumsL : List Val → Prop
  | [] => True
  | x :: r => NumsV x ∧ NumsL r
def NumsD : List Fld → Prop
  | [] => True
  | f :: r => NumsF f ∧ NumsD r
def NumsF : Fld → Prop
  | .mk _ v => NumsV v
end
theorem NumsL_iff (l : List Val) : NumsL l ↔ ∀ y ∈ l, NumsV y := by
  induction l with
  | nil => simp [NumsL]
  | cons x r ih => simp [NumsL, ih]
theorem NumsF_iff (f : Fld) : NumsF f ↔ NumsV f.v := by cases f; simp only [NumsF]; rfl
theorem NumsD_iff (d : List Fld) : NumsD d ↔ ∀ f ∈ d, NumsV f.v := by
  induction d with
  | nil => simp [NumsD]
  | cons x r ih => simp [NumsD, ih, NumsF_iff]
theorem NumsV_iff (x : Val) : NumsV x ↔ In64 x.n ∧ (∀ y ∈ x.l, NumsV y) ∧ ∀ f ∈ x.d, NumsV f.v := by
  cases x
  rw [NumsV, NumsL_iff, NumsD_iff]
  rfl

/-- what may be put in order by its encoding -/
def Or1 (x : Val) : Prop := SoundV nameB x ∧ NumsV x
theorem Or1.list {x : Val} (h : Or1 x) : ∀ y ∈ x.l, Or1 y := fun y hy => ⟨((SoundV_iff nameB x).1 h.1).2.1 y hy, ((NumsV_iff x).1 h.2).2.1 y hy⟩
theorem Or1.doc {x : Val} (h : Or1 x) : ∀ f ∈ x.d, Or1 f.v ∧ nameB f.s = true := fun f hf => ⟨⟨((SoundV_iff nameB x).1 h.1).2.2.1 f hf, ((NumsV_iff x).1 h.2).2.2 f hf⟩, ((SoundV_iff nameB x).1 h.1).2.2.2.1 f hf⟩
def OrdV (x : Val) : Prop := ∀ y, Or1 x → Or1 y → ∀ a b, lexI (encV x ++ a) (encV y ++ b) = orI (cmpV x y) (lexI a b)
theorem list_order (a b : List Int) : ∀ (l m : List Val), (∀ x ∈ l, OrdV x ∧ Or1 x) → (∀ y ∈ m, Or1 y) → lexI (encL l ++ (0 :: a)) (encL m ++ (0 :: b)) = orI (cmpL l m) (lexI a b)
  | [], [], _, _ => by simp only [encL, List.nil_append, cmpL, List.isEmpty_nil, if_true, orI_zero]; rw [lexI_cons]
  | [], y :: s, _, _ => by
    simp only [encL, List.nil_append, List.cons_append, cmpL, List.isEmpty_cons]
    rw [lexI_lt (by omega)]
    rfl
  | x :: r, [], _, _ => by
    simp only [encL, List.nil_append, List.cons_append, cmpL]
    rw [lexI_gt (by omega)]
    rfl
  | x :: r, y :: s, hl, hm => by
    have h1 := hl x (by simp)
    have h2 := hm y (by simp)
    simp only [encL, List.cons_append, List.append_assoc, cmpL]
    rw [lexI_cons, h1.1 y h1.2 h2, list_order a b r s (fun z hz => hl z (by simp [hz])) (fun z hz => hm z (by simp [hz])), ← orI_assoc]
    rfl
theorem doc_order (a b : List Int) : ∀ (l m : List Fld), (∀ f ∈ l, OrdV f.v ∧ Or1 f.v ∧ nameB f.s = true) → (∀ g ∈ m, Or1 g.v ∧ nameB g.s = true) → lexI (encD l ++ (0 :: a)) (encD m ++ (0 :: b)) = orI (cmpD l m) (lexI a b)
  | [], [], _, _ => by simp only [encD, List.nil_append, cmpD, List.isEmpty_nil, if_true, orI_zero]; rw [lexI_cons]
  | [], y :: s, _, _ => by
    simp only [encD, encF_eq, List.nil_append, List.cons_append, cmpD, List.isEmpty_cons]
    rw [lexI_lt (by omega)]
    rfl
  | x :: r, [], _, _ => by
    simp only [encD, encF_eq, List.nil_append, List.cons_append, cmpD]
    rw [lexI_gt (by omega)]
    rfl
  | x :: r, y :: s, hl, hm => by
    have h1 := hl x (by simp)
    have h2 := hm y (by simp)
    simp only [encD, encF_eq, List.cons_append, List.append_assoc, cmpD, cmpF_eq]
    rw [lexI_cons]
    unfold strN
    rw [name_order _ _ _ _ (name_nz h1.2.2) (name_nz h2.2), h1.1 y.v h1.2.1 h2.1, doc_order a b r s (fun z hz => hl z (by simp [hz])) (fun z hz => hm z (by simp [hz])), ← orI_assoc, ← orI_assoc]
    rfl
theorem enc_order (x : Val) : OrdV x := by
  induction x using Val.ind with
  | h k n t l d ihl ihd =>
    intro y hx hy a b
    rw [encV_eq, encV_eq, List.cons_append, List.cons_append, cmpV_eq]
    by_cases hk : (Val.mk k n t l d).k = y.k
    · have hkk : ¬ ((Val.mk k n t l d).k ≠ y.k) := fun h => h hk
      rw [if_neg hkk, ← hk, lexI_cons]
      have hxi := (NumsV_iff _).1 hx.2
      have hyi := (NumsV_iff _).1 hy.2
      by_cases h1 : (Val.mk k n t l d).k = 3 ∨ (Val.mk k n t l d).k = 9 ∨ (Val.mk k n t l d).k = 10
      · rw [if_pos h1, if_pos h1, if_pos h1]
        exact nums_order hxi.1 hyi.1 a b
      rw [if_neg h1, if_neg h1, if_neg h1]
      by_cases h2 : (Val.mk k n t l d).k = 4 ∨ (Val.mk k n t l d).k = 7 ∨ (Val.mk k n t l d).k = 8
      · rw [if_pos h2, if_pos h2, if_pos h2, List.append_assoc, List.append_assoc]
        exact text_order a b _ _
      rw [if_neg h2, if_neg h2, if_neg h2]
      by_cases h3 : (Val.mk k n t l d).k = 6
      · rw [if_pos h3, if_pos h3, if_pos h3, List.append_assoc, List.append_assoc]
        exact list_order a b _ _ (fun z hz => ⟨ihl z hz, hx.list z hz⟩) fun z hz => hy.list z hz
      rw [if_neg h3, if_neg h3, if_neg h3]
      by_cases h4 : (Val.mk k n t l d).k = 5
      · rw [if_pos h4, if_pos h4, if_pos h4, List.append_assoc, List.append_assoc]
        exact doc_order a b _ _ (fun z hz => ⟨ihd z hz, hx.doc z hz⟩) fun z hz => hy.doc z hz
      rw [if_neg h4, if_neg h4, if_neg h4]
      rfl
    · rw [if_pos hk]
      unfold cmpI Lib.compareInt
      rcases Int.lt_trichotomy (Val.mk k n t l d).k y.k with h | h | h
      · rw [if_pos h, lexI_lt h]
        rfl
      · exact absurd h hk
      · rw [if_neg (show ¬ (Val.mk k n t l d).k < y.k by omega), if_pos h, lexI_gt h]
        rfl
/-- lists of the same length -/
theorem all_order : ∀ (l m : List Val), l.length = m.length → (∀ x ∈ l, Or1 x) → (∀ y ∈ m, Or1 y) → lexI (encAll l) (encAll m) = cmpL l m
  | [], [], _, _, _ => by simp only [encAll, List.flatMap_nil, lexI, cmpL, List.isEmpty_nil, if_true]
  | [], _ :: _, h, _, _ => by simp at h
  | _ :: _, [], h, _, _ => by simp at h
  | x :: r, y :: s, h, hl, hm => by
    have e : ∀ (z : Val) (q : List Val), encAll (z :: q) = encV z ++ encAll q := fun z q => rfl
    rw [e, e, enc_order x y (hl x (by simp)) (hm y (by simp)), all_order r s (by simpa using h) (fun z hz => hl z (by simp [hz])) (fun z hz => hm z (by simp [hz])), cmpL]
    rfl
theorem all_same {l m : List Val} (hn : l.length = m.length) (hl : ∀ x ∈ l, Or1 x) (hm : ∀ y ∈ m, Or1 y) (h : cmpL l m = 0) : encAll l = encAll m := by
  rw [← all_order l m hn hl hm] at h
  exact lexI_eq h

end Go.Proofs.YtblepmmibhphhaaGreatDoor

/- The order of encoded shard keys: the plain law. -/
namespace Go.Proofs.YtblepmmibhphhaaGreatDoor
open Go.RowKit

def Rng (l : List Int) : Prop := ∀ z ∈ l, 0 ≤ z ∧ z < 256
theorem Rng.nil : Rng [] := fun z hz => by simp at hz
theorem Rng.app {l m : List Int} (h : Rng l) (k : Rng m) : Rng (l ++ m) := fun z hz => (List.mem_append.1 hz).elim (h z) (k z)
theorem Rng.cons {a : Int} {l : List Int} (ha : 0 ≤ a ∧ a < 256) (h : Rng l) : Rng (a :: l) := fun z hz => by
  rcases List.mem_cons.1 hz with rfl | hz
  · exact ha
  · exact h z hz
theorem rng_nums (n : Int) : Rng (nums n) := fun z hz => by
  obtain ⟨j, _, rfl⟩ := List.mem_map.1 hz
  exact num8_lt n _
theorem rng_text : ∀ l : List UInt8, Rng (textN l)
  | [] => Rng.nil
  | x :: r => by
    rw [textN]
    refine Rng.app ?_ (rng_text r)
    unfold byteN
    have := x.toNat_lt
    split
    · exact Rng.cons (by omega) (Rng.cons (by omega) Rng.nil)
    · exact Rng.cons (by omega) Rng.nil
theorem rng_str (s : ByteArray) : Rng (strN s) := fun z hz => by
  obtain ⟨x, _, rfl⟩ := List.mem_map.1 hz
  have := x.toNat_lt
  omega
theorem rng_list : ∀ l : List Val, (∀ y ∈ l, Rng (encV y)) → Rng (encL l)
  | [], _ => by rw [encL]; exact Rng.nil
  | y :: r, h => by rw [encL]; exact Rng.cons (by omega) ((h y (by simp)).app (rng_list r fun z hz => h z (by simp [hz])))
theorem rng_doc : ∀ l : List Fld, (∀ f ∈ l, Rng (encV f.v)) → Rng (encD l)
  | [], _ => by rw [encD]; exact Rng.nil
  | f :: r, h => by
    rw [encD, encF_eq]
    exact Rng.app (Rng.cons (by omega) ((rng_str f.s).app (Rng.cons (by omega) (h f (by simp))))) (rng_doc r fun z hz => h z (by simp [hz]))
theorem rng_enc (x : Val) : SoundV nameB x → Rng (encV x) := by
  induction x using Val.ind with
  | h k n t l d ihl ihd =>
    intro hs
    obtain ⟨hh, hl, hd, _⟩ := (SoundV_iff nameB _).1 hs
    have hk : 1 ≤ k ∧ k ≤ 11 := by
      have := hh.2.2.2.2
      simp only [Val.k] at this
      omega
    rw [encV]
    refine Rng.cons (by omega) ?_
    split
    · exact rng_nums n
    split
    · exact (rng_text _).app (Rng.cons (by omega) (Rng.cons (by omega) Rng.nil))
    split
    · exact (rng_list l fun y hy => ihl y hy (hl y hy)).app (Rng.cons (by omega) Rng.nil)
    split
    · exact (rng_doc d fun f hf => ihd f hf (hd f hf)).app (Rng.cons (by omega) Rng.nil)
    · exact Rng.nil
theorem str_back {l : List Int} (h : Rng l) : ((strOfNums l).data.toList.map fun x => (x.toNat : Int)) = l := by
  rw [strOfNums_data, List.map_map]
  conv => rhs; rw [← List.map_id l]
  refine List.map_congr_left fun z hz => ?_
  have := h z hz
  simp only [Function.comp_apply, id]
  rw [UInt8.toNat_ofNat']
  omega
theorem cmp_str {l m : List Int} (hl : Rng l) (hm : Rng m) : cmpB (strOfNums l) (strOfNums m) = lexI l m := by
  unfold cmpB
  rw [lexI_bytes, str_back hl, str_back hm]
theorem rng_all : ∀ l : List Val, (∀ y ∈ l, SoundV nameB y) → Rng (encAll l)
  | [], _ => Rng.nil
  | y :: r, h => by
    have e : encAll (y :: r) = encV y ++ encAll r := by simp [encAll]
    rw [e]
    exact (rng_enc y (h y (by simp))).app (rng_all r fun z hz => h z (by simp [hz]))

/-- the parts of a valid value -/
theorem vparts {x : Val} (h : validV x = true) : x.size ≤ 1024 ∧ x.height ≤ 16 ∧ SoundV nameB x := by
  unfold validV at h
  simp only [Bool.and_eq_true, decide_eq_true_eq] at h
  exact ⟨h.1.1, h.1.2, soundB_iff.1 h.2⟩
theorem vnull : validV nullV = true := by
  have hs : SoundV nameB nullV := (SoundV_iff _ _).2 ⟨by simp [HeadP, nullV, Val.k, Val.n, Val.t, Val.l, Val.d], by simp [nullV, Val.l], by simp [nullV, Val.d], by simp [nullV, Val.d, NamesP]⟩
  have h1 : nullV.size = 1 := by simp [nullV, Val.size]
  have h2 : nullV.height = 1 := by simp [nullV, Val.height]
  unfold validV
  rw [decide_eq_true (by omega), decide_eq_true (by omega), soundB_true hs]
  rfl
theorem nnull : NumsV nullV := by
  unfold nullV
  simp [NumsV, NumsL, NumsD, In64]
theorem vfield {x : Val} {f : Fld} (h : validV x = true) (hk : x.k = 5) (hf : f ∈ x.d) : validV f.v = true := by
  obtain ⟨h1, h2, h3⟩ := vparts h
  have hm : f.v ∈ x.parts := by
    unfold Val.parts
    rw [if_neg (by omega), if_pos hk]
    exact List.mem_map_of_mem hf
  have a := parts_size hm
  have b := parts_height hm
  have hs := ((SoundV_iff nameB x).1 h3).2.2.1 f hf
  unfold validV
  rw [decide_eq_true (by omega), decide_eq_true (by omega), soundB_true hs]
  rfl
theorem getV_mem {x y : Val} {s : ByteArray} (h : getV x s = some y) : x.k = 5 ∧ ∃ f ∈ x.d, f.v = y := by
  have hk : x.k = 5 := by
    rcases Classical.em (x.k = 5) with h5 | h5
    · exact h5
    · rw [getV_kind s h5] at h; cases h
  refine ⟨hk, ?_⟩
  unfold getV at h
  split at h
  · obtain ⟨f, hf, rfl⟩ := Option.map_eq_some_iff.1 h
    exact ⟨f, List.mem_of_getElem? hf, rfl⟩
  · cases h
theorem keyAt_valid : ∀ (l : List ByteArray) (x y : Val), validV x = true → NumsV x → keyAt x l = some y → validV y = true ∧ NumsV y
  | [], x, y, hx, hn, h => by
    rw [keyAt] at h
    split at h
    · cases h
    · cases h; exact ⟨hx, hn⟩
  | s :: r, x, y, hx, hn, h => by
    rw [keyAt] at h
    split at h
    · cases h
    · split at h
      · cases h; exact ⟨vnull, nnull⟩
      · rename_i z hz
        obtain ⟨hk, f, hf, rfl⟩ := getV_mem hz
        exact keyAt_valid r f.v y (vfield hx hk hf) (((NumsV_iff x).1 hn).2.2 f hf) h
theorem valsAt_valid {x : Val} (hx : validV x = true) (hn : NumsV x) : ∀ (ks : List Od) (ys : List Val), valsAt x ks = some ys → ∀ y ∈ ys, validV y = true ∧ NumsV y
  | [], ys, h, y, hy => by rw [valsAt] at h; cases h; simp at hy
  | q :: r, ys, h, y, hy => by
    rw [valsAt] at h
    split at h
    · cases h
    · rename_i z hz
      obtain ⟨zs, hzs, rfl⟩ := Option.map_eq_some_iff.1 h
      rcases List.mem_cons.1 hy with rfl | hy
      · exact keyAt_valid q.p x y hx hn hz
      · exact valsAt_valid hx hn r zs hzs y hy
theorem vallow {x : Val} (h : validV x = true) : allowB x = true := by unfold allowB; rw [h, Bool.or_true]
theorem vint (y : Val) : validV (intH y) = true := by
  have hs : SoundV nameB (intH y) := (SoundV_iff _ _).2 ⟨⟨.inl rfl, .inr (.inr (.inr rfl)), .inr rfl, .inr rfl, .inr (.inr (.inr (.inl rfl)))⟩, by simp [intH, Val.l], by simp [intH, Val.d], by simp [intH, Val.d, NamesP]⟩
  have h1 : (intH y).size = 1 := by simp [intH, Val.size]
  have h2 : (intH y).height = 1 := by simp [intH, Val.height]
  unfold validV
  rw [decide_eq_true (by omega), decide_eq_true (by omega), soundB_true hs]
  rfl
/-- of key values there is a key -/
theorem enc_ok {ks : List Od} {ha : Bool} {x : Val} {ys : List Val} (h : valsR ks x = some ys) (hn : NumsV x) : encR ks ha x = (strOfNums (encAll (hashes ha ys)), 0) := by
  rw [encR_some h]
  obtain ⟨_, hv, ha'⟩ := valsR_at h
  refine keyR_yes ?_
  unfold allowsB
  rw [List.all_eq_true]
  intro y hy
  cases ha
  · exact vallow (valsAt_valid hv hn ks ys ha' y hy).1
  · obtain ⟨z, _, rfl⟩ := List.mem_map.1 (show y ∈ ys.map intH from hy)
    exact vallow (vint z)
theorem enc_no {ks : List Od} {ha : Bool} {x : Val} (h : valsR ks x = none) : encR ks ha x = (ByteArray.empty, 8) := encR_none h
theorem enc_len8 {ks : List Od} {x : Val} {ys : List Val} (h : valsR ks x = some ys) (hn : NumsV x) (h8 : ks.length ≤ 8) : (encAll ys).length ≤ 68000000 := by
  obtain ⟨_, hv, ha'⟩ := valsR_at h
  have hal : allowsB ys = true := by
    unfold allowsB
    rw [List.all_eq_true]
    exact fun y hy => vallow (valsAt_valid hv hn ks ys ha' y hy).1
  have h1 := encAll_len hal
  have h2 := valsR_len h
  omega
theorem or1_of {x : Val} (h : validV x = true) (hn : NumsV x) : Or1 x := ⟨(vparts h).2.2, hn⟩
/-- without 'hashed': comparing the keys is comparing the key values -/
theorem enc_cmp {ks : List Od} {x y : Val} {xs ys : List Val} (hx : valsR ks x = some xs) (hy : valsR ks y = some ys) (nx : NumsV x) (ny : NumsV y) :
    cmpB (strOfNums (encAll xs)) (strOfNums (encAll ys)) = cmpL xs ys := by
  obtain ⟨_, vx, ax⟩ := valsR_at hx
  obtain ⟨_, vy, ay⟩ := valsR_at hy
  have ox := fun y hy => (fun h => or1_of h.1 h.2) (valsAt_valid vx nx ks xs ax y hy)
  have oy := fun z hz => (fun h => or1_of h.1 h.2) (valsAt_valid vy ny ks ys ay z hz)
  rw [cmp_str (rng_all xs fun y hy => (ox y hy).1) (rng_all ys fun y hy => (oy y hy).1)]
  exact all_order xs ys (by rw [valsR_len hx, valsR_len hy]) ox oy
/-- with 'hashed': equal key values give equal keys -/
theorem enc_hash {ks : List Od} {x y : Val} {xs ys : List Val} (hx : valsR ks x = some xs) (hy : valsR ks y = some ys) (nx : NumsV x) (ny : NumsV y) (h1 : ks.length = 1) (h : cmpL xs ys = 0) :
    hashes true xs = hashes true ys := by
  obtain ⟨_, vx, ax⟩ := valsR_at hx
  obtain ⟨_, vy, ay⟩ := valsR_at hy
  have ox := fun y hy => (fun h => or1_of h.1 h.2) (valsAt_valid vx nx ks xs ax y hy)
  have oy := fun z hz => (fun h => or1_of h.1 h.2) (valsAt_valid vy ny ks ys ay z hz)
  have hs := all_same (by rw [valsR_len hx, valsR_len hy]) ox oy h
  obtain ⟨a, rfl⟩ := List.length_eq_one_iff.1 ((valsR_len hx).trans h1)
  obtain ⟨b, rfl⟩ := List.length_eq_one_iff.1 ((valsR_len hy).trans h1)
  have he : encV a = encV b := by simpa [encAll] using hs
  have va := vallow (valsAt_valid vx nx ks _ ax a (by simp)).1
  have vb := vallow (valsAt_valid vy ny ks _ ay b (by simp)).1
  have hh : hashV a = hashV b := by unfold hashV; rw [va, vb, he]
  show [a].map intH = [b].map intH
  simp only [List.map_cons, List.map_nil, intH, hh]

end Go.Proofs.YtblepmmibhphhaaGreatDoor


/- The walk of ShardkeyEncodes. -/
namespace Go.Proofs.YtblepmmibhphhaaGreatDoor
open Go.RowKit

theorem keyE_parts {ks : List Od} {ha : Bool} (h : keyE ks ha = 0) : ks.length ≤ 8 ∧ 1 ≤ ks.length ∧ (ha = true → ks.length = 1) := by
  unfold keyE at h
  split at h
  · rename_i h1; exact absurd h h1
  · rename_i h1
    split at h
    · cases h
    · rename_i h2
      have h3 : ordE ks = 0 := by simpa using h1
      unfold ordE at h3
      split at h3
      · cases h3
      · rename_i h4
        have h5 : ¬ ks.length = 0 := fun e => h2 (.inl e)
        exact ⟨by omega, by omega, fun hh => by
          have : ¬ 1 < ks.length := fun e => h2 (.inr ⟨hh, e⟩)
          omega⟩

set_option maxRecDepth 100000 in
set_option maxHeartbeats 4000000 in
theorem shardkeyEncodes_walk (ks : List Od) (ha : Bool) (A : Option Addr) (n cc : Nat) (x : Val) (c : VC) (w : World) (hT : Tabs w) (hk : KS w A n cc ks) (hx : RW w c x) :
    Calls Tryz.prog 3 #[.agg #[.slice A n cc, .bool ha], c.val] w fun e w' => e = .returned (.bool true) ∧ Below w.heap.size w w' := by
  have HT := Lib.hid hT
  have HN := Lib.hid hk.ln
  have HX := Lib.hid hx
  have HK := Lib.hid hk
  have hnz : (n : Int) ≤ 8796093022208 := by obtain ⟨os, h⟩ := hk; have := h.sz; unfold reach at this; omega
  have I0 : Hid (VlI w #[.slice A n cc, .bool ha] c (.slice none 0 0) [] ((w.alloc (Obj.cells #[.slice A n cc, .bool ha] 24)).alloc (Obj.cells c.arr 28))) := VlI.start
  clear hk hx hT
  go_enter Tryz.func3, Tryz.ntmps3
  go_upto_region 1 with fail
  change Code.wp _ _ _ _ ((w.alloc (Obj.cells #[.slice A n cc, .bool ha] 24)).alloc (Obj.cells c.arr 28))
  generalize ((w.alloc (Obj.cells #[.slice A n cc, .bool ha] 24)).alloc (Obj.cells c.arr 28)) = wa at *
  have B0 := Lib.hid I0.out.b0
  have B1 := Lib.hid I0.out.b1
  have BE := Lib.hid I0.out.vs.bel
  clear I0
  have k0 := B0.out.cell 0
  have k1 := B0.out.cell 1
  simp at k0 k1
  by_cases h20 : 20 < n
  · have h20' : (20 : Int) < (n : Int) := by omega
    go_wp2_with fail
    refine (awake48_any wa (HT.out.step BE.out)).mono ?_
    rintro e w1 ⟨rfl, hb⟩
    have CE := Lib.hid (BE.out.step' hb)
    clear hb BE
    go_wp2_with fail
    go_ret
    exact ⟨rfl, CE.out⟩
  have h20' : ¬ ((20 : Int) < (n : Int)) := by omega
  have HV := Lib.hid (rshardkey_any ks ha A n cc wa (HK.out.step BE.out))
  by_cases hE : keyE ks ha = 0
  rotate_left
  · have hEb : (keyE ks ha != 0) = true := by simpa using hE
    obtain ⟨E, hEE⟩ : ∃ E, keyE ks ha = E := ⟨_, rfl⟩
    rw [hEE] at HV hEb
    clear hE hEE
    go_wp2_with fail
    refine HV.out.mono ?_
    rintro e w1 ⟨rfl, hb⟩
    have CE := Lib.hid (BE.out.step' hb)
    clear hb BE HV B0 B1 k0 k1
    go_wp2_with fail
    refine (awake48_any w1 (HT.out.step CE.out)).mono ?_
    rintro e w2 ⟨rfl, hb⟩
    have DE := Lib.hid (CE.out.step' hb)
    clear hb CE
    go_wp2_with fail
    go_ret
    exact ⟨rfl, DE.out⟩
  rw [hE] at HV
  have HP := Lib.hid (keyE_parts hE)
  clear hE
  go_wp2_with fail
  refine HV.out.mono ?_
  rintro e w1 ⟨rfl, hb⟩
  have C0 := Lib.hid (B0.out.step hb)
  have C1 := Lib.hid (B1.out.step hb)
  have CE := Lib.hid (BE.out.step' hb)
  clear hb BE HV B0 B1 k0 k1
  obtain ⟨a0, a1, a2, a3, a4⟩ := VAt.of_blk C1.out
  simp only [Nat.zero_add] at a0 a1 a2 a3 a4
  have HV := Lib.hid (rvalid_any x c w1 (HX.out.step CE.out))
  cases hv : validV x
  · rw [hv] at HV
    clear hv
    go_wp2_with fail
    refine HV.out.mono ?_
    rintro e w2 ⟨rfl, hb⟩
    have DE := Lib.hid (CE.out.step' hb)
    clear hb CE HV C0 C1 a0 a1 a2 a3 a4
    go_wp2_with fail
    refine (awake48_any w2 (HT.out.step DE.out)).mono ?_
    rintro e w3 ⟨rfl, hb⟩
    have EE := Lib.hid (DE.out.step' hb)
    clear hb DE
    go_wp2_with fail
    go_ret
    exact ⟨rfl, EE.out⟩
  rw [hv] at HV
  clear hv
  go_wp2_with fail
  refine HV.out.mono ?_
  rintro e w2 ⟨rfl, hb⟩
  have D0 := Lib.hid (C0.out.step hb)
  have D1 := Lib.hid (C1.out.step hb)
  have DE := Lib.hid (CE.out.step' hb)
  clear hb CE HV C0 C1 a0 a1 a2 a3 a4
  obtain ⟨a0, a1, a2, a3, a4⟩ := VAt.of_blk D1.out
  simp only [Nat.zero_add] at a0 a1 a2 a3 a4
  have k0 := D0.out.cell 0
  have k1 := D0.out.cell 1
  simp at k0 k1
  obtain ⟨⟨K1, K2⟩, hKK⟩ : ∃ K, encR ks ha x = K := ⟨_, rfl⟩
  have hs := enc_same (ks := ks) (ha := ha) (x := x) HP.out.2.2
  rw [hKK] at hs
  have HEA := Lib.hid (senc_any ks ha A n cc x c w2 (HT.out.step DE.out) (HK.out.step DE.out) (HX.out.step DE.out) HP.out.1)
  rw [hKK] at HEA
  have HEB : Hid (∀ wr, Below w.heap.size w wr → Calls Tryz.prog 13 #[.agg #[.slice A n cc, .bool ha], c.val] wr fun e w' => e = .returned (.tuple #[.string K1, .int .i64 K2]) ∧ Below wr.heap.size wr w') := Lib.hid fun wr hb => by
    have := rsenc_any ks ha A n cc x c wr (HK.out.step hb) (HX.out.step hb) HP.out.1
    rw [hs] at this
    exact this
  clear hKK hs
  go_wp2_with fail
  refine HEA.out.mono ?_
  rintro e w3 ⟨rfl, hb⟩
  have E0 := Lib.hid (D0.out.step hb)
  have E1 := Lib.hid (D1.out.step hb)
  have EE := Lib.hid (DE.out.step' hb)
  clear hb HEA D0 D1 DE a0 a1 a2 a3 a4 k0 k1
  obtain ⟨a0, a1, a2, a3, a4⟩ := VAt.of_blk E1.out
  simp only [Nat.zero_add] at a0 a1 a2 a3 a4
  have k0 := E0.out.cell 0
  have k1 := E0.out.cell 1
  simp at k0 k1
  go_wp2_with fail
  refine (HEB.out w3 EE.out).mono ?_
  rintro e w4 ⟨rfl, hb⟩
  have F1 := Lib.hid (E1.out.step hb)
  have FE := Lib.hid (EE.out.step' hb)
  clear hb HEB E0 E1 EE a0 a1 a2 a3 a4 k0 k1
  obtain ⟨a0, a1, a2, a3, a4⟩ := VAt.of_blk F1.out
  simp only [Nat.zero_add] at a0 a1 a2 a3 a4
  go_upto_region 5 with fail
  have P0 : ∀ q : BW w4, q.val.cell? ⟨w.heap.size + 1, 0, none⟩ = some (.int .i64 c.k) := fun q => q.cell a0
  have P1 : ∀ q : BW w4, q.val.cell? ⟨w.heap.size + 1, 1, none⟩ = some (.int .i64 c.n) := fun q => q.cell a1
  have P2 : ∀ q : BW w4, q.val.cell? ⟨w.heap.size + 1, 2, none⟩ = some (.string c.t) := fun q => q.cell a2
  have P3 : ∀ q : BW w4, q.val.cell? ⟨w.heap.size + 1, 3, none⟩ = some (.slice c.LA c.ln c.lc) := fun q => q.cell a3
  have P4 : ∀ q : BW w4, q.val.cell? ⟨w.heap.size + 1, 4, none⟩ = some (.slice c.DA c.dn c.dc) := fun q => q.cell a4
  obtain ⟨hv, hhv⟩ : ∃ h, h = hashV x := ⟨_, rfl⟩
  have J1 : Hid (∀ q : BW w4, Calls Tryz.prog 14 #[c.val] q.val fun e w'' => e = .returned (.int .i64 hv) ∧ ∃ q : BW w4, w'' = q.val) := fun q =>
    Calls.bw (by rw [hhv]; exact hash_any x c q.val ((HT.out.step FE.out).step q.below) ((HX.out.step FE.out).step q.below))
  have J2 : Hid (∀ q : BW w4, Calls Tryz.prog 15 #[c.val] q.val fun e w'' => e = .returned (.int .i64 hv) ∧ ∃ q : BW w4, w'' = q.val) := fun q =>
    Calls.bw (by rw [hhv]; exact rhash_any x c q.val ((HX.out.step FE.out).step q.below))
  have J3 : Hid (∀ q : BW w4, Calls Tryz.prog 11 #[] q.val fun e w'' => e = .returned (.bool true) ∧ ∃ q : BW w4, w'' = q.val) := fun q =>
    Calls.bw (awake48_any q.val ((HT.out.step FE.out).step q.below))
  have e1 : (K1.toList == K1.toList) = true := by simp
  have e2 : (K2 == K2) = true := by simp
  have e3 : (hv == hv) = true := by simp
  clear a0 a1 a2 a3 a4 hhv F1
  refine wp_region_bw (by kernel_rfl) (by kernel_rfl) ?_
  repeat (go_big_quiet_step (first | (with_reducible exact J1.out _) | (with_reducible exact J2.out _) | (with_reducible exact J3.out _)))
  refine wpQuiet_nil ?_
  rintro _ ⟨kw, rfl⟩
  have ZE := Lib.hid (FE.out.step' kw.below)
  clear P0 P1 P2 P3 P4 J1 J2 J3
  generalize kw.val = w5 at *
  go_wp2_with fail
  go_ret
  exact ⟨rfl, ZE.out⟩

end Go.Proofs.YtblepmmibhphhaaGreatDoor


/- Contracts of the reference's Ints and Texts. -/
namespace Go.Proofs.YtblepmmibhphhaaGreatDoor
open Go.RowKit

set_option maxHeartbeats 1000000 in
theorem rints_any (x y : Int) (w : World) : Calls Tryz.prog 51 #[.int .i64 x, .int .i64 y] w fun e w' => e = .returned (.int .i64 (cmpI x y)) ∧ w' = w := by
  go_enter Tryz.func51, Tryz.ntmps51
  go_wp2
  all_goals (go_ret; refine ⟨?_, rfl⟩; unfold cmpI Lib.compareInt; (repeat' split) <;> first | rfl | (exfalso; omega))

theorem bytes_drop (a : ByteArray) (i : Nat) (h : i < a.size) : a.data.toList.drop i = a[i] :: a.data.toList.drop (i + 1) := by
  rw [List.drop_eq_getElem_cons (by simpa using h)]
  rfl
theorem cmpBy_end {l m : List UInt8} {i : Nat} (h1 : i ≤ l.length) (h2 : i ≤ m.length) (h : l.length ≤ i ∨ m.length ≤ i) : Lib.compareBytes (l.drop i) (m.drop i) = cmpI (l.length : Int) (m.length : Int) := by
  rw [cmpI_nat]
  by_cases hl : l.length ≤ i
  · rw [List.drop_of_length_le hl]
    by_cases hm : m.length ≤ i
    · rw [List.drop_of_length_le hm, if_neg (by omega), if_neg (by omega)]; rfl
    · rw [List.drop_eq_getElem_cons (by omega : i < m.length), if_pos (by omega)]; rfl
  · have hm : m.length ≤ i := by omega
    rw [List.drop_of_length_le hm, List.drop_eq_getElem_cons (by omega : i < l.length), if_neg (by omega), if_pos (by omega)]; rfl
theorem cmpBy_at (a b : UInt8) (l m : List UInt8) : Lib.compareBytes (a :: l) (b :: m) = if (a.toNat : Int) = (b.toNat : Int) then Lib.compareBytes l m else cmpI (a.toNat : Int) (b.toNat : Int) := by
  rw [Lib.compareBytes]
  unfold cmpI Lib.compareInt
  have e1 : a < b ↔ a.toNat < b.toNat := UInt8.lt_iff_toNat_lt
  have e2 : b < a ↔ b.toNat < a.toNat := UInt8.lt_iff_toNat_lt
  rcases Nat.lt_trichotomy a.toNat b.toNat with h | h | h
  · rw [if_pos (e1.2 h), if_neg (by omega), if_pos (by omega)]
  · rw [if_neg (by rw [e1]; omega), if_neg (by rw [e2]; omega), if_pos (by omega)]
  · rw [if_neg (by rw [e1]; omega), if_pos (e2.2 h), if_neg (by omega), if_neg (by omega), if_pos (by omega)]

set_option maxHeartbeats 1000000 in
theorem rtexts_any (a b : ByteArray) (w : World) (h1 : a.size ≤ reach) : Calls Tryz.prog 19 #[.string a, .string b] w fun e w' => e = .returned (.int .i64 (cmpB a b)) ∧ Below w.heap.size w w' := by
  unfold reach at h1
  go_enter Tryz.func19, Tryz.ntmps19
  go_wp2_with fail
  go_loopw [5] (fun v5 wr => ∃ i : Nat, i ≤ a.size ∧ i ≤ b.size ∧ v5 = .int .i64 i ∧ cmpB a b = Lib.compareBytes (a.data.toList.drop i) (b.data.toList.drop i) ∧ Below w.heap.size w wr) (fun v5 _ => a.size - (intOf v5).toNat)
  case atStart => exact ⟨0, Nat.zero_le _, Nat.zero_le _, rfl, rfl, Below.refl _ _⟩
  case round =>
    obtain ⟨i, hi1, hi2, rfl, hq, I⟩ := hrel
    have HQ := Lib.hid hq
    have J := Lib.hid I
    clear hq I
    by_cases hlt : i < a.size ∧ i < b.size
    · obtain ⟨hl1, hl2⟩ := hlt
      have HA := Lib.hid (HQ.out.trans (by rw [bytes_drop a i hl1, bytes_drop b i hl2, cmpBy_at]))
      cases hc : ((a[i].toNat : Int) != (b[i].toNat : Int))
      · go_upto_region 4 with fail
        go_quiet (fail)
        have HC : Hid (cmpB a b = Lib.compareBytes (a.data.toList.drop (i + 1)) (b.data.toList.drop (i + 1))) := by
          have : (a[i].toNat : Int) = (b[i].toNat : Int) := by simpa using hc
          rw [Hid, HA.out, if_pos this]
        go_wp2_with fail
        go_roundw
        case rel => exact ⟨i + 1, by omega, by omega, by go_num, HC.out, J.out.drewN _⟩
        case measure => simp [intOf]; omega
      · have HC : Hid (cmpB a b = cmpI (a[i].toNat : Int) (b[i].toNat : Int)) := by
          have : ¬ (a[i].toNat : Int) = (b[i].toNat : Int) := by simpa using hc
          rw [Hid, HA.out, if_neg this]
        have b1 : a[i].toNat < 256 := a[i].toNat_lt
        have b2 : b[i].toNat < 256 := b[i].toNat_lt
        go_upto_region 4 with fail
        go_quiet (fail)
        have J2 := Lib.hid (J.out.drewN nq)
        generalize wr.drewN nq = w2 at *
        have W1 : IntKind.i64.wrap (a[i].toNat : Int) = (a[i].toNat : Int) := wrap_i64 (by omega) (by omega)
        have W2 : IntKind.i64.wrap (b[i].toNat : Int) = (b[i].toNat : Int) := wrap_i64 (by omega) (by omega)
        go_upto_region 5 with fail
        go_quiet ((go_at_call 51; exact Calls.quiet_of_same (rints_any _ _ _)))
        go_wp2_with fail
        go_ret
        exact ⟨by rw [HC.out]; rfl, J2.out.drewN _⟩
    · have HE := Lib.hid (HQ.out.trans (cmpBy_end (by simp; omega) (by simp; omega) (by simp; omega)))
      by_cases hl1 : i < a.size
      all_goals
        first | have hx9 : b.size ≤ i := by omega | have hx9 : a.size ≤ i := by omega
        go_wp2_with fail
        refine (rints_any _ _ _).mono ?_
        rintro e w' ⟨rfl, rfl⟩
        go_wp2_with fail
        go_ret
        exact ⟨by rw [HE.out]; simp, J.out⟩

end Go.Proofs.YtblepmmibhphhaaGreatDoor


/- The contract of the reference's Compare. (Printed by gen_refcmp.py out of XValCmp.) -/
namespace Go.Proofs.YtblepmmibhphhaaGreatDoor
open Go.RowKit

def RCmpAt (x : Val) : Prop := ∀ (y : Val) (c d : VC) (w : World), RW w c x → RW w d y →
    Calls Tryz.prog 17 #[c.val, d.val] w fun e w' => e = .returned (.int .i64 (cmpV x y)) ∧ Below w.heap.size w w'

set_option maxRecDepth 100000 in
set_option maxHeartbeats 4000000 in
theorem rcmp_any : ∀ x, RCmpAt x := by
  intro x
  induction x using Val.ind with
  | h k n t l d ihl ihd =>
  intro y c e w hx hy
  obtain ⟨ck, cn, ct, cLA, cln, clc, cDA, cdn, cdc⟩ := c
  obtain ⟨ek, en, et, eLA, eln, elc, eDA, edn, edc⟩ := e
  have hk : ck = k := hx.open.k
  have hn : cn = n := hx.open.n
  have ht : ct = t := hx.open.t
  subst hk hn ht
  have hk2 : ek = y.k := hy.open.k
  have hn2 : en = y.n := hy.open.n
  have ht2 : et = y.t := hy.open.t
  have I0 : Hid (CpInv w ⟨ck, cn, ct, cLA, cln, clc, cDA, cdn, cdc⟩ ⟨ek, en, et, eLA, eln, elc, eDA, edn, edc⟩ ((w.alloc (Obj.cells #[.int .i64 ck, .int .i64 cn, .string ct, .slice cLA cln clc, .slice cDA cdn cdc] 28)).alloc (Obj.cells #[.int .i64 ek, .int .i64 en, .string et, .slice eLA eln elc, .slice eDA edn edc] 28))) :=
    Lib.hid ⟨(Blk.new_at rfl).alloc _, Blk.new_at (by simp), ((Below.refl _ _).alloc (Nat.le_refl _) _).alloc (by simp) _⟩
  cases hne : (ck != ek)
  · have he : ck = ek := by simpa using hne
    have hxy : (Val.mk ck cn ct l d).k = y.k := by rw [← hk2]; exact he
    subst he
    rcases kind_ways ck with hi | ht' | hl | hd | ho
    · have HV : Hid (cmpV (.mk ck cn ct l d) y = cmpI cn en) := by rw [Hid, cmpV_int hxy hi, hn2]; rfl
      clear hx hy ihl ihd hk2 hn2 ht2 hxy
      rcases hi with rfl | rfl | rfl
      all_goals
        go_enter Tryz.func17, Tryz.ntmps17
        go_wp2_with fail
        refine (rints_any _ _ _).mono ?_
        rintro e w' ⟨rfl, rfl⟩
        go_wp2_with fail
        go_ret
        exact ⟨by rw [HV.out]; rfl, I0.out.bel⟩
    · have HV : Hid (cmpV (.mk ck cn ct l d) y = cmpB ct et) := by rw [Hid, cmpV_text hxy ht', ht2]; rfl
      have HT : Hid (ct.size ≤ reach) := hx.open.tsz
      clear hx hy ihl ihd hk2 hn2 ht2 hxy
      rcases ht' with rfl | rfl | rfl
      all_goals
        go_enter Tryz.func17, Tryz.ntmps17
        go_wp2_with fail
        refine (rtexts_any _ _ _ HT.out).mono ?_
        rintro e w' ⟨rfl, hb⟩
        go_wp2_with fail
        go_ret
        exact ⟨by rw [HV.out]; rfl, I0.out.bel.step' hb⟩
    · have HV := Lib.hid (cmpV_list hxy hl)
      obtain ⟨ps, hps, hsl⟩ := hx.sl
      obtain ⟨qs, hqs, hql⟩ := hy.sl
      simp only at hsl hql
      have hz1 := hsl.sz
      have hz2 := hql.sz
      unfold reach at hz1 hz2
      have P1 := Lib.hid hsl
      have P2 := Lib.hid hql
      have HN1 : Hid (cln = l.length) := hx.open.ln
      have HN2 : Hid (eln = y.l.length) := hy.open.ln
      have HS1 : Hid (ps.map Prod.snd = l) := hps
      have HS2 : Hid (qs.map Prod.snd = y.l) := hqs
      have IH := Lib.hid ihl
      clear hx hy ihl ihd hk2 hn2 ht2 hxy hsl hql hps hqs
      subst hl
      all_goals
        go_enter Tryz.func17, Tryz.ntmps17
        go_wp2_with fail
        go_loopw [5] (fun v5 wr => ∃ i : Nat, i ≤ cln ∧ i ≤ eln ∧ v5 = .int .i64 i ∧ cmpL l y.l = cmpL (l.drop i) (y.l.drop i) ∧ CpInv w ⟨6, cn, ct, cLA, cln, clc, cDA, cdn, cdc⟩ ⟨6, en, et, eLA, eln, elc, eDA, edn, edc⟩ wr) (fun v5 _ => cln - (intOf v5).toNat)
        case atStart => exact ⟨0, Nat.zero_le _, Nat.zero_le _, rfl, rfl, I0.out⟩
        case round =>
          obtain ⟨i, hi1, hi2, rfl, hq, I⟩ := hrel
          have HQ := Lib.hid hq
          have J := Lib.hid I
          have q0 := I.b0.cell 3
          have q1 := I.b1.cell 3
          simp at q0 q1
          clear hq
          by_cases hlt : i < cln ∧ i < eln
          · obtain ⟨hl1, hl2⟩ := hlt
            obtain ⟨p, hp⟩ : ∃ p, ps[i]? = some p := ⟨_, List.getElem?_eq_getElem (by have := P1.out.sr.ln; omega)⟩
            obtain ⟨q, hq⟩ : ∃ q, qs[i]? = some q := ⟨_, List.getElem?_eq_getElem (by have := P2.out.sr.ln; omega)⟩
            obtain ⟨b1, o1, rfl, _, hu1, hr1⟩ := P1.out.vat hp
            obtain ⟨b2, o2, rfl, _, hu2, hr2⟩ := P2.out.vat hq
            have g1 : l[i]? = some p.2 := by rw [← HS1.out, List.getElem?_map, hp]; rfl
            have g2 : y.l[i]? = some q.2 := by rw [← HS2.out, List.getElem?_map, hq]; rfl
            have HA := Lib.hid (HQ.out.trans (cmpL_at g1 g2))
            obtain ⟨y0, y1, y2, y3, y4⟩ := hu1.keep (I.bel.block b1 hu1.lt)
            obtain ⟨z0, z1, z2, z3, z4⟩ := hu2.keep (I.bel.block b2 hu2.lt)
            have E0 : ∀ q : BW wr, q.val.cell? ⟨w.heap.size, 3, none⟩ = some (.slice (some ⟨b1, o1, none⟩) cln clc) := fun q => q.cell (J.out.b0.cell 3)
            have E1 : ∀ q : BW wr, q.val.cell? ⟨w.heap.size + 1, 3, none⟩ = some (.slice (some ⟨b2, o2, none⟩) eln elc) := fun q => q.cell (J.out.b1.cell 3)
            have Y0 : ∀ k : BW wr, k.val.cell? ⟨b1, o1 + i * 5, none⟩ = some (.int .i64 p.1.k) := fun k => k.cell y0
            have Y1 : ∀ k : BW wr, k.val.cell? ⟨b1, o1 + i * 5 + 1, none⟩ = some (.int .i64 p.1.n) := fun k => k.cell y1
            have Y2 : ∀ k : BW wr, k.val.cell? ⟨b1, o1 + i * 5 + 2, none⟩ = some (.string p.1.t) := fun k => k.cell y2
            have Y3 : ∀ k : BW wr, k.val.cell? ⟨b1, o1 + i * 5 + 3, none⟩ = some (.slice p.1.LA p.1.ln p.1.lc) := fun k => k.cell y3
            have Y4 : ∀ k : BW wr, k.val.cell? ⟨b1, o1 + i * 5 + 4, none⟩ = some (.slice p.1.DA p.1.dn p.1.dc) := fun k => k.cell y4
            have Z0 : ∀ k : BW wr, k.val.cell? ⟨b2, o2 + i * 5, none⟩ = some (.int .i64 q.1.k) := fun k => k.cell z0
            have Z1 : ∀ k : BW wr, k.val.cell? ⟨b2, o2 + i * 5 + 1, none⟩ = some (.int .i64 q.1.n) := fun k => k.cell z1
            have Z2 : ∀ k : BW wr, k.val.cell? ⟨b2, o2 + i * 5 + 2, none⟩ = some (.string q.1.t) := fun k => k.cell z2
            have Z3 : ∀ k : BW wr, k.val.cell? ⟨b2, o2 + i * 5 + 3, none⟩ = some (.slice q.1.LA q.1.ln q.1.lc) := fun k => k.cell z3
            have Z4 : ∀ k : BW wr, k.val.cell? ⟨b2, o2 + i * 5 + 4, none⟩ = some (.slice q.1.DA q.1.dn q.1.dc) := fun k => k.cell z4
            have K1 : Hid (∀ k : BW wr, Calls Tryz.prog 17 #[p.1.val, q.1.val] k.val fun e w'' => e = .returned (.int .i64 (cmpV p.2 q.2)) ∧ ∃ k : BW wr, w'' = k.val) := fun k =>
              Calls.bw (IH.out p.2 (List.mem_of_getElem? g1) q.2 p.1 q.1 k.val ((hr1.step I.bel).step k.below) ((hr2.step I.bel).step k.below))
            have hi0 : (0 : Int) ≤ (i : Int) := by omega
            have hi3 : (i : Int) < (cln : Int) := by omega
            have hi4 : (i : Int) < (eln : Int) := by omega
            clear hp hq hu1 hu2 hr1 hr2 g1 g2 y0 y1 y2 y3 y4 z0 z1 z2 z3 z4 I
            go_upto_region 16 with fail
            refine wp_region_bw (by kernel_rfl) (by kernel_rfl) ?_
            repeat (go_big_quiet_step (with_reducible exact K1.out _))
            refine wpQuiet_nil ?_
            rintro _ ⟨kw, rfl⟩
            have J2 := Lib.hid (J.out.step kw.below)
            clear E0 E1 Y0 Y1 Y2 Y3 Y4 Z0 Z1 Z2 Z3 Z4 K1 hi0 hi3 hi4
            generalize kw.val = w2 at *
            cases hc : (cmpV p.2 q.2 != 0)
            · have HC : Hid (cmpL l y.l = cmpL (l.drop (i + 1)) (y.l.drop (i + 1))) := by
                have : cmpV p.2 q.2 = 0 := by simpa using hc
                rw [Hid, HA.out, if_neg (by simpa using this)]
              go_wp2_with fail
              go_roundw
              case rel => exact ⟨i + 1, by omega, by omega, by go_num, HC.out, J2.out⟩
              case measure => simp [intOf]; omega
            · have HC : Hid (cmpL l y.l = cmpV p.2 q.2) := by
                rw [Hid, HA.out, if_pos (by simpa using hc)]
              go_wp2_with fail
              go_ret
              exact ⟨by rw [HV.out]; show _ = Ending.returned (.int .i64 (cmpL l y.l)); rw [HC.out]; rfl, J2.out.bel⟩
          · have HE := Lib.hid (HQ.out.trans (cmpL_end (by have := HN1.out; omega) (by have := HN2.out; omega) (by have := HN1.out; have := HN2.out; omega)))
            clear I
            by_cases hl1 : i < cln
            all_goals
             first | have hx9 : eln ≤ i := by omega | have hx9 : cln ≤ i := by omega
             go_wp2_with fail
             refine (rints_any _ _ _).mono ?_
             rintro e w' ⟨rfl, rfl⟩
             go_wp2_with fail
             go_ret
             exact ⟨by rw [HV.out]; show _ = Ending.returned (.int .i64 (cmpL l y.l)); rw [HE.out, ← HN1.out, ← HN2.out]; rfl, J.out.bel⟩
    · have HV := Lib.hid (cmpV_doc hxy hd)
      obtain ⟨ps, hps, hsl⟩ := hx.sd
      obtain ⟨qs, hqs, hql⟩ := hy.sd
      simp only at hsl hql
      have hz1 := hsl.sz
      have hz2 := hql.sz
      unfold reach at hz1 hz2
      have P1 := Lib.hid hsl
      have P2 := Lib.hid hql
      have HN1 : Hid (cdn = d.length) := hx.open.dn
      have HN2 : Hid (edn = y.d.length) := hy.open.dn
      have HS1 : Hid (ps.map Prod.snd = d) := hps
      have HS2 : Hid (qs.map Prod.snd = y.d) := hqs
      have IH := Lib.hid ihd
      clear hx hy ihl ihd hk2 hn2 ht2 hxy hsl hql hps hqs
      subst hd
      all_goals
        go_enter Tryz.func17, Tryz.ntmps17
        go_wp2_with fail
        go_loopw [7] (fun v7 wr => ∃ i : Nat, i ≤ cdn ∧ i ≤ edn ∧ v7 = .int .i64 i ∧ cmpD d y.d = cmpD (d.drop i) (y.d.drop i) ∧ CpInv w ⟨5, cn, ct, cLA, cln, clc, cDA, cdn, cdc⟩ ⟨5, en, et, eLA, eln, elc, eDA, edn, edc⟩ wr) (fun v7 _ => cdn - (intOf v7).toNat)
        case atStart => exact ⟨0, Nat.zero_le _, Nat.zero_le _, rfl, rfl, I0.out⟩
        case round =>
          obtain ⟨i, hi1, hi2, rfl, hq, I⟩ := hrel
          have HQ := Lib.hid hq
          have J := Lib.hid I
          have q0 := I.b0.cell 4
          have q1 := I.b1.cell 4
          simp at q0 q1
          clear hq
          by_cases hlt : i < cdn ∧ i < edn
          · obtain ⟨hl1, hl2⟩ := hlt
            obtain ⟨p, hp⟩ : ∃ p, ps[i]? = some p := ⟨_, List.getElem?_eq_getElem (by have := P1.out.sr.ln; omega)⟩
            obtain ⟨q, hq⟩ : ∃ q, qs[i]? = some q := ⟨_, List.getElem?_eq_getElem (by have := P2.out.sr.ln; omega)⟩
            obtain ⟨b1, o1, rfl, _, hs1, hu1, hr1⟩ := P1.out.vat hp
            obtain ⟨b2, o2, rfl, _, hs2, hu2, hr2⟩ := P2.out.vat hq
            have g1 : d[i]? = some p.2 := by rw [← HS1.out, List.getElem?_map, hp]; rfl
            have g2 : y.d[i]? = some q.2 := by rw [← HS2.out, List.getElem?_map, hq]; rfl
            have HA := Lib.hid (HQ.out.trans (cmpD_at g1 g2))
            obtain ⟨y0, y1, y2, y3, y4⟩ := hu1.keep (I.bel.block b1 hu1.lt)
            obtain ⟨z0, z1, z2, z3, z4⟩ := hu2.keep (I.bel.block b2 hu2.lt)
            have n0 := (I.bel.cell (p := ⟨b1, o1 + i * 6, none⟩) hu1.lt).trans hs1
            have n1 := (I.bel.cell (p := ⟨b2, o2 + i * 6, none⟩) hu2.lt).trans hs2
            have N0 : ∀ k : BW wr, k.val.cell? ⟨b1, o1 + i * 6, none⟩ = some (.string p.2.s) := fun k => k.cell n0
            have N1 : ∀ k : BW wr, k.val.cell? ⟨b2, o2 + i * 6, none⟩ = some (.string q.2.s) := fun k => k.cell n1
            have E0 : ∀ q : BW wr, q.val.cell? ⟨w.heap.size, 4, none⟩ = some (.slice (some ⟨b1, o1, none⟩) cdn cdc) := fun q => q.cell (J.out.b0.cell 4)
            have E1 : ∀ q : BW wr, q.val.cell? ⟨w.heap.size + 1, 4, none⟩ = some (.slice (some ⟨b2, o2, none⟩) edn edc) := fun q => q.cell (J.out.b1.cell 4)
            have Y0 : ∀ k : BW wr, k.val.cell? ⟨b1, o1 + i * 6 + 1, none⟩ = some (.int .i64 p.1.k) := fun k => k.cell y0
            have Y1 : ∀ k : BW wr, k.val.cell? ⟨b1, o1 + i * 6 + 1 + 1, none⟩ = some (.int .i64 p.1.n) := fun k => k.cell y1
            have Y2 : ∀ k : BW wr, k.val.cell? ⟨b1, o1 + i * 6 + 1 + 2, none⟩ = some (.string p.1.t) := fun k => k.cell y2
            have Y3 : ∀ k : BW wr, k.val.cell? ⟨b1, o1 + i * 6 + 1 + 3, none⟩ = some (.slice p.1.LA p.1.ln p.1.lc) := fun k => k.cell y3
            have Y4 : ∀ k : BW wr, k.val.cell? ⟨b1, o1 + i * 6 + 1 + 4, none⟩ = some (.slice p.1.DA p.1.dn p.1.dc) := fun k => k.cell y4
            have Z0 : ∀ k : BW wr, k.val.cell? ⟨b2, o2 + i * 6 + 1, none⟩ = some (.int .i64 q.1.k) := fun k => k.cell z0
            have Z1 : ∀ k : BW wr, k.val.cell? ⟨b2, o2 + i * 6 + 1 + 1, none⟩ = some (.int .i64 q.1.n) := fun k => k.cell z1
            have Z2 : ∀ k : BW wr, k.val.cell? ⟨b2, o2 + i * 6 + 1 + 2, none⟩ = some (.string q.1.t) := fun k => k.cell z2
            have Z3 : ∀ k : BW wr, k.val.cell? ⟨b2, o2 + i * 6 + 1 + 3, none⟩ = some (.slice q.1.LA q.1.ln q.1.lc) := fun k => k.cell z3
            have Z4 : ∀ k : BW wr, k.val.cell? ⟨b2, o2 + i * 6 + 1 + 4, none⟩ = some (.slice q.1.DA q.1.dn q.1.dc) := fun k => k.cell z4
            have KB : Hid (∀ (W : World), Below w.heap.size w W → ∀ k : BW W, Calls Tryz.prog 17 #[p.1.val, q.1.val] k.val fun e w'' => e = .returned (.int .i64 (cmpV p.2.v q.2.v)) ∧ ∃ k : BW W, w'' = k.val) := fun W hW k =>
              Calls.bw (IH.out p.2 (List.mem_of_getElem? g1) q.2.v p.1 q.1 k.val ((hr1.step hW).step k.below) ((hr2.step hW).step k.below))
            have hi0 : (0 : Int) ≤ (i : Int) := by omega
            have hi3 : (i : Int) < (cdn : Int) := by omega
            have hi4 : (i : Int) < (edn : Int) := by omega
            clear hq hu1 hu2 hr1 hr2 g1 g2 y0 y1 y2 y3 y4 z0 z1 z2 z3 z4 I hs1 hs2 n0 n1
            have K2 : Hid (∀ k : BW wr, Calls Tryz.prog 19 #[.string p.2.s, .string q.2.s] k.val fun e w'' => e = .returned (.int .i64 (cmpB p.2.s q.2.s)) ∧ ∃ k : BW wr, w'' = k.val) := fun k =>
              Calls.bw (rtexts_any _ _ _ (P1.out.ns p (List.mem_of_getElem? hp)))
            clear hp
            go_upto_region 24 with fail
            refine wp_region_bw (by kernel_rfl) (by kernel_rfl) ?_
            repeat (go_big_quiet_step (with_reducible exact K2.out _))
            refine wpQuiet_nil ?_
            rintro _ ⟨kw, rfl⟩
            clear q0 q1
            cases hb : (cmpB p.2.s q.2.s != 0)
            · have hb0 : (cmpB p.2.s q.2.s == 0) = true := by simpa using hb
              have HA' : Hid (cmpD d y.d = if cmpV p.2.v q.2.v ≠ 0 then cmpV p.2.v q.2.v else cmpD (d.drop (i + 1)) (y.d.drop (i + 1))) := by
                have : cmpB p.2.s q.2.s = 0 := by simpa using hb
                rw [Hid, HA.out, if_neg (by simpa using this)]
              have J1 := Lib.hid (J.out.step kw.below)
              have E0' : ∀ q : BW kw.val, q.val.cell? ⟨w.heap.size, 4, none⟩ = some (.slice (some ⟨b1, o1, none⟩) cdn cdc) := fun q => q.cell (E0 kw)
              have E1' : ∀ q : BW kw.val, q.val.cell? ⟨w.heap.size + 1, 4, none⟩ = some (.slice (some ⟨b2, o2, none⟩) edn edc) := fun q => q.cell (E1 kw)
              have Y0' : ∀ k : BW kw.val, k.val.cell? ⟨b1, o1 + i * 6 + 1, none⟩ = some (.int .i64 p.1.k) := fun k => k.cell (Y0 kw)
              have Y1' : ∀ k : BW kw.val, k.val.cell? ⟨b1, o1 + i * 6 + 1 + 1, none⟩ = some (.int .i64 p.1.n) := fun k => k.cell (Y1 kw)
              have Y2' : ∀ k : BW kw.val, k.val.cell? ⟨b1, o1 + i * 6 + 1 + 2, none⟩ = some (.string p.1.t) := fun k => k.cell (Y2 kw)
              have Y3' : ∀ k : BW kw.val, k.val.cell? ⟨b1, o1 + i * 6 + 1 + 3, none⟩ = some (.slice p.1.LA p.1.ln p.1.lc) := fun k => k.cell (Y3 kw)
              have Y4' : ∀ k : BW kw.val, k.val.cell? ⟨b1, o1 + i * 6 + 1 + 4, none⟩ = some (.slice p.1.DA p.1.dn p.1.dc) := fun k => k.cell (Y4 kw)
              have Z0' : ∀ k : BW kw.val, k.val.cell? ⟨b2, o2 + i * 6 + 1, none⟩ = some (.int .i64 q.1.k) := fun k => k.cell (Z0 kw)
              have Z1' : ∀ k : BW kw.val, k.val.cell? ⟨b2, o2 + i * 6 + 1 + 1, none⟩ = some (.int .i64 q.1.n) := fun k => k.cell (Z1 kw)
              have Z2' : ∀ k : BW kw.val, k.val.cell? ⟨b2, o2 + i * 6 + 1 + 2, none⟩ = some (.string q.1.t) := fun k => k.cell (Z2 kw)
              have Z3' : ∀ k : BW kw.val, k.val.cell? ⟨b2, o2 + i * 6 + 1 + 3, none⟩ = some (.slice q.1.LA q.1.ln q.1.lc) := fun k => k.cell (Z3 kw)
              have Z4' : ∀ k : BW kw.val, k.val.cell? ⟨b2, o2 + i * 6 + 1 + 4, none⟩ = some (.slice q.1.DA q.1.dn q.1.dc) := fun k => k.cell (Z4 kw)
              have K1' : Hid (∀ k : BW kw.val, Calls Tryz.prog 17 #[p.1.val, q.1.val] k.val fun e w'' => e = .returned (.int .i64 (cmpV p.2.v q.2.v)) ∧ ∃ k : BW kw.val, w'' = k.val) := fun k =>
                KB.out kw.val (J1.out.bel) k
              clear E0 E1 Y0 Y1 Y2 Y3 Y4 Z0 Z1 Z2 Z3 Z4 N0 N1 K2
              generalize kw.val = w2 at *
              go_upto_region 26 with fail
              refine wp_region_bw (by kernel_rfl) (by kernel_rfl) ?_
              repeat (go_big_quiet_step (with_reducible exact K1'.out _))
              refine wpQuiet_nil ?_
              rintro _ ⟨kv, rfl⟩
              have J2 := Lib.hid (J1.out.step kv.below)
              clear E0' E1' Y0' Y1' Y2' Y3' Y4' Z0' Z1' Z2' Z3' Z4' K1' hi0 hi3 hi4
              generalize kv.val = w3 at *
              cases hc : (cmpV p.2.v q.2.v != 0)
              · have HC : Hid (cmpD d y.d = cmpD (d.drop (i + 1)) (y.d.drop (i + 1))) := by
                  have : cmpV p.2.v q.2.v = 0 := by simpa using hc
                  rw [Hid, HA'.out, if_neg (by simpa using this)]
                go_wp2_with fail
                go_roundw
                case rel => exact ⟨i + 1, by omega, by omega, by go_num, HC.out, J2.out⟩
                case measure => simp [intOf]; omega
              · have HC : Hid (cmpD d y.d = cmpV p.2.v q.2.v) := by
                  rw [Hid, HA'.out, if_pos (by simpa using hc)]
                go_wp2_with fail
                go_ret
                exact ⟨by rw [HV.out]; show _ = Ending.returned (.int .i64 (cmpD d y.d)); rw [HC.out]; rfl, J2.out.bel⟩
            · have hb0 : (cmpB p.2.s q.2.s == 0) = false := by simpa using hb
              have HC : Hid (cmpD d y.d = cmpB p.2.s q.2.s) := by
                rw [Hid, HA.out, if_pos (by simpa using hb)]
              have J2 := Lib.hid (J.out.step kw.below)
              clear E0 E1 Y0 Y1 Y2 Y3 Y4 Z0 Z1 Z2 Z3 Z4 N0 N1 K2 hi0 hi3 hi4
              generalize kw.val = w2 at *
              go_wp2_with fail
              go_ret
              exact ⟨by rw [HV.out]; show _ = Ending.returned (.int .i64 (cmpD d y.d)); rw [HC.out]; rfl, J2.out.bel⟩
          · have HE := Lib.hid (HQ.out.trans (cmpD_end (by have := HN1.out; omega) (by have := HN2.out; omega) (by have := HN1.out; have := HN2.out; omega)))
            clear I
            by_cases hl1 : i < cdn
            all_goals
             first | have hx9 : edn ≤ i := by omega | have hx9 : cdn ≤ i := by omega
             go_wp2_with fail
             refine (rints_any _ _ _).mono ?_
             rintro e w' ⟨rfl, rfl⟩
             go_wp2_with fail
             go_ret
             exact ⟨by rw [HV.out]; show _ = Ending.returned (.int .i64 (cmpD d y.d)); rw [HE.out, ← HN1.out, ← HN2.out]; rfl, J.out.bel⟩
    · obtain ⟨h3, h9, h10, h4, h7, h8, h6, h5⟩ := ho
      have HV := Lib.hid (cmpV_other hxy h3 h9 h10 h4 h7 h8 h6 h5)
      clear hx hy ihl ihd hk2 hn2 ht2 hxy
      have e3 : (ck == 3) = false := by simpa using h3
      have e9 : (ck == 9) = false := by simpa using h9
      have e10 : (ck == 10) = false := by simpa using h10
      have e4 : (ck == 4) = false := by simpa using h4
      have e7 : (ck == 7) = false := by simpa using h7
      have e8 : (ck == 8) = false := by simpa using h8
      have e6 : (ck == 6) = false := by simpa using h6
      have e5 : (ck == 5) = false := by simpa using h5
      clear h3 h9 h10 h4 h7 h8 h6 h5
      go_enter Tryz.func17, Tryz.ntmps17
      go_wp2_with fail
      go_ret
      exact ⟨by rw [HV.out]; rfl, I0.out.bel⟩
  · have HV : Hid (cmpV (.mk ck cn ct l d) y = cmpI ck ek) := by
      have : ck ≠ ek := by simpa using hne
      rw [Hid, cmpV_kind (by rw [← hk2]; exact this), ← hk2]
      rfl
    clear hx hy ihl ihd hk2 hn2 ht2
    go_enter Tryz.func17, Tryz.ntmps17
    go_wp2_with fail
    refine (rints_any _ _ _).mono ?_
    rintro e w' ⟨rfl, rfl⟩
    go_wp2_with fail
    go_ret
    exact ⟨by rw [HV.out]; rfl, I0.out.bel⟩

end Go.Proofs.YtblepmmibhphhaaGreatDoor


/- The walk of ShardkeyOrder. -/
namespace Go.Proofs.YtblepmmibhphhaaGreatDoor
open Go.RowKit

set_option maxHeartbeats 400000 in
theorem rlist01_any (A : Option Addr) (n cc : Nat) (w : World) : Calls Tryz.prog 18 #[.slice A n cc] w fun e w' => e = .returned (VC.val ⟨6, 0, ByteArray.empty, A, n, cc, none, 0, 0⟩) ∧ Below w.heap.size w w' := by
  go_enter Tryz.func18, Tryz.ntmps18
  go_wp2_with fail
  exact bodyPost_ret (results_val rfl _ _ _ rfl _ ⟨6, 0, ByteArray.empty, A, n, cc, none, 0, 0⟩ (VAt.of_blk (Blk.new _ _ _))) rfl ⟨rfl, (Below.refl _ _).alloc (Nat.le_refl _) _⟩
theorem rw_list {w : World} {A : Option Addr} {n cc : Nat} {ps : List PV} (h : SL (fun _ => True) w A n cc ps) : RW w ⟨6, 0, ByteArray.empty, A, n, cc, none, 0, 0⟩ (.mk 6 0 ByteArray.empty (ps.map Prod.snd) []) :=
  RV.of_slices (fs := []) (by show 0 ≤ reach; decide) h ⟨SR.nil, by show 0 * 96 ≤ reach; decide, fun h => absurd h (by omega), fun p hp => by simp at hp, fun p hp => by simp at hp⟩
theorem cmp_list (xs ys : List Val) : cmpV (.mk 6 0 ByteArray.empty xs []) (.mk 6 0 ByteArray.empty ys []) = cmpL xs ys := by
  rw [cmpV_eq]
  simp [Val.k, Val.l]

/-- the arguments in their variables -/
structure OrB (w : World) (k : Array Value) (c d : VC) (wr : World) : Prop where
  b0 : Blk wr w.heap.size 24 k
  b1 : Blk wr (w.heap.size + 1) 28 c.arr
  b2 : Blk wr (w.heap.size + 2) 28 d.arr
  bel : Below w.heap.size w wr
theorem OrB.step {w wr w' : World} {k : Array Value} {c d : VC} (h : OrB w k c d wr) (hb : Below wr.heap.size wr w') : OrB w k c d w' := ⟨h.b0.step hb, h.b1.step hb, h.b2.step hb, h.bel.step' hb⟩
theorem OrB.start {w : World} {k : Array Value} {c d : VC} : OrB w k c d (((w.alloc (Obj.cells k 24)).alloc (Obj.cells c.arr 28)).alloc (Obj.cells d.arr 28)) :=
  ⟨((Blk.new_at rfl).alloc _).alloc _, (Blk.new_at (by simp)).alloc _, Blk.new_at (by simp), (((Below.refl _ _).alloc (Nat.le_refl _) _).alloc (by simp) _).alloc (by simp; omega) _⟩

set_option maxRecDepth 100000 in
set_option maxHeartbeats 8000000 in
theorem shardkeyOrder_walk (ks : List Od) (ha : Bool) (A : Option Addr) (n cc : Nat) (x : Val) (c : VC) (y : Val) (d : VC) (w : World) (hT : Tabs w) (hk : KS w A n cc ks) (hx : RW w c x) (hnx : NumsV x) (hy : RW w d y) (hny : NumsV y) :
    Calls Tryz.prog 4 #[.agg #[.slice A n cc, .bool ha], c.val, d.val] w fun e w' => e = .returned (.bool true) ∧ Below w.heap.size w w' := by
  have HT := Lib.hid hT
  have HN := Lib.hid hk.ln
  have HX := Lib.hid hx
  have HY := Lib.hid hy
  have HK := Lib.hid hk
  have NX := Lib.hid hnx
  have NY := Lib.hid hny
  have hnz : (n : Int) ≤ 8796093022208 := by obtain ⟨os, h⟩ := hk; have := h.sz; unfold reach at this; omega
  have I0 : Hid (OrB w #[.slice A n cc, .bool ha] c d (((w.alloc (Obj.cells #[.slice A n cc, .bool ha] 24)).alloc (Obj.cells c.arr 28)).alloc (Obj.cells d.arr 28))) := OrB.start
  clear hk hx hT hy hnx hny
  go_enter Tryz.func4, Tryz.ntmps4
  go_upto_region 1 with fail
  change Code.wp _ _ _ _ (((w.alloc (Obj.cells #[.slice A n cc, .bool ha] 24)).alloc (Obj.cells c.arr 28)).alloc (Obj.cells d.arr 28))
  generalize (((w.alloc (Obj.cells #[.slice A n cc, .bool ha] 24)).alloc (Obj.cells c.arr 28)).alloc (Obj.cells d.arr 28)) = wa at *
  have k0 := I0.out.b0.cell 0
  have k1 := I0.out.b0.cell 1
  simp at k0 k1
  by_cases h20 : 20 < n
  · have h20' : (20 : Int) < (n : Int) := by omega
    go_wp2_with fail
    refine (awake48_any wa (HT.out.step I0.out.bel)).mono ?_
    rintro e w1 ⟨rfl, hb⟩
    have CE := Lib.hid (I0.out.bel.step' hb)
    clear hb I0
    go_wp2_with fail
    go_ret
    exact ⟨rfl, CE.out⟩
  have h20' : ¬ ((20 : Int) < (n : Int)) := by omega
  have HV := Lib.hid (rshardkey_any ks ha A n cc wa (HK.out.step I0.out.bel))
  by_cases hE : keyE ks ha = 0
  rotate_left
  · have hEb : (keyE ks ha != 0) = true := by simpa using hE
    obtain ⟨E, hEE⟩ : ∃ E, keyE ks ha = E := ⟨_, rfl⟩
    rw [hEE] at HV hEb
    clear hE hEE
    go_wp2_with fail
    refine HV.out.mono ?_
    rintro e w1 ⟨rfl, hb⟩
    have CE := Lib.hid (I0.out.bel.step' hb)
    clear hb I0 HV k0 k1
    go_wp2_with fail
    refine (awake48_any w1 (HT.out.step CE.out)).mono ?_
    rintro e w2 ⟨rfl, hb⟩
    have DE := Lib.hid (CE.out.step' hb)
    clear hb CE
    go_wp2_with fail
    go_ret
    exact ⟨rfl, DE.out⟩
  rw [hE] at HV
  have HP := Lib.hid (keyE_parts hE)
  clear hE
  go_wp2_with fail
  refine HV.out.mono ?_
  rintro e w1 ⟨rfl, hb⟩
  have I1 := Lib.hid (I0.out.step hb)
  clear hb HV I0 k0 k1
  obtain ⟨a0, a1, a2, a3, a4⟩ := VAt.of_blk I1.out.b1
  simp only [Nat.zero_add] at a0 a1 a2 a3 a4
  have HV := Lib.hid (rvalid_any x c w1 (HX.out.step I1.out.bel))
  cases hv : validV x
  · rw [hv] at HV
    clear hv
    go_wp2_with fail
    refine HV.out.mono ?_
    rintro e w2 ⟨rfl, hb⟩
    have DE := Lib.hid (I1.out.bel.step' hb)
    clear hb I1 HV a0 a1 a2 a3 a4
    go_wp2_with fail
    refine (awake48_any w2 (HT.out.step DE.out)).mono ?_
    rintro e w3 ⟨rfl, hb⟩
    have EE := Lib.hid (DE.out.step' hb)
    clear hb DE
    go_wp2_with fail
    go_ret
    exact ⟨rfl, EE.out⟩
  rw [hv] at HV
  clear hv
  go_wp2_with fail
  refine HV.out.mono ?_
  rintro e w2 ⟨rfl, hb⟩
  have I2 := Lib.hid (I1.out.step hb)
  clear hb HV I1 a0 a1 a2 a3 a4
  obtain ⟨a0, a1, a2, a3, a4⟩ := VAt.of_blk I2.out.b2
  simp only [Nat.zero_add] at a0 a1 a2 a3 a4
  have HV := Lib.hid (rvalid_any y d w2 (HY.out.step I2.out.bel))
  cases hv : validV y
  · rw [hv] at HV
    clear hv
    go_wp2_with fail
    refine HV.out.mono ?_
    rintro e w3 ⟨rfl, hb⟩
    have DE := Lib.hid (I2.out.bel.step' hb)
    clear hb I2 HV a0 a1 a2 a3 a4
    go_wp2_with fail
    refine (awake48_any w3 (HT.out.step DE.out)).mono ?_
    rintro e w4 ⟨rfl, hb⟩
    have EE := Lib.hid (DE.out.step' hb)
    clear hb DE
    go_wp2_with fail
    go_ret
    exact ⟨rfl, EE.out⟩
  rw [hv] at HV
  clear hv
  go_wp2_with fail
  refine HV.out.mono ?_
  rintro e w3 ⟨rfl, hb⟩
  have I3 := Lib.hid (I2.out.step hb)
  clear hb HV I2 a0 a1 a2 a3 a4
  obtain ⟨⟨S1, S2⟩, hS⟩ : ∃ K, encR ks ha x = K := ⟨_, rfl⟩
  obtain ⟨⟨T1, T2⟩, hT⟩ : ∃ K, encR ks ha y = K := ⟨_, rfl⟩
  have HS := Lib.hid hS
  have HTT := Lib.hid hT
  have HEA : Hid (∀ wr, Below w.heap.size w wr → Calls Tryz.prog 12 #[.agg #[.slice A n cc, .bool ha], c.val] wr fun e w' => e = .returned (.tuple #[.string S1, .int .i64 S2]) ∧ Below wr.heap.size wr w') := Lib.hid fun wr hb => by
    have := senc_any ks ha A n cc x c wr (HT.out.step hb) (HK.out.step hb) (HX.out.step hb) HP.out.1
    rw [hS] at this
    exact this
  have HEB : Hid (∀ wr, Below w.heap.size w wr → Calls Tryz.prog 12 #[.agg #[.slice A n cc, .bool ha], d.val] wr fun e w' => e = .returned (.tuple #[.string T1, .int .i64 T2]) ∧ Below wr.heap.size wr w') := Lib.hid fun wr hb => by
    have := senc_any ks ha A n cc y d wr (HT.out.step hb) (HK.out.step hb) (HY.out.step hb) HP.out.1
    rw [hT] at this
    exact this
  clear hS hT
  have k0 := I3.out.b0.cell 0
  have k1 := I3.out.b0.cell 1
  simp at k0 k1
  obtain ⟨a0, a1, a2, a3, a4⟩ := VAt.of_blk I3.out.b1
  simp only [Nat.zero_add] at a0 a1 a2 a3 a4
  go_wp2_with fail
  refine (HEA.out w3 I3.out.bel).mono ?_
  rintro e w4 ⟨rfl, hb⟩
  have I4 := Lib.hid (I3.out.step hb)
  clear hb HEA I3 a0 a1 a2 a3 a4 k0 k1
  have k0 := I4.out.b0.cell 0
  have k1 := I4.out.b0.cell 1
  simp at k0 k1
  obtain ⟨a0, a1, a2, a3, a4⟩ := VAt.of_blk I4.out.b2
  simp only [Nat.zero_add] at a0 a1 a2 a3 a4
  go_wp2_with fail
  refine (HEB.out w4 I4.out.bel).mono ?_
  rintro e w5 ⟨rfl, hb⟩
  have I5 := Lib.hid (I4.out.step hb)
  clear hb HEB I4 a0 a1 a2 a3 a4 k0 k1
  have k0 := I5.out.b0.cell 0
  have k1 := I5.out.b0.cell 1
  simp at k0 k1
  obtain ⟨a0, a1, a2, a3, a4⟩ := VAt.of_blk I5.out.b1
  simp only [Nat.zero_add] at a0 a1 a2 a3 a4
  go_wp2_with fail
  refine (rvalues_any ks ha A n cc x c w5 (HK.out.step I5.out.bel) (HX.out.step I5.out.bel) HP.out.1).mono ?_
  rintro e w6 ⟨va, rfl, hva, hb⟩
  have I6 := Lib.hid (I5.out.step hb)
  have HVA := Lib.hid hva
  clear hb hva I5 a0 a1 a2 a3 a4 k0 k1
  have k0 := I6.out.b0.cell 0
  have k1 := I6.out.b0.cell 1
  simp at k0 k1
  obtain ⟨a0, a1, a2, a3, a4⟩ := VAt.of_blk I6.out.b2
  simp only [Nat.zero_add] at a0 a1 a2 a3 a4
  go_wp2_with fail
  refine (rvalues_any ks ha A n cc y d w6 (HK.out.step I6.out.bel) (HY.out.step I6.out.bel) HP.out.1).mono ?_
  rintro e w7 ⟨vb, rfl, hvb, hb⟩
  have I7 := Lib.hid (I6.out.step hb)
  have HB67 := Lib.hid hb
  have HVB := Lib.hid hvb
  clear hb hvb I6 a0 a1 a2 a3 a4 k0 k1
  cases hxs : valsR ks x with
  | none =>
    have hSS := HS.out
    rw [enc_no hxs] at hSS
    cases hSS
    clear hxs
    cases hys : valsR ks y with
    | none =>
      have hSS := HTT.out
      rw [enc_no hys] at hSS
      cases hSS
      clear hys
      go_wp2_with fail
      refine (awake48_any w7 (HT.out.step I7.out.bel)).mono ?_
      rintro e w8 ⟨rfl, hb⟩
      have EE := Lib.hid (I7.out.bel.step' hb)
      clear hb I7
      go_wp2_with fail
      go_ret
      exact ⟨rfl, EE.out⟩
    | some ys =>
      have hSS := HTT.out
      rw [enc_ok hys NY.out] at hSS
      cases hSS
      clear hys
      go_wp2_with fail
      refine (awake48_any w7 (HT.out.step I7.out.bel)).mono ?_
      rintro e w8 ⟨rfl, hb⟩
      have EE := Lib.hid (I7.out.bel.step' hb)
      clear hb I7
      go_wp2_with fail
      go_ret
      exact ⟨rfl, EE.out⟩
  | some xs =>
    have HXS := Lib.hid hxs
    have hSS := HS.out
    rw [enc_ok hxs NX.out] at hSS
    simp only [Prod.mk.injEq] at hSS
    obtain ⟨hS1, rfl⟩ := hSS
    have HS1 := Lib.hid hS1
    clear hxs hS1
    cases hys : valsR ks y with
    | none =>
      have hSS := HTT.out
      rw [enc_no hys] at hSS
      cases hSS
      clear hys
      go_wp2_with fail
      refine (awake48_any w7 (HT.out.step I7.out.bel)).mono ?_
      rintro e w8 ⟨rfl, hb⟩
      have EE := Lib.hid (I7.out.bel.step' hb)
      clear hb I7
      go_wp2_with fail
      go_ret
      exact ⟨rfl, EE.out⟩
    | some ys =>
      have HYS := Lib.hid hys
      have hSS := HTT.out
      rw [enc_ok hys NY.out] at hSS
      simp only [Prod.mk.injEq] at hSS
      obtain ⟨hS1, rfl⟩ := hSS
      have HT1 := Lib.hid hS1
      clear hys hS1
      obtain ⟨pa, Aa, na, ca, hpa, rfl, hsa⟩ := HVA.out xs HXS.out
      obtain ⟨pb, Ab, nb, cb, hpb, rfl, hsb⟩ := HVB.out ys HYS.out
      have SA := Lib.hid (hsa.step HB67.out)
      have SB := Lib.hid hsb
      have HPA := Lib.hid hpa
      have HPB := Lib.hid hpb
      clear hpa hpb hsa hsb HB67 HVA HVB
      go_wp2_with fail
      refine (rlist01_any Aa na ca w7).mono ?_
      rintro e w8 ⟨rfl, hb⟩
      have I8 := Lib.hid (I7.out.step hb)
      have SA8 := Lib.hid (SA.out.step hb)
      have SB8 := Lib.hid (SB.out.step hb)
      clear hb I7 SA SB
      go_wp2_with fail
      refine (rlist01_any Ab nb cb w8).mono ?_
      rintro e w9 ⟨rfl, hb⟩
      have I9 := Lib.hid (I8.out.step hb)
      have SA9 := Lib.hid (SA8.out.step hb)
      have SB9 := Lib.hid (SB8.out.step hb)
      clear hb I8 SA8 SB8
      have hcm := rcmp_any _ _ _ _ w9 (rw_list SA9.out) (rw_list SB9.out)
      rw [cmp_list, HPA.out, HPB.out] at hcm
      obtain ⟨C, hC⟩ : ∃ C, C = cmpL xs ys := ⟨_, rfl⟩
      rw [← hC] at hcm
      have HCM := Lib.hid hcm
      have HC := Lib.hid hC
      clear hcm hC
      go_wp2_with fail
      refine HCM.out.mono ?_
      rintro e w10 ⟨rfl, hb⟩
      have IA := Lib.hid (I9.out.step hb)
      clear hb I9 HCM SA9 SB9
      have k1 := IA.out.b0.cell 1
      simp at k1
      cases ha
      · have hcs := enc_cmp HXS.out HYS.out NX.out NY.out
        have hsz : S1.size ≤ reach := by
          rw [← HS1.out, strOfNums_size]
          have h1 : (encAll (hashes false xs)).length ≤ 68000000 := enc_len8 HXS.out NX.out HP.out.1
          unfold reach
          omega
        rw [← HC.out, show strOfNums (encAll xs) = S1 from HS1.out, show strOfNums (encAll ys) = T1 from HT1.out] at hcs
        have htx := rtexts_any S1 T1 w10 hsz
        rw [hcs] at htx
        have HTX := Lib.hid htx
        have e1 : (C == C) = true := by simp
        clear hcs hsz htx
        go_wp2_with fail
        refine HTX.out.mono ?_
        rintro e w11 ⟨rfl, hb⟩
        have IB := Lib.hid (IA.out.bel.step' hb)
        clear hb IA HTX k1
        go_wp2_with fail
        refine (awake48_any w11 (HT.out.step IB.out)).mono ?_
        rintro e w12 ⟨rfl, hb⟩
        have EE := Lib.hid (IB.out.step' hb)
        clear hb IB
        go_wp2_with fail
        go_ret
        exact ⟨rfl, EE.out⟩
      · by_cases hc0 : C = 0
        · have hst : S1 = T1 := by
            rw [← HS1.out, ← HT1.out, enc_hash HXS.out HYS.out NX.out NY.out (HP.out.2.2 rfl) (by rw [← HC.out]; exact hc0)]
          subst hst
          have hcb : (C != 0) = false := by simp [hc0]
          clear hc0
          go_wp2_with fail
          refine (awake48_any w10 (HT.out.step IA.out.bel)).mono ?_
          rintro e w12 ⟨rfl, hb⟩
          have EE := Lib.hid (IA.out.bel.step' hb)
          clear hb IA
          go_wp2_with fail
          go_ret
          exact ⟨rfl, EE.out⟩
        · have hcb : (C != 0) = true := by simp [hc0]
          clear hc0
          go_wp2_with fail
          refine (awake48_any w10 (HT.out.step IA.out.bel)).mono ?_
          rintro e w12 ⟨rfl, hb⟩
          have EE := Lib.hid (IA.out.bel.step' hb)
          clear hb IA
          go_wp2_with fail
          go_ret
          exact ⟨rfl, EE.out⟩

end Go.Proofs.YtblepmmibhphhaaGreatDoor


/- A value that came in, opened: its numbers have 64 bits. Printed by gen_openn.py out of XValOpen. -/
namespace Go.Proofs.YtblepmmibhphhaaGreatDoor
set_option maxRecDepth 100000
open Go.ChangeShapes Go.WideShapes Go.ChangeAt Go.RowKit Go.Joins Go.Deep

theorem in64_wf {n : Int} (h : (Lit.int .i64 n).wf = true) : In64 n := by
  have h : (decide (IntKind.i64.min ≤ n) && decide (n ≤ IntKind.i64.max)) = true := h
  simp only [Bool.and_eq_true, decide_eq_true_eq] at h
  exact h
section
variable {H : Type} {enc : TypeId × Value → H} {W : World} {base : Nat} {spare : Nat → Bool} {held : Bool}
/-- all values of smaller readings are trees -/
def ReadsN (H : Type) (enc : TypeId × Value → H) (W : World) (base : Nat) (spare : Nat → Bool) (held : Bool) (n : Nat) : Prop :=
  ∀ (cs : List Value) (y : DataW H × List MemPlace), DataW.trod enc Tryz.prog W base spare held n 28 cs = some y → Light 28 y.1 → ∃ c x, cs = c.list ∧ RW W c x ∧ NumsV x

theorem nread_list (n : Nat) {v : Value} {y : DataW H × List MemPlace} (ih : ∀ n', n' < n → ReadsN H enc W base spare held n') (h : DataW.trod enc Tryz.prog W base spare held n 25 [v] = some y) (hw : Light 25 y.1) :
    ∃ (LA : Option Addr) (ln lc : Nat) (l : List Val), v = .slice LA ln lc ∧ ln = l.length ∧ ln ≤ lc ∧ ln * 80 ≤ reach ∧ (0 < ln → ∃ b off, LA = some ⟨b, off, none⟩ ∧ ∀ (i : Nat) (y : Val), l[i]? = some y → ∃ e, VAt W b (off + i * 5) e ∧ RW W e y) ∧ ∀ y ∈ l, NumsV y := by
  rcases DataW.trod_slice Tryz.underlying25 h with ⟨hcs, _⟩ | ⟨a, len, cap, elems, rest, n', rfl, hcs, rfl, _, hlc, hcm, hel, hat, _, _⟩
  · simp at hcs
    exact ⟨none, 0, 0, [], hcs, rfl, Nat.le_refl _, by decide, fun h => absurd h (by omega), by simp⟩
  · simp at hcs
    subst hcs
    simp only [Light, DataW.weights, Tryz.underlying25, List.mem_cons, List.mem_append, bytes_value] at hw
    have hsz : len * 80 ≤ reach := by
      have := hw _ (.inl rfl)
      simp only [List.length_map, hel] at this
      have h2 : len * 80 ≤ (len + rest.length) * 80 := Nat.mul_le_mul_right _ (by omega)
      have := le_reach
      omega
    have wl := light_all (l := elems.map (·.1)) (fun z hz => hw z (.inr (.inl hz)))
    rcases Nat.eq_zero_or_pos len with h0 | hp
    · exact ⟨some a, len, cap, [], rfl, h0, hlc, hsz, fun h => absurd h (by omega), by simp⟩
    have step : ∀ i, i < len → ∃ cs', W.cells? base (a.add (i * 5)) 5 = some cs' ∧ ∃ e x, cs' = VC.list e ∧ RW W e x ∧ NumsV x := by
      intro i hi
      have h1 := hat i hi
      rw [cells_value, List.getElem?_eq_getElem (by omega)] at h1
      obtain ⟨cs', hcs', ht'⟩ := Option.bind_eq_some_iff.1 h1
      exact ⟨cs', hcs', ih n' (by omega) cs' _ ht' (wl _ (List.mem_map_of_mem (List.getElem_mem _)))⟩
    obtain ⟨cs0, h0, _⟩ := step 0 hp
    obtain ⟨b, off, ha, _⟩ := cells_at h0 (by omega)
    have ha' : a = ⟨b, off, none⟩ := by simpa [Addr.add] using ha
    subst ha'
    obtain ⟨f, hf⟩ := choose_fn (p := fun i x => (∃ e, VAt W b (off + i * 5) e ∧ RW W e x) ∧ NumsV x) Val.zero len (fun i hi => by
      obtain ⟨cs', hcs', e, x, rfl, hx, hnx⟩ := step i hi
      rw [addr_add] at hcs'
      obtain ⟨b', off', ha', hc⟩ := cells_at hcs' (by omega)
      injection ha' with e1 e2
      subst e1 e2
      exact ⟨x, ⟨e, ⟨hc 0 (by omega), hc 1 (by omega), hc 2 (by omega), hc 3 (by omega), hc 4 (by omega)⟩, hx⟩, hnx⟩)
    refine ⟨_, len, cap, (List.range len).map f, rfl, by simp, hlc, hsz, fun _ => ⟨b, off, rfl, fun i y hi => ?_⟩, fun y hy => (by obtain ⟨i, hi, rfl⟩ := List.mem_map.1 hy; exact (hf i (List.mem_range.1 hi)).2)⟩
    have hlt : i < len := by have := (List.getElem?_eq_some_iff.1 hi).1; simpa using this
    rw [List.getElem?_map, List.getElem?_range hlt] at hi
    simp only [Option.map_some, Option.some.injEq] at hi
    subst hi
    exact (hf i hlt).1

theorem nread_doc (n : Nat) {v : Value} {y : DataW H × List MemPlace} (ih : ∀ n', n' < n → ReadsN H enc W base spare held n') (h : DataW.trod enc Tryz.prog W base spare held n 26 [v] = some y) (hw : Light 26 y.1) :
    ∃ (DA : Option Addr) (dn dc : Nat) (d : List Fld), v = .slice DA dn dc ∧ dn = d.length ∧ dn ≤ dc ∧ dn * 96 ≤ reach0 ∧ (0 < dn → ∃ b off, DA = some ⟨b, off, none⟩ ∧ ∀ (i : Nat) (f : Fld), d[i]? = some f → W.cell? ⟨b, off + i * 6, none⟩ = some (.string f.s) ∧ f.s.size ≤ reach ∧ ∃ e, VAt W b (off + i * 6 + 1) e ∧ RW W e f.v) ∧ ∀ f ∈ d, NumsV f.v := by
  rcases DataW.trod_slice Tryz.underlying26 h with ⟨hcs, _⟩ | ⟨a, len, cap, elems, rest, n', rfl, hcs, rfl, _, hlc, hcm, hel, hat, _, _⟩
  · simp at hcs
    exact ⟨none, 0, 0, [], hcs, rfl, Nat.le_refl _, by decide, fun h => absurd h (by omega), by simp⟩
  · simp at hcs
    subst hcs
    simp only [Light, DataW.weights, Tryz.underlying26, List.mem_cons, List.mem_append, bytes_field] at hw
    have hsz : len * 96 ≤ reach0 := by
      have := hw _ (.inl rfl)
      simp only [List.length_map, hel] at this
      have h2 : len * 96 ≤ (len + rest.length) * 96 := Nat.mul_le_mul_right _ (by omega)
      omega
    have wl := light_all (l := elems.map (·.1)) (fun z hz => hw z (.inr (.inl hz)))
    rcases Nat.eq_zero_or_pos len with h0 | hp
    · exact ⟨some a, len, cap, [], rfl, h0, hlc, hsz, fun h => absurd h (by omega), by simp⟩
    have step : ∀ i, i < len → ∃ cs', W.cells? base (a.add (i * 6)) 6 = some cs' ∧ ∃ (s : ByteArray) (e : VC) (x : Val), cs' = .string s :: VC.list e ∧ s.size ≤ reach ∧ RW W e x ∧ NumsV x := by
      intro i hi
      have h1 := hat i hi
      rw [cells_field, List.getElem?_eq_getElem (by omega)] at h1
      obtain ⟨cs', hcs', ht'⟩ := Option.bind_eq_some_iff.1 h1
      have hwi := wl _ (List.mem_map_of_mem (List.getElem_mem (l := elems) (n := i) (by omega)))
      generalize elems[i] = q at *
      obtain ⟨ys, n'', rfl, rfl, hcl, hyl, hf⟩ := DataW.trod_struct Tryz.underlying69 ht'
      rw [cells_field] at hcl
      obtain ⟨v0, v1, v2, v3, v4, v5, rfl⟩ := six hcl
      obtain ⟨y0, y1, rfl⟩ := two hyl
      have f0 : DataW.trod enc Tryz.prog W base spare held n'' 9 [v0] = some y0 := by simpa [cells_string] using hf 0 _ rfl
      have f1 : DataW.trod enc Tryz.prog W base spare held n'' 28 [v1, v2, v3, v4, v5] = some y1 := by simpa [cells_value] using hf 1 _ rfl
      obtain ⟨s, e0, rfl, _⟩ := DataW.trod_string Tryz.underlying9 f0
      simp only [List.cons.injEq, and_true] at e0
      subst e0
      simp only [Light, DataW.weights, Tryz.underlying69, List.map, DataW.weightsEach, List.mem_append] at hwi
      obtain ⟨e, x, he, hx, hnx⟩ := ih n'' (by omega) _ _ f1 (fun z hz => hwi z (.inr (.inl hz)))
      refine ⟨_, hcs', s, e, x, by rw [he], Nat.le_trans (hwi s.size (.inl (by simp))) le_reach, hx, hnx⟩
    obtain ⟨cs0, h0, _⟩ := step 0 hp
    obtain ⟨b, off, ha, _⟩ := cells_at h0 (by omega)
    have ha' : a = ⟨b, off, none⟩ := by simpa [Addr.add] using ha
    subst ha'
    obtain ⟨f, hf⟩ := choose_fn (p := fun i (f : Fld) => (W.cell? ⟨b, off + i * 6, none⟩ = some (.string f.s) ∧ f.s.size ≤ reach ∧ ∃ e, VAt W b (off + i * 6 + 1) e ∧ RW W e f.v) ∧ NumsV f.v) (.mk ByteArray.empty Val.zero) len (fun i hi => by
      obtain ⟨cs', hcs', s, e, x, rfl, hs, hx, hnx⟩ := step i hi
      rw [addr_add] at hcs'
      obtain ⟨b', off', ha', hc⟩ := cells_at hcs' (by omega)
      injection ha' with e1 e2
      subst e1 e2
      exact ⟨.mk s x, ⟨hc 0 (by omega), hs, e, ⟨hc 1 (by omega), hc 2 (by omega), hc 3 (by omega), hc 4 (by omega), hc 5 (by omega)⟩, hx⟩, hnx⟩)
    refine ⟨_, len, cap, (List.range len).map f, rfl, by simp, hlc, hsz, fun _ => ⟨b, off, rfl, fun i y hi => ?_⟩, fun y hy => (by obtain ⟨i, hi, rfl⟩ := List.mem_map.1 hy; exact (hf i (List.mem_range.1 hi)).2)⟩
    have hlt : i < len := by have := (List.getElem?_eq_some_iff.1 hi).1; simpa using this
    rw [List.getElem?_map, List.getElem?_range hlt] at hi
    simp only [Option.map_some, Option.some.injEq] at hi
    subst hi
    exact (hf i hlt).1

theorem nread_value : ∀ (fuel : Nat) (cs : List Value) (y : DataW H × List MemPlace), DataW.trod enc Tryz.prog W base spare held fuel 28 cs = some y → Light 28 y.1 → ∃ c x, cs = c.list ∧ RW W c x ∧ NumsV x := by
  intro fuel
  induction fuel using Nat.strongRecOn with
  | _ fuel ih =>
  intro cs y h hw
  obtain ⟨ys, n, rfl, rfl, hcl, hyl, hf⟩ := DataW.trod_struct Tryz.underlying28 h
  rw [cells_value] at hcl
  obtain ⟨v0, v1, v2, v3, v4, rfl⟩ := five hcl
  obtain ⟨y0, y1, y2, y3, y4, rfl⟩ := five hyl
  have f0 : DataW.trod enc Tryz.prog W base spare held n 3 [v0] = some y0 := by simpa [cells_int] using hf 0 _ rfl
  have f1 : DataW.trod enc Tryz.prog W base spare held n 3 [v1] = some y1 := by simpa [cells_int] using hf 1 _ rfl
  have f2 : DataW.trod enc Tryz.prog W base spare held n 9 [v2] = some y2 := by simpa [cells_string] using hf 2 _ rfl
  have f3 : DataW.trod enc Tryz.prog W base spare held n 25 [v3] = some y3 := by simpa [cells_list] using hf 3 _ rfl
  have f4 : DataW.trod enc Tryz.prog W base spare held n 26 [v4] = some y4 := by simpa [cells_doc] using hf 4 _ rfl
  obtain ⟨k, e0, rfl, _⟩ := DataW.trod_int Tryz.underlying3 f0
  obtain ⟨m, e1, rfl, hm⟩ := DataW.trod_int Tryz.underlying3 f1
  obtain ⟨t, e2, rfl, _⟩ := DataW.trod_string Tryz.underlying9 f2
  simp only [List.cons.injEq, and_true] at e0 e1 e2
  subst e0 e1 e2
  have hw' : Light 9 (DataW.lit (H := H) (.string t.data.toList)) ∧ Light 25 y3.1 ∧ Light 26 y4.1 := by
    simp only [Light, DataW.weights, Tryz.underlying28, List.map, DataW.weightsEach, List.mem_append] at hw
    refine ⟨fun z hz => hw z ?_, fun z hz => hw z ?_, fun z hz => hw z ?_⟩
    · simp only [DataW.weights] at hz
      exact .inr (.inr (.inl hz))
    · exact .inr (.inr (.inr (.inl hz)))
    · exact .inr (.inr (.inr (.inr (.inl hz))))
  obtain ⟨w2, w3, w4⟩ := hw'
  have htz : t.size ≤ reach := Nat.le_trans (w2 t.size (by simp [DataW.weights])) le_reach
  obtain ⟨LA, ln, lc, l, rfl, hl1, hl2, hl3, hl4, hl5⟩ := nread_list n (fun n' hn => ih n' (by omega)) f3 w3
  obtain ⟨DA, dn, dc, d, rfl, hd1, hd2, hd3, hd4, hd5⟩ := nread_doc n (fun n' hn => ih n' (by omega)) f4 w4
  refine ⟨⟨k, m, t, LA, ln, lc, DA, dn, dc⟩, .mk k m t l d, rfl, RVs.shut ⟨rfl, rfl, rfl, htz, hl1, hl2, hl3, fun hp => ?_, hd1, hd2, Nat.le_trans hd3 le_reach, fun hp => ?_⟩, (NumsV_iff _).2 ⟨in64_wf hm, hl5, hd5⟩⟩
  · obtain ⟨b, off, e, h⟩ := hl4 hp
    exact ⟨b, off, e, Ft.top, h⟩
  · obtain ⟨b, off, e, h⟩ := hd4 hp
    exact ⟨b, off, e, Ft.top, h⟩


theorem open_value_n {r : Reach} {b0 : Nat} {v : Value} {d : DataW H} {p : List MemPlace} (hv : Value.okWide Tryz.prog W r b0 28 v) (h : DataW.Trod enc Tryz.prog W base spare held 28 v d p) (hw : Light 28 d) : ∃ (c : VC) (x : Val), v = c.val ∧ RW W c x ∧ NumsV x := by
  obtain ⟨cs, rfl, hsz⟩ := okWide_struct Tryz.underlying28 hv
  obtain ⟨fuel, hf⟩ := h
  obtain ⟨c, x, hc, hx, hn⟩ := nread_value fuel _ _ hf hw
  refine ⟨c, x, ?_, hx, hn⟩
  obtain ⟨l⟩ := cs
  simp only [Value.cells] at hc
  rw [show l = c.list from hc]
  rfl
end
end Go.Proofs.YtblepmmibhphhaaGreatDoor

/- The law ShardkeyOrder returns true for every input, and each argument reads behind the call as it read before; the tables of unicode/utf8 that it reads are tied to the program's text. Conditions: none beyond the card. The frame is printed by gen_card.py. -/
namespace Go.Proofs.YtblepmmibhphhaaGreatDoor.shardkeyOrder
open Go Go.Shelf Go.ChangeShapes Go.WideShapes Go.ChangeAt Go.RowKit Go.Lib
set_option linter.unusedVariables false

theorem own : ownKnob Tryz.prog.godebug = none := by kernel_rfl
theorem laidOut : laidOutB Tryz.prog = true := by kernel_rfl
theorem accept_eq : Rows.laid_unicode_utf8_acceptRanges = Lib.acceptData := by kernel_rfl
theorem first_eq : Rows.laid_unicode_utf8_first = Lib.firstData := Go.Pinned.utf8First_eq
noncomputable def laidWorld (os : Os) : World :=
  let w0 := World.holding Tryz.prog os ⟨#[], #[], []⟩
  let put (h : Array Obj) (g : Nat) (cs : Array Value) : Array Obj := h.modify g fun
    | .cells _ t frozen => .cells cs t frozen
    | o => o
  let h1 := put w0.heap 0 (Lib.firstTab.map fun z => Value.int .u8 z).toArray
  let h2 := put h1 1 ((List.range 16).flatMap fun i => [Value.int .u8 (Lib.accLo i), Value.int .u8 (Lib.accHi i)]).toArray
  { w0 with heap := h2 }
theorem laid_met (os : Os) (args : Array Value) : laidMet Tryz.prog Rows.shardkeyOrderRow.laid ((laidWorld os).forCall (fun _ _ => 0) ⟨#[], args, []⟩).memory :=
  (LaidIn.of_run (l := [("unicode/utf8.acceptRanges", Rows.laid_unicode_utf8_acceptRanges), ("unicode/utf8.first", Rows.laid_unicode_utf8_first)]) [1, 0] 8 (by kernel_rfl) (by kernel_rfl) (by kernel_rfl) (by kernel_rfl)).met

theorem witness_row (os : Os) {H : Type} (enc : TypeId × Value → H) :
    (OpenSpec.ofChange Rows.shardkeyOrderSpec).preRow enc Tryz.prog Tryz.f4 Rows.shardkeyOrderRow.domain false Rows.shardkeyOrderRow.laid ((laidWorld os).forCall (fun _ _ => 0) ⟨#[], #[.agg #[.slice none 0 0, .bool false], .agg #[.int .i64 0, .int .i64 0, .string ⟨#[]⟩, .slice none 0 0, .slice none 0 0], .agg #[.int .i64 0, .int .i64 0, .string ⟨#[]⟩, .slice none 0 0, .slice none 0 0]], []⟩).memory #[.agg #[.slice none 0 0, .bool false], .agg #[.int .i64 0, .int .i64 0, .string ⟨#[]⟩, .slice none 0 0, .slice none 0 0], .agg #[.int .i64 0, .int .i64 0, .string ⟨#[]⟩, .slice none 0 0, .slice none 0 0]] := by
  have hw : (DataW.whole enc Tryz.prog ((laidWorld os).forCall (fun _ _ => 0) ⟨#[], #[.agg #[.slice none 0 0, .bool false], .agg #[.int .i64 0, .int .i64 0, .string ⟨#[]⟩, .slice none 0 0, .slice none 0 0], .agg #[.int .i64 0, .int .i64 0, .string ⟨#[]⟩, .slice none 0 0, .slice none 0 0]], []⟩).memory Tryz.f4.params.toList (OpenSpec.ofChange Rows.shardkeyOrderSpec).vars false (#[.agg #[.slice none 0 0, .bool false], .agg #[.int .i64 0, .int .i64 0, .string ⟨#[]⟩, .slice none 0 0, .slice none 0 0], .agg #[.int .i64 0, .int .i64 0, .string ⟨#[]⟩, .slice none 0 0, .slice none 0 0]] : Array Value).toList 8).map (fun x => (x.1, x.2.1)) =
      some ([.agg [.nil, .lit (.bool false)], .agg [.lit (.int .i64 0), .lit (.int .i64 0), .lit (.string []), .nil, .nil], .agg [.lit (.int .i64 0), .lit (.int .i64 0), .lit (.string []), .nil, .nil]], []) := by kernel_rfl
  obtain ⟨⟨x1, x2, x3⟩, hx, hx1⟩ := Option.map_eq_some_iff.1 hw
  simp only [Prod.mk.injEq] at hx1
  obtain ⟨rfl, rfl⟩ := hx1
  exact OpenSpec.preRow_of_cond 8 hx (by kernel_rfl) (fun k hk => by cases hk) (by kernel_rfl) (laid_met os _)

set_option maxRecDepth 100000 in
set_option maxHeartbeats 2000000 in
theorem lifted (os : Os) (started : os.Started) (H : Type) (enc : TypeId × Value → H) (F0 : Stop.Interp) :
    ReturnsInHanded {} Tryz.checked os 4 .any ((OpenSpec.ofChange Rows.shardkeyOrderSpec).preRow enc Tryz.prog Tryz.f4 Rows.shardkeyOrderRow.domain false Rows.shardkeyOrderRow.laid) (((OpenSpec.ofChange Rows.shardkeyOrderSpec).at F0).post enc Tryz.prog Tryz.f4 false true false false) := by
  refine returnsInHanded_of_row (C := Tryz.checked) (s := OpenSpec.ofChange Rows.shardkeyOrderSpec) own started (by kernel_rfl) Tryz.func4
    (witness_row_atRef (enc := enc) (C := Tryz.checked) false (laidWorld os) #[.agg #[.slice none 0 0, .bool false], .agg #[.int .i64 0, .int .i64 0, .string ⟨#[]⟩, .slice none 0 0, .slice none 0 0], .agg #[.int .i64 0, .int .i64 0, .string ⟨#[]⟩, .slice none 0 0, .slice none 0 0]] rfl (by kernel_rfl) (by kernel_rfl) (by kernel_rfl) (witness_row os enc)) ?_
  intro W base args ds gs before hval0 hW hq1 hq2 hwt hL hq5 hq6
  have hval : ∀ (j : Nat) t v, Tryz.f4.params[j]? = some t → args[j]? = some v → Value.okWide Tryz.prog W .any base t v := hval0
  have hW' := hW
  obtain ⟨p, q, hA0, hV, rfl, hfz, hnd⟩ := hW
  have hA : DataW.TrodAll enc Tryz.prog W 0 (fun _ => true) true Tryz.f4.params.toList args.toList ds p := hA0
  rw [Tryz.params4] at hA hval hwt
  obtain ⟨v0, vs0, d0, ds0, p0, q0, hargs, rfl, rfl, h0, r0⟩ := trodAll_cons hA
  obtain ⟨v1, vs1, d1, ds1, p1, q1, rfl, rfl, rfl, h1, r1⟩ := trodAll_cons r0
  obtain ⟨v2, vs2, d2, ds2, p2, q2, rfl, rfl, rfl, h2, r2⟩ := trodAll_cons r1
  obtain ⟨rfl, rfl, rfl⟩ := trodAll_nil r2
  obtain rfl : args = #[v0, v1, v2] := by cases args; simp_all
  obtain ⟨rfl, rfl⟩ := trodVars_none hV
  obtain ⟨hlt0, hwt0⟩ := light_each hwt
  obtain ⟨hlt1, hwt1⟩ := light_each hwt0
  obtain ⟨hlt2, hwt2⟩ := light_each hwt1
  have trd0 := h0
  have lt0 : ∀ x ∈ p0, x.block < W.heap.size := by obtain ⟨m, hm⟩ := trd0; exact DataW.trod_lt m _ _ _ hm
  obtain ⟨A0, n0, k0, ha0, ks0, rfl, o0⟩ := open_key (hval 0 24 v0 rfl rfl) h0 hlt0
  have trd1 := h1
  have lt1 : ∀ x ∈ p1, x.block < W.heap.size := by obtain ⟨m, hm⟩ := trd1; exact DataW.trod_lt m _ _ _ hm
  obtain ⟨c1, t1, rfl, o1, m1⟩ := open_value_n (hval 1 28 v1 rfl rfl) h1 hlt1
  have trd2 := h2
  have lt2 : ∀ x ∈ p2, x.block < W.heap.size := by obtain ⟨m, hm⟩ := trd2; exact DataW.trod_lt m _ _ _ hm
  obtain ⟨c2, t2, rfl, o2, m2⟩ := open_value_n (hval 2 28 v2 rfl rfl) h2 hlt2
  clear hA0 hval0
  have htab : Tabs W := by
    have r1 := Lib.laidMet.reads hL (.tail _ (.head _))
    have r2 := Lib.laidMet.reads hL (.head _)
    rw [first_eq] at r1
    rw [accept_eq] at r2
    exact utf8Tabs_of_readsT (U8Types.of196 laysValid) ⟨by kernel_rfl, by kernel_rfl, by kernel_rfl, by kernel_rfl, by kernel_rfl, by kernel_rfl, by kernel_rfl⟩ r1 r2
  refine (shardkeyOrder_walk ks0 ha0 A0 n0 k0 t1 c1 t2 c2 W htab o0 o1 m1 o2 m2).mono fun e W' ⟨he, bel⟩ => ?_
  subst he
  exact ⟨_, rfl, _, _, _, [], _, [], hW', trodAll_mk1 (shut_bool Tryz.underlying4 _), (trodAll_cons_mk (Below.trod laidOut (by kernel_rfl) (of_decide_eq_true (by kernel_rfl)) trd0 bel lt0) (trodAll_cons_mk (Below.trod laidOut (by kernel_rfl) (of_decide_eq_true (by kernel_rfl)) trd1 bel lt1) (trodAll_cons_mk (Below.trod laidOut (by kernel_rfl) (of_decide_eq_true (by kernel_rfl)) trd2 bel lt2) trodAll_mk0))), rfl, bel.frame _, fun h => by cases h⟩

theorem over : Rows.ShardkeyOrderSaid :=
  OpenClaim.holds_of_cond 4 Tryz.f4 rfl rfl rfl rfl rfl rfl rfl ⟨rfl, rfl, rfl, rfl, rfl⟩ rfl rfl rfl rfl rfl (by kernel_rfl) Tryz.func4 (by kernel_rfl)
    (of_decide_eq_true (by kernel_rfl)) (by unfold Func.isWrapper; first | (rw [if_pos (by decide +kernel)]; kernel_rfl) | (rw [if_neg (by decide +kernel)]; exact ⟨rfl, rfl⟩))
    (fun os started H enc _ F0 => by rw [OpenClaim.pre_eq_preRow]; exact lifted os started H enc F0)

theorem proved : Rows.ShardkeyOrderCardSaid :=
  Claim7.holds_tied_plain_at .later [] [.data, .pinned] true (true, "d760985c22148e55cd1a8abc7402baa4a725f89cf5395fb4c61866adb12a1757") false
    over (fun _ h => by cases h) (by kernel_rfl) (fun _ h => by cases h) shardkeyOrder_row_tie rfl ⟨rfl, rfl⟩ (by kernel_rfl) rfl
    (fun f fn hf hfn => by
      obtain rfl : f = 4 := Option.some.inj ((show Tryz.prog.funcNamed "docstore/docstorelaw48.ShardkeyOrder" = some 4 by kernel_rfl).symm.trans hf) |>.symm
      obtain rfl : fn = Tryz.f4 := (Option.some.inj (Tryz.func4.symm.trans hfn)).symm
      exact ⟨by kernel_rfl, fun j t ht => by
        rw [Tryz.params4] at ht
        have h3 : t = 24 ∨ t = 28 ∨ t = 28 := by
          rcases j with _ | j
          · exact .inl (by simpa using ht.symm)
          rcases j with _ | j
          · exact .inr (.inl (by simpa using ht.symm))
          rcases j with _ | j
          · exact .inr (.inr (by simpa using ht.symm))
          · simp at ht
        rcases h3 with rfl | rfl | rfl
        · exact (show Tryz.prog.wantsStandIn 24 = false by kernel_rfl)
        · exact (show Tryz.prog.wantsStandIn 28 = false by kernel_rfl)
        · exact (show Tryz.prog.wantsStandIn 28 = false by kernel_rfl)⟩)
    (by kernel_rfl)
#print axioms proved
end Go.Proofs.YtblepmmibhphhaaGreatDoor.shardkeyOrder

