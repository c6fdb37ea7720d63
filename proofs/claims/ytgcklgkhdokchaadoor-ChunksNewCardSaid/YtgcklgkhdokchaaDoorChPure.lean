/- Chunks: the plain law. What the functions of the program compute. -/
import Derived.Test.YtgcklgkhdokchaaDoorChRep
import Derived.Test.YtgcklgkhdokchaaDoorValName
namespace Go.Proofs.YtgcklgkhdokchaaDoor
open Go.RowKit

section
variable {α : Type}
/-- the index of the first element that fulfils p, -1 if there is none -/
def idxFrom (p : α → Bool) : List α → Nat → Int
  | [], _ => -1
  | c :: r, i => if p c then (i : Int) else idxFrom p r (i + 1)
def idxI (p : α → Bool) (l : List α) : Int := idxFrom p l 0
theorem idxFrom_range (p : α → Bool) : ∀ (l : List α) (k : Nat), (idxFrom p l k = -1 ∧ ∀ c ∈ l, p c = false) ∨ ∃ (i : Nat) (c : α), idxFrom p l k = (k + i : Nat) ∧ l[i]? = some c ∧ p c = true ∧ ∀ j, j < i → ∀ d, l[j]? = some d → p d = false := by
  intro l
  induction l with
  | nil => intro k; exact .inl ⟨rfl, fun _ h => by simp at h⟩
  | cons c r ih =>
    intro k
    cases hc : p c
    · rw [idxFrom, hc, if_neg (by simp)]
      rcases ih (k + 1) with ⟨h1, h2⟩ | ⟨i, d, h1, h2, h3, h4⟩
      · refine .inl ⟨h1, fun x hx => ?_⟩
        rcases List.mem_cons.1 hx with rfl | hx
        · exact hc
        · exact h2 x hx
      · refine .inr ⟨i + 1, d, by rw [h1]; omega, by simpa using h2, h3, fun j hj e he => ?_⟩
        cases j with
        | zero => simp at he; subst he; exact hc
        | succ j => exact h4 j (by omega) e (by simpa using he)
    · rw [idxFrom, hc, if_pos rfl]
      exact .inr ⟨0, c, rfl, rfl, hc, fun j hj => absurd hj (by omega)⟩
theorem idxI_range (p : α → Bool) (l : List α) : (idxI p l = -1 ∧ ∀ c ∈ l, p c = false) ∨ ∃ (i : Nat) (c : α), idxI p l = (i : Nat) ∧ l[i]? = some c ∧ p c = true ∧ ∀ j, j < i → ∀ d, l[j]? = some d → p d = false := by
  rcases idxFrom_range p l 0 with h | ⟨i, c, h1, h⟩
  · exact .inl h
  · exact .inr ⟨i, c, by rw [idxI, h1, Nat.zero_add], h⟩
/-- n elements from a place on are replaced by others -/
def repl (l : List α) (at_ n : Nat) (new : List α) : List α := l.take at_ ++ new ++ l.drop (at_ + n)
theorem set_repl {l : List α} {i : Nat} (h : i < l.length) (x : α) : l.set i x = repl l i 1 [x] := by
  rw [List.set_eq_take_append_cons_drop, if_pos h, repl]
  simp
theorem insert_repl {l : List α} {i : Nat} (h : i < l.length) (x y : α) : (l.set i x).take (i + 1) ++ [y] ++ (l.set i x).drop (i + 1) = repl l i 1 [x, y] := by
  rw [set_repl h, repl, repl]
  have h1 : (l.take i ++ [x]).length = i + 1 := by simp; omega
  rw [← h1, List.take_left, List.drop_left, h1]
  simp
theorem erase_repl {l : List α} {i : Nat} (h : i + 1 < l.length) (x : α) : (l.set i x).eraseIdx (i + 1) = repl l i 2 [x] := by
  rw [set_repl (by omega), List.eraseIdx_eq_take_drop_succ, repl, repl]
  have h1 : (l.take i ++ [x]).length = i + 1 := by simp; omega
  rw [← h1, List.take_left, List.drop_append, h1, List.drop_of_length_le (by omega), show i + 1 + 1 - (i + 1) = 1 by omega]
  simp
end

def begB (key : ByteArray) (c : Ch) : Bool := c.lo.toList == key.toList
def inB (key : ByteArray) (c : Ch) : Bool := !(Op.bytesLess key.toList c.lo.toList) && (c.hi.toList == [] || Op.bytesLess key.toList c.hi.toList)
def shB (s : Int) (c : Ch) : Bool := c.sh == s

/-- a path is valid -/
def pathB (p : List ByteArray) : Bool := decide (1 ≤ p.length) && decide (p.length ≤ 16) && p.all nameB
/-- two paths are the same -/
def sameP : List ByteArray → List ByteArray → Bool
  | [], [] => true
  | a :: r, b :: s => (a.toList == b.toList) && sameP r s
  | _, _ => false
def ordL : List Od → List Od → Int
  | _, [] => 0
  | done, o :: r => if pathB o.p = false then 10 else if done.any (fun e => sameP e.p o.p) then 12 else ordL (done ++ [o]) r
def ordE (ks : List Od) : Int := if 8 < ks.length then 2 else ordL [] ks
def keyE (ks : List Od) (ha : Bool) : Int := if ordE ks ≠ 0 then ordE ks else if ks.length = 0 ∨ (ha = true ∧ 1 < ks.length) then 11 else if ks.any (·.d) then 11 else 0
def badC (v : Int) (c : Ch) : Bool := decide (c.sh < 0) || decide (8 ≤ c.sh) || decide (c.ver < 1) || decide (v < c.ver)
/-- the chunks follow each other -/
def linkB : List Ch → Bool
  | [] => true
  | [_] => true
  | a :: b :: r => (b.lo.toList == a.hi.toList) && !(Op.bytesLess b.lo.toList a.lo.toList || b.lo.toList == a.lo.toList) && linkB (b :: r)
def endsB (l : List Ch) : Bool := match l with
  | [] => false
  | a :: r => (a.lo.toList == []) && (((a :: r).getLast?.map (·.hi.toList)) == some [])
def routE (R : Ro) : Int :=
  if nameB R.sp = false then 9 else if keyE R.ks R.ha ≠ 0 then keyE R.ks R.ha else if 64 < R.cs.length then 2 else if R.ep < 1 ∨ R.ver < 1 then 1
  else if R.cs.any (badC R.ver) then 1 else if endsB R.cs = false then 4 else if linkB R.cs = false then 4 else 0

/-- the next version -/
def nx (v : Int) : Int := wrap64 (v + 1)
def splitR (R : Ro) (key : ByteArray) : Ro × Int :=
  if key.toList = [] ∨ 0 ≤ idxI (begB key) R.cs ∨ idxI (inB key) R.cs < 0 then (Ro.zero, 1)
  else if 64 ≤ R.cs.length then (Ro.zero, 2)
  else match R.cs[(idxI (inB key) R.cs).toNat]? with
    | none => (Ro.zero, 1)
    | some c => if c.ju then (Ro.zero, 23) else (⟨R.sp, R.ks, R.ha, R.ep, nx R.ver, repl R.cs (idxI (inB key) R.cs).toNat 1 [⟨c.lo, key, c.sh, nx R.ver, c.ju⟩, ⟨key, c.hi, c.sh, nx R.ver, c.ju⟩]⟩, 0)
def joinR (R : Ro) (key : ByteArray) : Ro × Int :=
  if idxI (begB key) R.cs < 1 then (Ro.zero, 15)
  else match R.cs[(idxI (begB key) R.cs).toNat - 1]?, R.cs[(idxI (begB key) R.cs).toNat]? with
    | some a, some b => if a.sh ≠ b.sh ∨ a.ju = true ∨ b.ju = true then (Ro.zero, 23) else (⟨R.sp, R.ks, R.ha, R.ep, nx R.ver, repl R.cs ((idxI (begB key) R.cs).toNat - 1) 2 [⟨a.lo, b.hi, a.sh, nx R.ver, a.ju⟩]⟩, 0)
    | _, _ => (Ro.zero, 15)
/-- the first chunk of a shard gets a version -/
def touch (l : List Ch) (s v : Int) : List Ch :=
  if idxI (shB s) l < 0 then l else match l[(idxI (shB s) l).toNat]? with
    | none => l
    | some c => l.set (idxI (shB s) l).toNat ⟨c.lo, c.hi, c.sh, v, c.ju⟩
def giveR (R : Ro) (key : ByteArray) (z : Int) : Ro × Int :=
  if idxI (begB key) R.cs < 0 then (Ro.zero, 15)
  else if z < 0 ∨ 8 ≤ z then (Ro.zero, 1)
  else match R.cs[(idxI (begB key) R.cs).toNat]? with
    | none => (Ro.zero, 15)
    | some c => if c.sh = z ∨ c.ju = true then (Ro.zero, 23) else (⟨R.sp, R.ks, R.ha, R.ep, nx R.ver, touch (repl R.cs (idxI (begB key) R.cs).toNat 1 [⟨c.lo, c.hi, z, nx R.ver, c.ju⟩]) c.sh (nx R.ver)⟩, 0)
def markR (R : Ro) (key : ByteArray) (j : Bool) : Ro × Int :=
  if idxI (begB key) R.cs < 0 then (Ro.zero, 15)
  else match R.cs[(idxI (begB key) R.cs).toNat]? with
    | none => (Ro.zero, 15)
    | some c => if c.ju = j then (R, 0) else (⟨R.sp, R.ks, R.ha, R.ep, nx R.ver, repl R.cs (idxI (begB key) R.cs).toNat 1 [⟨c.lo, c.hi, c.sh, nx R.ver, j⟩]⟩, 0)
def newR (sp : ByteArray) (ks : List Od) (ha : Bool) (s : Int) : Ro × Int :=
  if routE ⟨sp, ks, ha, 1, 1, [⟨ByteArray.empty, ByteArray.empty, s, 1, false⟩]⟩ ≠ 0 then (Ro.zero, routE ⟨sp, ks, ha, 1, 1, [⟨ByteArray.empty, ByteArray.empty, s, 1, false⟩]⟩)
  else (⟨sp, ks, ha, 1, 1, [⟨ByteArray.empty, ByteArray.empty, s, 1, false⟩]⟩, 0)

/-- what a change hands back -/
def RouOk (r : Ro × Int) (w : World) (e : Ending) (w' : World) : Prop :=
  ∃ a : RA, e = .returned (.tuple #[rval a r.1, .int .i64 r.2]) ∧ RR w' a r.1 ∧ Below w.heap.size w w'

end Go.Proofs.YtgcklgkhdokchaaDoor
