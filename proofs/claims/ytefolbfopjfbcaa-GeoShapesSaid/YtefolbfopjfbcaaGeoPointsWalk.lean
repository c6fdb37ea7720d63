/- The walk of the law GeoPoints. -/
import Derived.Test.YtefolbfopjfbcaaGeoRefPoint
import Derived.Test.YtefolbfopjfbcaaGeoAwake
import Derived.Test.YtefolbfopjfbcaaValGet
import Derived.Test.YtefolbfopjfbcaaValOpen
namespace Go.Proofs.Ytefolbfopjfbcaa
open Go.RowKit

theorem gives_get {x : Val} {c : VC} {w : World} (h : RW w c x) (name : ByteArray) : GetGives 26 w c name ((getV x name).getD Val.zero).k ((getV x name).getD Val.zero).n := by
  intro W hW
  refine (get_any x c name W (h.lt.step' hW)).mono ?_
  rintro e w' ⟨c', rfl, hr, hb⟩
  exact ⟨c', _, hr.open.k, hr.open.n, rfl, hb⟩
theorem gives_rget {x : Val} {c : VC} {w : World} (h : RW w c x) (name : ByteArray) : GetGives 28 w c name ((getV x name).getD Val.zero).k ((getV x name).getD Val.zero).n := by
  intro W hW
  refine (rget_any x c name W (h.lt.step' hW)).mono ?_
  rintro e w' ⟨c', rfl, hr, hb⟩
  exact ⟨c', _, hr.open.k, hr.open.n, rfl, hb⟩

/-- what Point looks at -/
def ptArgs (x : Val) : Int × Int × Int × Int :=
  if x.k = 6 ∧ x.l.length = 2 then ((x.l.getD 0 Val.zero).k, (x.l.getD 0 Val.zero).n, (x.l.getD 1 Val.zero).k, (x.l.getD 1 Val.zero).n)
  else if x.k = 5 ∧ x.d.length = 2 then (((getV x sx).getD Val.zero).k, ((getV x sx).getD Val.zero).n, ((getV x sy).getD Val.zero).k, ((getV x sy).getD Val.zero).n)
  else (0, 0, 0, 0)

theorem psel_any {g : FuncId} {x : Val} {c : VC} {w : World} (h : RW w c x) (hg : ∀ name, GetGives g w c name ((getV x name).getD Val.zero).k ((getV x name).getD Val.zero).n) :
    PSel g w c (ptArgs x).1 (ptArgs x).2.1 (ptArgs x).2.2.1 (ptArgs x).2.2.2 := by
  have ho := h.open
  unfold ptArgs
  split
  · rename_i h6
    have hn : c.ln = 2 := by rw [ho.ln]; exact h6.2
    obtain ⟨b, off, hLA, _, hel⟩ := ho.la (by omega)
    obtain ⟨x0, hx0⟩ : ∃ y, x.l[0]? = some y := ⟨_, List.getElem?_eq_getElem (by omega)⟩
    obtain ⟨x1, hx1⟩ : ∃ y, x.l[1]? = some y := ⟨_, List.getElem?_eq_getElem (by omega)⟩
    obtain ⟨e0, h0, r0⟩ := hel 0 x0 hx0
    obtain ⟨e1, h1, r1⟩ := hel 1 x1 hx1
    refine .list e0 e1 b off (by rw [ho.k]; exact h6.1) hLA hn (by simpa using h0) (by simpa using h1) ?_
    simp only [List.getD_eq_getElem?_getD, hx0, hx1, Option.getD_some]
    exact ⟨r0.open.k.symm, r0.open.n.symm, r1.open.k.symm, r1.open.n.symm⟩
  · rename_i h6
    split
    · rename_i h5
      exact .doc (by rw [ho.k]; exact h5.1) (by rw [ho.dn]; exact h5.2) (hg sx) (hg sy)
    · rename_i h5
      refine .none_ (fun hk hl => h6 ⟨by rw [← ho.k]; exact hk, by rw [← ho.ln]; exact hl⟩) (fun hk hl => h5 ⟨by rw [← ho.k]; exact hk, by rw [← ho.dn]; exact hl⟩) ⟨rfl, rfl, rfl, rfl⟩

theorem ptRes_cases (k0 n0 k1 n1 : Int) : ∃ a b e : Int, ptRes k0 n0 k1 n1 = .tuple #[pt a b, .int .i64 e] := by
  unfold ptRes
  split
  · exact ⟨_, _, _, rfl⟩
  · exact ⟨_, _, _, rfl⟩

set_option maxHeartbeats 1000000 in
theorem geoPoints_walk (c : VC) (x : Val) (w : World) (h : RW w c x) :
    Calls Try.prog 3 #[c.val] w fun e w' => e = .returned (.bool true) ∧ Below w.heap.size w w' := by
  have H := Lib.hid h
  obtain ⟨a, b, er, hres⟩ := ptRes_cases (ptArgs x).1 (ptArgs x).2.1 (ptArgs x).2.2.1 (ptArgs x).2.2.2
  have HE := Lib.hid hres
  clear h hres
  go_enter Try.func3, Try.ntmps3
  go_wp2_with fail
  refine (point_any c _ _ _ _ _ (psel_any (H.out.alloc _) (gives_get (H.out.alloc _)))).mono ?_
  rintro e w1 ⟨rfl, hb⟩
  rw [HE.out]
  have B0 : Blk w1 w.heap.size 25 c.arr := (Blk.new_at rfl).step hb
  have B1 : Below w.heap.size w w1 := ((Below.refl _ _).alloc (Nat.le_refl _) _).trans (hb.mono (by simp))
  obtain ⟨a0, a1, a2, a3, a4⟩ := VAt.of_blk B0
  have l0 := B0.lt
  have J0 := Lib.hid B0
  have J1 := Lib.hid B1
  clear B0 B1 hb
  go_wp2_with fail
  have K0 := J0.out.alloc (Obj.cells #[.int .i64 a, .int .i64 b] 27)
  have K1 := Blk.new w1 27 #[.int .i64 a, .int .i64 b]
  have K2 := J1.out.alloc J1.out.size (Obj.cells #[.int .i64 a, .int .i64 b] 27)
  have KR := H.out.lt.step' K2
  refine (rpoint_any c _ _ _ _ _ (psel_any KR (gives_rget KR))).mono ?_
  rintro e w2 ⟨rfl, hb⟩
  rw [HE.out]
  have M1 := K1.step hb
  have M2 := K2.step' hb
  have e0 := M1.cell 0
  have e1 := M1.cell 1
  simp at e0 e1
  have l1 := M1.lt
  have L2 := Lib.hid M2
  clear K0 K1 K2 KR hb M1 M2 a0 a1 a2 a3 a4 J0 J1 l0
  go_wp2_with (go_at_call 12; refine (awake_any _).mono ?_; rintro e w3 ⟨rfl, hb3⟩)
  go_ret
  exact ⟨rfl, (L2.out.alloc L2.out.size _).step' hb3⟩

end Go.Proofs.Ytefolbfopjfbcaa
