/- The contract of the reference's Middle. -/
import Derived.Test.YtgcklgkhdokchaaDoorChMiddle
import Derived.Test.YtgcklgkhdokchaaDoorChLawA
import Derived.Test.YtgcklgkhdokchaaDoorKit6
namespace Go.Proofs.YtgcklgkhdokchaaDoor
open Go.RowKit

/-- the number of the first texts that lie below x -/
def cntB (x : ByteArray) : List ByteArray → Nat
  | [] => 0
  | a :: r => if Op.bytesLess a.toList x.toList then cntB x r + 1 else 0
def insM (l : List ByteArray) (x : ByteArray) : List ByteArray :=
  match l[cntB x l]? with
  | some y => if (y.toList == x.toList) then l else l.take (cntB x l) ++ [x] ++ l.drop (cntB x l)
  | none => l.take (cntB x l) ++ [x] ++ l.drop (cntB x l)
def insAll (xs : List ByteArray) : List ByteArray := xs.foldl insM []
theorem cntB_le (x : ByteArray) : ∀ l, cntB x l ≤ l.length
  | [] => Nat.le_refl _
  | a :: r => by
    rw [cntB]
    have := cntB_le x r
    split
    · simp; omega
    · simp
theorem cntB_at (x : ByteArray) : ∀ {l : List ByteArray} {j : Nat}, j ≤ cntB x l → cntB x l = j + cntB x (l.drop j)
  | l, 0, _ => by simp
  | [], j + 1, h => by simp [cntB] at h
  | a :: r, j + 1, h => by
    rw [cntB] at h ⊢
    split at h
    · rename_i hc
      rw [if_pos hc, List.drop_succ_cons, cntB_at x (l := r) (j := j) (by omega)]
      omega
    · omega
theorem insM_len (l : List ByteArray) (x : ByteArray) : (insM l x).length ≤ l.length + 1 := by
  unfold insM
  have := cntB_le x l
  split
  · split
    · omega
    · simp; omega
  · simp; omega

/-- a list of texts in a row of the call's own, or nil -/
structure OT (w : World) (lo : Nat) (v : Value) (n : Nat) (l : List ByteArray) (wr : World) : Prop where
  own : wr.ownsRow lo 9 1 v n (flat recT l)
  ln : l.length = n
  bel : Below w.heap.size w wr
theorem OT.step {w wr w1 : World} {lo n : Nat} {v : Value} {l : List ByteArray} (h : OT w lo v n l wr) (hb : Below wr.heap.size wr w1) : OT w lo v n l w1 := ⟨own_step h.own hb, h.ln, h.bel.step' hb⟩

set_option maxRecDepth 100000 in
set_option maxHeartbeats 600000 in
theorem rmiddle_any (xs : List ByteArray) (A : Option Addr) (n c : Nat) (w : World) (h : ST w A n c xs) (h200 : n ≤ 200) :
    Calls Tryd.prog 13 #[.slice A n c] w fun e w' => e = .returned (.string (midOf (bytesOf (insAll xs)))) ∧ Below w.heap.size w w' := by
  obtain ⟨j0, hj0, hy0, hy1, hy2⟩ := info_parts info_string
  have H := Lib.hid h
  have hn : Hid (n = xs.length) := h.sr.ln
  clear h
  go_enter Tryd.func13, Tryd.ntmps13
  go_wp2_with fail
  go_loopw [4, 3] (fun v4 v3 wr => ∃ (i m : Nat) (B : Option Addr) (d : Nat) (l : List ByteArray), i ≤ n ∧ m ≤ i ∧ v4 = .int .i64 i ∧ v3 = .slice B m d ∧ OT w w.heap.size (.slice B m d) m l wr ∧ insAll xs = (xs.drop i).foldl insM l) (fun v4 _ _ => n - (intOf v4).toNat)
  case atStart => exact ⟨0, 0, none, 0, [], Nat.zero_le _, Nat.le_refl _, rfl, rfl, ⟨own_nil _ _ _ _, rfl, Below.refl _ _⟩, rfl⟩
  case round =>
    obtain ⟨i, m, B, d, l, hi, hm, rfl, rfl, I, hins⟩ := hrel
    have J := Lib.hid I
    have HI := Lib.hid hins
    have hml : Hid (l.length = m) := I.ln
    clear hins I
    by_cases hlt : i < n
    · obtain ⟨b, off, x, hA, hb, hx, e0⟩ := H.out.sr.at1 hlt
      subst hA
      have HX := Lib.hid hx
      have g0 := (J.out.bel.cell (p := ⟨b, off + i, none⟩) hb).trans e0
      have hbw : b < wr.heap.size := by have := J.out.bel.size; omega
      have i0 : (0 : Int) ≤ (i : Int) := by omega
      have i1 : (i : Int) < (n : Int) := by omega
      clear hx e0
      go_wp2_with fail
      obtain ⟨wo, hwo⟩ : ∃ wo : World, wo = wr := ⟨_, rfl⟩
      rw [← hwo] at J g0 hbw ⊢
      clear hwo
      have JS := Lib.hid J.out.bel.size
      go_loopw [5] (fun v wr' => ∃ j : Nat, j ≤ m ∧ v = .int .i64 j ∧ j ≤ cntB x l ∧ Below wo.heap.size wo wr') (fun v _ => m - (intOf v).toNat)
      case atStart => exact ⟨0, Nat.zero_le _, rfl, Nat.zero_le _, Below.refl _ _⟩
      case round =>
        obtain ⟨j, hj, rfl, hcnt, hbel⟩ := hrel
        have K := Lib.hid hbel
        have HC := Lib.hid hcnt
        have hb6 : b < wr.heap.size := by have := hbel.size; omega
        have X0 : ∀ kk : BW wr, kk.val.cell? ⟨b, off + i, none⟩ = some (.string x) := fun kk => kk.cell ((hbel.cell (p := ⟨b, off + i, none⟩) hbw).trans g0)
        clear hcnt
        by_cases hjm : j < m
        · obtain ⟨g, cap, hv, hgb, hgl⟩ := J.out.own.form (by show 0 < m; omega)
          have hv : B = some ⟨g, 0, none⟩ := by injection hv
          subst hv
          obtain ⟨y, hy⟩ : ∃ y, l[j]? = some y := ⟨_, List.getElem?_eq_getElem (by rw [hml.out]; exact hjm)⟩
          have hc0 := (own_cell J.out.own (flat_get recT_length hy (j := 0) rfl)).1
          rw [Nat.mul_one, Nat.add_zero] at hc0
          have Y0 : ∀ kk : BW wr, kk.val.cell? ⟨g, j, none⟩ = some (.string y) := fun kk => kk.cell ((hbel.cell (p := ⟨g, j, none⟩) hgl).trans hc0)
          have HY := Lib.hid hy
          have jp0 : (0 : Int) ≤ (j : Int) := by omega
          have jp1 : (j : Int) < (m : Int) := by omega
          clear hc0 hy hbel
          go_upto_region 6 with fail
          cases hls : Op.bytesLess y.toList x.toList
          all_goals
            refine wp_region_bw (by kernel_rfl) (by kernel_rfl) ?_
            repeat (go_big_quiet_step (fail))
            refine wpQuiet_nil ?_
            rintro _ ⟨kw, rfl⟩
            have HKW := Lib.hid (K.out.step kw.below)
            have X1 : ∀ kk : BW kw.val, kk.val.cell? ⟨b, off + i, none⟩ = some (.string x) := fun kk => kk.cell (X0 kw)
            have Y1 : ∀ kk : BW kw.val, kk.val.cell? ⟨g, j, none⟩ = some (.string y) := fun kk => kk.cell (Y0 kw)
            generalize kw.val = w5 at *
            clear X0 Y0
          · go_upto_region 8 with fail
            cases heq : (y.toList == x.toList)
            rotate_left
            · have hin : Hid (insM l x = l) := by
                have hcj : cntB x l = j := by rw [cntB_at x HC.out, drop_of HY.out, cntB, if_neg (by rw [hls]; simp)]; rfl
                unfold Hid insM
                rw [hcj, HY.out]
                simp only
                rw [if_pos heq]
              refine wp_region_bw (by kernel_rfl) (by kernel_rfl) ?_
              repeat (go_big_quiet_step (fail))
              refine wpQuiet_nil ?_
              rintro _ ⟨kw, rfl⟩
              have HKX := Lib.hid (HKW.out.step kw.below)
              generalize kw.val = w6 at *
              clear X1 Y1
              go_wp2_with fail
              go_roundw
              case rel => exact ⟨i + 1, m, some ⟨g, 0, none⟩, d, l, by omega, by omega, by go_num, rfl, J.out.step HKX.out, by rw [HI.out, drop_of HX.out, List.foldl_cons, hin.out]⟩
              case measure => simp [intOf]; omega
            · have hin : Hid (insM l x = l.take j ++ [x] ++ l.drop j) := by
                have hcj : cntB x l = j := by rw [cntB_at x HC.out, drop_of HY.out, cntB, if_neg (by rw [hls]; simp)]; rfl
                unfold Hid insM
                rw [hcj, HY.out]
                simp only
                rw [if_neg (by rw [heq]; simp)]
              refine wp_region_bw (by kernel_rfl) (by kernel_rfl) ?_
              repeat (go_big_quiet_step (fail))
              refine wpQuiet_nil ?_
              rintro _ ⟨kw, rfl⟩
              have HKX := Lib.hid (HKW.out.step kw.below)
              generalize kw.val = w6 at *
              clear X1 Y1
              have J6 := Lib.hid (J.out.step HKX.out)
              have hdm : m ≤ d := by have := (SR.of_own recT_length J6.out.own hml.out); obtain ⟨_, c', hv, hsr⟩ := this; injection hv with _ _ hc; rw [hc]; exact hsr.lc
              have HR1 : Hid (Reads w6 w6.heap.size 1 (some ⟨g, 0, none⟩) j (flat recT (l.take j))) := by
                have := (Reads.of_own J6.out.own).take (k := j) (by omega)
                rw [flat_take recT_length] at this
                exact this
              have HR3 : Hid (Reads w6 w6.heap.size 1 (some ⟨g, j, none⟩) (m - j) (flat recT (l.drop j))) := by
                have hcut := (Reads.of_own J6.out.own).cut (k := j) (by omega) hdm
                rw [flat_drop recT_length, if_neg (by omega)] at hcut
                simpa [Hid, addr_add] using hcut
              have hjd : j ≤ d := by omega
              have hjdI : (j : Int) ≤ (d : Int) := by omega
              have hjmI : (j : Int) ≤ (m : Int) := by omega
              have hjm' : j ≤ m := by omega
              have H1a := Lib.hid (flat_one recT_one (l.take j))
              have H1b := Lib.hid (flat_one recT_one [x])
              have H1c := Lib.hid (flat_one recT_one (l.drop j))
              have hsz6 : w.heap.size ≤ w6.heap.size := by have := HKX.out.size; have := JS.out; omega
              have HS6 := Lib.hid hsz6
              have hcx : w6.cell? ⟨b, off + i, none⟩ = some (.string x) := (HKX.out.cell (p := ⟨b, off + i, none⟩) hbw).trans g0
              go_wp2_with (at_builtin; (refine wpList_append_any _ rfl _ _ 36 rfl w6.heap.size 9 j0 (.string ByteArray.empty) 1 16 Tryd.underlying36 hj0 hy0 hy1 hy2 rfl (by decide) (.slice none 0 0) 0 [] rfl (own_nil w6 w6.heap.size 9 1) w6.heap.size (some ⟨g, 0, none⟩) j d (flat recT (l.take j)) rfl HR1.out H1a.out (by unfold maxLen; omega) (by omega) (Nat.le_refl _) ?_))
              intro v7 w7 hown7 hg7 _
              have hbl7 : Below w6.heap.size w6 w7 := (Below.refl _ _).grown hg7 (Nat.le_refl _) (fun k hk => by simp [Value.ownBlock] at hk)
              obtain ⟨A7, c7, rfl, _⟩ := own_slice hown7
              have K7 := Lib.hid (HKX.out.step hbl7)
              have hcx7 : w7.cell? ⟨b, off + i, none⟩ = some (.string x) := (hbl7.cell (p := ⟨b, off + i, none⟩) (World.block_lt_of_cell? _ _ hcx)).trans hcx
              have HR37 : Hid (Reads w7 w6.heap.size 1 (some ⟨g, j, none⟩) (m - j) (flat recT (l.drop j))) := HR3.out.below hbl7
              have hsz7 : w.heap.size ≤ w7.heap.size := by have := hbl7.size; omega
              have HO7 : Hid ((w7.alloc (Obj.cells #[.string x] 9)).ownsRow w6.heap.size 9 1 (.slice A7 j c7) j (flat recT (l.take j))) := by
                have := own_step hown7 ((Below.refl w7.heap.size w7).alloc (Nat.le_refl _) (Obj.cells #[.string x] 9))
                simpa [Hid] using this
              have HRX : Hid (Reads (w7.alloc (Obj.cells #[.string x] 9)) (w7.heap.size + 1) 1 (some ⟨w7.heap.size, 0, none⟩) 1 (flat recT [x])) := ⟨rfl, fun _ => ⟨_, rfl, by show w7.heap.size < w7.heap.size + 1; omega, fun j' u hu => news_at w7 9 (flat recT [x]) j' u hu⟩⟩
              have HB7 := Lib.hid hbl7
              clear hown7 hg7 HR1 HR3 hcx hbl7
              (try simp only [Nat.zero_add])
              go_wp2_with (at_builtin; (refine wpList_append_any _ rfl _ _ 36 rfl w6.heap.size 9 j0 (.string ByteArray.empty) 1 16 Tryd.underlying36 hj0 hy0 hy1 hy2 rfl (by decide) (.slice A7 j c7) j (flat recT (l.take j)) rfl HO7.out (w7.heap.size + 1) (some ⟨w7.heap.size, 0, none⟩) 1 1 (flat recT [x]) rfl HRX.out H1b.out (by unfold maxLen; omega) (by omega) (by have := HB7.out.size; simp; omega) ?_))
              intro v8 w8 hown8 hg8 _
              rw [← flat_append] at hown8
              have hge7 := own_ge HO7.out
              have hbl8 : Below w6.heap.size w7 w8 := ((Below.refl w6.heap.size w7).alloc HB7.out.size _).grown hg8 (by have := HB7.out.size; simp; omega) (fun k hk => hge7 k hk)
              obtain ⟨A8, c8, rfl, _⟩ := own_slice hown8
              have HR38 : Hid (Reads w8 w6.heap.size 1 (some ⟨g, j, none⟩) (m - j) (flat recT (l.drop j))) := HR37.out.below hbl8
              have HB8 := Lib.hid (HB7.out.trans hbl8)
              have HO8 := Lib.hid hown8
              clear hown8 hg8 HO7 HRX HR37 hbl8 hge7 hcx7 hsz7
              go_wp2_with (at_builtin; (first | rw [hA2] | skip); (refine wpList_append_any _ rfl _ _ 36 rfl w6.heap.size 9 j0 (.string ByteArray.empty) 1 16 Tryd.underlying36 hj0 hy0 hy1 hy2 rfl (by decide) (.slice A8 (j + 1) c8) (j + 1) (flat recT (l.take j ++ [x])) rfl HO8.out w6.heap.size (some ⟨g, j, none⟩) (m - j) (d - j) (flat recT (l.drop j)) rfl HR38.out H1c.out (by unfold maxLen; omega) (by omega) (by have := HB8.out.size; omega) ?_))
              intro v9 w9 hown9 hg9 _
              rw [← flat_append] at hown9
              have hge8 := own_ge HO8.out
              have hbl9 : Below w6.heap.size w6 w9 := HB8.out.grown hg9 (by have := HB8.out.size; omega) (fun k hk => hge8 k hk)
              obtain ⟨A9, c9, rfl, _⟩ := own_slice hown9
              have hfin : Hid (OT w w.heap.size (.slice A9 (m + 1) c9) (m + 1) (insM l x) w9) := by
                have hl := hml.out
                rw [hin.out]
                refine ⟨?_, by simp; omega, (J.out.bel.step' HKX.out).trans (hbl9.mono hsz6)⟩
                have := own_mono hown9 hsz6
                rwa [show j + 1 + (m - j) = m + 1 by omega] at this
              have hnum : j + 1 + (m - j) = m + 1 := by omega
              rw [hnum]
              have HFO : Hid (insAll xs = (xs.drop (i + 1)).foldl insM (insM l x)) := by rw [Hid, HI.out, drop_of HX.out]; rfl
              clear hown9 hg9 HO8 HR38 hge8 hbl9 HB8 HB7 K7 J6
              go_wp2_with fail
              go_roundw
              case rel => exact ⟨i + 1, m + 1, A9, c9, insM l x, by omega, by omega, by go_num, rfl, hfin.out, HFO.out⟩
              case measure => simp [intOf]; omega
          · have hn2 : j + 1 ≤ cntB x l := by
              rw [cntB_at x HC.out, drop_of HY.out, cntB, if_pos hls]
              omega
            go_wp2_with fail
            go_roundw
            case rel => exact ⟨j + 1, by omega, by go_num, hn2, HKW.out⟩
            case measure => simp [intOf]; omega
        · obtain rfl : j = m := by omega
          have hin : Hid (insM l x = l.take j ++ [x] ++ l.drop j) := by
            have hcj : cntB x l = j := Nat.le_antisymm (by rw [← hml.out]; exact cntB_le x l) HC.out
            unfold Hid insM
            rw [hcj, List.getElem?_eq_none (Nat.le_of_eq hml.out)]
          clear hbel X0
          have hBd : (B = none ∧ j = 0 ∧ d = 0) ∨ ∃ g, B = some ⟨g, 0, none⟩ := by
            rcases J.out.own.2 with ⟨h1, h2⟩ | ⟨g, cap, cur, h1, _⟩
            · injection h1 with h1 _ h3
              exact .inl ⟨h1, h2, h3⟩
            · injection h1 with h1
              exact .inr ⟨g, h1⟩
          rcases hBd with ⟨rfl, rfl, rfl⟩ | ⟨g, rfl⟩
          · go_upto_region 6 with fail
            refine wp_region_bw (by kernel_rfl) (by kernel_rfl) ?_
            repeat (go_big_quiet_step (fail))
            refine wpQuiet_nil ?_
            rintro _ ⟨kw, rfl⟩
            have HKW := Lib.hid (K.out.step kw.below)
            generalize kw.val = w5 at *
            go_upto_region 8 with fail
            refine wp_region_bw (by kernel_rfl) (by kernel_rfl) ?_
            repeat (go_big_quiet_step (fail))
            refine wpQuiet_nil ?_
            rintro _ ⟨kw, rfl⟩
            have HKX := Lib.hid (HKW.out.step kw.below)
            generalize kw.val = w6 at *
            have J6 := Lib.hid (J.out.step HKX.out)
            have hdm : 0 ≤ 0 := Nat.le_refl _
            have HR1 : Hid (Reads w6 w6.heap.size 1 none 0 (flat recT (l.take 0))) := by
              have := (Reads.of_own J6.out.own).take (k := 0) (by omega)
              rw [flat_take recT_length] at this
              exact this
            have HR3 : Hid (Reads w6 w6.heap.size 1 none 0 (flat recT (l.drop 0))) := by
              have hl0 : l = [] := List.eq_nil_of_length_eq_zero hml.out
              rw [hl0]
              exact Reads.none_
            have H1a := Lib.hid (flat_one recT_one (l.take 0))
            have H1b := Lib.hid (flat_one recT_one [x])
            have H1c := Lib.hid (flat_one recT_one (l.drop 0))
            have hsz6 : w.heap.size ≤ w6.heap.size := by have := HKX.out.size; have := JS.out; omega
            have HS6 := Lib.hid hsz6
            have hcx : w6.cell? ⟨b, off + i, none⟩ = some (.string x) := (HKX.out.cell (p := ⟨b, off + i, none⟩) hbw).trans g0
            go_wp2_with (at_builtin; (refine wpList_append_any _ rfl _ _ 36 rfl w6.heap.size 9 j0 (.string ByteArray.empty) 1 16 Tryd.underlying36 hj0 hy0 hy1 hy2 rfl (by decide) (.slice none 0 0) 0 [] rfl (own_nil w6 w6.heap.size 9 1) w6.heap.size none 0 0 (flat recT (l.take 0)) rfl HR1.out H1a.out (by unfold maxLen; omega) (by omega) (Nat.le_refl _) ?_))
            intro v7 w7 hown7 hg7 _
            have hbl7 : Below w6.heap.size w6 w7 := (Below.refl _ _).grown hg7 (Nat.le_refl _) (fun k hk => by simp [Value.ownBlock] at hk)
            obtain ⟨A7, c7, rfl, _⟩ := own_slice hown7
            have K7 := Lib.hid (HKX.out.step hbl7)
            have hcx7 : w7.cell? ⟨b, off + i, none⟩ = some (.string x) := (hbl7.cell (p := ⟨b, off + i, none⟩) (World.block_lt_of_cell? _ _ hcx)).trans hcx
            have HR37 : Hid (Reads w7 w6.heap.size 1 none 0 (flat recT (l.drop 0))) := HR3.out.below hbl7
            have hsz7 : w.heap.size ≤ w7.heap.size := by have := hbl7.size; omega
            have HO7 : Hid ((w7.alloc (Obj.cells #[.string x] 9)).ownsRow w6.heap.size 9 1 (.slice A7 0 c7) 0 (flat recT (l.take 0))) := by
              have := own_step hown7 ((Below.refl w7.heap.size w7).alloc (Nat.le_refl _) (Obj.cells #[.string x] 9))
              simpa [Hid] using this
            have HRX : Hid (Reads (w7.alloc (Obj.cells #[.string x] 9)) (w7.heap.size + 1) 1 (some ⟨w7.heap.size, 0, none⟩) 1 (flat recT [x])) := ⟨rfl, fun _ => ⟨_, rfl, by show w7.heap.size < w7.heap.size + 1; omega, fun j' u hu => news_at w7 9 (flat recT [x]) j' u hu⟩⟩
            have HB7 := Lib.hid hbl7
            clear hown7 hg7 HR1 HR3 hcx hbl7
            (try simp only [Nat.zero_add])
            go_wp2_with (at_builtin; (refine wpList_append_any _ rfl _ _ 36 rfl w6.heap.size 9 j0 (.string ByteArray.empty) 1 16 Tryd.underlying36 hj0 hy0 hy1 hy2 rfl (by decide) (.slice A7 0 c7) 0 (flat recT (l.take 0)) rfl HO7.out (w7.heap.size + 1) (some ⟨w7.heap.size, 0, none⟩) 1 1 (flat recT [x]) rfl HRX.out H1b.out (by unfold maxLen; omega) (by omega) (by have := HB7.out.size; simp; omega) ?_))
            intro v8 w8 hown8 hg8 _
            rw [← flat_append] at hown8
            have hge7 := own_ge HO7.out
            have hbl8 : Below w6.heap.size w7 w8 := ((Below.refl w6.heap.size w7).alloc HB7.out.size _).grown hg8 (by have := HB7.out.size; simp; omega) (fun k hk => hge7 k hk)
            obtain ⟨A8, c8, rfl, _⟩ := own_slice hown8
            have HR38 : Hid (Reads w8 w6.heap.size 1 none 0 (flat recT (l.drop 0))) := HR37.out.below hbl8
            have HB8 := Lib.hid (HB7.out.trans hbl8)
            have HO8 := Lib.hid hown8
            clear hown8 hg8 HO7 HRX HR37 hbl8 hge7 hcx7 hsz7
            go_wp2_with (at_builtin; (first | rw [hA2] | skip); (refine wpList_append_any _ rfl _ _ 36 rfl w6.heap.size 9 j0 (.string ByteArray.empty) 1 16 Tryd.underlying36 hj0 hy0 hy1 hy2 rfl (by decide) (.slice A8 (0 + 1) c8) (0 + 1) (flat recT (l.take 0 ++ [x])) rfl HO8.out w6.heap.size none 0 0 (flat recT (l.drop 0)) rfl HR38.out H1c.out (by unfold maxLen; omega) (by omega) (by have := HB8.out.size; omega) ?_))
            intro v9 w9 hown9 hg9 _
            rw [← flat_append] at hown9
            have hge8 := own_ge HO8.out
            have hbl9 : Below w6.heap.size w6 w9 := HB8.out.grown hg9 (by have := HB8.out.size; omega) (fun k hk => hge8 k hk)
            obtain ⟨A9, c9, rfl, _⟩ := own_slice hown9
            have hfin : Hid (OT w w.heap.size (.slice A9 1 c9) 1 (insM l x) w9) := by
              have hl0 : l = [] := List.eq_nil_of_length_eq_zero hml.out
              rw [hin.out]
              refine ⟨?_, by rw [hl0]; rfl, (J.out.bel.step' HKX.out).trans (hbl9.mono hsz6)⟩
              simpa using own_mono hown9 hsz6
            have HFO : Hid (insAll xs = (xs.drop (i + 1)).foldl insM (insM l x)) := by rw [Hid, HI.out, drop_of HX.out]; rfl
            clear hown9 hg9 HO8 HR38 hge8 hbl9 HB8 HB7 K7 J6
            go_wp2_with fail
            go_roundw
            case rel => exact ⟨i + 1, 1, A9, c9, insM l x, by omega, by omega, by go_num, rfl, hfin.out, HFO.out⟩
            case measure => simp [intOf]; omega
          · go_upto_region 6 with fail
            refine wp_region_bw (by kernel_rfl) (by kernel_rfl) ?_
            repeat (go_big_quiet_step (fail))
            refine wpQuiet_nil ?_
            rintro _ ⟨kw, rfl⟩
            have HKW := Lib.hid (K.out.step kw.below)
            generalize kw.val = w5 at *
            go_upto_region 8 with fail
            refine wp_region_bw (by kernel_rfl) (by kernel_rfl) ?_
            repeat (go_big_quiet_step (fail))
            refine wpQuiet_nil ?_
            rintro _ ⟨kw, rfl⟩
            have HKX := Lib.hid (HKW.out.step kw.below)
            generalize kw.val = w6 at *
            have J6 := Lib.hid (J.out.step HKX.out)
            have hdm : j ≤ d := by have := (SR.of_own recT_length J6.out.own hml.out); obtain ⟨_, c', hv, hsr⟩ := this; injection hv with _ _ hc; rw [hc]; exact hsr.lc
            have HR1 : Hid (Reads w6 w6.heap.size 1 (some ⟨g, 0, none⟩) j (flat recT (l.take j))) := by
              have := (Reads.of_own J6.out.own).take (k := j) (by omega)
              rw [flat_take recT_length] at this
              exact this
            obtain ⟨A2', hA2, HR3⟩ : ∃ A2' : Addr, (if d = j then some (⟨g, 0, none⟩ : Addr) else some ⟨g, j, none⟩) = some A2' ∧ Hid (Reads w6 w6.heap.size 1 (some A2') 0 (flat recT (l.drop j))) := by
              have hcut := (Reads.of_own J6.out.own).cut (k := j) (by omega) hdm
              rw [flat_drop recT_length, Nat.sub_self] at hcut
              by_cases hq : d = j
              · rw [if_pos hq] at hcut ⊢
                exact ⟨_, rfl, hcut⟩
              · rw [if_neg hq] at hcut ⊢
                refine ⟨_, rfl, ?_⟩
                simpa [Hid, addr_add] using hcut
            have hjd : j ≤ d := by omega
            have hjdI : (j : Int) ≤ (d : Int) := by omega
            have hjmI : (j : Int) ≤ (j : Int) := by omega
            have hjm' : j ≤ j := by omega
            have H1a := Lib.hid (flat_one recT_one (l.take j))
            have H1b := Lib.hid (flat_one recT_one [x])
            have H1c := Lib.hid (flat_one recT_one (l.drop j))
            have hsz6 : w.heap.size ≤ w6.heap.size := by have := HKX.out.size; have := JS.out; omega
            have HS6 := Lib.hid hsz6
            have hcx : w6.cell? ⟨b, off + i, none⟩ = some (.string x) := (HKX.out.cell (p := ⟨b, off + i, none⟩) hbw).trans g0
            go_wp2_with (at_builtin; (refine wpList_append_any _ rfl _ _ 36 rfl w6.heap.size 9 j0 (.string ByteArray.empty) 1 16 Tryd.underlying36 hj0 hy0 hy1 hy2 rfl (by decide) (.slice none 0 0) 0 [] rfl (own_nil w6 w6.heap.size 9 1) w6.heap.size (some ⟨g, 0, none⟩) j d (flat recT (l.take j)) rfl HR1.out H1a.out (by unfold maxLen; omega) (by omega) (Nat.le_refl _) ?_))
            intro v7 w7 hown7 hg7 _
            have hbl7 : Below w6.heap.size w6 w7 := (Below.refl _ _).grown hg7 (Nat.le_refl _) (fun k hk => by simp [Value.ownBlock] at hk)
            obtain ⟨A7, c7, rfl, _⟩ := own_slice hown7
            have K7 := Lib.hid (HKX.out.step hbl7)
            have hcx7 : w7.cell? ⟨b, off + i, none⟩ = some (.string x) := (hbl7.cell (p := ⟨b, off + i, none⟩) (World.block_lt_of_cell? _ _ hcx)).trans hcx
            have HR37 : Hid (Reads w7 w6.heap.size 1 (some A2') 0 (flat recT (l.drop j))) := HR3.out.below hbl7
            have hsz7 : w.heap.size ≤ w7.heap.size := by have := hbl7.size; omega
            have HO7 : Hid ((w7.alloc (Obj.cells #[.string x] 9)).ownsRow w6.heap.size 9 1 (.slice A7 j c7) j (flat recT (l.take j))) := by
              have := own_step hown7 ((Below.refl w7.heap.size w7).alloc (Nat.le_refl _) (Obj.cells #[.string x] 9))
              simpa [Hid] using this
            have HRX : Hid (Reads (w7.alloc (Obj.cells #[.string x] 9)) (w7.heap.size + 1) 1 (some ⟨w7.heap.size, 0, none⟩) 1 (flat recT [x])) := ⟨rfl, fun _ => ⟨_, rfl, by show w7.heap.size < w7.heap.size + 1; omega, fun j' u hu => news_at w7 9 (flat recT [x]) j' u hu⟩⟩
            have HB7 := Lib.hid hbl7
            clear hown7 hg7 HR1 HR3 hcx hbl7
            (try simp only [Nat.zero_add])
            go_wp2_with (at_builtin; (refine wpList_append_any _ rfl _ _ 36 rfl w6.heap.size 9 j0 (.string ByteArray.empty) 1 16 Tryd.underlying36 hj0 hy0 hy1 hy2 rfl (by decide) (.slice A7 j c7) j (flat recT (l.take j)) rfl HO7.out (w7.heap.size + 1) (some ⟨w7.heap.size, 0, none⟩) 1 1 (flat recT [x]) rfl HRX.out H1b.out (by unfold maxLen; omega) (by omega) (by have := HB7.out.size; simp; omega) ?_))
            intro v8 w8 hown8 hg8 _
            rw [← flat_append] at hown8
            have hge7 := own_ge HO7.out
            have hbl8 : Below w6.heap.size w7 w8 := ((Below.refl w6.heap.size w7).alloc HB7.out.size _).grown hg8 (by have := HB7.out.size; simp; omega) (fun k hk => hge7 k hk)
            obtain ⟨A8, c8, rfl, _⟩ := own_slice hown8
            have HR38 : Hid (Reads w8 w6.heap.size 1 (some A2') 0 (flat recT (l.drop j))) := HR37.out.below hbl8
            have HB8 := Lib.hid (HB7.out.trans hbl8)
            have HO8 := Lib.hid hown8
            clear hown8 hg8 HO7 HRX HR37 hbl8 hge7 hcx7 hsz7
            go_wp2_with (at_builtin; (first | rw [hA2] | skip); (refine wpList_append_any _ rfl _ _ 36 rfl w6.heap.size 9 j0 (.string ByteArray.empty) 1 16 Tryd.underlying36 hj0 hy0 hy1 hy2 rfl (by decide) (.slice A8 (j + 1) c8) (j + 1) (flat recT (l.take j ++ [x])) rfl HO8.out w6.heap.size (some A2') 0 (d - j) (flat recT (l.drop j)) rfl HR38.out H1c.out (by unfold maxLen; omega) (by omega) (by have := HB8.out.size; omega) ?_))
            intro v9 w9 hown9 hg9 _
            rw [← flat_append] at hown9
            have hge8 := own_ge HO8.out
            have hbl9 : Below w6.heap.size w6 w9 := HB8.out.grown hg9 (by have := HB8.out.size; omega) (fun k hk => hge8 k hk)
            obtain ⟨A9, c9, rfl, _⟩ := own_slice hown9
            have hfin : Hid (OT w w.heap.size (.slice A9 (j + 1) c9) (j + 1) (insM l x) w9) := by
              have hl := hml.out
              rw [hin.out]
              refine ⟨?_, by simp; omega, (J.out.bel.step' HKX.out).trans (hbl9.mono hsz6)⟩
              have := own_mono hown9 hsz6
              rwa [show j + 1 + 0 = j + 1 by omega] at this
            have hnum : j + 1 + 0 = j + 1 := by omega
            rw [hnum]
            have HFO : Hid (insAll xs = (xs.drop (i + 1)).foldl insM (insM l x)) := by rw [Hid, HI.out, drop_of HX.out]; rfl
            clear hown9 hg9 HO8 HR38 hge8 hbl9 HB8 HB7 K7 J6
            go_wp2_with fail
            go_roundw
            case rel => exact ⟨i + 1, j + 1, A9, c9, insM l x, by omega, by omega, by go_num, rfl, hfin.out, HFO.out⟩
            case measure => simp [intOf]; omega
    · obtain rfl : i = n := by omega
      have hfx : Hid (insAll xs = l) := by
        rw [Hid, HI.out, List.drop_of_length_le (by rw [← hn.out]; exact Nat.le_refl _)]
        rfl
      by_cases h2 : m < 2
      · have HF : Hid (midOf (bytesOf (insAll xs)) = ⟨#[]⟩) := by rw [Hid, hfx.out]; unfold midOf; rw [if_pos (by rw [List.length_map, hml.out]; exact h2)]
        go_wp2_with fail
        go_ret
        exact ⟨by rw [HF.out]; rfl, J.out.bel⟩
      · obtain ⟨g, cap, hv, hgb, hgl⟩ := J.out.own.form (by show 0 < m; omega)
        have hv : B = some ⟨g, 0, none⟩ := by injection hv
        subst hv
        obtain ⟨k, hkk⟩ : ∃ k, k = m / 2 := ⟨_, rfl⟩
        have hkm : k < m := by omega
        obtain ⟨y, hy⟩ : ∃ y, l[k]? = some y := ⟨_, List.getElem?_eq_getElem (by rw [hml.out]; exact hkm)⟩
        have hc0 := (own_cell J.out.own (flat_get recT_length hy (j := 0) rfl)).1
        rw [Nat.mul_one, Nat.add_zero] at hc0
        have HF : Hid (midOf (bytesOf (insAll xs)) = y) := by
          rw [Hid, hfx.out]
          unfold midOf
          rw [if_neg (by rw [List.length_map, hml.out]; exact h2), List.length_map, hml.out, ← hkk, List.getD_eq_getElem?_getD, List.getElem?_map, hy]
          rfl
        obtain ⟨d1, d2, d3, d4⟩ := half_facts m k hkk (by omega) (Nat.le_of_not_lt h2)
        have d5 : m / 2 = k := hkk.symm
        have d6 : (m : Int) / 2 = (k : Int) := by omega
        have HB := Lib.hid J.out.bel
        clear hkk hy hn hml hgb hgl J HI hfx hm
        go_wp2_with fail
        go_ret
        exact ⟨by rw [HF.out]; rfl, HB.out⟩

end Go.Proofs.YtgcklgkhdokchaaDoor
