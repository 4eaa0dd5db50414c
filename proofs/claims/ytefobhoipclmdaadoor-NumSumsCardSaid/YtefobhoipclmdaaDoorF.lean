/- Contracts of lockagelaw03.awake, NumAdds, NumTexts. -/
import Derived.Test.YtefobhoipclmdaaDoorE
set_option linter.unusedVariables false
set_option linter.unusedSimpArgs false
namespace Go.Proofs.YtefobhoipclmdaaDoor
open Go.RowKit
open Go.Proofs.YtefobhoipclmdaaDoorW.PrintWords

set_option maxHeartbeats 1000000 in
theorem awake_any (w : World) (hT : Tabs w) : Calls Tryd.prog 11 #[] w fun e w' => e = .returned (.bool true) ∧ Below w.heap.size w w' := by
  have P1 := Lib.hid (show parseS (byt ⟨#[49, 70]⟩) 16 = (31, 0) by decide)
  have P2 := Lib.hid (show parseS (byt ⟨#[49, 70]⟩) 10 = (0, 1) by decide)
  have P3 := Lib.hid (show parseS (byt ⟨#[57, 57, 57, 57, 57, 57, 57, 57, 57, 57, 57, 57, 57, 57, 57, 57, 57, 57, 57, 57]⟩) 10 = (0, 3) by decide +kernel)
  have P4 := Lib.hid (show addS 2 3 = (5, 0) by decide)
  have P5 := Lib.hid (show mulS 9007199254740992 2 = (0, 3) by decide)
  have P6 := Lib.hid (show textS 31 16 = [49, 102] by
    unfold textS
    rw [if_pos (by decide), if_neg (by decide)]
    show hexD 31 = _
    rw [hexD_big (by decide), hexD_small (by decide)]
    rfl)
  have P7 := Lib.hid (show textS (-1) 10 = [] by unfold textS; rw [if_neg (by decide)])
  have P8 := Lib.hid (show fitB 0 = true by decide)
  have P9 := Lib.hid (show fitB (-1) = false by decide)
  have HT := Lib.hid hT
  clear hT
  go_enter Tryd.func11, Tryd.ntmps11
  go_wp2_with (first | (go_at_call 14; refine (parse_any _ _ _ (by decide)).mono ?_; (first | rw [P1.out] | rw [P2.out] | rw [P3.out]); rintro e _ ⟨rfl, rfl⟩) | (go_at_call 7; refine (add_any _ _ _).mono ?_; rw [P4.out]; rintro e _ ⟨rfl, rfl⟩) | (go_at_call 9; refine (mul_any _ _ _).mono ?_; rw [P5.out]; rintro e _ ⟨rfl, rfl⟩) | (go_at_call 12; refine (fits_any _ _).mono ?_; (first | rw [P8.out] | rw [P9.out]); rintro e _ ⟨rfl, rfl⟩) | (go_at_call 16; refine (text_any _ _ _ (by first | exact HT.out | exact HT.out.below ‹Below _ _ _›) (by omega) (by omega)).mono ?_; (first | rw [P6.out] | rw [P7.out]); rintro e w1 ⟨rfl, hb1⟩))
  go_ret
  rename_i w0 hb0 _
  exact ⟨by simp, hb0.trans (hb1.mono hb0.size)⟩

set_option maxHeartbeats 4000000 in
theorem numAdds_any (a b : Int) (w : World) (hT : Tabs w) : Calls Tryd.prog 3 #[.int .i64 a, .int .i64 b] w fun e w' => e = .returned (.bool true) ∧ Below w.heap.size w w' := by
  have HT := Lib.hid hT
  clear hT
  go_enter Tryd.func3, Tryd.ntmps3
  go_wp2_with (first | (go_at_call 7; refine (add_any _ _ _).mono ?_; rintro e _ ⟨rfl, rfl⟩) | (go_at_call 8; refine (radd_any _ _ _).mono ?_; rintro e _ ⟨rfl, rfl⟩) | (go_at_call 9; refine (mul_any _ _ _).mono ?_; rintro e _ ⟨rfl, rfl⟩) | (go_at_call 10; refine (rmul_any _ _ _).mono ?_; rintro e _ ⟨rfl, rfl⟩) | (go_at_call 11; refine (awake_any _ HT.out).mono ?_; rintro e w' ⟨rfl, hb⟩) | (go_at_call 12; refine (fits_any _ _).mono ?_; rintro e _ ⟨rfl, rfl⟩) | (go_at_call 13; refine (rfits_any _ _).mono ?_; rintro e _ ⟨rfl, rfl⟩))
  go_ret
  exact ⟨by simp, hb⟩

set_option maxHeartbeats 4000000 in
theorem numTexts_any (s : ByteArray) (n k : Int) (w : World) (hT : Tabs w) (hsz : s.size ≤ 9223372036854775807) (hn : -9223372036854775808 ≤ n) (hn2 : n ≤ 9223372036854775807) :
    Calls Tryd.prog 4 #[.string s, .int .i64 n, .int .i64 k] w fun e w' => e = .returned (.bool true) ∧ Below w.heap.size w w' := by
  have HT := Lib.hid hT
  clear hT
  by_cases h100 : 100 < s.size
  · have h1 : (100 : Int) < (s.size : Int) := by omega
    go_enter Tryd.func4, Tryd.ntmps4
    go_wp2_with (go_at_call 11; refine (awake_any _ HT.out).mono ?_; rintro e w' ⟨rfl, hb⟩)
    go_ret
    exact ⟨rfl, hb⟩
  · have h1 : ¬ (100 : Int) < (s.size : Int) := by omega
    go_enter Tryd.func4, Tryd.ntmps4
    go_wp2_with fail
    have hal : Below w.heap.size w (w.alloc (.cells #[.int .i64 k, .int .i64 10, .int .i64 16] 3)) := (Below.refl _ _).alloc (Nat.le_refl _) _
    have hx := heap_alloc_new w (.cells #[.int .i64 k, .int .i64 10, .int .i64 16] 3)
    have HX := Lib.hid hx
    have HB := Lib.hid hal
    generalize (w.alloc (.cells #[.int .i64 k, .int .i64 10, .int .i64 16] 3)) = W at *
    clear hx hal
    go_loopg [20] 3 (fun gg s20 wr => ∃ i : Nat, i ≤ 3 ∧ 3 - i ≤ gg ∧ s20 = .int .i64 i ∧ Below W.heap.size W wr)
    case atStart => exact ⟨0, by omega, by omega, rfl, Below.refl _ _⟩
    case round =>
      obtain ⟨i, hi, hg, rfl, hB⟩ := hrel
      have HBW := Lib.hid (HB.out.trans (hB.mono HB.out.size))
      have HTr := Lib.hid (HT.out.below HBW.out)
      by_cases hlt : i < 3
      · have hi1 : (i : Int) < 3 := by omega
        obtain ⟨q, hq⟩ : ∃ q, (#[.int .i64 k, .int .i64 10, .int .i64 16] : Array Value)[i]? = some (.int .i64 q) := by
          match i, hlt with
          | 0, _ => exact ⟨_, rfl⟩
          | 1, _ => exact ⟨_, rfl⟩
          | 2, _ => exact ⟨_, rfl⟩
        have hc := box_at (keep hB HX.out) i _ hq
        clear hq
        go_wp2_with (first | (go_at_call 14; refine (parse_any _ _ _ hsz).mono ?_; rintro e _ ⟨rfl, rfl⟩) | (go_at_call 15; refine (rparse_any _ _ _ hsz).mono ?_; rintro e _ ⟨rfl, rfl⟩) | (go_at_call 16; refine (text_any _ _ _ HTr.out hn hn2).mono ?_; rintro e w1 ⟨rfl, hb1⟩) | (go_at_call 17; refine (rtext_any _ _ _).mono ?_; rintro e w2 ⟨rfl, hb2⟩))
        go_roundg (3 - (i + 1))
        case measure => omega
        case rel => exact ⟨i + 1, by omega, by omega, by simp, hB.trans ((hb1.trans (hb2.mono hb1.size)).mono hB.size)⟩
      · have hi1 : ¬ (i : Int) < 3 := by omega
        go_wp2_with (go_at_call 11; refine (awake_any _ HTr.out).mono ?_; rintro e w' ⟨rfl, hb⟩)
        go_ret
        exact ⟨rfl, HBW.out.trans (hb.mono HBW.out.size)⟩
end Go.Proofs.YtefobhoipclmdaaDoor
