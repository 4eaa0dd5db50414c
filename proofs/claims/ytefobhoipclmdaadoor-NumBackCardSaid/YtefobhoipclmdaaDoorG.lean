/- Contract of lockagelaw03.NumSums. -/
import Derived.Test.YtefobhoipclmdaaDoorF
set_option linter.unusedVariables false
set_option linter.unusedSimpArgs false
namespace Go.Proofs.YtefobhoipclmdaaDoor
open Go.RowKit
open Go.Proofs.YtefobhoipclmdaaDoorW.PrintWords

theorem and53 (n : Int) : bits .and .i64 n 9007199254740991 = n % 9007199254740992 := by
  have h127 : (BitVec.ofInt 64 9007199254740991).toNat = 2 ^ 53 - 1 := by decide
  have key : (BitVec.ofInt 64 n &&& BitVec.ofInt 64 9007199254740991).toNat = (n % ((2 ^ 64 : Nat) : Int)).toNat % 2 ^ 53 := by
    rw [BitVec.toNat_and, BitVec.toNat_ofInt, h127, Nat.and_two_pow_sub_one_eq_mod]
  show IntKind.i64.wrap ((BitVec.ofInt 64 n &&& BitVec.ofInt 64 9007199254740991).toNat : Nat) = n % 9007199254740992
  rw [key, IntKind.wrap_i64]
  omega

set_option maxHeartbeats 4000000 in
theorem numSums_any (a b : Int) (w : World) (hT : Tabs w) : Calls Tryd.prog 6 #[.int .i64 a, .int .i64 b] w fun e w' => e = .returned (.bool true) ∧ Below w.heap.size w w' := by
  have HT := Lib.hid hT
  clear hT
  have ha := and53 a
  have hb' := and53 b
  have x0 := Int.emod_nonneg a (show (9007199254740992 : Int) ≠ 0 by decide)
  have x1 := Int.emod_lt_of_pos a (show (0 : Int) < 9007199254740992 by decide)
  have y0 := Int.emod_nonneg b (show (9007199254740992 : Int) ≠ 0 by decide)
  have y1 := Int.emod_lt_of_pos b (show (0 : Int) < 9007199254740992 by decide)
  generalize a % 9007199254740992 = x at *
  generalize b % 9007199254740992 = y at *
  have HX := Lib.hid (show Fit x ∧ Fit y from ⟨⟨x0, by omega⟩, y0, by omega⟩)
  have hm := mul_fit HX.out.1 HX.out.2
  have hw : IntKind.i64.wrap (x + y) = x + y := by rw [IntKind.wrap_i64]; omega
  have hsub : x + y - x = y := by omega
  have hwy : IntKind.i64.wrap y = y := by rw [IntKind.wrap_i64]; omega
  have hlt : ¬ x + y < x := by omega
  by_cases hs : x + y ≤ 9007199254740992
  · have HA := Lib.hid (show addS x y = (x + y, 0) by unfold addS; rw [if_pos HX.out, if_pos ⟨by omega, hs⟩])
    by_cases hy : y = 0
    · subst hy
      have HM := Lib.hid (show mulS x 0 = (0, 0) by unfold mulS; rw [if_pos HX.out, Int.mul_zero]; rfl)
      have HA := Lib.hid (show addS x 0 = (x, 0) by unfold addS; rw [if_pos HX.out, Int.add_zero, if_pos HX.out.1])
      have hx2 : x ≤ 9007199254740992 := by omega
      have hwx : IntKind.i64.wrap x = x := by rw [IntKind.wrap_i64]; omega
      clear hm x0 x1 y0 y1 hs hw hsub hwy hlt
      go_enter Tryd.func6, Tryd.ntmps6
      go_wp2_with (first | (go_at_call 11; refine (awake_any _ HT.out).mono ?_; rintro e w1 ⟨rfl, hb⟩) | (go_at_call 7; refine (add_any _ _ _).mono ?_; rw [HA.out]; rintro e _ ⟨rfl, rfl⟩) | (go_at_call 9; refine (mul_any _ _ _).mono ?_; rw [HM.out]; rintro e _ ⟨rfl, rfl⟩))
      go_ret
      exact ⟨by first | (simp; done) | (simp; omega), ‹Below w.heap.size w _›⟩
    · have hy0 : 0 < y := by omega
      have hy1 : (y == (0 : Int)) = false := by simp [hy]
      by_cases hp : x * y ≤ 9007199254740992
      · have HM := Lib.hid (show mulS x y = (x * y, 0) by unfold mulS; rw [if_pos HX.out, if_pos ⟨hm.1, hp⟩])
        have hd : (x * y).tdiv y = x := by rw [Int.tdiv_eq_ediv_of_nonneg hm.1]; exact Int.mul_ediv_cancel _ (by omega)
        have hr : (x * y).tmod y = 0 := by rw [Int.tmod_eq_emod_of_nonneg hm.1]; exact Int.mul_emod_left _ _
        have hd2 : (x * y) / y = x := Int.mul_ediv_cancel _ (by omega)
        have hr2 : (x * y) % y = 0 := Int.mul_emod_left _ _
        have hwx : IntKind.i64.wrap x = x := by rw [IntKind.wrap_i64]; omega
        have hp0 := hm.1
        generalize x * y = p at *
        have hp1 : ¬ 9007199254740992 < p := by omega
        clear hm x0 x1 y0 y1
        go_enter Tryd.func6, Tryd.ntmps6
        go_wp2_with (first | (go_at_call 11; refine (awake_any _ HT.out).mono ?_; rintro e w1 ⟨rfl, hb⟩) | (go_at_call 7; refine (add_any _ _ _).mono ?_; rw [HA.out]; rintro e _ ⟨rfl, rfl⟩) | (go_at_call 9; refine (mul_any _ _ _).mono ?_; rw [HM.out]; rintro e _ ⟨rfl, rfl⟩))
        go_ret
        exact ⟨by first | (simp; done) | (simp; omega), ‹Below w.heap.size w _›⟩
      · have HM := Lib.hid (show mulS x y = (0, 3) by unfold mulS; rw [if_pos HX.out, if_neg fun h => hp h.2])
        clear hm x0 x1 y0 y1 hp
        go_enter Tryd.func6, Tryd.ntmps6
        go_wp2_with (first | (go_at_call 11; refine (awake_any _ HT.out).mono ?_; rintro e w1 ⟨rfl, hb⟩) | (go_at_call 7; refine (add_any _ _ _).mono ?_; rw [HA.out]; rintro e _ ⟨rfl, rfl⟩) | (go_at_call 9; refine (mul_any _ _ _).mono ?_; rw [HM.out]; rintro e _ ⟨rfl, rfl⟩))
        go_ret
        exact ⟨by first | (simp; done) | (simp; omega), ‹Below w.heap.size w _›⟩
  · have HA := Lib.hid (show addS x y = (0, 3) by unfold addS; rw [if_pos HX.out, if_neg fun h => hs h.2])
    by_cases hy : y = 0
    · subst hy
      have HM := Lib.hid (show mulS x 0 = (0, 0) by unfold mulS; rw [if_pos HX.out, Int.mul_zero]; rfl)
      have HA := Lib.hid (show addS x 0 = (x, 0) by unfold addS; rw [if_pos HX.out, Int.add_zero, if_pos HX.out.1])
      have hx2 : x ≤ 9007199254740992 := by omega
      have hwx : IntKind.i64.wrap x = x := by rw [IntKind.wrap_i64]; omega
      clear hm x0 x1 y0 y1 hs hw hsub hwy hlt
      go_enter Tryd.func6, Tryd.ntmps6
      go_wp2_with (first | (go_at_call 11; refine (awake_any _ HT.out).mono ?_; rintro e w1 ⟨rfl, hb⟩) | (go_at_call 7; refine (add_any _ _ _).mono ?_; rw [HA.out]; rintro e _ ⟨rfl, rfl⟩) | (go_at_call 9; refine (mul_any _ _ _).mono ?_; rw [HM.out]; rintro e _ ⟨rfl, rfl⟩))
      go_ret
      exact ⟨by first | (simp; done) | (simp; omega), ‹Below w.heap.size w _›⟩
    · have hy0 : 0 < y := by omega
      have hy1 : (y == (0 : Int)) = false := by simp [hy]
      by_cases hp : x * y ≤ 9007199254740992
      · have HM := Lib.hid (show mulS x y = (x * y, 0) by unfold mulS; rw [if_pos HX.out, if_pos ⟨hm.1, hp⟩])
        have hd : (x * y).tdiv y = x := by rw [Int.tdiv_eq_ediv_of_nonneg hm.1]; exact Int.mul_ediv_cancel _ (by omega)
        have hr : (x * y).tmod y = 0 := by rw [Int.tmod_eq_emod_of_nonneg hm.1]; exact Int.mul_emod_left _ _
        have hd2 : (x * y) / y = x := Int.mul_ediv_cancel _ (by omega)
        have hr2 : (x * y) % y = 0 := Int.mul_emod_left _ _
        have hwx : IntKind.i64.wrap x = x := by rw [IntKind.wrap_i64]; omega
        have hp0 := hm.1
        generalize x * y = p at *
        have hp1 : ¬ 9007199254740992 < p := by omega
        clear hm x0 x1 y0 y1
        go_enter Tryd.func6, Tryd.ntmps6
        go_wp2_with (first | (go_at_call 11; refine (awake_any _ HT.out).mono ?_; rintro e w1 ⟨rfl, hb⟩) | (go_at_call 7; refine (add_any _ _ _).mono ?_; rw [HA.out]; rintro e _ ⟨rfl, rfl⟩) | (go_at_call 9; refine (mul_any _ _ _).mono ?_; rw [HM.out]; rintro e _ ⟨rfl, rfl⟩))
        go_ret
        exact ⟨by first | (simp; done) | (simp; omega), ‹Below w.heap.size w _›⟩
      · have HM := Lib.hid (show mulS x y = (0, 3) by unfold mulS; rw [if_pos HX.out, if_neg fun h => hp h.2])
        clear hm x0 x1 y0 y1 hp
        go_enter Tryd.func6, Tryd.ntmps6
        go_wp2_with (first | (go_at_call 11; refine (awake_any _ HT.out).mono ?_; rintro e w1 ⟨rfl, hb⟩) | (go_at_call 7; refine (add_any _ _ _).mono ?_; rw [HA.out]; rintro e _ ⟨rfl, rfl⟩) | (go_at_call 9; refine (mul_any _ _ _).mono ?_; rw [HM.out]; rintro e _ ⟨rfl, rfl⟩))
        go_ret
        exact ⟨by first | (simp; done) | (simp; omega), ‹Below w.heap.size w _›⟩

end Go.Proofs.YtefobhoipclmdaaDoor
