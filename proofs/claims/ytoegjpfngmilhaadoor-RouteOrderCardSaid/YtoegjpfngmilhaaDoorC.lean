/- Contracts of num.Fits, Add, Mul, digit and of the reference's Fits, Add, Mul, value. -/
import Derived.Test.YtoegjpfngmilhaaDoorK
set_option linter.unusedVariables false
set_option linter.unusedSimpArgs false
namespace Go.Proofs.YtoegjpfngmilhaaDoor
open Go.RowKit
open Go.Proofs.YtoegjpfngmilhaaDoorW.PrintWords

theorem w64 {x : Int} (h0 : -9223372036854775808 ≤ x) (h1 : x ≤ 9223372036854775807) : wrap64 x = x := by unfold wrap64; omega
theorem ret_int {k : IntKind} {a b : Int} (h : a = b) : Ending.returned (.int k a) = .returned (.int k b) := by rw [h]
theorem ret_bool {a b : Bool} (h : a = b) : Ending.returned (.bool a) = .returned (.bool b) := by rw [h]

def Fit (n : Int) : Prop := 0 ≤ n ∧ n ≤ 9007199254740992
instance (n : Int) : Decidable (Fit n) := by unfold Fit; exact inferInstance
def fitB (n : Int) : Bool := decide (Fit n)
theorem fitB_yes {n : Int} (h : Fit n) : fitB n = true := by simp [fitB, h]
theorem fitB_no {n : Int} (h : ¬ Fit n) : fitB n = false := by simp [fitB, h]
def addS (a b : Int) : Int × Int := if Fit a ∧ Fit b then (if Fit (a + b) then (a + b, 0) else (0, 3)) else (0, 1)
def mulS (a b : Int) : Int × Int := if Fit a ∧ Fit b then (if Fit (a * b) then (a * b, 0) else (0, 3)) else (0, 1)

theorem fits_any (n : Int) (w : World) : Calls Tryd.prog 55 #[.int .i64 n] w fun e w' => e = .returned (.bool (fitB n)) ∧ w' = w := by
  by_cases h0 : 0 ≤ n
  · by_cases h1 : n ≤ 9007199254740992
    · have HF := Lib.hid (show fitB n = true from fitB_yes ⟨h0, h1⟩)
      go_enter Tryd.func55, Tryd.ntmps55
      go_wp2_with fail
      go_ret
      exact ⟨ret_bool HF.out.symm, rfl⟩
    · have HF := Lib.hid (show fitB n = false from fitB_no fun h => h1 h.2)
      go_enter Tryd.func55, Tryd.ntmps55
      go_wp2_with fail
      go_ret
      exact ⟨ret_bool HF.out.symm, rfl⟩
  · have HF := Lib.hid (show fitB n = false from fitB_no fun h => h0 h.1)
    go_enter Tryd.func55, Tryd.ntmps55
    go_wp2_with fail
    go_ret
    exact ⟨ret_bool HF.out.symm, rfl⟩
theorem rfits_any (n : Int) (w : World) : Calls Tryd.prog 66 #[.int .i64 n] w fun e w' => e = .returned (.bool (fitB n)) ∧ w' = w := by
  by_cases h0 : 0 ≤ n
  · by_cases h1 : n ≤ 9007199254740992
    · have HF := Lib.hid (show fitB n = true from fitB_yes ⟨h0, h1⟩)
      go_enter Tryd.func66, Tryd.ntmps66
      go_wp2_with fail
      go_ret
      exact ⟨ret_bool HF.out.symm, rfl⟩
    · have HF := Lib.hid (show fitB n = false from fitB_no fun h => h1 h.2)
      go_enter Tryd.func66, Tryd.ntmps66
      go_wp2_with fail
      go_ret
      exact ⟨ret_bool HF.out.symm, rfl⟩
  · have HF := Lib.hid (show fitB n = false from fitB_no fun h => h0 h.1)
    go_enter Tryd.func66, Tryd.ntmps66
    go_wp2_with fail
    go_ret
    exact ⟨ret_bool HF.out.symm, rfl⟩

theorem radd_any (a b : Int) (w : World) : Calls Tryd.prog 61 #[.int .i64 a, .int .i64 b] w fun e w' => e = .returned (.tuple #[.int .i64 (addS a b).1, .int .i64 (addS a b).2]) ∧ w' = w := by
  by_cases h0 : Fit a
  · have A0 := fitB_yes h0
    by_cases h1 : Fit b
    · have A1 := fitB_yes h1
      obtain ⟨a0, a1⟩ := h0
      obtain ⟨b0, b1⟩ := h1
      have hs : wrap64 (9007199254740992 - b) = 9007199254740992 - b := w64 (by omega) (by omega)
      have ha : wrap64 (a + b) = a + b := w64 (by omega) (by omega)
      have HS := Lib.hid hs
      have HA := Lib.hid ha
      have hS : IntKind.i64.wrap (9007199254740992 - b) = 9007199254740992 - b := by rw [IntKind.wrap_i64]; omega
      have hA : IntKind.i64.wrap (a + b) = a + b := by rw [IntKind.wrap_i64]; omega
      clear hs ha
      by_cases h2 : a + b ≤ 9007199254740992
      · have A2 : fitB (a + b) = true := fitB_yes ⟨by omega, h2⟩
        have h3 : ¬ 9007199254740992 - b < a := by omega
        have HF := Lib.hid (show addS a b = (a + b, 0) by unfold addS; rw [if_pos ⟨⟨a0, a1⟩, b0, b1⟩, if_pos ⟨by omega, h2⟩])
        clear a0 a1 b0 b1 h2
        rw [HF.out]
        go_enter Tryd.func61, Tryd.ntmps61
        go_wp2_with (go_at_call 66; refine (rfits_any _ _).mono ?_; rintro e _ ⟨rfl, rfl⟩)
        go_ret2
        exact ⟨rfl, rfl⟩
      · have A2 : fitB (a + b) = false := fitB_no fun h => h2 h.2
        have h3 : 9007199254740992 - b < a := by omega
        have HF := Lib.hid (show addS a b = (0, 3) by unfold addS; rw [if_pos ⟨⟨a0, a1⟩, b0, b1⟩, if_neg fun h => h2 h.2])
        clear a0 a1 b0 b1 h2
        rw [HF.out]
        go_enter Tryd.func61, Tryd.ntmps61
        go_wp2_with (go_at_call 66; refine (rfits_any _ _).mono ?_; rintro e _ ⟨rfl, rfl⟩)
        go_ret2
        exact ⟨rfl, rfl⟩
    · have A1 := fitB_no h1
      have HF := Lib.hid (show addS a b = (0, 1) by unfold addS; rw [if_neg fun h => h1 h.2])
      clear h0 h1
      rw [HF.out]
      go_enter Tryd.func61, Tryd.ntmps61
      go_wp2_with (go_at_call 66; refine (rfits_any _ _).mono ?_; rintro e _ ⟨rfl, rfl⟩)
      go_ret2
      exact ⟨rfl, rfl⟩
  · have A0 := fitB_no h0
    have HF := Lib.hid (show addS a b = (0, 1) by unfold addS; rw [if_neg fun h => h0 h.1])
    clear h0
    rw [HF.out]
    go_enter Tryd.func61, Tryd.ntmps61
    go_wp2_with (go_at_call 66; refine (rfits_any _ _).mono ?_; rintro e _ ⟨rfl, rfl⟩)
    go_ret2
    exact ⟨rfl, rfl⟩

theorem quo_lt {a b : Int} (ha : 0 < a) : (9007199254740992 / a < b) ↔ 9007199254740992 < a * b := by
  have := Int.le_ediv_iff_mul_le (a := b) (b := 9007199254740992) ha
  rw [Int.mul_comm] at this
  omega
theorem mul_fit {a b : Int} (ha : Fit a) (hb : Fit b) : 0 ≤ a * b ∧ a * b ≤ 81129638414606681695789005144064 := by
  have h1 := Int.mul_nonneg ha.1 hb.1
  have h2 := Int.mul_le_mul ha.2 hb.2 hb.1 (by omega)
  omega

theorem rmul_any (a b : Int) (w : World) : Calls Tryd.prog 60 #[.int .i64 a, .int .i64 b] w fun e w' => e = .returned (.tuple #[.int .i64 (mulS a b).1, .int .i64 (mulS a b).2]) ∧ w' = w := by
  by_cases h0 : Fit a
  · have A0 := fitB_yes h0
    by_cases h1 : Fit b
    · have A1 := fitB_yes h1
      have hm := mul_fit h0 h1
      have hq := quo_lt (a := b) (b := a)
      have H0 := Lib.hid h0
      have H1 := Lib.hid h1
      obtain ⟨a0, a1⟩ := h0
      obtain ⟨b0, b1⟩ := h1
      by_cases hz : b = 0
      · have HF := Lib.hid (show mulS a b = (0, 0) by subst hz; unfold mulS; rw [if_pos ⟨H0.out, H1.out⟩]; simp [Fit])
        have hz1 : (b : Int) ≤ 0 := by omega
        have hzz : a * b = 0 := by rw [hz]; simp
        clear a0 a1 b0 b1 hm hq
        subst hz
        rw [HF.out]
        go_enter Tryd.func60, Tryd.ntmps60
        go_wp2_with (go_at_call 66; refine (rfits_any _ _).mono ?_; rintro e _ ⟨rfl, rfl⟩)
        go_ret2
        exact ⟨rfl, rfl⟩
      · have hp : 0 < b := by omega
        have hq2 := hq hp
        by_cases h2 : a * b ≤ 9007199254740992
        · have HF := Lib.hid (show mulS a b = (a * b, 0) by unfold mulS; rw [if_pos ⟨H0.out, H1.out⟩, if_pos ⟨hm.1, h2⟩])
          have h3 : ¬ 9007199254740992 / b < a := fun h => by have := hq2.1 h; rw [Int.mul_comm] at this; omega
          have hA : IntKind.i64.wrap (a * b) = a * b := by rw [IntKind.wrap_i64]; omega
          have hd : (9007199254740992 : Int).tdiv b = 9007199254740992 / b := Int.tdiv_eq_ediv_of_nonneg (by omega)
          have hd0 : 0 ≤ 9007199254740992 / b := Int.ediv_nonneg (by omega) (by omega)
          have hd1 : 9007199254740992 / b ≤ 9007199254740992 := Int.ediv_le_self _ (by omega)
          have hD : IntKind.i64.wrap (9007199254740992 / b) = 9007199254740992 / b := by rw [IntKind.wrap_i64]; omega
          generalize 9007199254740992 / b = q at *
          clear a0 a1 b0 b1 hm hq hq2 h2 hd0 hd1
          rw [HF.out]
          go_enter Tryd.func60, Tryd.ntmps60
          go_wp2_with (go_at_call 66; refine (rfits_any _ _).mono ?_; rintro e _ ⟨rfl, rfl⟩)
          go_ret2
          exact ⟨rfl, rfl⟩
        · have HF := Lib.hid (show mulS a b = (0, 3) by unfold mulS; rw [if_pos ⟨H0.out, H1.out⟩, if_neg fun h => h2 h.2])
          have h3 : 9007199254740992 / b < a := hq2.2 (by rw [Int.mul_comm]; omega)
          have hd : (9007199254740992 : Int).tdiv b = 9007199254740992 / b := Int.tdiv_eq_ediv_of_nonneg (by omega)
          have hd0 : 0 ≤ 9007199254740992 / b := Int.ediv_nonneg (by omega) (by omega)
          have hd1 : 9007199254740992 / b ≤ 9007199254740992 := Int.ediv_le_self _ (by omega)
          have hD : IntKind.i64.wrap (9007199254740992 / b) = 9007199254740992 / b := by rw [IntKind.wrap_i64]; omega
          generalize 9007199254740992 / b = q at *
          clear a0 a1 b0 b1 hm hq hq2 h2 hd0 hd1
          rw [HF.out]
          go_enter Tryd.func60, Tryd.ntmps60
          go_wp2_with (go_at_call 66; refine (rfits_any _ _).mono ?_; rintro e _ ⟨rfl, rfl⟩)
          go_ret2
          exact ⟨rfl, rfl⟩
    · have A1 := fitB_no h1
      have HF := Lib.hid (show mulS a b = (0, 1) by unfold mulS; rw [if_neg fun h => h1 h.2])
      clear h0 h1
      rw [HF.out]
      go_enter Tryd.func60, Tryd.ntmps60
      go_wp2_with (go_at_call 66; refine (rfits_any _ _).mono ?_; rintro e _ ⟨rfl, rfl⟩)
      go_ret2
      exact ⟨rfl, rfl⟩
  · have A0 := fitB_no h0
    have HF := Lib.hid (show mulS a b = (0, 1) by unfold mulS; rw [if_neg fun h => h0 h.1])
    clear h0
    rw [HF.out]
    go_enter Tryd.func60, Tryd.ntmps60
    go_wp2_with (go_at_call 66; refine (rfits_any _ _).mono ?_; rintro e _ ⟨rfl, rfl⟩)
    go_ret2
    exact ⟨rfl, rfl⟩


/-- a digit's value to the base k; -1: it is none -/
def digI (c : Nat) (k : Int) : Int :=
  if 48 ≤ c ∧ c ≤ 57 then (c : Int) - 48 else if 65 ≤ c ∧ c ≤ 70 then (if k = 16 then (c : Int) - 55 else -1) else if 97 ≤ c ∧ c ≤ 102 then (if k = 16 then (c : Int) - 87 else -1) else -1
theorem digI_cases (c : Nat) (k : Int) : digI c k = -1 ∨ (0 ≤ digI c k ∧ digI c k < 16) := by
  unfold digI
  repeat' split
  all_goals omega
theorem digI_lt {c : Nat} {k : Int} (hk : k = 10 ∨ k = 16) : digI c k < k := by
  unfold digI
  repeat' split
  all_goals omega

set_option maxHeartbeats 1000000 in
theorem digit_any (c : Nat) (k : Int) (w : World) (hc : c < 256) (hk : k = 10 ∨ k = 16) : Calls Tryd.prog 54 #[.int .u8 c, .int .i64 k] w fun e w' => e = .returned (.int .i64 (digI c k)) ∧ w' = w := by
  have HC := Lib.hid hc
  have hr : (c < 48) ∨ (48 ≤ c ∧ c ≤ 57) ∨ (57 < c ∧ c < 65) ∨ (65 ≤ c ∧ c ≤ 70) ∨ (70 < c ∧ c < 97) ∨ (97 ≤ c ∧ c ≤ 102) ∨ (102 < c) := by omega
  rcases hk with rfl | rfl
  · rcases hr with h | h | h | h | h | h | h
    · have f0 : ¬ (48 : Int) ≤ (c : Int) := by omega
      have f1 : ¬ (65 : Int) ≤ (c : Int) := by omega
      have f2 : ¬ (97 : Int) ≤ (c : Int) := by omega
      have g0 : (c : Int) ≤ 57 := by omega
      have g1 : (c : Int) ≤ 70 := by omega
      have g2 : (c : Int) ≤ 102 := by omega
      have HF := Lib.hid (show digI c 10 = -1 by unfold digI; (repeat' split) <;> omega)
      rw [HF.out]
      go_enter Tryd.func54, Tryd.ntmps54
      go_wp2_with fail
      go_ret
      exact ⟨ret_int (by omega), rfl⟩
    · have f0 : (48 : Int) ≤ (c : Int) := by omega
      have f1 : ¬ (65 : Int) ≤ (c : Int) := by omega
      have f2 : ¬ (97 : Int) ≤ (c : Int) := by omega
      have g0 : (c : Int) ≤ 57 := by omega
      have g1 : (c : Int) ≤ 70 := by omega
      have g2 : (c : Int) ≤ 102 := by omega
      have HF := Lib.hid (show digI c 10 = (c : Int) - 48 by unfold digI; (repeat' split) <;> omega)
      rw [HF.out]
      go_enter Tryd.func54, Tryd.ntmps54
      go_wp2_with fail
      go_ret
      exact ⟨ret_int (by omega), rfl⟩
    · have f0 : (48 : Int) ≤ (c : Int) := by omega
      have f1 : ¬ (65 : Int) ≤ (c : Int) := by omega
      have f2 : ¬ (97 : Int) ≤ (c : Int) := by omega
      have g0 : ¬ (c : Int) ≤ 57 := by omega
      have g1 : (c : Int) ≤ 70 := by omega
      have g2 : (c : Int) ≤ 102 := by omega
      have HF := Lib.hid (show digI c 10 = -1 by unfold digI; (repeat' split) <;> omega)
      rw [HF.out]
      go_enter Tryd.func54, Tryd.ntmps54
      go_wp2_with fail
      go_ret
      exact ⟨ret_int (by omega), rfl⟩
    · have f0 : (48 : Int) ≤ (c : Int) := by omega
      have f1 : (65 : Int) ≤ (c : Int) := by omega
      have f2 : ¬ (97 : Int) ≤ (c : Int) := by omega
      have g0 : ¬ (c : Int) ≤ 57 := by omega
      have g1 : (c : Int) ≤ 70 := by omega
      have g2 : (c : Int) ≤ 102 := by omega
      have HF := Lib.hid (show digI c 10 = -1 by unfold digI; (repeat' split) <;> omega)
      rw [HF.out]
      go_enter Tryd.func54, Tryd.ntmps54
      go_wp2_with fail
      go_ret
      exact ⟨ret_int (by omega), rfl⟩
    · have f0 : (48 : Int) ≤ (c : Int) := by omega
      have f1 : (65 : Int) ≤ (c : Int) := by omega
      have f2 : ¬ (97 : Int) ≤ (c : Int) := by omega
      have g0 : ¬ (c : Int) ≤ 57 := by omega
      have g1 : ¬ (c : Int) ≤ 70 := by omega
      have g2 : (c : Int) ≤ 102 := by omega
      have HF := Lib.hid (show digI c 10 = -1 by unfold digI; (repeat' split) <;> omega)
      rw [HF.out]
      go_enter Tryd.func54, Tryd.ntmps54
      go_wp2_with fail
      go_ret
      exact ⟨ret_int (by omega), rfl⟩
    · have f0 : (48 : Int) ≤ (c : Int) := by omega
      have f1 : (65 : Int) ≤ (c : Int) := by omega
      have f2 : (97 : Int) ≤ (c : Int) := by omega
      have g0 : ¬ (c : Int) ≤ 57 := by omega
      have g1 : ¬ (c : Int) ≤ 70 := by omega
      have g2 : (c : Int) ≤ 102 := by omega
      have HF := Lib.hid (show digI c 10 = -1 by unfold digI; (repeat' split) <;> omega)
      rw [HF.out]
      go_enter Tryd.func54, Tryd.ntmps54
      go_wp2_with fail
      go_ret
      exact ⟨ret_int (by omega), rfl⟩
    · have f0 : (48 : Int) ≤ (c : Int) := by omega
      have f1 : (65 : Int) ≤ (c : Int) := by omega
      have f2 : (97 : Int) ≤ (c : Int) := by omega
      have g0 : ¬ (c : Int) ≤ 57 := by omega
      have g1 : ¬ (c : Int) ≤ 70 := by omega
      have g2 : ¬ (c : Int) ≤ 102 := by omega
      have HF := Lib.hid (show digI c 10 = -1 by unfold digI; (repeat' split) <;> omega)
      rw [HF.out]
      go_enter Tryd.func54, Tryd.ntmps54
      go_wp2_with fail
      go_ret
      exact ⟨ret_int (by omega), rfl⟩
  · rcases hr with h | h | h | h | h | h | h
    · have f0 : ¬ (48 : Int) ≤ (c : Int) := by omega
      have f1 : ¬ (65 : Int) ≤ (c : Int) := by omega
      have f2 : ¬ (97 : Int) ≤ (c : Int) := by omega
      have g0 : (c : Int) ≤ 57 := by omega
      have g1 : (c : Int) ≤ 70 := by omega
      have g2 : (c : Int) ≤ 102 := by omega
      have HF := Lib.hid (show digI c 16 = -1 by unfold digI; (repeat' split) <;> omega)
      rw [HF.out]
      go_enter Tryd.func54, Tryd.ntmps54
      go_wp2_with fail
      go_ret
      exact ⟨ret_int (by omega), rfl⟩
    · have f0 : (48 : Int) ≤ (c : Int) := by omega
      have f1 : ¬ (65 : Int) ≤ (c : Int) := by omega
      have f2 : ¬ (97 : Int) ≤ (c : Int) := by omega
      have g0 : (c : Int) ≤ 57 := by omega
      have g1 : (c : Int) ≤ 70 := by omega
      have g2 : (c : Int) ≤ 102 := by omega
      have HF := Lib.hid (show digI c 16 = (c : Int) - 48 by unfold digI; (repeat' split) <;> omega)
      rw [HF.out]
      go_enter Tryd.func54, Tryd.ntmps54
      go_wp2_with fail
      go_ret
      exact ⟨ret_int (by omega), rfl⟩
    · have f0 : (48 : Int) ≤ (c : Int) := by omega
      have f1 : ¬ (65 : Int) ≤ (c : Int) := by omega
      have f2 : ¬ (97 : Int) ≤ (c : Int) := by omega
      have g0 : ¬ (c : Int) ≤ 57 := by omega
      have g1 : (c : Int) ≤ 70 := by omega
      have g2 : (c : Int) ≤ 102 := by omega
      have HF := Lib.hid (show digI c 16 = -1 by unfold digI; (repeat' split) <;> omega)
      rw [HF.out]
      go_enter Tryd.func54, Tryd.ntmps54
      go_wp2_with fail
      go_ret
      exact ⟨ret_int (by omega), rfl⟩
    · have f0 : (48 : Int) ≤ (c : Int) := by omega
      have f1 : (65 : Int) ≤ (c : Int) := by omega
      have f2 : ¬ (97 : Int) ≤ (c : Int) := by omega
      have g0 : ¬ (c : Int) ≤ 57 := by omega
      have g1 : (c : Int) ≤ 70 := by omega
      have g2 : (c : Int) ≤ 102 := by omega
      have HF := Lib.hid (show digI c 16 = (c : Int) - 55 by unfold digI; (repeat' split) <;> omega)
      rw [HF.out]
      go_enter Tryd.func54, Tryd.ntmps54
      go_wp2_with fail
      go_ret
      exact ⟨ret_int (by omega), rfl⟩
    · have f0 : (48 : Int) ≤ (c : Int) := by omega
      have f1 : (65 : Int) ≤ (c : Int) := by omega
      have f2 : ¬ (97 : Int) ≤ (c : Int) := by omega
      have g0 : ¬ (c : Int) ≤ 57 := by omega
      have g1 : ¬ (c : Int) ≤ 70 := by omega
      have g2 : (c : Int) ≤ 102 := by omega
      have HF := Lib.hid (show digI c 16 = -1 by unfold digI; (repeat' split) <;> omega)
      rw [HF.out]
      go_enter Tryd.func54, Tryd.ntmps54
      go_wp2_with fail
      go_ret
      exact ⟨ret_int (by omega), rfl⟩
    · have f0 : (48 : Int) ≤ (c : Int) := by omega
      have f1 : (65 : Int) ≤ (c : Int) := by omega
      have f2 : (97 : Int) ≤ (c : Int) := by omega
      have g0 : ¬ (c : Int) ≤ 57 := by omega
      have g1 : ¬ (c : Int) ≤ 70 := by omega
      have g2 : (c : Int) ≤ 102 := by omega
      have HF := Lib.hid (show digI c 16 = (c : Int) - 87 by unfold digI; (repeat' split) <;> omega)
      rw [HF.out]
      go_enter Tryd.func54, Tryd.ntmps54
      go_wp2_with fail
      go_ret
      exact ⟨ret_int (by omega), rfl⟩
    · have f0 : (48 : Int) ≤ (c : Int) := by omega
      have f1 : (65 : Int) ≤ (c : Int) := by omega
      have f2 : (97 : Int) ≤ (c : Int) := by omega
      have g0 : ¬ (c : Int) ≤ 57 := by omega
      have g1 : ¬ (c : Int) ≤ 70 := by omega
      have g2 : ¬ (c : Int) ≤ 102 := by omega
      have HF := Lib.hid (show digI c 16 = -1 by unfold digI; (repeat' split) <;> omega)
      rw [HF.out]
      go_enter Tryd.func54, Tryd.ntmps54
      go_wp2_with fail
      go_ret
      exact ⟨ret_int (by omega), rfl⟩

set_option maxHeartbeats 1000000 in
theorem value_any (c : Nat) (k : Int) (w : World) (hc : c < 256) (hk : k = 10 ∨ k = 16) : Calls Tryd.prog 59 #[.int .u8 c, .int .i64 k] w fun e w' => e = .returned (.int .i64 (digI c k)) ∧ w' = w := by
  have HC := Lib.hid hc
  have hr : (c < 48) ∨ (48 ≤ c ∧ c ≤ 57) ∨ (57 < c ∧ c < 65) ∨ (65 ≤ c ∧ c ≤ 70) ∨ (70 < c ∧ c < 97) ∨ (97 ≤ c ∧ c ≤ 102) ∨ (102 < c) := by omega
  rcases hk with rfl | rfl
  · rcases hr with h | h | h | h | h | h | h
    · have f0 : ¬ (48 : Int) ≤ (c : Int) := by omega
      have f1 : ¬ (65 : Int) ≤ (c : Int) := by omega
      have f2 : ¬ (97 : Int) ≤ (c : Int) := by omega
      have g0 : (c : Int) ≤ 57 := by omega
      have g1 : (c : Int) ≤ 70 := by omega
      have g2 : (c : Int) ≤ 102 := by omega
      have HF := Lib.hid (show digI c 10 = -1 by unfold digI; (repeat' split) <;> omega)
      rw [HF.out]
      go_enter Tryd.func59, Tryd.ntmps59
      go_wp2_with fail
      go_ret
      exact ⟨ret_int (by omega), rfl⟩
    · have f0 : (48 : Int) ≤ (c : Int) := by omega
      have f1 : ¬ (65 : Int) ≤ (c : Int) := by omega
      have f2 : ¬ (97 : Int) ≤ (c : Int) := by omega
      have g0 : (c : Int) ≤ 57 := by omega
      have g1 : (c : Int) ≤ 70 := by omega
      have g2 : (c : Int) ≤ 102 := by omega
      have HF := Lib.hid (show digI c 10 = (c : Int) - 48 by unfold digI; (repeat' split) <;> omega)
      rw [HF.out]
      go_enter Tryd.func59, Tryd.ntmps59
      go_wp2_with fail
      go_ret
      exact ⟨ret_int (by omega), rfl⟩
    · have f0 : (48 : Int) ≤ (c : Int) := by omega
      have f1 : ¬ (65 : Int) ≤ (c : Int) := by omega
      have f2 : ¬ (97 : Int) ≤ (c : Int) := by omega
      have g0 : ¬ (c : Int) ≤ 57 := by omega
      have g1 : (c : Int) ≤ 70 := by omega
      have g2 : (c : Int) ≤ 102 := by omega
      have HF := Lib.hid (show digI c 10 = -1 by unfold digI; (repeat' split) <;> omega)
      rw [HF.out]
      go_enter Tryd.func59, Tryd.ntmps59
      go_wp2_with fail
      go_ret
      exact ⟨ret_int (by omega), rfl⟩
    · have f0 : (48 : Int) ≤ (c : Int) := by omega
      have f1 : (65 : Int) ≤ (c : Int) := by omega
      have f2 : ¬ (97 : Int) ≤ (c : Int) := by omega
      have g0 : ¬ (c : Int) ≤ 57 := by omega
      have g1 : (c : Int) ≤ 70 := by omega
      have g2 : (c : Int) ≤ 102 := by omega
      have HF := Lib.hid (show digI c 10 = -1 by unfold digI; (repeat' split) <;> omega)
      rw [HF.out]
      go_enter Tryd.func59, Tryd.ntmps59
      go_wp2_with fail
      go_ret
      exact ⟨ret_int (by omega), rfl⟩
    · have f0 : (48 : Int) ≤ (c : Int) := by omega
      have f1 : (65 : Int) ≤ (c : Int) := by omega
      have f2 : ¬ (97 : Int) ≤ (c : Int) := by omega
      have g0 : ¬ (c : Int) ≤ 57 := by omega
      have g1 : ¬ (c : Int) ≤ 70 := by omega
      have g2 : (c : Int) ≤ 102 := by omega
      have HF := Lib.hid (show digI c 10 = -1 by unfold digI; (repeat' split) <;> omega)
      rw [HF.out]
      go_enter Tryd.func59, Tryd.ntmps59
      go_wp2_with fail
      go_ret
      exact ⟨ret_int (by omega), rfl⟩
    · have f0 : (48 : Int) ≤ (c : Int) := by omega
      have f1 : (65 : Int) ≤ (c : Int) := by omega
      have f2 : (97 : Int) ≤ (c : Int) := by omega
      have g0 : ¬ (c : Int) ≤ 57 := by omega
      have g1 : ¬ (c : Int) ≤ 70 := by omega
      have g2 : (c : Int) ≤ 102 := by omega
      have HF := Lib.hid (show digI c 10 = -1 by unfold digI; (repeat' split) <;> omega)
      rw [HF.out]
      go_enter Tryd.func59, Tryd.ntmps59
      go_wp2_with fail
      go_ret
      exact ⟨ret_int (by omega), rfl⟩
    · have f0 : (48 : Int) ≤ (c : Int) := by omega
      have f1 : (65 : Int) ≤ (c : Int) := by omega
      have f2 : (97 : Int) ≤ (c : Int) := by omega
      have g0 : ¬ (c : Int) ≤ 57 := by omega
      have g1 : ¬ (c : Int) ≤ 70 := by omega
      have g2 : ¬ (c : Int) ≤ 102 := by omega
      have HF := Lib.hid (show digI c 10 = -1 by unfold digI; (repeat' split) <;> omega)
      rw [HF.out]
      go_enter Tryd.func59, Tryd.ntmps59
      go_wp2_with fail
      go_ret
      exact ⟨ret_int (by omega), rfl⟩
  · rcases hr with h | h | h | h | h | h | h
    · have f0 : ¬ (48 : Int) ≤ (c : Int) := by omega
      have f1 : ¬ (65 : Int) ≤ (c : Int) := by omega
      have f2 : ¬ (97 : Int) ≤ (c : Int) := by omega
      have g0 : (c : Int) ≤ 57 := by omega
      have g1 : (c : Int) ≤ 70 := by omega
      have g2 : (c : Int) ≤ 102 := by omega
      have HF := Lib.hid (show digI c 16 = -1 by unfold digI; (repeat' split) <;> omega)
      rw [HF.out]
      go_enter Tryd.func59, Tryd.ntmps59
      go_wp2_with fail
      go_ret
      exact ⟨ret_int (by omega), rfl⟩
    · have f0 : (48 : Int) ≤ (c : Int) := by omega
      have f1 : ¬ (65 : Int) ≤ (c : Int) := by omega
      have f2 : ¬ (97 : Int) ≤ (c : Int) := by omega
      have g0 : (c : Int) ≤ 57 := by omega
      have g1 : (c : Int) ≤ 70 := by omega
      have g2 : (c : Int) ≤ 102 := by omega
      have HF := Lib.hid (show digI c 16 = (c : Int) - 48 by unfold digI; (repeat' split) <;> omega)
      rw [HF.out]
      go_enter Tryd.func59, Tryd.ntmps59
      go_wp2_with fail
      go_ret
      exact ⟨ret_int (by omega), rfl⟩
    · have f0 : (48 : Int) ≤ (c : Int) := by omega
      have f1 : ¬ (65 : Int) ≤ (c : Int) := by omega
      have f2 : ¬ (97 : Int) ≤ (c : Int) := by omega
      have g0 : ¬ (c : Int) ≤ 57 := by omega
      have g1 : (c : Int) ≤ 70 := by omega
      have g2 : (c : Int) ≤ 102 := by omega
      have HF := Lib.hid (show digI c 16 = -1 by unfold digI; (repeat' split) <;> omega)
      rw [HF.out]
      go_enter Tryd.func59, Tryd.ntmps59
      go_wp2_with fail
      go_ret
      exact ⟨ret_int (by omega), rfl⟩
    · have f0 : (48 : Int) ≤ (c : Int) := by omega
      have f1 : (65 : Int) ≤ (c : Int) := by omega
      have f2 : ¬ (97 : Int) ≤ (c : Int) := by omega
      have g0 : ¬ (c : Int) ≤ 57 := by omega
      have g1 : (c : Int) ≤ 70 := by omega
      have g2 : (c : Int) ≤ 102 := by omega
      have HF := Lib.hid (show digI c 16 = (c : Int) - 55 by unfold digI; (repeat' split) <;> omega)
      rw [HF.out]
      go_enter Tryd.func59, Tryd.ntmps59
      go_wp2_with fail
      go_ret
      exact ⟨ret_int (by omega), rfl⟩
    · have f0 : (48 : Int) ≤ (c : Int) := by omega
      have f1 : (65 : Int) ≤ (c : Int) := by omega
      have f2 : ¬ (97 : Int) ≤ (c : Int) := by omega
      have g0 : ¬ (c : Int) ≤ 57 := by omega
      have g1 : ¬ (c : Int) ≤ 70 := by omega
      have g2 : (c : Int) ≤ 102 := by omega
      have HF := Lib.hid (show digI c 16 = -1 by unfold digI; (repeat' split) <;> omega)
      rw [HF.out]
      go_enter Tryd.func59, Tryd.ntmps59
      go_wp2_with fail
      go_ret
      exact ⟨ret_int (by omega), rfl⟩
    · have f0 : (48 : Int) ≤ (c : Int) := by omega
      have f1 : (65 : Int) ≤ (c : Int) := by omega
      have f2 : (97 : Int) ≤ (c : Int) := by omega
      have g0 : ¬ (c : Int) ≤ 57 := by omega
      have g1 : ¬ (c : Int) ≤ 70 := by omega
      have g2 : (c : Int) ≤ 102 := by omega
      have HF := Lib.hid (show digI c 16 = (c : Int) - 87 by unfold digI; (repeat' split) <;> omega)
      rw [HF.out]
      go_enter Tryd.func59, Tryd.ntmps59
      go_wp2_with fail
      go_ret
      exact ⟨ret_int (by omega), rfl⟩
    · have f0 : (48 : Int) ≤ (c : Int) := by omega
      have f1 : (65 : Int) ≤ (c : Int) := by omega
      have f2 : (97 : Int) ≤ (c : Int) := by omega
      have g0 : ¬ (c : Int) ≤ 57 := by omega
      have g1 : ¬ (c : Int) ≤ 70 := by omega
      have g2 : ¬ (c : Int) ≤ 102 := by omega
      have HF := Lib.hid (show digI c 16 = -1 by unfold digI; (repeat' split) <;> omega)
      rw [HF.out]
      go_enter Tryd.func59, Tryd.ntmps59
      go_wp2_with fail
      go_ret
      exact ⟨ret_int (by omega), rfl⟩

end Go.Proofs.YtoegjpfngmilhaaDoor
