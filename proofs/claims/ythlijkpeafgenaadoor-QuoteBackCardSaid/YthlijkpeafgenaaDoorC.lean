/- Contracts of num.Fits, Add, Mul, digit and of the reference's Fits, Add, Mul, value. -/
import Derived.Test.YthlijkpeafgenaaDoorK
set_option linter.unusedVariables false
set_option linter.unusedSimpArgs false
namespace Go.Proofs.YthlijkpeafgenaaDoor
open Go.RowKit
open Go.Proofs.YthlijkpeafgenaaDoorW.PrintWords

theorem w64 {x : Int} (h0 : -9223372036854775808 ≤ x) (h1 : x ≤ 9223372036854775807) : wrap64 x = x := by unfold wrap64; omega
theorem ret_int {k : IntKind} {a b : Int} (h : a = b) : Ending.returned (.int k a) = .returned (.int k b) := by rw [h]
theorem ret_bool {a b : Bool} (h : a = b) : Ending.returned (.bool a) = .returned (.bool b) := by rw [h]

def Fit (n : Int) : Prop := 0 ≤ n ∧ n ≤ 9007199254740992
instance (n : Int) : Decidable (Fit n) := by unfold Fit; exact inferInstance
def fitB (n : Int) : Bool := decide (Fit n)
theorem fitB_yes {n : Int} (h : Fit n) : fitB n = true := by simp [fitB, h]
theorem fitB_no {n : Int} (h : ¬ Fit n) : fitB n = false := by simp [fitB, h]
def addS (a b : Int) : Int × Int := if Fit a ∧ Fit b then (if Fit (a + b) then (a + b, 0) else (0, 3)) else (0, 1)
def mulS (a b : Int) : Int × Int := if Fit a ∧ Fit b then (if Fit (a * b) then (a * b, 0) else (0, 3)) else (0, 1)

theorem fits_any (n : Int) (w : World) : Calls Tryd.prog 30 #[.int .i64 n] w fun e w' => e = .returned (.bool (fitB n)) ∧ w' = w := by
  by_cases h0 : 0 ≤ n
  · by_cases h1 : n ≤ 9007199254740992
    · have HF := Lib.hid (show fitB n = true from fitB_yes ⟨h0, h1⟩)
      go_enter Tryd.func30, Tryd.ntmps30
      go_wp2_with fail
      go_ret
      exact ⟨ret_bool HF.out.symm, rfl⟩
    · have HF := Lib.hid (show fitB n = false from fitB_no fun h => h1 h.2)
      go_enter Tryd.func30, Tryd.ntmps30
      go_wp2_with fail
      go_ret
      exact ⟨ret_bool HF.out.symm, rfl⟩
  · have HF := Lib.hid (show fitB n = false from fitB_no fun h => h0 h.1)
    go_enter Tryd.func30, Tryd.ntmps30
    go_wp2_with fail
    go_ret
    exact ⟨ret_bool HF.out.symm, rfl⟩
theorem quo_lt {a b : Int} (ha : 0 < a) : (9007199254740992 / a < b) ↔ 9007199254740992 < a * b := by
  have := Int.le_ediv_iff_mul_le (a := b) (b := 9007199254740992) ha
  rw [Int.mul_comm] at this
  omega
theorem mul_fit {a b : Int} (ha : Fit a) (hb : Fit b) : 0 ≤ a * b ∧ a * b ≤ 81129638414606681695789005144064 := by
  have h1 := Int.mul_nonneg ha.1 hb.1
  have h2 := Int.mul_le_mul ha.2 hb.2 hb.1 (by omega)
  omega

/-- a digit's value to the base k; -1: it is none -/
def digI (c : Nat) (k : Int) : Int :=
  if 48 ≤ c ∧ c ≤ 57 then (c : Int) - 48 else if 65 ≤ c ∧ c ≤ 70 then (if k = 16 then (c : Int) - 55 else -1) else if 97 ≤ c ∧ c ≤ 102 then (if k = 16 then (c : Int) - 87 else -1) else -1
theorem digI_cases (c : Nat) (k : Int) : digI c k = -1 ∨ (0 ≤ digI c k ∧ digI c k < 16) := by
  unfold digI
  repeat' split
  all_goals omega
theorem digI_lt {c : Nat} {k : Int} (hk : k = 10 ∨ k = 16) : digI c k < k := by
  unfold digI
  repeat' split
  all_goals omega

set_option maxHeartbeats 1000000 in
theorem digit_any (c : Nat) (k : Int) (w : World) (hc : c < 256) (hk : k = 10 ∨ k = 16) : Calls Tryd.prog 42 #[.int .u8 c, .int .i64 k] w fun e w' => e = .returned (.int .i64 (digI c k)) ∧ w' = w := by
  have HC := Lib.hid hc
  have hr : (c < 48) ∨ (48 ≤ c ∧ c ≤ 57) ∨ (57 < c ∧ c < 65) ∨ (65 ≤ c ∧ c ≤ 70) ∨ (70 < c ∧ c < 97) ∨ (97 ≤ c ∧ c ≤ 102) ∨ (102 < c) := by omega
  rcases hk with rfl | rfl
  · rcases hr with h | h | h | h | h | h | h
    · have f0 : ¬ (48 : Int) ≤ (c : Int) := by omega
      have f1 : ¬ (65 : Int) ≤ (c : Int) := by omega
      have f2 : ¬ (97 : Int) ≤ (c : Int) := by omega
      have g0 : (c : Int) ≤ 57 := by omega
      have g1 : (c : Int) ≤ 70 := by omega
      have g2 : (c : Int) ≤ 102 := by omega
      have HF := Lib.hid (show digI c 10 = -1 by unfold digI; (repeat' split) <;> omega)
      rw [HF.out]
      go_enter Tryd.func42, Tryd.ntmps42
      go_wp2_with fail
      go_ret
      exact ⟨ret_int (by omega), rfl⟩
    · have f0 : (48 : Int) ≤ (c : Int) := by omega
      have f1 : ¬ (65 : Int) ≤ (c : Int) := by omega
      have f2 : ¬ (97 : Int) ≤ (c : Int) := by omega
      have g0 : (c : Int) ≤ 57 := by omega
      have g1 : (c : Int) ≤ 70 := by omega
      have g2 : (c : Int) ≤ 102 := by omega
      have HF := Lib.hid (show digI c 10 = (c : Int) - 48 by unfold digI; (repeat' split) <;> omega)
      rw [HF.out]
      go_enter Tryd.func42, Tryd.ntmps42
      go_wp2_with fail
      go_ret
      exact ⟨ret_int (by omega), rfl⟩
    · have f0 : (48 : Int) ≤ (c : Int) := by omega
      have f1 : ¬ (65 : Int) ≤ (c : Int) := by omega
      have f2 : ¬ (97 : Int) ≤ (c : Int) := by omega
      have g0 : ¬ (c : Int) ≤ 57 := by omega
      have g1 : (c : Int) ≤ 70 := by omega
      have g2 : (c : Int) ≤ 102 := by omega
      have HF := Lib.hid (show digI c 10 = -1 by unfold digI; (repeat' split) <;> omega)
      rw [HF.out]
      go_enter Tryd.func42, Tryd.ntmps42
      go_wp2_with fail
      go_ret
      exact ⟨ret_int (by omega), rfl⟩
    · have f0 : (48 : Int) ≤ (c : Int) := by omega
      have f1 : (65 : Int) ≤ (c : Int) := by omega
      have f2 : ¬ (97 : Int) ≤ (c : Int) := by omega
      have g0 : ¬ (c : Int) ≤ 57 := by omega
      have g1 : (c : Int) ≤ 70 := by omega
      have g2 : (c : Int) ≤ 102 := by omega
      have HF := Lib.hid (show digI c 10 = -1 by unfold digI; (repeat' split) <;> omega)
      rw [HF.out]
      go_enter Tryd.func42, Tryd.ntmps42
      go_wp2_with fail
      go_ret
      exact ⟨ret_int (by omega), rfl⟩
    · have f0 : (48 : Int) ≤ (c : Int) := by omega
      have f1 : (65 : Int) ≤ (c : Int) := by omega
      have f2 : ¬ (97 : Int) ≤ (c : Int) := by omega
      have g0 : ¬ (c : Int) ≤ 57 := by omega
      have g1 : ¬ (c : Int) ≤ 70 := by omega
      have g2 : (c : Int) ≤ 102 := by omega
      have HF := Lib.hid (show digI c 10 = -1 by unfold digI; (repeat' split) <;> omega)
      rw [HF.out]
      go_enter Tryd.func42, Tryd.ntmps42
      go_wp2_with fail
      go_ret
      exact ⟨ret_int (by omega), rfl⟩
    · have f0 : (48 : Int) ≤ (c : Int) := by omega
      have f1 : (65 : Int) ≤ (c : Int) := by omega
      have f2 : (97 : Int) ≤ (c : Int) := by omega
      have g0 : ¬ (c : Int) ≤ 57 := by omega
      have g1 : ¬ (c : Int) ≤ 70 := by omega
      have g2 : (c : Int) ≤ 102 := by omega
      have HF := Lib.hid (show digI c 10 = -1 by unfold digI; (repeat' split) <;> omega)
      rw [HF.out]
      go_enter Tryd.func42, Tryd.ntmps42
      go_wp2_with fail
      go_ret
      exact ⟨ret_int (by omega), rfl⟩
    · have f0 : (48 : Int) ≤ (c : Int) := by omega
      have f1 : (65 : Int) ≤ (c : Int) := by omega
      have f2 : (97 : Int) ≤ (c : Int) := by omega
      have g0 : ¬ (c : Int) ≤ 57 := by omega
      have g1 : ¬ (c : Int) ≤ 70 := by omega
      have g2 : ¬ (c : Int) ≤ 102 := by omega
      have HF := Lib.hid (show digI c 10 = -1 by unfold digI; (repeat' split) <;> omega)
      rw [HF.out]
      go_enter Tryd.func42, Tryd.ntmps42
      go_wp2_with fail
      go_ret
      exact ⟨ret_int (by omega), rfl⟩
  · rcases hr with h | h | h | h | h | h | h
    · have f0 : ¬ (48 : Int) ≤ (c : Int) := by omega
      have f1 : ¬ (65 : Int) ≤ (c : Int) := by omega
      have f2 : ¬ (97 : Int) ≤ (c : Int) := by omega
      have g0 : (c : Int) ≤ 57 := by omega
      have g1 : (c : Int) ≤ 70 := by omega
      have g2 : (c : Int) ≤ 102 := by omega
      have HF := Lib.hid (show digI c 16 = -1 by unfold digI; (repeat' split) <;> omega)
      rw [HF.out]
      go_enter Tryd.func42, Tryd.ntmps42
      go_wp2_with fail
      go_ret
      exact ⟨ret_int (by omega), rfl⟩
    · have f0 : (48 : Int) ≤ (c : Int) := by omega
      have f1 : ¬ (65 : Int) ≤ (c : Int) := by omega
      have f2 : ¬ (97 : Int) ≤ (c : Int) := by omega
      have g0 : (c : Int) ≤ 57 := by omega
      have g1 : (c : Int) ≤ 70 := by omega
      have g2 : (c : Int) ≤ 102 := by omega
      have HF := Lib.hid (show digI c 16 = (c : Int) - 48 by unfold digI; (repeat' split) <;> omega)
      rw [HF.out]
      go_enter Tryd.func42, Tryd.ntmps42
      go_wp2_with fail
      go_ret
      exact ⟨ret_int (by omega), rfl⟩
    · have f0 : (48 : Int) ≤ (c : Int) := by omega
      have f1 : ¬ (65 : Int) ≤ (c : Int) := by omega
      have f2 : ¬ (97 : Int) ≤ (c : Int) := by omega
      have g0 : ¬ (c : Int) ≤ 57 := by omega
      have g1 : (c : Int) ≤ 70 := by omega
      have g2 : (c : Int) ≤ 102 := by omega
      have HF := Lib.hid (show digI c 16 = -1 by unfold digI; (repeat' split) <;> omega)
      rw [HF.out]
      go_enter Tryd.func42, Tryd.ntmps42
      go_wp2_with fail
      go_ret
      exact ⟨ret_int (by omega), rfl⟩
    · have f0 : (48 : Int) ≤ (c : Int) := by omega
      have f1 : (65 : Int) ≤ (c : Int) := by omega
      have f2 : ¬ (97 : Int) ≤ (c : Int) := by omega
      have g0 : ¬ (c : Int) ≤ 57 := by omega
      have g1 : (c : Int) ≤ 70 := by omega
      have g2 : (c : Int) ≤ 102 := by omega
      have HF := Lib.hid (show digI c 16 = (c : Int) - 55 by unfold digI; (repeat' split) <;> omega)
      rw [HF.out]
      go_enter Tryd.func42, Tryd.ntmps42
      go_wp2_with fail
      go_ret
      exact ⟨ret_int (by omega), rfl⟩
    · have f0 : (48 : Int) ≤ (c : Int) := by omega
      have f1 : (65 : Int) ≤ (c : Int) := by omega
      have f2 : ¬ (97 : Int) ≤ (c : Int) := by omega
      have g0 : ¬ (c : Int) ≤ 57 := by omega
      have g1 : ¬ (c : Int) ≤ 70 := by omega
      have g2 : (c : Int) ≤ 102 := by omega
      have HF := Lib.hid (show digI c 16 = -1 by unfold digI; (repeat' split) <;> omega)
      rw [HF.out]
      go_enter Tryd.func42, Tryd.ntmps42
      go_wp2_with fail
      go_ret
      exact ⟨ret_int (by omega), rfl⟩
    · have f0 : (48 : Int) ≤ (c : Int) := by omega
      have f1 : (65 : Int) ≤ (c : Int) := by omega
      have f2 : (97 : Int) ≤ (c : Int) := by omega
      have g0 : ¬ (c : Int) ≤ 57 := by omega
      have g1 : ¬ (c : Int) ≤ 70 := by omega
      have g2 : (c : Int) ≤ 102 := by omega
      have HF := Lib.hid (show digI c 16 = (c : Int) - 87 by unfold digI; (repeat' split) <;> omega)
      rw [HF.out]
      go_enter Tryd.func42, Tryd.ntmps42
      go_wp2_with fail
      go_ret
      exact ⟨ret_int (by omega), rfl⟩
    · have f0 : (48 : Int) ≤ (c : Int) := by omega
      have f1 : (65 : Int) ≤ (c : Int) := by omega
      have f2 : (97 : Int) ≤ (c : Int) := by omega
      have g0 : ¬ (c : Int) ≤ 57 := by omega
      have g1 : ¬ (c : Int) ≤ 70 := by omega
      have g2 : ¬ (c : Int) ≤ 102 := by omega
      have HF := Lib.hid (show digI c 16 = -1 by unfold digI; (repeat' split) <;> omega)
      rw [HF.out]
      go_enter Tryd.func42, Tryd.ntmps42
      go_wp2_with fail
      go_ret
      exact ⟨ret_int (by omega), rfl⟩

end Go.Proofs.YthlijkpeafgenaaDoor
