/- target.free, may, escape; the reference's free. -/
import Derived.Test.YtoegjpfngmilhaaDoorB
import Derived.Test.YtoegjpfngmilhaaDoorD
set_option linter.unusedVariables false
set_option linter.unusedSimpArgs false
namespace Go.Proofs.YtoegjpfngmilhaaDoor
open Go.RowKit Go.Lib
open Go.Proofs.YtoegjpfngmilhaaDoorW.PrintWords

def freeN (n : Nat) : Bool := decide ((97 ≤ n ∧ n ≤ 122) ∨ (65 ≤ n ∧ n ≤ 90) ∨ (48 ≤ n ∧ n ≤ 57) ∨ n = 45 ∨ n = 46 ∨ n = 95 ∨ n = 126)
def freeB (c : UInt8) : Bool := freeN c.toNat
theorem index4 : ∀ k : Fin 256, (0 ≤ indexByte [45, 46, 95, 126] k.val.toUInt8) ↔ (k.val = 45 ∨ k.val = 46 ∨ k.val = 95 ∨ k.val = 126) := by decide +kernel

set_option maxHeartbeats 2000000 in
theorem free_any (c : UInt8) (w : World) : Calls Tryd.prog 39 #[.int .u8 (c.toNat : Int)] w fun e w' => e = .returned (.bool (freeB c)) ∧ w' = w := by
  obtain ⟨ix, hix⟩ : ∃ ix, indexByte [45, 46, 95, 126] ((c.toNat : Int).toNat.toUInt8) = ix := ⟨_, rfl⟩
  have hix2 : (0 ≤ ix) ↔ (c.toNat = 45 ∨ c.toNat = 46 ∨ c.toNat = 95 ∨ c.toNat = 126) := by
    rw [← hix]
    exact index4 ⟨c.toNat, c.toNat_lt⟩
  have hc := c.toNat_lt
  have hfree : freeB c = freeN c.toNat := rfl
  unfold freeN at hfree
  have HF := Lib.hid hfree
  clear hfree
  generalize c.toNat = n at *
  go_enter Tryd.func39, Tryd.ntmps39
  obtain h | h | h | h | h | h | h : n ≤ 47 ∨ (48 ≤ n ∧ n ≤ 57) ∨ (58 ≤ n ∧ n ≤ 64) ∨ (65 ≤ n ∧ n ≤ 90) ∨ (91 ≤ n ∧ n ≤ 96) ∨ (97 ≤ n ∧ n ≤ 122) ∨ 123 ≤ n := by omega
  · have f0 : ¬ (97 : Int) ≤ (n : Int) := by omega
    have f1 : ¬ (65 : Int) ≤ (n : Int) := by omega
    have f2 : ¬ (48 : Int) ≤ (n : Int) := by omega
    have g0 : (n : Int) ≤ 122 := by omega
    have g1 : (n : Int) ≤ 90 := by omega
    have g2 : (n : Int) ≤ 57 := by omega
    by_cases hsg : n = 45 ∨ n = 46 ∨ n = 95 ∨ n = 126
    · have hz : (0 : Int) ≤ ix := by rw [hix2]; exact hsg
      go_wp2_with (go_at_call 26; refine (Tryd.strings_IndexByte _ _ _).mono ?_; rintro e w1 ⟨rfl, rfl⟩; rw [hix])
      go_ret
      exact ⟨ret_bool (by rw [HF.out]; simp; omega), rfl⟩
    · have hz : ¬ (0 : Int) ≤ ix := by rw [hix2]; exact hsg
      go_wp2_with (go_at_call 26; refine (Tryd.strings_IndexByte _ _ _).mono ?_; rintro e w1 ⟨rfl, rfl⟩; rw [hix])
      go_ret
      exact ⟨ret_bool (by rw [HF.out]; simp; omega), rfl⟩
  · have f0 : ¬ (97 : Int) ≤ (n : Int) := by omega
    have f1 : ¬ (65 : Int) ≤ (n : Int) := by omega
    have f2 : (48 : Int) ≤ (n : Int) := by omega
    have g0 : (n : Int) ≤ 122 := by omega
    have g1 : (n : Int) ≤ 90 := by omega
    have g2 : (n : Int) ≤ 57 := by omega
    go_wp2_with fail
    go_ret
    exact ⟨ret_bool (by rw [HF.out]; simp; omega), rfl⟩
  · have f0 : ¬ (97 : Int) ≤ (n : Int) := by omega
    have f1 : ¬ (65 : Int) ≤ (n : Int) := by omega
    have f2 : (48 : Int) ≤ (n : Int) := by omega
    have g0 : (n : Int) ≤ 122 := by omega
    have g1 : (n : Int) ≤ 90 := by omega
    have g2 : ¬ (n : Int) ≤ 57 := by omega
    by_cases hsg : n = 45 ∨ n = 46 ∨ n = 95 ∨ n = 126
    · have hz : (0 : Int) ≤ ix := by rw [hix2]; exact hsg
      go_wp2_with (go_at_call 26; refine (Tryd.strings_IndexByte _ _ _).mono ?_; rintro e w1 ⟨rfl, rfl⟩; rw [hix])
      go_ret
      exact ⟨ret_bool (by rw [HF.out]; simp; omega), rfl⟩
    · have hz : ¬ (0 : Int) ≤ ix := by rw [hix2]; exact hsg
      go_wp2_with (go_at_call 26; refine (Tryd.strings_IndexByte _ _ _).mono ?_; rintro e w1 ⟨rfl, rfl⟩; rw [hix])
      go_ret
      exact ⟨ret_bool (by rw [HF.out]; simp; omega), rfl⟩
  · have f0 : ¬ (97 : Int) ≤ (n : Int) := by omega
    have f1 : (65 : Int) ≤ (n : Int) := by omega
    have f2 : (48 : Int) ≤ (n : Int) := by omega
    have g0 : (n : Int) ≤ 122 := by omega
    have g1 : (n : Int) ≤ 90 := by omega
    have g2 : ¬ (n : Int) ≤ 57 := by omega
    go_wp2_with fail
    go_ret
    exact ⟨ret_bool (by rw [HF.out]; simp; omega), rfl⟩
  · have f0 : ¬ (97 : Int) ≤ (n : Int) := by omega
    have f1 : (65 : Int) ≤ (n : Int) := by omega
    have f2 : (48 : Int) ≤ (n : Int) := by omega
    have g0 : (n : Int) ≤ 122 := by omega
    have g1 : ¬ (n : Int) ≤ 90 := by omega
    have g2 : ¬ (n : Int) ≤ 57 := by omega
    by_cases hsg : n = 45 ∨ n = 46 ∨ n = 95 ∨ n = 126
    · have hz : (0 : Int) ≤ ix := by rw [hix2]; exact hsg
      go_wp2_with (go_at_call 26; refine (Tryd.strings_IndexByte _ _ _).mono ?_; rintro e w1 ⟨rfl, rfl⟩; rw [hix])
      go_ret
      exact ⟨ret_bool (by rw [HF.out]; simp; omega), rfl⟩
    · have hz : ¬ (0 : Int) ≤ ix := by rw [hix2]; exact hsg
      go_wp2_with (go_at_call 26; refine (Tryd.strings_IndexByte _ _ _).mono ?_; rintro e w1 ⟨rfl, rfl⟩; rw [hix])
      go_ret
      exact ⟨ret_bool (by rw [HF.out]; simp; omega), rfl⟩
  · have f0 : (97 : Int) ≤ (n : Int) := by omega
    have f1 : (65 : Int) ≤ (n : Int) := by omega
    have f2 : (48 : Int) ≤ (n : Int) := by omega
    have g0 : (n : Int) ≤ 122 := by omega
    have g1 : ¬ (n : Int) ≤ 90 := by omega
    have g2 : ¬ (n : Int) ≤ 57 := by omega
    go_wp2_with fail
    go_ret
    exact ⟨ret_bool (by rw [HF.out]; simp; omega), rfl⟩
  · have f0 : (97 : Int) ≤ (n : Int) := by omega
    have f1 : (65 : Int) ≤ (n : Int) := by omega
    have f2 : (48 : Int) ≤ (n : Int) := by omega
    have g0 : ¬ (n : Int) ≤ 122 := by omega
    have g1 : ¬ (n : Int) ≤ 90 := by omega
    have g2 : ¬ (n : Int) ≤ 57 := by omega
    by_cases hsg : n = 45 ∨ n = 46 ∨ n = 95 ∨ n = 126
    · have hz : (0 : Int) ≤ ix := by rw [hix2]; exact hsg
      go_wp2_with (go_at_call 26; refine (Tryd.strings_IndexByte _ _ _).mono ?_; rintro e w1 ⟨rfl, rfl⟩; rw [hix])
      go_ret
      exact ⟨ret_bool (by rw [HF.out]; simp; omega), rfl⟩
    · have hz : ¬ (0 : Int) ≤ ix := by rw [hix2]; exact hsg
      go_wp2_with (go_at_call 26; refine (Tryd.strings_IndexByte _ _ _).mono ?_; rintro e w1 ⟨rfl, rfl⟩; rw [hix])
      go_ret
      exact ⟨ret_bool (by rw [HF.out]; simp; omega), rfl⟩

set_option maxHeartbeats 2000000 in
theorem rfree_any (c : UInt8) (w : World) : Calls Tryd.prog 52 #[.int .u8 (c.toNat : Int)] w fun e w' => e = .returned (.bool (freeB c)) ∧ w' = w := by
  have hc := c.toNat_lt
  have hfree : freeB c = freeN c.toNat := rfl
  unfold freeN at hfree
  have HF := Lib.hid hfree
  clear hfree
  generalize c.toNat = n at *
  go_enter Tryd.func52, Tryd.ntmps52
  obtain h | h | h | h | h | h | h : n ≤ 47 ∨ (48 ≤ n ∧ n ≤ 57) ∨ (58 ≤ n ∧ n ≤ 64) ∨ (65 ≤ n ∧ n ≤ 90) ∨ (91 ≤ n ∧ n ≤ 96) ∨ (97 ≤ n ∧ n ≤ 122) ∨ 123 ≤ n := by omega
  · have f0 : ¬ (97 : Int) ≤ (n : Int) := by omega
    have f1 : ¬ (65 : Int) ≤ (n : Int) := by omega
    have f2 : ¬ (48 : Int) ≤ (n : Int) := by omega
    have g0 : (n : Int) ≤ 122 := by omega
    have g1 : (n : Int) ≤ 90 := by omega
    have g2 : (n : Int) ≤ 57 := by omega
    by_cases s1 : n = 45
    · subst s1
      go_wp2_with fail
      go_ret
      exact ⟨ret_bool (by rw [HF.out]; rfl), rfl⟩
    by_cases s2 : n = 46
    · subst s2
      go_wp2_with fail
      go_ret
      exact ⟨ret_bool (by rw [HF.out]; rfl), rfl⟩
    by_cases s3 : n = 95
    · subst s3
      go_wp2_with fail
      go_ret
      exact ⟨ret_bool (by rw [HF.out]; rfl), rfl⟩
    by_cases s4 : n = 126
    · subst s4
      go_wp2_with fail
      go_ret
      exact ⟨ret_bool (by rw [HF.out]; rfl), rfl⟩
    have e0 : ((n : Int) == 45) = false := by rw [beq_eq_false_iff_ne]; omega
    have e1 : ((n : Int) == 46) = false := by rw [beq_eq_false_iff_ne]; omega
    have e2 : ((n : Int) == 95) = false := by rw [beq_eq_false_iff_ne]; omega
    have e3 : ((n : Int) == 126) = false := by rw [beq_eq_false_iff_ne]; omega
    go_wp2_with fail
    go_ret
    exact ⟨ret_bool (by rw [HF.out]; simp; omega), rfl⟩
  · have f0 : ¬ (97 : Int) ≤ (n : Int) := by omega
    have f1 : ¬ (65 : Int) ≤ (n : Int) := by omega
    have f2 : (48 : Int) ≤ (n : Int) := by omega
    have g0 : (n : Int) ≤ 122 := by omega
    have g1 : (n : Int) ≤ 90 := by omega
    have g2 : (n : Int) ≤ 57 := by omega
    go_wp2_with fail
    go_ret
    exact ⟨ret_bool (by rw [HF.out]; simp; omega), rfl⟩
  · have f0 : ¬ (97 : Int) ≤ (n : Int) := by omega
    have f1 : ¬ (65 : Int) ≤ (n : Int) := by omega
    have f2 : (48 : Int) ≤ (n : Int) := by omega
    have g0 : (n : Int) ≤ 122 := by omega
    have g1 : (n : Int) ≤ 90 := by omega
    have g2 : ¬ (n : Int) ≤ 57 := by omega
    by_cases s1 : n = 45
    · subst s1
      go_wp2_with fail
      go_ret
      exact ⟨ret_bool (by rw [HF.out]; rfl), rfl⟩
    by_cases s2 : n = 46
    · subst s2
      go_wp2_with fail
      go_ret
      exact ⟨ret_bool (by rw [HF.out]; rfl), rfl⟩
    by_cases s3 : n = 95
    · subst s3
      go_wp2_with fail
      go_ret
      exact ⟨ret_bool (by rw [HF.out]; rfl), rfl⟩
    by_cases s4 : n = 126
    · subst s4
      go_wp2_with fail
      go_ret
      exact ⟨ret_bool (by rw [HF.out]; rfl), rfl⟩
    have e0 : ((n : Int) == 45) = false := by rw [beq_eq_false_iff_ne]; omega
    have e1 : ((n : Int) == 46) = false := by rw [beq_eq_false_iff_ne]; omega
    have e2 : ((n : Int) == 95) = false := by rw [beq_eq_false_iff_ne]; omega
    have e3 : ((n : Int) == 126) = false := by rw [beq_eq_false_iff_ne]; omega
    go_wp2_with fail
    go_ret
    exact ⟨ret_bool (by rw [HF.out]; simp; omega), rfl⟩
  · have f0 : ¬ (97 : Int) ≤ (n : Int) := by omega
    have f1 : (65 : Int) ≤ (n : Int) := by omega
    have f2 : (48 : Int) ≤ (n : Int) := by omega
    have g0 : (n : Int) ≤ 122 := by omega
    have g1 : (n : Int) ≤ 90 := by omega
    have g2 : ¬ (n : Int) ≤ 57 := by omega
    go_wp2_with fail
    go_ret
    exact ⟨ret_bool (by rw [HF.out]; simp; omega), rfl⟩
  · have f0 : ¬ (97 : Int) ≤ (n : Int) := by omega
    have f1 : (65 : Int) ≤ (n : Int) := by omega
    have f2 : (48 : Int) ≤ (n : Int) := by omega
    have g0 : (n : Int) ≤ 122 := by omega
    have g1 : ¬ (n : Int) ≤ 90 := by omega
    have g2 : ¬ (n : Int) ≤ 57 := by omega
    by_cases s1 : n = 45
    · subst s1
      go_wp2_with fail
      go_ret
      exact ⟨ret_bool (by rw [HF.out]; rfl), rfl⟩
    by_cases s2 : n = 46
    · subst s2
      go_wp2_with fail
      go_ret
      exact ⟨ret_bool (by rw [HF.out]; rfl), rfl⟩
    by_cases s3 : n = 95
    · subst s3
      go_wp2_with fail
      go_ret
      exact ⟨ret_bool (by rw [HF.out]; rfl), rfl⟩
    by_cases s4 : n = 126
    · subst s4
      go_wp2_with fail
      go_ret
      exact ⟨ret_bool (by rw [HF.out]; rfl), rfl⟩
    have e0 : ((n : Int) == 45) = false := by rw [beq_eq_false_iff_ne]; omega
    have e1 : ((n : Int) == 46) = false := by rw [beq_eq_false_iff_ne]; omega
    have e2 : ((n : Int) == 95) = false := by rw [beq_eq_false_iff_ne]; omega
    have e3 : ((n : Int) == 126) = false := by rw [beq_eq_false_iff_ne]; omega
    go_wp2_with fail
    go_ret
    exact ⟨ret_bool (by rw [HF.out]; simp; omega), rfl⟩
  · have f0 : (97 : Int) ≤ (n : Int) := by omega
    have f1 : (65 : Int) ≤ (n : Int) := by omega
    have f2 : (48 : Int) ≤ (n : Int) := by omega
    have g0 : (n : Int) ≤ 122 := by omega
    have g1 : ¬ (n : Int) ≤ 90 := by omega
    have g2 : ¬ (n : Int) ≤ 57 := by omega
    go_wp2_with fail
    go_ret
    exact ⟨ret_bool (by rw [HF.out]; simp; omega), rfl⟩
  · have f0 : (97 : Int) ≤ (n : Int) := by omega
    have f1 : (65 : Int) ≤ (n : Int) := by omega
    have f2 : (48 : Int) ≤ (n : Int) := by omega
    have g0 : ¬ (n : Int) ≤ 122 := by omega
    have g1 : ¬ (n : Int) ≤ 90 := by omega
    have g2 : ¬ (n : Int) ≤ 57 := by omega
    by_cases s1 : n = 45
    · subst s1
      go_wp2_with fail
      go_ret
      exact ⟨ret_bool (by rw [HF.out]; rfl), rfl⟩
    by_cases s2 : n = 46
    · subst s2
      go_wp2_with fail
      go_ret
      exact ⟨ret_bool (by rw [HF.out]; rfl), rfl⟩
    by_cases s3 : n = 95
    · subst s3
      go_wp2_with fail
      go_ret
      exact ⟨ret_bool (by rw [HF.out]; rfl), rfl⟩
    by_cases s4 : n = 126
    · subst s4
      go_wp2_with fail
      go_ret
      exact ⟨ret_bool (by rw [HF.out]; rfl), rfl⟩
    have e0 : ((n : Int) == 45) = false := by rw [beq_eq_false_iff_ne]; omega
    have e1 : ((n : Int) == 46) = false := by rw [beq_eq_false_iff_ne]; omega
    have e2 : ((n : Int) == 95) = false := by rw [beq_eq_false_iff_ne]; omega
    have e3 : ((n : Int) == 126) = false := by rw [beq_eq_false_iff_ne]; omega
    go_wp2_with fail
    go_ret
    exact ⟨ret_bool (by rw [HF.out]; simp; omega), rfl⟩
end Go.Proofs.YtoegjpfngmilhaaDoor
