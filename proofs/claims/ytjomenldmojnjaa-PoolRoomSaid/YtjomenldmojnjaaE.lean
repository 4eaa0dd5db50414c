/- Contracts of pool.Right and of the reference's. -/
import Derived.Test.YtjomenldmojnjaaD
set_option linter.unusedVariables false
set_option linter.unusedSimpArgs false
namespace Go.Proofs.Ytjomenldmojnjaa
open Go.RowKit
open Go.Proofs.YtjomenldmojnjaaW.PrintWords

def RightP (bs : List Bk) (nx : Int) : Prop := (1 ≤ bs.length ∧ bs.length ≤ 8) ∧ (0 ≤ nx ∧ nx < bs.length) ∧ ∀ b ∈ bs, Okb b
def rightB (bs : List Bk) (nx : Int) : Bool := decide (1 ≤ bs.length ∧ bs.length ≤ 8) && (decide (0 ≤ nx ∧ nx < bs.length) && !bs.any (fun b => !okB b))
theorem rightB_iff {bs : List Bk} {nx : Int} : rightB bs nx = true ↔ RightP bs nx := by
  unfold rightB RightP
  simp only [Bool.and_eq_true, decide_eq_true_eq, Bool.not_eq_true', List.any_eq_false]
  refine and_congr_right fun _ => and_congr_right fun _ => forall_congr' fun b => imp_congr_right fun _ => ?_
  rw [← okB_iff]
  simp
theorem eg29 : ∀ args w, (callFunc 29 args).run Try.prog w = .ok (.enter 29 args) w := enters_of Try.func29 (by kernel_rfl) rfl
theorem pred_ok (w : World) : PredB Try.prog 29 #[] Bk.v (fun b => !okB b) w := fun W x hb => by
  simpa using right2_any x W

set_option maxHeartbeats 1000000 in
theorem right_any (w : World) (A : Option Addr) (n c : Nat) (nx : Int) (bs : List Bk) (hr : RdE enc 4 w (.slice A n c) bs) :
    Calls Try.prog 16 #[.agg #[.slice A n c, .int .i64 nx]] w fun e w' => e = .returned (.bool (rightB bs nx)) ∧ Below w.heap.size w w' := by
  have ln := hr.len
  have HR := Lib.hid hr
  have HLN := Lib.hid ln
  clear hr ln
  by_cases c1 : 1 ≤ n
  · have c1' : (1 : Int) ≤ (n : Int) := by omega
    by_cases c2 : n ≤ 8
    · have c2' : (n : Int) ≤ 8 := by omega
      by_cases c3 : 0 ≤ nx
      · by_cases c4 : nx < (n : Int)
        · cases c5 : bs.any (fun b => !okB b) with
          | true =>
            have HC := Lib.hid c5
            clear c5
            have HF := Lib.hid (show rightB bs nx = false by simp [rightB, HC.out])
            go_enter Try.func16, Try.ntmps16
            go_wp2_with (go_at_call 22; refine (containsFunc_bks 29 #[] eg29 (fun b => !okB b) _ _ bs (HR.out.below ?_) (pred_ok _)).mono ?_; (exact (Below.refl _ _).alloc (Nat.le_refl _) _); rw [HC.out]; rintro e w' ⟨rfl, hb⟩)
            go_ret
            exact ⟨ret_bool HF.out.symm, ((Below.refl _ _).alloc (Nat.le_refl _) _).trans (hb.mono (by simp))⟩
          | false =>
            have HC := Lib.hid c5
            clear c5
            have HF := Lib.hid (show rightB bs nx = true by have := HLN.out; simp [rightB, HC.out]; omega)
            go_enter Try.func16, Try.ntmps16
            go_wp2_with (go_at_call 22; refine (containsFunc_bks 29 #[] eg29 (fun b => !okB b) _ _ bs (HR.out.below ?_) (pred_ok _)).mono ?_; (exact (Below.refl _ _).alloc (Nat.le_refl _) _); rw [HC.out]; rintro e w' ⟨rfl, hb⟩)
            go_ret
            exact ⟨ret_bool HF.out.symm, ((Below.refl _ _).alloc (Nat.le_refl _) _).trans (hb.mono (by simp))⟩
        · have HF := Lib.hid (show rightB bs nx = false by have := HLN.out; simp [rightB]; omega)
          go_enter Try.func16, Try.ntmps16
          go_wp2_with fail
          go_ret
          exact ⟨ret_bool HF.out.symm, (Below.refl _ _).alloc (Nat.le_refl _) _⟩
      · have HF := Lib.hid (show rightB bs nx = false by have := HLN.out; simp [rightB]; omega)
        go_enter Try.func16, Try.ntmps16
        go_wp2_with fail
        go_ret
        exact ⟨ret_bool HF.out.symm, (Below.refl _ _).alloc (Nat.le_refl _) _⟩
    · have c2' : ¬ (n : Int) ≤ 8 := by omega
      have HF := Lib.hid (show rightB bs nx = false by have := HLN.out; simp [rightB]; omega)
      go_enter Try.func16, Try.ntmps16
      go_wp2_with fail
      go_ret
      exact ⟨ret_bool HF.out.symm, (Below.refl _ _).alloc (Nat.le_refl _) _⟩
  · have c1' : ¬ (1 : Int) ≤ (n : Int) := by omega
    have HF := Lib.hid (show rightB bs nx = false by have := HLN.out; simp [rightB]; omega)
    go_enter Try.func16, Try.ntmps16
    go_wp2_with fail
    go_ret
    exact ⟨ret_bool HF.out.symm, (Below.refl _ _).alloc (Nat.le_refl _) _⟩

end Go.Proofs.Ytjomenldmojnjaa
