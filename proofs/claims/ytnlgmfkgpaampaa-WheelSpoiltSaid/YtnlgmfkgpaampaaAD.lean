/- What awake's calls answer, plain. -/
import Derived.Test.YtnlgmfkgpaampaaAC
set_option linter.unusedVariables false
set_option linter.unusedSimpArgs false
namespace Go.Proofs.Ytnlgmfkgpaampaa

instance (nw : Int) (ts : Nat → List Tm) : Decidable (RightW nw ts) := by unfold RightW; exact inferInstance
def e0 : Nat → List Tm := fun _ => []
def T1 : Nat → List Tm := upd e0 2 [⟨7, 2⟩]
def T2 : Nat → List Tm := upd T1 2 [⟨7, 2⟩, ⟨9, 10⟩]
def T3 : Nat → List Tm := upd T2 1 []
def T4 : Nat → List Tm := upd T3 2 [⟨9, 10⟩]
def T5 : Nat → List Tm := upd T4 2 []
theorem aw1 : setE 0 e0 7 2 = 0 ∧ setT 0 e0 7 2 = T1 := setE_ok (by decide) (by decide) (by decide)
theorem aw2 : setE 0 T1 9 10 = 0 ∧ setT 0 T1 9 10 = T2 := setE_ok (by decide) (by decide) (by decide)
theorem aw3 : setE 0 T2 9 3 = 6 ∧ setT 0 T2 9 3 = T2 := setE_busy (by decide) (by decide)
theorem aw4 : tickE 0 T2 = 0 ∧ tickN 0 T2 = 1 ∧ tickT 0 T2 = T3 ∧ tickF 0 T2 = [] := tick_ok (k := 1) (by decide) (by decide) rfl
theorem aw5 : tickE 1 T3 = 0 ∧ tickN 1 T3 = 2 ∧ tickT 1 T3 = T4 ∧ tickF 1 T3 = [7] := tick_ok (k := 2) (by decide) (by decide) rfl
theorem aw6 : canE 2 T4 7 = 5 ∧ canT 2 T4 7 = T4 := canE_none (r := -1) (s := -1) (by decide) (.inl ⟨rfl, rfl, by decide⟩) (by decide)
theorem aw7 : canE 2 T4 9 = 0 ∧ canT 2 T4 9 = T5 := canE_ok (i := 2) (k := 0) (by decide) (.inr ⟨2, 0, ⟨9, 10⟩, rfl, rfl, by decide, rfl, rfl, fun j x hj => absurd hj (by omega), by decide⟩)
theorem aw8 : rightB 2 T4 = true := rightB_yes (by decide)
theorem aw9 : rightB (-1) e0 = false := rightB_no (by decide)
theorem wf1 : ∀ i, i < 8 → ∀ t ∈ T1 i, t.id ≤ 9223372036854775807 := by decide
theorem wf2 : ∀ i, i < 8 → ∀ t ∈ T2 i, t.id ≤ 9223372036854775807 := by decide
theorem wf3 : ∀ i, i < 8 → ∀ t ∈ T3 i, t.id ≤ 9223372036854775807 := by decide
theorem wf4 : ∀ i, i < 8 → ∀ t ∈ T4 i, t.id ≤ 9223372036854775807 := by decide
end Go.Proofs.Ytnlgmfkgpaampaa
