/- What awake's calls answer, plain. -/
import Derived.Test.YtipjhokhflokmaaAP
set_option linter.unusedVariables false
set_option linter.unusedSimpArgs false
namespace Go.Proofs.Ytipjhokhflokmaa
open Go.RowKit

def X1 : Fl := ⟨[107], true, 0, 0, [], 1, false, [⟨1, 0⟩]⟩
def X2 : Fl := ⟨[107], true, 0, 0, [], 1, false, [⟨1, 0⟩, ⟨2, 0⟩]⟩
def X3 : Fl := ⟨[107], true, 0, 0, [97, 98], 1, false, [⟨1, 0⟩, ⟨2, 0⟩]⟩
def X4 : Fl := ⟨[107], true, 0, 0, [97, 98], 1, false, [⟨1, 2⟩, ⟨2, 0⟩]⟩
def X5 : Fl := ⟨[107], true, 0, 0, [97, 98], 1, false, [⟨1, 2⟩]⟩
def X6 : Fl := ⟨[107], true, 0, 2, [], 1, false, [⟨1, 2⟩]⟩
def X7 : Fl := ⟨[107], true, 0, 2, [99], 1, false, [⟨1, 2⟩]⟩
theorem aw1 : joinOp 2 0 [] [107] 1 true = ⟨[X1], 1, 0, true, 0⟩ := by kernel_rfl
theorem aw2 : joinOp 2 1 [X1] [107] 2 true = ⟨[X2], 1, 0, false, 0⟩ := by kernel_rfl
theorem aw3 : joinOp 2 1 [X2] [107] 2 true = ⟨[X2], 1, 0, false, 6⟩ := by kernel_rfl
theorem aw4 : feedOp 2 1 [X2] 0 [97, 98] = ([X3], 2, [], 0) := by
  have g : Goes 2 [97, 98] ⟨X2, 0, []⟩ ⟨X3, 2, []⟩ := .step (b := ⟨{ X2 with data := [97] }, 1, []⟩) (by kernel_rfl) (.step (b := ⟨X3, 2, []⟩) (by kernel_rfl) (.refl _))
  exact feedOp0 (k := 0) (x := X2) (by kernel_rfl) (by kernel_rfl) rfl (by decide) g (by kernel_rfl)
theorem aw5 : takeOp 2 1 [X3] 1 5 = ([X4], [97, 98], false, 0) := by kernel_rfl
theorem aw6 : feedOp 2 1 [X4] 0 [99] = ([X7], 1, [2], 0) := by
  have g : Goes 2 [99] ⟨X4, 0, []⟩ ⟨X7, 1, [2]⟩ := .step (b := ⟨X5, 0, [2]⟩) (by kernel_rfl) (.step (b := ⟨X6, 0, [2]⟩) (by kernel_rfl) (.step (b := ⟨X7, 1, [2]⟩) (by kernel_rfl) (.refl _)))
  exact feedOp0 (k := 0) (x := X4) (by kernel_rfl) (by kernel_rfl) rfl (by decide) g (by kernel_rfl)
theorem aw7 : failOp 2 1 [X7] 0 3 = ([], [1], false, 0) := by kernel_rfl
theorem aw8 : leaveOp 2 1 [X7] 1 = ([], 0, true, 0) := by kernel_rfl
theorem aw9 : rightS 2 1 [X7] = true := by kernel_rfl
theorem aw10 : rightS 0 0 [] = false := by kernel_rfl
theorem sm0 : SmF [] := (SmK.nil 0).sm (by omega)
theorem sm1 (x : Fl) (h : x.ws.length ≤ 1000 ∧ ∀ t ∈ x.ws, okI t.id) : SmF [x] := SmK.sm (m := 1000) ⟨by simp, fun y hy => by
    have h1 : y = x := by simpa using hy
    rw [h1]
    exact h⟩ (Nat.le_refl _)
theorem sX (x : Fl) (h : x.ws = [⟨1, 0⟩] ∨ x.ws = [⟨1, 0⟩, ⟨2, 0⟩] ∨ x.ws = [⟨1, 2⟩, ⟨2, 0⟩] ∨ x.ws = [⟨1, 2⟩]) : SmF [x] := by
  refine sm1 x ?_
  rcases h with h | h | h | h <;> rw [h] <;> refine ⟨by decide, fun t ht => ?_⟩ <;> simp at ht
  · subst ht; exact ⟨by decide, by decide⟩
  · rcases ht with rfl | rfl <;> exact ⟨by decide, by decide⟩
  · rcases ht with rfl | rfl <;> exact ⟨by decide, by decide⟩
  · subst ht; exact ⟨by decide, by decide⟩
end Go.Proofs.Ytipjhokhflokmaa
