/- Words on predicates handed to the library; what an index of the first is. -/
import Derived.Test.YtipjhokhflokmaaK
set_option linter.unusedVariables false
namespace Go.Proofs.Ytipjhokhflokmaa
open Go.RowKit
theorem w64 {x : Int} (h0 : -9223372036854775808 ≤ x) (h1 : x ≤ 9223372036854775807) : wrap64 x = x := by unfold wrap64; omega
theorem ret_int {k : IntKind} {a b : Int} (h : a = b) : Ending.returned (.int k a) = .returned (.int k b) := by rw [h]
theorem ret_bool {a b : Bool} (h : a = b) : Ending.returned (.bool a) = .returned (.bool b) := by rw [h]

def PredB (P : Program) (g : Nat) (lb : Array Value) {α : Type} (enc : α → Value) (p : α → Bool) (w : World) : Prop :=
  ∀ (W : World) (x : α), Below w.heap.size w W → Calls P g (#[enc x] ++ lb) W fun e w' => e = .returned (.bool (p x)) ∧ Below W.heap.size W w'

def IdxIs {α : Type} (p : α → Bool) (xs : List α) (r : Int) : Prop :=
  (r = -1 ∧ ∀ (j : Nat) x, xs[j]? = some x → p x = false) ∨ ∃ (k : Nat) (y : α), r = k ∧ xs[k]? = some y ∧ p y = true ∧ ∀ (j : Nat) x, j < k → xs[j]? = some x → p x = false
theorem IdxIs.any {α : Type} {p : α → Bool} {xs : List α} {r : Int} (h : IdxIs p xs r) : decide (0 ≤ r) = xs.any p := by
  rcases h with ⟨rfl, h⟩ | ⟨k, y, rfl, hy, hp, _⟩
  · symm
    rw [List.any_eq_false.2 (fun x hx => by
      obtain ⟨j, hj, he⟩ := List.mem_iff_getElem.1 hx
      rw [h j x (by rw [List.getElem?_eq_getElem hj, he])]
      simp)]
    rfl
  · symm
    rw [List.any_eq_true.2 ⟨y, List.mem_of_getElem? hy, hp⟩]
    simp
end Go.Proofs.Ytipjhokhflokmaa
