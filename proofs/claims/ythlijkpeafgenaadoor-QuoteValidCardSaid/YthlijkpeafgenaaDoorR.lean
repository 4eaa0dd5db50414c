/- utf8.ValidString at this dump, and quote.Valid: is a text characters? -/
import Derived.Test.YthlijkpeafgenaaDoorO
import Derived.Shelf.Unicode.ValidAny
set_option linter.unusedVariables false
set_option linter.unusedSimpArgs false
namespace Go.Proofs
open Go.Shelf
def Tryd.lays196_ren : Go.Shelf.Ren := ⟨fun | 196 => 15 | 259 => 23 | n => n, fun | 0 => 0 | 3 => 3 | 4 => 4 | 5 => 5 | 9 => 9 | 12 => 12 | 46 => 57 | 53 => 73 | 119 => 53 | 138 => 55 | 139 => 56 | n => n, fun | 3 => 0 | 4 => 1 | n => n⟩
theorem Tryd.lays196 : Go.Proofs.Lays.n196 Tryd.prog Tryd.lays196_ren := {
  mixed := by kernel_rfl
  f196 := Tryd.func15.trans (congrArg some (by kernel_rfl))
  f259 := Tryd.func23.trans (congrArg some (by kernel_rfl))
  t0 := by first | exact Tryd.underlying0 | kernel_rfl | (intro w; kernel_rfl)
  a0 := by first | exact Tryd.isAgg0 | kernel_rfl | (intro w; kernel_rfl)
  z0 := by first | exact Tryd.sizeOf0 | kernel_rfl | (intro w; kernel_rfl)
  v0 := by first | exact Tryd.zeroValue0 | kernel_rfl | (intro w; kernel_rfl)
  t3 := by first | exact Tryd.underlying3 | kernel_rfl | (intro w; kernel_rfl)
  a3 := by first | exact Tryd.isAgg3 | kernel_rfl | (intro w; kernel_rfl)
  z3 := by first | exact Tryd.sizeOf3 | kernel_rfl | (intro w; kernel_rfl)
  v3 := by first | exact Tryd.zeroValue3 | kernel_rfl | (intro w; kernel_rfl)
  t4 := by first | exact Tryd.underlying4 | kernel_rfl | (intro w; kernel_rfl)
  a4 := by first | exact Tryd.isAgg4 | kernel_rfl | (intro w; kernel_rfl)
  z4 := by first | exact Tryd.sizeOf4 | kernel_rfl | (intro w; kernel_rfl)
  v4 := by first | exact Tryd.zeroValue4 | kernel_rfl | (intro w; kernel_rfl)
  t5 := by first | exact Tryd.underlying5 | kernel_rfl | (intro w; kernel_rfl)
  a5 := by first | exact Tryd.isAgg5 | kernel_rfl | (intro w; kernel_rfl)
  z5 := by first | exact Tryd.sizeOf5 | kernel_rfl | (intro w; kernel_rfl)
  v5 := by first | exact Tryd.zeroValue5 | kernel_rfl | (intro w; kernel_rfl)
  t9 := by first | exact Tryd.underlying9 | kernel_rfl | (intro w; kernel_rfl)
  a9 := by first | exact Tryd.isAgg9 | kernel_rfl | (intro w; kernel_rfl)
  z9 := by first | exact Tryd.sizeOf9 | kernel_rfl | (intro w; kernel_rfl)
  v9 := by first | exact Tryd.zeroValue9 | kernel_rfl | (intro w; kernel_rfl)
  t12 := by first | exact Tryd.underlying12 | kernel_rfl | (intro w; kernel_rfl)
  a12 := by first | exact Tryd.isAgg12 | kernel_rfl | (intro w; kernel_rfl)
  z12 := by first | exact Tryd.sizeOf12 | kernel_rfl | (intro w; kernel_rfl)
  v12 := by first | exact Tryd.zeroValue12 | kernel_rfl | (intro w; kernel_rfl)
  t46 := by first | exact Tryd.underlying57 | kernel_rfl | (intro w; kernel_rfl)
  a46 := by first | exact Tryd.isAgg57 | kernel_rfl | (intro w; kernel_rfl)
  z46 := by first | exact Tryd.sizeOf57 | kernel_rfl | (intro w; kernel_rfl)
  v46 := by first | exact Tryd.zeroValue57 | kernel_rfl | (intro w; kernel_rfl)
  t53 := by first | exact Tryd.underlying73 | kernel_rfl | (intro w; kernel_rfl)
  a53 := by first | exact Tryd.isAgg73 | kernel_rfl | (intro w; kernel_rfl)
  z53 := by first | exact Tryd.sizeOf73 | kernel_rfl | (intro w; kernel_rfl)
  v53 := by first | exact Tryd.zeroValue73 | kernel_rfl | (intro w; kernel_rfl)
  t119 := by first | exact Tryd.underlying53 | kernel_rfl | (intro w; kernel_rfl)
  a119 := by first | exact Tryd.isAgg53 | kernel_rfl | (intro w; kernel_rfl)
  z119 := by first | exact Tryd.sizeOf53 | kernel_rfl | (intro w; kernel_rfl)
  t138 := by first | exact Tryd.underlying55 | kernel_rfl | (intro w; kernel_rfl)
  a138 := by first | exact Tryd.isAgg55 | kernel_rfl | (intro w; kernel_rfl)
  z138 := by first | exact Tryd.sizeOf55 | kernel_rfl | (intro w; kernel_rfl)
  v138 := by first | exact Tryd.zeroValue55 | kernel_rfl | (intro w; kernel_rfl)
  t139 := by first | exact Tryd.underlying56 | kernel_rfl | (intro w; kernel_rfl)
  a139 := by first | exact Tryd.isAgg56 | kernel_rfl | (intro w; kernel_rfl)
  z139 := by first | exact Tryd.sizeOf56 | kernel_rfl | (intro w; kernel_rfl)
  v139 := by first | exact Tryd.zeroValue56 | kernel_rfl | (intro w; kernel_rfl)
  g3 := by kernel_rfl
  g4 := by kernel_rfl }
end Go.Proofs
namespace Go.Proofs.YthlijkpeafgenaaDoor
open Go.RowKit Go.Lib

theorem decodeL_dec (l : List UInt8) : decodeL l = dec l := by
  have := decode_list l 0
  rw [List.drop_zero] at this
  exact this
theorem validD_eq : ∀ (n : Nat) (l : List UInt8), l.length ≤ n → validD l = validS l := by
  intro n
  induction n with
  | zero =>
    intro l h
    obtain rfl : l = [] := List.eq_nil_of_length_eq_zero (by omega)
    rfl
  | succ n ih =>
    intro l h
    by_cases hl : l = []
    · subst hl; rfl
    rw [validD_step l hl, decodeL_dec]
    obtain ⟨c, k, hd⟩ : ∃ c k, dec l = (c, k) := ⟨_, _, rfl⟩
    have hk : 1 ≤ k := by have := decodeL_width l; rw [decodeL_dec, hd] at this; exact this
    rw [validS_step hl hd, hd]
    simp only
    by_cases hb : c = 65533 ∧ k = 1
    · rw [if_pos hb, decide_eq_true (by rw [hb.1, hb.2])]
      rfl
    · rw [if_neg hb, decide_eq_false (by intro e; injection e with e1 e2; exact hb ⟨e1, e2⟩), ih (l.drop k) (by rw [List.length_drop]; omega)]
      rfl
theorem vs_any (l : List UInt8) (w : World) (hl : l.length ≤ 1000000000) (hT : Utf8Tabs 0 1 w) : Calls Tryd.prog 15 #[str l] w fun e w' => e = .returned (.bool (validS l)) ∧ Below w.heap.size w w' := by
  have h := Any.utf8_ValidString Tryd.lays196 ⟨l.toArray⟩ w (by rw [size_eq]; simp; omega) hT
  rw [validD_eq _ _ (Nat.le_refl _)] at h
  exact h
theorem valid_any (l : List UInt8) (w : World) (hl : l.length ≤ 1000000000) (hT : Utf8Tabs 0 1 w) : Calls Tryd.prog 8 #[str l] w fun e w' => e = .returned (.bool (validS l)) ∧ Below w.heap.size w w' := by
  have cV := vs_any l w hl hT
  generalize validS l = V at cV ⊢
  go_enter Tryd.func8, Tryd.ntmps8
  go_wp2_with (go_at_call 15; refine cV.mono ?_; rintro e w' ⟨rfl, hb⟩)
  go_ret
  exact ⟨rfl, hb⟩
end Go.Proofs.YthlijkpeafgenaaDoor
