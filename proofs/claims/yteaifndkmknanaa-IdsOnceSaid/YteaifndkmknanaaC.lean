/- Contracts of slices.Clone at []int and []bool. -/
import Derived.Test.YteaifndkmknanaaK
set_option linter.unusedVariables false
namespace Go.Proofs.Yteaifndkmknanaa
open Go.RowKit
open Go.Proofs.YteaifndkmknanaaW.PrintWords

theorem Try.info3 : (Try.prog.info? 3).map (fun i => (i.zero, i.size, i.bytes)) = some (some (.int .i64 0), 1, 8) := by kernel_rfl
theorem Try.info4 : (Try.prog.info? 4).map (fun i => (i.zero, i.size, i.bytes)) = some (some (.bool false), 1, 1) := by kernel_rfl

set_option maxHeartbeats 400000 in
theorem clone_ints (w : World) (v : Value) (xs : List Int) (hr : Rd w v (ints xs)) (hl : xs.length ≤ 1000) :
    Calls Try.prog 28 #[v] w fun e w' => ∃ A n c, e = .returned (.slice A n c) ∧ Ow 3 w' w.heap.size (.slice A n c) (ints xs) ∧ Below w.heap.size w w' := by
  have hr0 := Lib.hid hr
  obtain ⟨A, c, rfl, hc, hm, hrr⟩ := hr
  have qT : ∀ (w : World) (a : Option Addr) (n c n' c' : Nat), (binOp .eql 22 (.slice a n c) (.slice none n' c')).run Try.prog w = .ok (.bool a.isNone) w := fun w a n c n' c' => Lib.run_eql_slice_nil w _ _ a n c n' c' Try.underlying22
  cases A with
  | none =>
    have h0 : (ints xs).length = 0 := by
      rcases Nat.eq_zero_or_pos (ints xs).length with h | h
      · exact h
      · obtain ⟨b, off, h, _⟩ := hrr h; cases h
    have H0 := Lib.hid h0
    clear h0 hrr
    go_enter Try.func28, Try.ntmps28
    go_wp2
    go_ret
    refine ⟨_, _, _, rfl, ?_, Below.refl _ _⟩
    have : ints xs = [] := List.eq_nil_of_length_eq_zero H0.out
    rw [this]
    exact Ow.nil _ _ _
  | some ad =>
    clear hrr
    go_enter Try.func28, Try.ntmps28
    go_wp2_with (at_builtin; refine wp_app w.heap.size rfl _ _ 22 3 (.int .i64 0) 8 rfl Try.underlying22 Try.info3 rfl (by omega) _ _ [] (ints xs) rfl rfl ?c1 ?c2 (ints_one xs) ?c3 ?c4 ?c5)
    case c1 => exact ⟨rfl, .inl ⟨rfl, _, rfl, fun a ha => by cases ha; exact ⟨Nat.le_refl _, #[], heap_alloc_new _ _⟩⟩⟩
    case c2 => exact hr0.out.below ((Below.refl _ _).alloc (Nat.le_refl _) _)
    case c3 => rw [ints_len]; simp; omega
    case c4 => simp
    case c5 =>
      intro v1 w1 h1 hg hat
      obtain ⟨A1, c1, rfl, _⟩ := h1.slice
      go_wp2
      go_ret
      refine ⟨_, _, _, rfl, h1, ?_⟩
      exact ((Below.refl _ _).alloc (Nat.le_refl _) _).grown hg (by simp) (fun k hk => by simp [Value.ownBlock] at hk; omega)
set_option maxHeartbeats 400000 in
theorem clone_bls (w : World) (v : Value) (xs : List Bool) (hr : Rd w v (bls xs)) (hl : xs.length ≤ 1000) :
    Calls Try.prog 29 #[v] w fun e w' => ∃ A n c, e = .returned (.slice A n c) ∧ Ow 4 w' w.heap.size (.slice A n c) (bls xs) ∧ Below w.heap.size w w' := by
  have hr0 := Lib.hid hr
  obtain ⟨A, c, rfl, hc, hm, hrr⟩ := hr
  have qT : ∀ (w : World) (a : Option Addr) (n c n' c' : Nat), (binOp .eql 23 (.slice a n c) (.slice none n' c')).run Try.prog w = .ok (.bool a.isNone) w := fun w a n c n' c' => Lib.run_eql_slice_nil w _ _ a n c n' c' Try.underlying23
  cases A with
  | none =>
    have h0 : (bls xs).length = 0 := by
      rcases Nat.eq_zero_or_pos (bls xs).length with h | h
      · exact h
      · obtain ⟨b, off, h, _⟩ := hrr h; cases h
    have H0 := Lib.hid h0
    clear h0 hrr
    go_enter Try.func29, Try.ntmps29
    go_wp2
    go_ret
    refine ⟨_, _, _, rfl, ?_, Below.refl _ _⟩
    have : bls xs = [] := List.eq_nil_of_length_eq_zero H0.out
    rw [this]
    exact Ow.nil _ _ _
  | some ad =>
    clear hrr
    go_enter Try.func29, Try.ntmps29
    go_wp2_with (at_builtin; refine wp_app w.heap.size rfl _ _ 23 4 (.bool false) 1 rfl Try.underlying23 Try.info4 rfl (by omega) _ _ [] (bls xs) rfl rfl ?c1 ?c2 (bls_one xs) ?c3 ?c4 ?c5)
    case c1 => exact ⟨rfl, .inl ⟨rfl, _, rfl, fun a ha => by cases ha; exact ⟨Nat.le_refl _, #[], heap_alloc_new _ _⟩⟩⟩
    case c2 => exact hr0.out.below ((Below.refl _ _).alloc (Nat.le_refl _) _)
    case c3 => rw [bls_len]; simp; omega
    case c4 => simp
    case c5 =>
      intro v1 w1 h1 hg hat
      obtain ⟨A1, c1, rfl, _⟩ := h1.slice
      go_wp2
      go_ret
      refine ⟨_, _, _, rfl, h1, ?_⟩
      exact ((Below.refl _ _).alloc (Nat.le_refl _) _).grown hg (by simp) (fun k hk => by simp [Value.ownBlock] at hk; omega)
end Go.Proofs.Yteaifndkmknanaa
