/- Backends: what they are; contracts of pool.right. -/
import Derived.Test.YtjomenldmojnjaaM
import Derived.Test.YtjomenldmojnjaaP
set_option linter.unusedVariables false
set_option linter.unusedSimpArgs false
namespace Go.Proofs.Ytjomenldmojnjaa
open Go.RowKit
open Go.Proofs.YtjomenldmojnjaaW.PrintWords

structure Bk where
  o : Int
  r : Int
  i : Int
  f : Int
deriving DecidableEq
def enc (b : Bk) : List Value := [.int .i64 b.o, .int .i64 b.r, .int .i64 b.i, .int .i64 b.f]
theorem encL : ∀ b, (enc b).length = 4 := fun _ => rfl
theorem enc1 : ∀ b, ∀ u ∈ enc b, u.oneCell' = true := by
  intro b u hu
  simp [enc] at hu
  rcases hu with rfl | rfl | rfl | rfl <;> rfl
def Bk.v (b : Bk) : Value := .agg #[.int .i64 b.o, .int .i64 b.r, .int .i64 b.i, .int .i64 b.f]
def inB (n lo hi : Int) : Bool := decide (lo ≤ n) && decide (n ≤ hi)
def Okb (b : Bk) : Prop := (1 ≤ b.r ∧ b.r ≤ 8) ∧ (0 ≤ b.o ∧ b.o ≤ b.r) ∧ (0 ≤ b.i ∧ b.i ≤ b.r - b.o) ∧ (0 ≤ b.f ∧ b.f ≤ 5)
instance (b : Bk) : Decidable (Okb b) := by unfold Okb; exact inferInstance
def okB (b : Bk) : Bool := decide (Okb b)

theorem in_any (n lo hi : Int) (w : World) (lb : Array Value) : Calls Try.prog 36 #[.int .i64 n, .int .i64 lo, .int .i64 hi] w fun e w' => e = .returned (.bool (inB n lo hi)) ∧ w' = w := by
  by_cases h0 : lo ≤ n
  · by_cases h1 : n ≤ hi
    · have HF := Lib.hid (show inB n lo hi = true by simp [inB, h0, h1])
      go_enter Try.func36, Try.ntmps36
      go_wp2_with fail
      go_ret
      exact ⟨ret_bool HF.out.symm, rfl⟩
    · have HF := Lib.hid (show inB n lo hi = false by simp [inB, h1])
      go_enter Try.func36, Try.ntmps36
      go_wp2_with fail
      go_ret
      exact ⟨ret_bool HF.out.symm, rfl⟩
  · have HF := Lib.hid (show inB n lo hi = false by simp [inB, h0])
    go_enter Try.func36, Try.ntmps36
    go_wp2_with fail
    go_ret
    exact ⟨ret_bool HF.out.symm, rfl⟩

theorem inB_iff {n lo hi : Int} : inB n lo hi = true ↔ lo ≤ n ∧ n ≤ hi := by simp [inB]
theorem inB_no {n lo hi : Int} (h : inB n lo hi = false) : ¬ (lo ≤ n ∧ n ≤ hi) := by rw [← inB_iff, h]; simp
theorem okB_no {b : Bk} (h : ¬ Okb b) : okB b = false := by simp [okB, h]
theorem okB_yes {b : Bk} (h : Okb b) : okB b = true := by simp [okB, h]
theorem okB_iff {b : Bk} : okB b = true ↔ Okb b := by simp [okB]
set_option maxHeartbeats 2000000 in
theorem right1_any (b : Bk) (w : World) : Calls Try.prog 30 #[b.v] w fun e w' => e = .returned (.bool (okB b)) ∧ Below w.heap.size w w' := by
  obtain ⟨o, r, i, f⟩ := b
  unfold Bk.v
  simp only
  cases q1 : inB r 1 8 with
  | false =>
    have HF := Lib.hid (okB_no (b := ⟨o, r, i, f⟩) fun h => inB_no q1 h.1)
    go_enter Try.func30, Try.ntmps30
    go_wp2_with (go_at_call 36; refine (in_any _ _ _ _ #[]).mono ?_; rintro e w9 ⟨rfl, hw9⟩; subst w9)
    go_ret
    exact ⟨ret_bool HF.out.symm, (Below.refl _ _).alloc (Nat.le_refl _) _⟩
  | true =>
    cases q2 : inB o 0 r with
    | false =>
      have HF := Lib.hid (okB_no (b := ⟨o, r, i, f⟩) fun h => inB_no q2 h.2.1)
      go_enter Try.func30, Try.ntmps30
      go_wp2_with (go_at_call 36; refine (in_any _ _ _ _ #[]).mono ?_; rintro e w9 ⟨rfl, hw9⟩; subst w9)
      go_ret
      exact ⟨ret_bool HF.out.symm, (Below.refl _ _).alloc (Nat.le_refl _) _⟩
    | true =>
      obtain ⟨a1, a2⟩ := inB_iff.1 q1
      obtain ⟨a3, a4⟩ := inB_iff.1 q2
      have hA : IntKind.i64.wrap (r - o) = r - o := by rw [IntKind.wrap_i64]; omega
      have HR := Lib.hid (show (1 ≤ r ∧ r ≤ 8) ∧ 0 ≤ o ∧ o ≤ r from ⟨⟨a1, a2⟩, a3, a4⟩)
      clear a1 a2 a3 a4
      cases q3 : inB i 0 (r - o) with
      | false =>
        have HF := Lib.hid (okB_no (b := ⟨o, r, i, f⟩) fun h => inB_no q3 h.2.2.1)
        go_enter Try.func30, Try.ntmps30
        go_wp2_with (go_at_call 36; refine (in_any _ _ _ _ #[]).mono ?_; rintro e w9 ⟨rfl, hw9⟩; subst w9)
        go_ret
        exact ⟨ret_bool HF.out.symm, (Below.refl _ _).alloc (Nat.le_refl _) _⟩
      | true =>
        cases q4 : inB f 0 5 with
        | false =>
          have HF := Lib.hid (okB_no (b := ⟨o, r, i, f⟩) fun h => inB_no q4 h.2.2.2)
          go_enter Try.func30, Try.ntmps30
          go_wp2_with (go_at_call 36; refine (in_any _ _ _ _ #[]).mono ?_; rintro e w9 ⟨rfl, hw9⟩; subst w9)
          go_ret
          exact ⟨ret_bool HF.out.symm, (Below.refl _ _).alloc (Nat.le_refl _) _⟩
        | true =>
          have HF := Lib.hid (okB_yes (b := ⟨o, r, i, f⟩) ⟨HR.out.1, HR.out.2, inB_iff.1 q3, inB_iff.1 q4⟩)
          go_enter Try.func30, Try.ntmps30
          go_wp2_with (go_at_call 36; refine (in_any _ _ _ _ #[]).mono ?_; rintro e w9 ⟨rfl, hw9⟩; subst w9)
          go_ret
          exact ⟨ret_bool HF.out.symm, (Below.refl _ _).alloc (Nat.le_refl _) _⟩
theorem right2_any (b : Bk) (w : World) : Calls Try.prog 29 #[b.v] w fun e w' => e = .returned (.bool (!okB b)) ∧ Below w.heap.size w w' := by
  have HC := Lib.hid (fun w => right1_any b w)
  obtain ⟨o, r, i, f⟩ := b
  unfold Bk.v at HC ⊢
  simp only at HC ⊢
  have hb0 : Below w.heap.size w (w.alloc (.cells #[.int .i64 o, .int .i64 r, .int .i64 i, .int .i64 f] 32)) := (Below.refl _ _).alloc (Nat.le_refl _) _
  go_enter Try.func29, Try.ntmps29
  go_wp2_with (go_at_call 30; refine (HC.out _).mono ?_; rintro e w9 ⟨rfl, hb⟩)
  go_ret
  exact ⟨rfl, hb0.trans (hb.mono hb0.size)⟩
end Go.Proofs.Ytjomenldmojnjaa
