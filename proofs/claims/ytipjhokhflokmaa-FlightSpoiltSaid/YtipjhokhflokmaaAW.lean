/- What lockagelaw18.Made does, plain. -/
import Derived.Test.YtipjhokhflokmaaAT
import Derived.Test.YtipjhokhflokmaaLU
set_option linter.unusedVariables false
set_option linter.unusedSimpArgs false
namespace Go.Proofs.Ytipjhokhflokmaa
open Go.RowKit

structure MS where
  next : Int
  fs : List Fl
def hexS : List UInt8 := [48, 49, 50, 51, 52, 53, 54, 55, 56, 57, 97, 98, 99, 100, 101, 102]
def idM (next : Int) (k : Nat) : Int := max 0 (next - 1 - (k % 4 : Nat))
def keyM (k : Nat) : List UInt8 := if k % 2 = 0 then [97] else [98]
noncomputable def stepM (room : Int) (s : MS) (i b : Nat) : MS :=
  if b % 8 ≤ 2 then ⟨(joinOp room s.next s.fs (keyM (b / 8)) ((i % 14 : Nat) : Int) (decide (0 < b / 8 % 5))).next, (joinOp room s.next s.fs (keyM (b / 8)) ((i % 14 : Nat) : Int) (decide (0 < b / 8 % 5))).fs⟩
  else if b % 8 ≤ 4 then ⟨s.next, (feedOp room s.next s.fs (idM s.next (b / 8)) (hexS.take (b / 8 % 17))).1⟩
  else if b % 8 = 5 then ⟨s.next, (takeOp room s.next s.fs ((b / 8 % 14 : Nat) : Int) ((b / 8 % 7 : Nat) : Int)).1⟩
  else if b % 8 = 6 then ⟨s.next, (leaveOp room s.next s.fs ((b / 8 % 14 : Nat) : Int)).1⟩
  else if b / 8 % 3 = 0 then ⟨s.next, (endOp room s.next s.fs (idM s.next (b / 8))).1⟩
  else if b / 8 % 3 = 1 then ⟨s.next, (failOp room s.next s.fs (idM s.next (b / 8)) 3).1⟩
  else ⟨s.next, (takeOp room s.next s.fs ((b / 8 % 14 : Nat) : Int) 50).1⟩
noncomputable def madeK (room : Int) (l : List Nat) : Nat → MS
  | 0 => ⟨0, []⟩
  | i + 1 => stepM room (madeK room l i) i (l[i]?.getD 0)
noncomputable def madeS (room : Int) (l : List Nat) : MS := madeK room l (min l.length 60)
structure OkM (k : Nat) (s : MS) : Prop where
  n : 0 ≤ s.next ∧ s.next ≤ k
  f : SmK k s.fs
theorem joinOp_next (room next : Int) (fs : List Fl) (key : List UInt8) (wt : Int) (share : Bool) : (joinOp room next fs key wt share).next = next ∨ (joinOp room next fs key wt share).next = next + 1 := by
  unfold joinOp
  split
  · exact .inl rfl
  · split
    · exact .inl rfl
    · split
      · split
        · exact .inl rfl
        · split
          · exact .inl rfl
          · exact .inr rfl
      · split
        · exact .inl rfl
        · exact .inl rfl
theorem okI_nat {x : Nat} (h : x ≤ 1000) : okI (x : Int) := by unfold okI; omega
theorem OkM.step {k : Nat} {s : MS} (h : OkM k s) (room : Int) (i b : Nat) : OkM (k + 1) (stepM room s i b) := by
  obtain ⟨⟨h0, h1⟩, h2⟩ := h
  have hu := h2.up (Nat.le_succ k)
  have hn : 0 ≤ s.next ∧ s.next ≤ ((k + 1 : Nat) : Int) := ⟨h0, by omega⟩
  unfold stepM
  split
  · refine ⟨?_, h2.join _ _ _ _ _ (okI_nat (by omega))⟩
    rcases joinOp_next room s.next s.fs (keyM (b / 8)) ((i % 14 : Nat) : Int) (decide (0 < b / 8 % 5)) with h | h <;> (simp only; rw [h]; omega)
  · split
    · exact ⟨hn, hu.feed _ _ _ _⟩
    · split
      · exact ⟨hn, hu.take _ _ _ _⟩
      · split
        · exact ⟨hn, hu.leave _ _ _⟩
        · split
          · exact ⟨hn, hu.end_ _ _ _⟩
          · split
            · exact ⟨hn, hu.fail _ _ _ _⟩
            · exact ⟨hn, hu.take _ _ _ _⟩
theorem madeK_ok (room : Int) (l : List Nat) : ∀ k, OkM k (madeK room l k)
  | 0 => ⟨⟨Int.le_refl _, Int.le_refl _⟩, SmK.nil 0⟩
  | k + 1 => (madeK_ok room l k).step room k _
theorem madeK_succ {room : Int} {l : List Nat} {k : Nat} {b : Nat} (h : l[k]? = some b) : madeK room l (k + 1) = stepM room (madeK room l k) k b := by
  show stepM room (madeK room l k) k (l[k]?.getD 0) = _
  rw [h]
  rfl
theorem madeS_ok (room : Int) (l : List Nat) : OkM 60 (madeS room l) := by
  have h := madeK_ok room l (min l.length 60)
  exact ⟨⟨h.n.1, by have := h.n.2; unfold madeS; omega⟩, h.f.up (Nat.min_le_right _ _)⟩
section
variable {room : Int} {s : MS} {i b k : Nat}
theorem stepM_join (h : b % 8 ≤ 2) (hk : b / 8 = k) : stepM room s i b = ⟨(joinOp room s.next s.fs (keyM k) ((i % 14 : Nat) : Int) (decide (0 < k % 5))).next, (joinOp room s.next s.fs (keyM k) ((i % 14 : Nat) : Int) (decide (0 < k % 5))).fs⟩ := by
  subst hk; exact if_pos h
theorem stepM_feed (h : b % 8 = 3 ∨ b % 8 = 4) (hk : b / 8 = k) : stepM room s i b = ⟨s.next, (feedOp room s.next s.fs (idM s.next k) (hexS.take (k % 17))).1⟩ := by
  subst hk; exact (if_neg (by omega)).trans (if_pos (by omega))
theorem stepM_take (h : b % 8 = 5) (hk : b / 8 = k) : stepM room s i b = ⟨s.next, (takeOp room s.next s.fs ((k % 14 : Nat) : Int) ((k % 7 : Nat) : Int)).1⟩ := by
  subst hk; exact (if_neg (by omega)).trans ((if_neg (by omega)).trans (if_pos h))
theorem stepM_leave (h : b % 8 = 6) (hk : b / 8 = k) : stepM room s i b = ⟨s.next, (leaveOp room s.next s.fs ((k % 14 : Nat) : Int)).1⟩ := by
  subst hk; exact (if_neg (by omega)).trans ((if_neg (by omega)).trans ((if_neg (by omega)).trans (if_pos h)))
theorem stepM_end (h : b % 8 = 7) (hk : b / 8 = k) (h3 : k % 3 = 0) : stepM room s i b = ⟨s.next, (endOp room s.next s.fs (idM s.next k)).1⟩ := by
  subst hk; exact (if_neg (by omega)).trans ((if_neg (by omega)).trans ((if_neg (by omega)).trans ((if_neg (by omega)).trans (if_pos h3))))
theorem stepM_fail (h : b % 8 = 7) (hk : b / 8 = k) (h3 : k % 3 = 1) : stepM room s i b = ⟨s.next, (failOp room s.next s.fs (idM s.next k) 3).1⟩ := by
  subst hk; exact (if_neg (by omega)).trans ((if_neg (by omega)).trans ((if_neg (by omega)).trans ((if_neg (by omega)).trans ((if_neg (by omega)).trans (if_pos h3)))))
theorem stepM_t50 (h : b % 8 = 7) (hk : b / 8 = k) (h3 : k % 3 = 2) : stepM room s i b = ⟨s.next, (takeOp room s.next s.fs ((k % 14 : Nat) : Int) 50).1⟩ := by
  subst hk; exact (if_neg (by omega)).trans ((if_neg (by omega)).trans ((if_neg (by omega)).trans ((if_neg (by omega)).trans ((if_neg (by omega)).trans (if_neg (by omega))))))
end
/-- the remainders, by cases -/
theorem rem8 (b : Nat) : b % 8 = 0 ∨ b % 8 = 1 ∨ b % 8 = 2 ∨ b % 8 = 3 ∨ b % 8 = 4 ∨ b % 8 = 5 ∨ b % 8 = 6 ∨ b % 8 = 7 := by omega
theorem rem3 (b : Nat) : b % 3 = 0 ∨ b % 3 = 1 ∨ b % 3 = 2 := by omega
theorem rem2 (b : Nat) : b % 2 = 0 ∨ b % 2 = 1 := by omega
theorem tm8 {b r : Nat} (h : b % 8 = r) : (b : Int) % 8 = (r : Int) := by omega
theorem tmodM {k q r : Nat} (h : k % q = r) : (k : Int).tmod (q : Int) = (r : Int) := by rw [Int.tmod_eq_emod_of_nonneg (by omega), ← h]; rfl
theorem tdiv8 {b k : Nat} (h : b / 8 = k) : (b : Int).tdiv 8 = (k : Int) := by rw [Int.tdiv_eq_ediv_of_nonneg (by omega)]; omega
theorem wrapM {x : Int} (h0 : -1000000 ≤ x) (h : x ≤ 1000000) : IntKind.i64.wrap x = x := by rw [IntKind.wrap_i64]; omega
end Go.Proofs.Ytipjhokhflokmaa
