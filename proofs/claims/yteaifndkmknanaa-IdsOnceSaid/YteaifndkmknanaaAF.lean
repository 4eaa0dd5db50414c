/- What Made does, as plain lists. -/
import Derived.Test.YteaifndkmknanaaAA
set_option linter.unusedVariables false
set_option linter.unusedSimpArgs false
namespace Go.Proofs.Yteaifndkmknanaa

theorem takeS_len (t : Tab) : (takeS t).1.gens.length = t.gens.length ∧ (takeS t).1.busy.length = t.busy.length ∧ (takeS t).1.free.length ≤ t.free.length := by
  unfold takeS
  split
  · cases hf : t.free with
    | nil => simp [hf]
    | cons k r => simp
  · simp
theorem takeS_id (t : Tab) : 0 ≤ (takeS t).2.1 ∧ (takeS t).2.1 ≤ 1152921504606846976 := by
  unfold takeS
  split
  · rename_i hp
    cases hf : t.free with
    | nil => simp
    | cons k r =>
      have hk := hp.h5 k (by simp [hf])
      simp only [freeOk, Bool.and_eq_true, decide_eq_true_eq] at hk
      obtain ⟨⟨h0, h1⟩, _⟩ := hk
      have hlt : k.toNat < t.gens.length := by omega
      have hg := hp.gen hlt
      simp only [List.getD_eq_getElem?_getD, List.getElem?_eq_getElem hlt, Option.getD_some]
      generalize t.gens[k.toNat] = g at hg
      have h2 := hp.h2
      generalize t.gens.length = n at *
      have ha : 0 ≤ g * (n : Int) := Int.mul_nonneg hg.1 (by omega)
      have hb : g * (n : Int) ≤ 9007199254740992 * 64 := Int.mul_le_mul hg.2 (by omega) (by omega) (by omega)
      omega
  · simp
theorem giveS_len (t : Tab) (id : Int) : (giveS t id).1.gens.length = t.gens.length ∧ (giveS t id).1.busy.length = t.busy.length ∧ (giveS t id).1.free.length ≤ t.free.length + 1 := by
  unfold giveS
  split
  · split
    · split <;> simp
    · simp
  · simp

noncomputable def stepM (s : Tab × List Int) (b : Nat) : Tab × List Int :=
  if 0 < b % 3 then ((takeS s.1).1, if (takeS s.1).2.2 = 0 then s.2 ++ [(takeS s.1).2.1] else s.2)
  else if 0 < s.2.length then ((giveS s.1 (s.2.getD (b / 3 % s.2.length) 0)).1, s.2.take (b / 3 % s.2.length) ++ s.2.drop (b / 3 % s.2.length + 1))
  else s
noncomputable def madeS (room : Nat) (l : List Nat) : Tab × List Int := (l.take 60).foldl stepM (newS (1 + (room % 8 : Nat)), [])

structure OkM (k : Nat) (s : Tab × List Int) : Prop where
  g : s.1.gens.length ≤ 64
  b : s.1.busy.length ≤ 64
  f : s.1.free.length ≤ 64 + k
  i : s.2.length ≤ k
  id : ∀ x ∈ s.2, 0 ≤ x ∧ x ≤ 1152921504606846976
theorem OkM.small {k : Nat} {s : Tab × List Int} (h : OkM k s) (hk : k ≤ 900) : s.1.small := ⟨by have := h.g; omega, by have := h.b; omega, by have := h.f; omega⟩
theorem OkM.start (room : Nat) : OkM 0 (newS (1 + (room % 8 : Nat)), []) := by
  have h : newS (1 + (room % 8 : Nat)) = made (1 + room % 8) := by
    unfold newS
    rw [if_neg (by omega)]
    congr 1
  rw [h]
  exact ⟨by simp [made]; omega, by simp [made]; omega, by simp [made]; omega, by simp, by simp⟩
theorem OkM.step {k : Nat} {s : Tab × List Int} (h : OkM k s) (b : Nat) : OkM (k + 1) (stepM s b) := by
  obtain ⟨h1, h2, h3, h4, h5⟩ := h
  unfold stepM
  split
  · have hl := takeS_len s.1
    have hi := takeS_id s.1
    refine ⟨by simp; omega, by simp; omega, by simp; omega, ?_, ?_⟩
    · simp only
      split
      · simp; omega
      · omega
    · simp only
      split
      · intro x hx
        rcases List.mem_append.1 hx with hx | hx
        · exact h5 x hx
        · simp at hx; rw [hx]; exact hi
      · exact h5
  · split
    · have hl := giveS_len s.1 (s.2.getD (b / 3 % s.2.length) 0)
      refine ⟨Nat.le_trans (Nat.le_of_eq hl.1) h1, Nat.le_trans (Nat.le_of_eq hl.2.1) h2, Nat.le_trans hl.2.2 (by omega), ?_, ?_⟩
      · simp; omega
      · intro x hx
        rcases List.mem_append.1 hx with hx | hx
        · exact h5 x (List.mem_of_mem_take hx)
        · exact h5 x (List.mem_of_mem_drop hx)
    · exact ⟨h1, h2, by omega, by omega, h5⟩
theorem OkM.run (l : List Nat) : ∀ {k : Nat} {s : Tab × List Int}, OkM k s → OkM (k + l.length) (l.foldl stepM s) := by
  induction l with
  | nil => intro k s h; exact h
  | cons b r ih =>
    intro k s h
    have := ih (h.step b)
    simp only [List.length_cons, List.foldl_cons]
    rwa [show k + (r.length + 1) = k + 1 + r.length by omega]
theorem run_take_succ {l : List Nat} {k : Nat} (hk : k < l.length) (s : Tab × List Int) : (l.take (k + 1)).foldl stepM s = stepM ((l.take k).foldl stepM s) l[k] := by
  rw [List.take_succ_eq_append_getElem hk, List.foldl_append]
  rfl
end Go.Proofs.Yteaifndkmknanaa
