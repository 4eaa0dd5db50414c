/- Plain lists: lists without repeats, inside one another. -/
import Derived.Test.YteaifndkmknanaaK
set_option linter.unusedVariables false
namespace Go.Proofs.Yteaifndkmknanaa
theorem len_le {α : Type} [DecidableEq α] : ∀ (l m : List α), l.Nodup → (∀ x ∈ l, x ∈ m) → l.length ≤ m.length
  | [], _, _, _ => Nat.zero_le _
  | x :: r, m, hl, h => by
    rw [List.nodup_cons] at hl
    have hx := h x (by simp)
    have := len_le r (m.erase x) hl.2 (fun y hy => (List.mem_erase_of_ne (show y ≠ x from by rintro rfl; exact hl.1 hy)).2 (h y (by simp [hy])))
    have h2 := List.length_erase_of_mem hx
    have h3 := List.length_pos_of_mem hx
    rw [List.length_cons]
    omega
theorem sub_of_len {α : Type} [DecidableEq α] {l m : List α} (hl : l.Nodup) (h : ∀ x ∈ l, x ∈ m) (hlen : m.length ≤ l.length) : ∀ x ∈ m, x ∈ l := by
  intro x hx
  rcases Decidable.em (x ∈ l) with hxl | hxl
  · exact hxl
  · have := len_le l (m.erase x) hl (fun y hy => (List.mem_erase_of_ne (show y ≠ x from by rintro rfl; exact hxl hy)).2 (h y hy))
    have h2 := List.length_erase_of_mem hx
    have h3 := List.length_pos_of_mem hx
    omega
theorem nodup_map_cast (l : List Nat) (h : l.Nodup) : (l.map (fun i : Nat => (i : Int))).Nodup := by
  induction l with
  | nil => simp
  | cons x r ih =>
    rw [List.nodup_cons] at h
    rw [List.map_cons, List.nodup_cons]
    refine ⟨fun hm => ?_, ih h.2⟩
    obtain ⟨y, hy, he⟩ := List.mem_map.1 hm
    have : y = x := by omega
    exact h.1 (this ▸ hy)
/-- how many are false -/
def idle (bs : List Bool) : Nat := (bs.filter (fun b => !b)).length
theorem idle_snoc (bs : List Bool) (b : Bool) : idle (bs ++ [b]) = idle bs + if b = true then 0 else 1 := by cases b <;> simp [idle]
theorem idle_le (bs : List Bool) : idle bs ≤ bs.length := List.length_filter_le _ _
/-- the places that are false -/
def idles (bs : List Bool) : List Int := ((List.range bs.length).filter (fun i : Nat => !bs.getD i false)).map (fun i : Nat => (i : Int))
theorem idles_nodup (bs : List Bool) : (idles bs).Nodup := nodup_map_cast _ (List.Pairwise.filter _ List.nodup_range)
theorem mem_idles (bs : List Bool) (x : Int) : x ∈ idles bs ↔ 0 ≤ x ∧ x < bs.length ∧ bs.getD x.toNat false = false := by
  unfold idles
  constructor
  · intro h
    obtain ⟨i, hi, rfl⟩ := List.mem_map.1 h
    rw [List.mem_filter, List.mem_range] at hi
    refine ⟨by omega, by omega, ?_⟩
    simpa using hi.2
  · rintro ⟨h0, h1, h2⟩
    refine List.mem_map.2 ⟨x.toNat, ?_, by omega⟩
    rw [List.mem_filter, List.mem_range]
    exact ⟨by omega, by rw [h2]; rfl⟩
theorem idles_len (bs : List Bool) : (idles bs).length = idle bs := by
  unfold idles
  rw [List.length_map]
  have key : ∀ n, n ≤ bs.length → ((List.range n).filter (fun i : Nat => !bs.getD i false)).length = idle (bs.take n) := by
    intro n
    induction n with
    | zero => intro _; simp [idle]
    | succ n ih =>
      intro hn
      have hl : n < bs.length := by omega
      rw [List.range_succ, List.filter_append, List.length_append, ih (by omega), List.take_succ_eq_append_getElem hl, idle_snoc]
      have hg : bs.getD n false = bs[n] := by simp [hl]
      rw [List.filter_cons, hg]
      cases bs[n] <;> simp
  have := key bs.length (Nat.le_refl _)
  rw [List.take_length] at this
  exact this
end Go.Proofs.Yteaifndkmknanaa
