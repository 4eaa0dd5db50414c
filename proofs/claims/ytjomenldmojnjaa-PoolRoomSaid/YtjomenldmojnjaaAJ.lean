/- The plain law of PoolRoom. -/
import Derived.Test.YtjomenldmojnjaaAB
set_option linter.unusedVariables false
set_option linter.unusedSimpArgs false
namespace Go.Proofs.Ytjomenldmojnjaa

theorem less_le (bs : List Bk) (m y : Nat) : oAt bs (less bs m y) ≤ oAt bs m ∧ oAt bs (less bs m y) ≤ oAt bs y := by
  unfold less
  split <;> omega
theorem fold_le (bs : List Bk) : ∀ (r : List Nat) (m : Nat), oAt bs (r.foldl (less bs) m) ≤ oAt bs m ∧ ∀ y ∈ r, oAt bs (r.foldl (less bs) m) ≤ oAt bs y
  | [], m => ⟨Int.le_refl _, by simp⟩
  | z :: r, m => by
    obtain ⟨h1, h2⟩ := fold_le bs r (less bs m z)
    obtain ⟨h3, h4⟩ := less_le bs m z
    rw [List.foldl_cons]
    refine ⟨by omega, fun y hy => ?_⟩
    rcases List.mem_cons.1 hy with rfl | hy
    · omega
    · exact h2 y hy
theorem mem_places {n q x : Nat} (hq : q < n) (hx : x < n) : x ∈ places n q := by
  unfold places
  refine List.mem_map.2 ⟨if q ≤ x then x - q else x + n - q, List.mem_range.2 (by split <;> omega), ?_⟩
  split
  · rw [show q + (x - q) = x by omega]; exact Nat.mod_eq_of_lt hx
  · rw [show q + (x + n - q) = x + n by omega, Nat.add_mod_right]; exact Nat.mod_eq_of_lt hx
theorem bkAt_at {bs : List Bk} {x : Nat} (hx : x < bs.length) : bs[x]? = some (bkAt bs x) := by
  unfold bkAt
  rw [List.getElem?_eq_getElem hx]
  rfl
theorem oAt_bk {bs : List Bk} {x : Nat} (hx : x < bs.length) : oAt bs x = (bkAt bs x).o := by
  unfold oAt bkAt
  rw [List.getElem?_eq_getElem hx]
  rfl
theorem pick_min {bs : List Bk} {nx : Int} (h : (pickS bs nx).2 = 0) {x : Nat} (hx : x < bs.length) (ho : (bkAt bs x).o < (bkAt bs x).r) (hf : (bkAt bs x).f < 5) :
    (bkAt bs (pickS bs nx).1).o ≤ (bkAt bs x).o := by
  obtain ⟨hR, hlt, _⟩ := pick_lt h
  rw [← oAt_bk hlt, ← oAt_bk hx]
  have hmem : x ∈ mayL bs nx.toNat := by
    refine List.mem_filter.2 ⟨mem_places (by have := hR.2.1; omega) hx, ?_⟩
    unfold mayB
    rw [bkAt_at hx]
    simp [ho, badB]
    omega
  unfold pickS at h ⊢
  rw [if_pos (rightB_iff.2 hR)] at h ⊢
  cases hL : mayL bs nx.toNat with
  | nil => rw [hL] at hmem; cases hmem
  | cons z r =>
    rw [hL] at hmem
    simp only
    obtain ⟨h1, h2⟩ := fold_le bs r z
    rcases List.mem_cons.1 hmem with rfl | hm
    · exact h1
    · exact h2 _ hm
theorem pick_no {bs : List Bk} {nx : Int} (hR : RightP bs nx) (h : ¬ (pickS bs nx).2 = 0) : pickS bs nx = (0, 4) := by
  unfold pickS at h ⊢
  rw [if_pos (rightB_iff.2 hR)] at h ⊢
  cases hL : mayL bs nx.toNat with
  | nil => rfl
  | cons z r => rw [hL] at h; exact absurd rfl h

def sumO (bs : List Bk) : Int := (bs.map (·.o)).sum
theorem sumO_set : ∀ (bs : List Bk) (k : Nat) (b : Bk), k < bs.length → sumO (bs.set k b) = sumO bs + b.o - (bkAt bs k).o
  | [], k, b, h => absurd h (by simp)
  | z :: r, 0, b, h => by simp [sumO, bkAt]; omega
  | z :: r, k + 1, b, h => by
    have := sumO_set r k b (by simpa using h)
    simp only [sumO, bkAt, List.set_cons_succ, List.map_cons, List.sum_cons, List.getElem?_cons_succ] at this ⊢
    omega
theorem sumO_take {bs : List Bk} {k : Nat} (hk : k < bs.length) : sumO (bs.take (k + 1)) = sumO (bs.take k) + (bkAt bs k).o := by
  rw [List.take_succ_eq_append_getElem hk]
  unfold sumO bkAt
  rw [List.getElem?_eq_getElem hk, List.map_append, List.sum_append]
  simp
theorem right_set {bs : List Bk} {nx ny : Int} {k : Nat} {b : Bk} (h : RightP bs nx) (hy : 0 ≤ ny ∧ ny < bs.length) (hb : Okb b) : RightP (bs.set k b) ny := by
  obtain ⟨h1, h2, h3⟩ := h
  refine ⟨by simpa using h1, by simpa using hy, fun c hc => ?_⟩
  rcases List.mem_or_eq_of_mem_set hc with hc | rfl
  · exact h3 c hc
  · exact hb
theorem right_at {bs : List Bk} {nx : Int} (h : RightP bs nx) {k : Nat} (hk : k < bs.length) : Okb (bkAt bs k) := h.2.2 _ (List.mem_of_getElem? (bkAt_at hk))

/-- a step of the law: Open -/
theorem open_law {bs : List Bk} {nx : Int} (h : RightP bs nx) :
    (openS bs nx).e = (pickS bs nx).2 ∧ (openS bs nx).i = (pickS bs nx).1 ∧ RightP (openS bs nx).bs (openS bs nx).nx ∧
    ((pickS bs nx).2 = 0 ∧ (pickS bs nx).1 < bs.length ∧ (openS bs nx).again = decide (0 < (bkAt bs (pickS bs nx).1).i) ∧ sumO (openS bs nx).bs = sumO bs + 1 ∨
      (pickS bs nx).2 = 4 ∧ sumO (openS bs nx).bs = sumO bs) := by
  by_cases he : (pickS bs nx).2 = 0
  · obtain ⟨_, hlt, hor⟩ := pick_lt he
    have hk := right_at h hlt
    have hn : 0 < bs.length := by omega
    unfold openS
    rw [if_pos he]
    obtain ⟨y, hy⟩ : ∃ y, bkAt bs (pickS bs nx).1 = y := ⟨_, rfl⟩
    rw [hy] at hk hor ⊢
    refine ⟨he.symm, rfl, right_set h ⟨by simp only; omega, ?_⟩ ?_, .inl ⟨he, hlt, rfl, ?_⟩⟩
    · have := Nat.mod_lt ((pickS bs nx).1 + 1) hn
      simp only
      omega
    · obtain ⟨a, b, c, d⟩ := hk
      unfold Okb openB
      simp only
      refine ⟨a, ⟨by omega, by omega⟩, ⟨?_, ?_⟩, d⟩
      · split <;> omega
      · split <;> omega
    · show sumO (bs.set _ _) = _
      rw [sumO_set _ _ _ hlt, hy]
      simp only [openB]
      omega
  · have hp := pick_no h he
    unfold openS
    rw [if_neg he, hp]
    exact ⟨rfl, rfl, h, .inr ⟨rfl, rfl⟩⟩
theorem close_law {bs : List Bk} {nx : Int} (h : RightP bs nx) {k : Nat} (hk : k < bs.length) (s f : Bool) :
    RightP (closeS bs nx k s f).bs (closeS bs nx k s f).nx ∧
    ((bkAt bs k).o > 0 ∧ (closeS bs nx k s f).e = 0 ∧ sumO (closeS bs nx k s f).bs = sumO bs - 1 ∨ (bkAt bs k).o ≤ 0 ∧ (closeS bs nx k s f).e = 5 ∧ sumO (closeS bs nx k s f).bs = sumO bs) := by
  have ho := right_at h hk
  unfold closeS
  rw [if_pos ⟨h, by omega, by omega⟩, Int.toNat_natCast]
  split
  · rename_i hz
    exact ⟨h, .inr ⟨by omega, rfl, rfl⟩⟩
  · rename_i hz
    have hpos : 0 < (bkAt bs k).o := by have := ho.2.1; omega
    refine ⟨right_set h h.2.1 ?_, .inl ⟨hpos, rfl, ?_⟩⟩
    · obtain ⟨a, b, c, d⟩ := ho
      unfold Okb closeB
      simp only
      refine ⟨a, ⟨by omega, by omega⟩, ⟨?_, ?_⟩, ?_, ?_⟩
      · split
        · omega
        · split <;> omega
      · split
        · omega
        · split <;> omega
      · split <;> omega
      · split <;> omega
    · show sumO (bs.set _ _) = _
      rw [sumO_set _ _ _ hk]
      simp only [closeB]
      omega
theorem start_right (rooms : List Nat) : RightP (startS rooms) 0 := by
  refine ⟨startS_len rooms, ⟨by omega, by have := startS_len rooms; omega⟩, fun b hb => ?_⟩
  unfold startS at hb
  rcases List.mem_cons.1 hb with rfl | hb
  · simp [Okb]
  · obtain ⟨r, _, rfl⟩ := List.mem_map.1 hb
    simp [Okb, roomB]
    omega
theorem start_sum (rooms : List Nat) : sumO (startS rooms) = 0 := by
  unfold startS sumO
  have : ∀ l : List Nat, ((l.map roomB).map (·.o)).sum = 0 := by
    intro l
    induction l with
    | nil => rfl
    | cons z r ih => simp only [List.map_cons, List.sum_cons, ih]; rfl
  simp only [List.map_cons, List.sum_cons, this]
  rfl
theorem sum_bound : ∀ (bs : List Bk), (∀ b ∈ bs, Okb b) → 0 ≤ sumO bs ∧ sumO bs ≤ 8 * bs.length
  | [], _ => by simp [sumO]
  | z :: r, h => by
    obtain ⟨h1, h2⟩ := sum_bound r fun b hb => h b (List.mem_cons_of_mem _ hb)
    have hz := h z List.mem_cons_self
    obtain ⟨a, b, _⟩ := hz
    simp only [sumO, List.map_cons, List.sum_cons, List.length_cons] at h1 h2 ⊢
    omega
theorem sum_small {bs : List Bk} {nx : Int} (h : RightP bs nx) : 0 ≤ sumO bs ∧ sumO bs ≤ 64 := by
  have := sum_bound bs h.2.2
  have := h.1
  omega
theorem take_small {bs : List Bk} {nx : Int} (h : RightP bs nx) (k : Nat) : 0 ≤ sumO (bs.take k) ∧ sumO (bs.take k) ≤ 64 := by
  have := sum_bound (bs.take k) fun b hb => h.2.2 b (List.mem_of_mem_take hb)
  have h1 := h.1
  have : (bs.take k).length ≤ bs.length := by simp; omega
  omega
theorem madeS_nil (rooms : List Nat) : madeS rooms [] = (startS rooms, 0) := rfl
end Go.Proofs.Ytjomenldmojnjaa
