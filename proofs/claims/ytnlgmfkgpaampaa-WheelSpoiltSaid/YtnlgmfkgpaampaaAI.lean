/- What lockagelaw04.Made does, plain. -/
import Derived.Test.YtnlgmfkgpaampaaAF
import Derived.Test.YtnlgmfkgpaampaaLU
set_option linter.unusedVariables false
set_option linter.unusedSimpArgs false
namespace Go.Proofs.Ytnlgmfkgpaampaa

/-- how many timers there are -/
def cnt (ts : Nat → List Tm) : Nat := tot (fun i => (ts i).length) 8
theorem tot_congr {f g : Nat → Nat} {k : Nat} (h : ∀ i, i < k → f i = g i) : tot f k = tot g k := by
  induction k with
  | zero => rfl
  | succ k ih => simp only [tot]; rw [ih (fun i hi => h i (by omega)), h k (by omega)]
theorem tot_upd (f : Nat → Nat) (i x : Nat) : ∀ k, i < k → tot (fun j => if j = i then x else f j) k + f i = tot f k + x
  | 0, h => absurd h (by omega)
  | k + 1, h => by
    simp only [tot]
    by_cases hik : i = k
    · subst hik
      rw [if_pos rfl, tot_congr (f := fun j => if j = i then x else f j) (g := f) (fun j hj => if_neg (by omega))]
      omega
    · rw [if_neg (Ne.symm hik)]
      have := tot_upd f i x k (by omega)
      omega
theorem cnt_upd {ts : Nat → List Tm} {i : Nat} {us : List Tm} (hi : i < 8) : cnt (upd ts i us) + (ts i).length = cnt ts + us.length := by
  have := tot_upd (fun j => (ts j).length) i us.length 8 hi
  unfold cnt
  rw [← this]
  congr 1
  refine tot_congr fun j hj => ?_
  by_cases h : j = i
  · subst h; simp [upd_at]
  · rw [upd_ne _ _ h, if_neg h]
theorem cnt_tot {w : World} {A : Nat → Option Addr} {n c : Nat → Nat} {ts : Nat → List Tm} (h : WhR w A n c ts) : tot n 8 = cnt ts := (tot_congr (fun i hi => h.len i hi)).symm

noncomputable def stepW (s : Int × (Nat → List Tm)) (b : Nat) : Int × (Nat → List Tm) :=
  if b % 4 = 0 then (tickN s.1 s.2, tickT s.1 s.2)
  else if b % 4 = 1 then (s.1, canT s.1 s.2 (b / 4 % 8 : Nat))
  else (s.1, setT s.1 s.2 (b / 4 % 8 : Nat) (s.1 + (b % 21 : Nat)))
noncomputable def madeW (l : List Nat) : Int × (Nat → List Tm) := (l.take 60).foldl stepW (0, fun _ => [])
structure OkW (k : Nat) (s : Int × (Nat → List Tm)) : Prop where
  n : 0 ≤ s.1 ∧ s.1 ≤ k
  c : cnt s.2 ≤ k
  i : ∀ i, i < 8 → ∀ t ∈ s.2 i, 0 ≤ t.id ∧ t.id ≤ 7
theorem OkW.start : OkW 0 (0, fun _ => []) := ⟨by simp, by decide, by simp⟩
theorem upd_ok {ts : Nat → List Tm} {j : Nat} {us : List Tm} {p : Tm → Prop} (h : ∀ i, i < 8 → ∀ t ∈ ts i, p t) (hu : ∀ t ∈ us, p t) : ∀ i, i < 8 → ∀ t ∈ upd ts j us i, p t := by
  intro i hi t ht
  by_cases hij : i = j
  · subst hij
    rw [upd_at] at ht
    exact hu t ht
  · rw [upd_ne _ _ hij] at ht
    exact h i hi t ht
theorem OkW.step {k : Nat} {s : Int × (Nat → List Tm)} (h : OkW k s) (b : Nat) : OkW (k + 1) (stepW s b) := by
  obtain ⟨⟨h0, h1⟩, h2, h3⟩ := h
  obtain ⟨nw, ts⟩ := s
  simp only at h0 h1 h2 h3
  unfold stepW
  simp only
  split
  · unfold tickN tickT
    split
    · refine ⟨⟨by simp only; omega, by simp only; omega⟩, ?_, ?_⟩
      · have := cnt_upd (ts := ts) (i := (nw + 1).toNat % 8) (us := (ts ((nw + 1).toNat % 8)).filter (fun t => !due nw t)) (Nat.mod_lt _ (by omega))
        have hf := List.length_filter_le (fun t => !due nw t) (ts ((nw + 1).toNat % 8))
        simp only
        omega
      · exact upd_ok h3 fun t ht => h3 _ (Nat.mod_lt _ (by omega)) t (List.mem_filter.1 ht).1
    · exact ⟨⟨h0, by simp only; omega⟩, by simp only; omega, h3⟩
  · split
    · unfold canT
      split
      · rename_i hz
        by_cases h8 : (findP ts ((b / 4 % 8 : Nat) : Int)).1.toNat < 8
        · refine ⟨⟨h0, by simp only; omega⟩, ?_, ?_⟩
          · have := cnt_upd (ts := ts) (i := (findP ts ((b / 4 % 8 : Nat) : Int)).1.toNat) (us := (ts (findP ts ((b / 4 % 8 : Nat) : Int)).1.toNat).take (findP ts ((b / 4 % 8 : Nat) : Int)).2.toNat ++ (ts (findP ts ((b / 4 % 8 : Nat) : Int)).1.toNat).drop ((findP ts ((b / 4 % 8 : Nat) : Int)).2.toNat + 1)) h8
            rw [List.length_append, List.length_take, List.length_drop] at this
            simp only
            omega
          · refine upd_ok h3 fun t ht => ?_
            rcases List.mem_append.1 ht with ht | ht
            · exact h3 _ h8 t (List.mem_of_mem_take ht)
            · exact h3 _ h8 t (List.mem_of_mem_drop ht)
        · refine ⟨⟨h0, by simp only; omega⟩, ?_, fun i hi t ht => ?_⟩
          · simp only
            unfold cnt at h2 ⊢
            rw [tot_congr (g := fun i => (ts i).length) (fun i hi => by rw [upd_ne _ _ (by omega)])]
            omega
          · simp only at ht
            rw [upd_ne _ _ (by omega)] at ht
            exact h3 i hi t ht
      · exact ⟨⟨h0, by simp only; omega⟩, by simp only; omega, h3⟩
    · unfold setT
      split
      · refine ⟨⟨h0, by simp only; omega⟩, ?_, ?_⟩
        · have := cnt_upd (ts := ts) (i := (nw + ((b % 21 : Nat) : Int)).toNat % 8) (us := ts ((nw + ((b % 21 : Nat) : Int)).toNat % 8) ++ [⟨((b / 4 % 8 : Nat) : Int), nw + ((b % 21 : Nat) : Int)⟩]) (Nat.mod_lt _ (by omega))
          rw [List.length_append] at this
          simp only [List.length_cons, List.length_nil] at this ⊢
          omega
        · refine upd_ok h3 fun t ht => ?_
          rcases List.mem_append.1 ht with ht | ht
          · exact h3 _ (Nat.mod_lt _ (by omega)) t ht
          · rw [List.mem_singleton.1 ht]
            simp only
            omega
      · exact ⟨⟨h0, by simp only; omega⟩, by simp only; omega, h3⟩
theorem OkW.run (l : List Nat) : ∀ {k : Nat} {s : Int × (Nat → List Tm)}, OkW k s → OkW (k + l.length) (l.foldl stepW s) := by
  induction l with
  | nil => intro k s h; exact h
  | cons b r ih =>
    intro k s h
    have := ih (h.step b)
    simp only [List.length_cons, List.foldl_cons]
    rwa [show k + (r.length + 1) = k + 1 + r.length by omega]
theorem runW_succ {l : List Nat} {k : Nat} (hk : k < l.length) (s : Int × (Nat → List Tm)) : (l.take (k + 1)).foldl stepW s = stepW ((l.take k).foldl stepW s) l[k] := by
  rw [List.take_succ_eq_append_getElem hk, List.foldl_append]
  rfl
end Go.Proofs.Ytnlgmfkgpaampaa
