/- The plain law of IdsOnce: no id is told twice; what is in use is told to be. -/
import Derived.Test.YteaifndkmknanaaAF
set_option linter.unusedVariables false
set_option linter.unusedSimpArgs false
namespace Go.Proofs.Yteaifndkmknanaa

theorem getD_set_eq {α : Type} {l : List α} {i : Nat} (h : i < l.length) (a d : α) : (l.set i a).getD i d = a := by simp [List.getD_eq_getElem?_getD, h]
theorem getD_set_ne {α : Type} {l : List α} {i j : Nat} (h : i ≠ j) (a d : α) : (l.set i a).getD j d = l.getD j d := by simp [List.getD_eq_getElem?_getD, List.getElem?_set_ne h]

theorem RightP.genD {t : Tab} (h : RightP t) (i : Nat) : 0 ≤ t.gens.getD i 0 ∧ t.gens.getD i 0 ≤ 9007199254740992 := by
  by_cases hi : i < t.gens.length
  · have := h.gen hi
    rw [List.getD_eq_getElem?_getD, List.getElem?_eq_getElem hi]
    exact this
  · rw [List.getD_eq_getElem?_getD, List.getElem?_eq_none (by omega)]
    simp
theorem any_odd_of {g : List Int} (h : ∀ i, i < g.length → 0 ≤ g.getD i 0 ∧ g.getD i 0 ≤ 9007199254740992) : g.any oddS = false := by
  rw [List.any_eq_false]
  intro x hx
  obtain ⟨i, hi, rfl⟩ := List.getElem_of_mem hx
  have := h i hi
  rw [List.getD_eq_getElem?_getD, List.getElem?_eq_getElem hi] at this
  simp [oddS] at *
  omega

theorem placeB_iff {t : Tab} (x : Int) : placeB t x = true ↔ 0 ≤ x ∧ t.busy.getD (x % (t.gens.length : Int)).toNat false = true ∧ t.gens.getD (x % (t.gens.length : Int)).toNat 0 * t.gens.length + x % (t.gens.length : Int) = x := by
  unfold placeB
  simp only [Bool.and_eq_true, decide_eq_true_eq, beq_iff_eq]
  exact ⟨fun ⟨⟨a, b⟩, c⟩ => ⟨a, b, c⟩, fun ⟨a, b, c⟩ => ⟨⟨a, b⟩, c⟩⟩

/-- an id, taken apart -/
theorem id_parts {N : Nat} (hN : 0 < N) {g : Int} {p : Nat} (hp : p < N) : (g * N + p) % (N : Int) = p ∧ (g * N + p) / (N : Int) = g := by
  have h0 : (0 : Int) < (N : Int) := by omega
  constructor
  · rw [Int.add_comm, Int.add_mul_emod_self_right]
    exact Int.emod_eq_of_lt (by omega) (by omega)
  · rw [Int.add_comm, Int.add_mul_ediv_right _ _ (by omega), Int.ediv_eq_zero_of_lt (by omega) (by omega)]
    omega

structure Inv (N : Nat) (B : Int) (t : Tab) (all inn : List Int) : Prop where
  right : RightP t
  n : t.gens.length = N
  gen : ∀ i, t.gens.getD i 0 ≤ B
  nodup : inn.Nodup
  cnt : t.free.length + inn.length = N
  has : ∀ x ∈ inn, placeB t x = true
  old : ∀ x ∈ all, 0 ≤ x ∧ (x / (N : Int) < t.gens.getD (x % (N : Int)).toNat 0 ∨ (x / (N : Int) = t.gens.getD (x % (N : Int)).toNat 0 ∧ t.busy.getD (x % (N : Int)).toNat false = true))

theorem free_nat {t : Tab} (h : RightP t) {k : Int} (hk : k ∈ t.free) : ∃ m : Nat, k = m ∧ m < t.gens.length ∧ t.busy.getD m false = false := by
  have := h.h5 k hk
  simp only [freeOk, Bool.and_eq_true, decide_eq_true_eq, Bool.not_eq_true'] at this
  obtain ⟨⟨h0, h1⟩, h2⟩ := this
  exact ⟨k.toNat, by omega, by omega, h2⟩

theorem Inv.take {N : Nat} {B : Int} {t : Tab} {all inn : List Int} (h : Inv N B t all inn) {m : Nat} {r : List Int} (hf : t.free = (m : Int) :: r) :
    Inv N B ⟨t.gens, t.busy.set m true, r⟩ (all ++ [t.gens.getD m 0 * N + m]) (inn ++ [t.gens.getD m 0 * N + m]) ∧ t.gens.getD m 0 * N + m ∉ all := by
  have hr := h.right
  have hN : 0 < N := by have := hr.h1; have := h.n; omega
  obtain ⟨m', hm', hml, hbm⟩ := free_nat hr (k := (m : Int)) (by rw [hf]; simp)
  obtain rfl : m = m' := by omega
  have hbl : m < t.busy.length := by rw [hr.h3]; exact hml
  rw [h.n] at hml
  have hg := hr.genD m
  obtain ⟨e1, e2⟩ := id_parts hN (g := t.gens.getD m 0) hml
  have hmr : (m : Int) ∉ r := by have := hr.h6; rw [hf] at this; exact (List.nodup_cons.1 this).1
  have hrn : r.Nodup := by have := hr.h6; rw [hf] at this; exact (List.nodup_cons.1 this).2
  have hbusy : ∀ i, t.busy.getD i false = true → (t.busy.set m true).getD i false = true := by
    intro i hi
    by_cases hq : m = i
    · subst hq; exact getD_set_eq hbl _ _
    · rw [getD_set_ne hq]; exact hi
  have hidp : (0 : Int) ≤ t.gens.getD m 0 * N + m := by
    have := Int.mul_nonneg hg.1 (show (0 : Int) ≤ (N : Int) by omega)
    omega
  have hnall : t.gens.getD m 0 * N + m ∉ all := by
    intro hx
    rcases (h.old _ hx).2 with h1 | ⟨_, h1⟩
    · rw [e1, e2] at h1
      simp at h1
    · rw [e1, Int.toNat_natCast, hbm] at h1
      cases h1
  refine ⟨⟨?_, h.n, h.gen, ?_, ?_, ?_, ?_⟩, hnall⟩
  · refine ⟨hr.h1, hr.h2, by rw [← hr.h3]; exact List.length_set .., hr.h4, ?_, hrn, ?_⟩
    · intro x hx
      obtain ⟨q, rfl, hq, hbq⟩ := free_nat hr (k := x) (by rw [hf]; exact List.mem_cons_of_mem _ hx)
      have hne : m ≠ q := fun he => hmr (he ▸ hx)
      simp only [freeOk, Bool.and_eq_true, decide_eq_true_eq, Bool.not_eq_true', Int.toNat_natCast]
      exact ⟨⟨by omega, by omega⟩, by rw [getD_set_ne hne]; exact hbq⟩
    · intro i hi
      rw [List.length_set] at hi
      have h7 := hr.h7 i hi
      rw [hf] at h7
      by_cases hq : m = i
      · subst hq
        rw [getD_set_eq hbl]
        simp [hmr]
      · rw [getD_set_ne hq]
        have : ((m : Int) :: r).contains (i : Int) = r.contains (i : Int) := by
          rw [List.contains_cons]
          have : ((i : Int) == (m : Int)) = false := by simp; omega
          rw [this, Bool.false_or]
        rw [this] at h7
        exact h7
  · rw [List.nodup_append]
    refine ⟨h.nodup, by simp, ?_⟩
    intro x hx y hy he
    have hy := List.mem_singleton.1 hy
    subst he
    have hp := (placeB_iff x).1 (h.has x hx)
    rw [h.n, hy, e1, Int.toNat_natCast, hbm] at hp
    exact absurd hp.2.1 (by simp)
  · have := h.cnt
    rw [hf] at this
    simp at this ⊢
    omega
  · intro x hx
    rw [placeB_iff]
    simp only
    rcases List.mem_append.1 hx with hx | hx
    · have hp := (placeB_iff x).1 (h.has x hx)
      exact ⟨hp.1, hbusy _ hp.2.1, hp.2.2⟩
    · have hx := List.mem_singleton.1 hx
      subst hx
      rw [h.n, e1, Int.toNat_natCast]
      exact ⟨hidp, getD_set_eq hbl _ _, rfl⟩
  · intro x hx
    rcases List.mem_append.1 hx with hx | hx
    · obtain ⟨h0, h1⟩ := h.old x hx
      refine ⟨h0, ?_⟩
      rcases h1 with h1 | ⟨h1, h2⟩
      · exact .inl h1
      · exact .inr ⟨h1, hbusy _ h2⟩
    · have hx := List.mem_singleton.1 hx
      subst hx
      rw [e1, e2, Int.toNat_natCast]
      exact ⟨hidp, .inr ⟨rfl, getD_set_eq hbl _ _⟩⟩

theorem mem_erase {l : List Int} (hd : l.Nodup) {j : Nat} (hj : j < l.length) {y : Int} (hy : y ∈ l.take j ++ l.drop (j + 1)) : y ∈ l ∧ y ≠ l[j] := by
  rw [← List.eraseIdx_eq_take_drop_succ] at hy
  refine ⟨List.mem_of_mem_eraseIdx hy, fun he => ?_⟩
  obtain ⟨q, hlt, hq, heq⟩ := List.mem_eraseIdx_iff_getElem.1 hy
  have hp := List.pairwise_iff_getElem.1 hd
  rcases Nat.lt_or_gt_of_ne hq with h | h
  · exact hp _ _ hlt hj h (heq.trans he)
  · exact hp _ _ hj hlt h (heq.trans he).symm
theorem Inv.give {N : Nat} {B : Int} {t : Tab} {all inn : List Int} (h : Inv N B t all inn) (hB : B < 9007199254740992) {j : Nat} (hj : j < inn.length) :
    ∃ t', giveS t inn[j] = (t', 0) ∧ Inv N (B + 1) t' all (inn.take j ++ inn.drop (j + 1)) ∧ hasB t' inn[j] = false := by
  have hr := h.right
  have hN : 0 < N := by have := hr.h1; have := h.n; omega
  have hx := h.has _ (List.getElem_mem hj)
  have hxp := (placeB_iff _).1 hx
  generalize hxe : inn[j] = x at hx hxp
  obtain ⟨h0, hbz, hgx⟩ := hxp
  rw [h.n] at hbz hgx
  obtain ⟨p, hp⟩ : ∃ p : Nat, x % (N : Int) = p := Int.eq_ofNat_of_zero_le (Int.emod_nonneg _ (by omega))
  have hpl : p < N := by have := Int.emod_lt_of_pos x (show (0 : Int) < (N : Int) by omega); omega
  rw [hp, Int.toNat_natCast] at hbz hgx
  have hpi : placeI t x = p := by unfold placeI; rw [if_neg (by omega), h.n, hp]
  have hgl : p < t.gens.length := by rw [h.n]; exact hpl
  have hbl : p < t.busy.length := by rw [hr.h3]; exact hgl
  have hgp := hr.genD p
  have hgB := h.gen p
  have hpf : (p : Int) ∉ t.free := by
    intro hm
    obtain ⟨m, hm1, _, hm2⟩ := free_nat hr hm
    obtain rfl : p = m := by omega
    rw [hbz] at hm2
    cases hm2
  have hN' : (t.gens.set p (t.gens.getD p 0 + 1)).length = N := by rw [List.length_set]; exact h.n
  have hright : RightP ⟨t.gens.set p (t.gens.getD p 0 + 1), t.busy.set p false, t.free ++ [(p : Int)]⟩ := by
    refine ⟨by show 1 ≤ (t.gens.set p _).length; rw [List.length_set]; exact hr.h1, by show (t.gens.set p _).length ≤ 64; rw [List.length_set]; exact hr.h2, by show (t.busy.set p _).length = (t.gens.set p _).length; rw [List.length_set, List.length_set]; exact hr.h3, any_odd_of ?_, ?_, ?_, ?_⟩
    · intro i hi
      by_cases hq : p = i
      · subst hq
        rw [getD_set_eq hgl]
        omega
      · rw [getD_set_ne hq]
        exact hr.genD i
    · intro y hy
      simp only [freeOk, Bool.and_eq_true, decide_eq_true_eq, Bool.not_eq_true', hN']
      rcases List.mem_append.1 hy with hy | hy
      · obtain ⟨m, rfl, hm1, hm2⟩ := free_nat hr hy
        rw [h.n] at hm1
        have hne : p ≠ m := fun he => hpf (he ▸ hy)
        rw [Int.toNat_natCast, getD_set_ne hne]
        exact ⟨⟨by omega, by omega⟩, hm2⟩
      · simp at hy
        subst hy
        rw [Int.toNat_natCast, getD_set_eq hbl]
        exact ⟨⟨by omega, by omega⟩, rfl⟩
    · show (t.free ++ [(p : Int)]).Nodup
      rw [List.nodup_append]
      exact ⟨hr.h6, by simp, fun a ha b hb he => by simp at hb; subst hb; subst he; exact hpf ha⟩
    · intro i hi
      simp only [List.length_set] at hi
      have h7 := hr.h7 i hi
      by_cases hq : p = i
      · subst hq
        simp only
        rw [getD_set_eq hbl]
        simp
      · simp only
        rw [getD_set_ne hq]
        have : (t.free ++ [(p : Int)]).contains (i : Int) = t.free.contains (i : Int) := by
          have h1 : ((i : Int) == (p : Int)) = false := by simp; omega
          simp [List.contains_eq_mem]
          omega
        rw [this]
        exact h7
  refine ⟨⟨t.gens.set p (t.gens.getD p 0 + 1), t.busy.set p false, t.free ++ [(p : Int)]⟩, ?_, ⟨hright, hN', ?_, ?_, ?_, ?_, ?_⟩, ?_⟩
  · unfold giveS
    rw [if_pos hr, if_pos hx, hpi, Int.toNat_natCast, if_neg (by omega)]
  · intro i
    by_cases hq : p = i
    · subst hq
      simp only
      rw [getD_set_eq hgl]
      omega
    · simp only
      rw [getD_set_ne hq]
      have := h.gen i
      omega
  · rw [← List.eraseIdx_eq_take_drop_succ]
    exact h.nodup.eraseIdx _
  · have := h.cnt
    simp
    omega
  · intro y hy
    obtain ⟨hy1, hy2⟩ := mem_erase h.nodup hj hy
    rw [hxe] at hy2
    have hyp := (placeB_iff _).1 (h.has y hy1)
    rw [h.n] at hyp
    rw [placeB_iff]
    simp only [hN']
    obtain ⟨q, hq⟩ : ∃ q : Nat, y % (N : Int) = q := Int.eq_ofNat_of_zero_le (Int.emod_nonneg _ (by omega))
    rw [hq, Int.toNat_natCast] at hyp ⊢
    have hne : p ≠ q := by
      intro he
      subst he
      exact hy2 (hyp.2.2.symm.trans hgx)
    rw [getD_set_ne hne, getD_set_ne hne]
    exact hyp
  · intro y hy
    obtain ⟨hy0, hy1⟩ := h.old y hy
    refine ⟨hy0, ?_⟩
    obtain ⟨q, hq⟩ : ∃ q : Nat, y % (N : Int) = q := Int.eq_ofNat_of_zero_le (Int.emod_nonneg _ (by omega))
    rw [hq, Int.toNat_natCast] at hy1 ⊢
    simp only
    by_cases he : p = q
    · subst he
      rw [getD_set_eq hgl]
      left
      omega
    · rw [getD_set_ne he, getD_set_ne he]
      exact hy1
  · unfold hasB
    rw [if_pos hright]
    rw [Bool.eq_false_iff]
    intro hh
    have hh := ((placeB_iff _).1 hh).2.1
    simp only [hN'] at hh
    rw [hp, Int.toNat_natCast, getD_set_eq hbl] at hh
    cases hh
end Go.Proofs.Yteaifndkmknanaa
