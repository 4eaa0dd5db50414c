/- What normal forms are: they stay as they are, and have no dots. -/
import Derived.Test.YtoegjpfngmilhaaDoorT
set_option linter.unusedVariables false
set_option linter.unusedSimpArgs false
namespace Go.Proofs.YtoegjpfngmilhaaDoor
open Go.RowKit Go.Lib

inductive Units : List UInt8 → Prop
  | nil : Units []
  | one (c : UInt8) (l : List UInt8) : okC c = true → c ≠ 37 → c ≠ 63 → Units l → Units (c :: l)
  | three (n : Nat) (l : List UInt8) : n < 256 → n ≠ 0 → freeN n = false → Units l → Units (37 :: capN (n / 16) :: capN (n % 16) :: l)

theorem free_ok : ∀ n : Fin 256, freeN n.val = true → okC (UInt8.ofNat n.val) = true ∧ UInt8.ofNat n.val ≠ 37 ∧ UInt8.ofNat n.val ≠ 63 := by decide +kernel
theorem cap_ok : ∀ n : Fin 16, capN n.val ≠ 37 ∧ capN n.val ≠ 63 ∧ capN n.val ≠ 47 := by decide +kernel
theorem esc_cap0 : ∀ n : Fin 256, esc [capN (n.val / 16), capN (n.val % 16)] = n.val := by decide +kernel
theorem esc_cap {n : Nat} (h : n < 256) (l : List UInt8) : esc (capN (n / 16) :: capN (n % 16) :: l) = n := esc_cap0 ⟨n, h⟩
theorem cap1 {n : Nat} (h : n < 256) : capN (n / 16) ≠ 37 ∧ capN (n / 16) ≠ 63 ∧ capN (n / 16) ≠ 47 := cap_ok ⟨n / 16, by omega⟩
theorem cap2 {n : Nat} (h : n < 256) : capN (n % 16) ≠ 37 ∧ capN (n % 16) ≠ 63 ∧ capN (n % 16) ≠ 47 := cap_ok ⟨n % 16, by omega⟩

theorem Units.fix {l : List UInt8} (h : Units l) : plainS l = some l := by
  induction h with
  | nil => exact plainS_nil
  | one c l h1 h2 h3 _ ih => rw [plainS_cons h2, if_pos h1, ih]; rfl
  | three n l h1 h2 h3 _ ih =>
    rw [plainS_esc, esc_cap h1, if_neg h2]
    simp only [List.drop_succ_cons, List.drop_zero, ih, Option.map_some, unit, h3, Bool.false_eq_true, if_false]
    rfl
theorem Units.noQ {l : List UInt8} (h : Units l) : (63 : UInt8) ∉ l := by
  induction h with
  | nil => simp
  | one c l h1 h2 h3 _ ih => simp only [List.mem_cons, not_or]; exact ⟨fun e => h3 e.symm, ih⟩
  | three n l h1 h2 h3 _ ih =>
    simp only [List.mem_cons, not_or]
    exact ⟨by decide, fun e => (cap1 h1).2.1 e.symm, fun e => (cap2 h1).2.1 e.symm, ih⟩
theorem Units.app {a b : List UInt8} (h : Units a) (hb : Units b) : Units (a ++ b) := by
  induction h with
  | nil => exact hb
  | one c l h1 h2 h3 _ ih => exact .one c _ h1 h2 h3 ih
  | three n l h1 h2 h3 _ ih => exact .three n _ h1 h2 h3 ih
theorem Units.unit {n : Nat} (h : n < 256) (h0 : n ≠ 0) : Units (unit n) := by
  unfold YtoegjpfngmilhaaDoor.unit
  by_cases hf : freeN n = true
  · rw [if_pos hf]
    have := free_ok ⟨n, h⟩ hf
    exact .one _ _ this.1 this.2.1 this.2.2 .nil
  · rw [if_neg hf]
    exact .three n [] h h0 (by simpa using hf) .nil
theorem units_plain : ∀ (n : Nat) (l q : List UInt8), l.length ≤ n → (63 : UInt8) ∉ l → plainS l = some q → Units q := by
  intro n
  induction n with
  | zero =>
    intro l q hl hq h
    obtain rfl : l = [] := List.eq_nil_of_length_eq_zero (by omega)
    rw [plainS_nil] at h
    injection h with h
    exact h ▸ .nil
  | succ n ih =>
    intro l q hl hq h
    cases l with
    | nil => rw [plainS_nil] at h; injection h with h; exact h ▸ .nil
    | cons c r =>
      simp only [List.length_cons] at hl
      simp only [List.mem_cons, not_or] at hq
      by_cases hc : c = 37
      · subst hc
        rw [plainS_esc] at h
        by_cases he : esc r = 0
        · rw [if_pos he] at h; cases h
        · rw [if_neg he] at h
          cases hp : plainS (r.drop 2) with
          | none => rw [hp] at h; cases h
          | some t =>
            rw [hp] at h
            simp only [Option.map_some] at h
            injection h with h
            subst h
            exact (Units.unit (esc_lt r) he).app (ih _ _ (by rw [List.length_drop]; omega) (fun hm => hq.2 (List.mem_of_mem_drop hm)) hp)
      · rw [plainS_cons hc] at h
        by_cases ho : okC c = true
        · rw [if_pos ho] at h
          cases hp : plainS r with
          | none => rw [hp] at h; cases h
          | some t =>
            rw [hp] at h
            simp only [Option.map_some] at h
            injection h with h
            subst h
            exact .one c t ho hc (fun e => hq.1 e.symm) (ih _ _ (by omega) hq.2 hp)
        · rw [if_neg ho] at h; cases h
theorem pieces_mem1 {c x : UInt8} (hx : x ≠ c) {r : List UInt8} {P : List UInt8 → Prop} {Q : List UInt8 → Prop} (h : ∃ a t, pieces c r = a :: t ∧ P a ∧ ∀ y ∈ t, Q y) :
    ∃ a t, pieces c (x :: r) = (x :: a) :: t ∧ P a ∧ ∀ y ∈ t, Q y := by
  obtain ⟨a, t, h1, h2, h3⟩ := h
  refine ⟨a, t, ?_, h2, h3⟩
  rw [pieces_cons hx, h1]
theorem pieces_sep (c : UInt8) (r : List UInt8) : pieces c (c :: r) = [] :: pieces c r := pieces_app (a := []) (by simp) r
theorem Units.pieces0 {l : List UInt8} (h : Units l) : ∃ a t, pieces 47 l = a :: t ∧ Units a ∧ ∀ y ∈ t, Units y := by
  induction h with
  | nil => exact ⟨[], [], pieces_none (by simp), .nil, by simp⟩
  | one c l h1 h2 h3 _ ih =>
    by_cases hc : c = 47
    · subst hc
      obtain ⟨a, t, e, ha, ht⟩ := ih
      exact ⟨[], a :: t, by rw [pieces_sep, e], .nil, by simp only [List.mem_cons]; rintro y (rfl | hy); all_goals (first | exact ha | exact ht y hy)⟩
    · obtain ⟨a, t, e, ha, ht⟩ := pieces_mem1 (P := Units) (Q := Units) hc ih
      exact ⟨_, t, e, .one c a h1 h2 h3 ha, ht⟩
  | three n l h1 h2 h3 _ ih =>
    obtain ⟨a, t, e, ha, ht⟩ := ih
    refine ⟨_, t, ?_, .three n a h1 h2 h3 ha, ht⟩
    rw [pieces_cons (by decide), pieces_cons (cap1 h1).2.2, pieces_cons (cap2 h1).2.2, e]
theorem Units.pieces {l : List UInt8} (h : Units l) : ∀ y ∈ YtoegjpfngmilhaaDoor.pieces 47 l, Units y := by
  obtain ⟨a, t, e, ha, ht⟩ := h.pieces0
  rw [e]
  simp only [List.mem_cons]
  rintro y (rfl | hy)
  all_goals (first | exact ha | exact ht y hy)
theorem pieces_noslash (c : UInt8) : ∀ l : List UInt8, ∀ y ∈ pieces c l, c ∉ y := by
  intro l
  induction l with
  | nil => rw [pieces_none (by simp)]; simp
  | cons x r ih =>
    by_cases hx : x = c
    · subst hx
      rw [pieces_sep]
      simp only [List.mem_cons]
      rintro y (rfl | hy)
      · simp
      · exact ih y hy
    · rw [pieces_cons hx]
      have hne := pieces_ne c r
      cases hp : pieces c r with
      | nil => exact absurd hp hne
      | cons a t =>
        rw [hp] at ih
        simp only [List.mem_cons]
        rintro y (rfl | hy)
        · simp only [List.mem_cons, not_or]
          exact ⟨fun e => hx e.symm, ih a (by simp)⟩
        · exact ih y (by simp [hy])
/-- what is kept of a list: its members (and an empty one), no dots -/
theorem foldK_mem (P : List UInt8 → Prop) : ∀ (xs out : List (List UInt8)), (∀ y ∈ xs, P y) → (∀ y ∈ out, P y ∧ dotB y = false) → ∀ y ∈ xs.foldl stepK out, P y ∧ dotB y = false := by
  intro xs
  induction xs with
  | nil => intro out _ ho; exact ho
  | cons x xs ih =>
    intro out hx ho
    rw [List.foldl_cons]
    refine ih _ (fun y hy => hx y (List.mem_cons_of_mem _ hy)) ?_
    unfold stepK
    split
    · exact fun y hy => ho y (List.dropLast_subset _ hy)
    · split
      · exact ho
      · rename_i h1 h2
        intro y hy
        rw [List.mem_append, List.mem_singleton] at hy
        rcases hy with hy | rfl
        · exact ho y hy
        · exact ⟨hx y (by simp), by simp [dotB, h1, h2]⟩
theorem keptS_mem (P : List UInt8 → Prop) (h0 : P []) (xs : List (List UInt8)) (h : ∀ y ∈ xs, P y) : ∀ y ∈ keptS xs, P y ∧ dotB y = false := by
  have hf := foldK_mem P xs [] h (by simp)
  unfold keptS
  split
  · intro y hy
    rw [List.mem_append, List.mem_singleton] at hy
    rcases hy with hy | rfl
    · exact hf y hy
    · exact ⟨h0, by decide⟩
  · exact hf
theorem keptS_ne {xs : List (List UInt8)} (h : xs ≠ []) : keptS xs ≠ [] := by
  obtain ⟨ys, x, rfl⟩ : ∃ ys x, xs = ys ++ [x] := ⟨xs.dropLast, xs.getLast h, (List.dropLast_concat_getLast h).symm⟩
  unfold keptS
  rw [foldK_snoc]
  have hl : (ys ++ [x]).getLastD [] = x := by simp
  rw [hl]
  split
  · simp
  · rename_i hd
    have h1 : ¬ x = [46, 46] := fun e => hd (by simp [dotB, e])
    have h2 : ¬ x = [46] := fun e => hd (by simp [dotB, e])
    rw [stepK, if_neg h1, if_neg h2]
    simp
theorem foldK_free : ∀ (xs out : List (List UInt8)), (∀ y ∈ xs, dotB y = false) → xs.foldl stepK out = out ++ xs := by
  intro xs
  induction xs with
  | nil => simp
  | cons x xs ih =>
    intro out h
    have hx := h x (by simp)
    have h1 : ¬ x = [46, 46] := fun e => by simp [dotB, e] at hx
    have h2 : ¬ x = [46] := fun e => by simp [dotB, e] at hx
    rw [List.foldl_cons, stepK, if_neg h1, if_neg h2, ih _ (fun y hy => h y (List.mem_cons_of_mem _ hy)), List.append_assoc]
    rfl
theorem keptS_free {xs : List (List UInt8)} (h : ∀ y ∈ xs, dotB y = false) : keptS xs = xs := by
  unfold keptS
  have h1 : foldK xs = xs := by simpa [foldK] using foldK_free xs [] h
  rw [h1]
  have h2 : dotB (xs.getLastD []) = false := by
    by_cases hx : xs = []
    · subst hx; decide
    · obtain ⟨ys, x, rfl⟩ : ∃ ys x, xs = ys ++ [x] := ⟨xs.dropLast, xs.getLast hx, (List.dropLast_concat_getLast hx).symm⟩
      have hl : (ys ++ [x]).getLastD [] = x := by simp
      rw [hl]
      exact h x (by simp)
  rw [h2]
  rfl
theorem pieces_joinS {xs : List (List UInt8)} (hne : xs ≠ []) (h : ∀ y ∈ xs, (47 : UInt8) ∉ y) : pieces 47 (joinS xs).tail = xs := by
  induction xs with
  | nil => exact absurd rfl hne
  | cons x xs ih =>
    rw [joinS_cons]
    simp only [List.cons_append, List.tail_cons]
    cases xs with
    | nil => simp only [joinS, List.flatMap_nil, List.append_nil]; exact pieces_none (h x (by simp))
    | cons y ys =>
      rw [joinS_cons] at ih ⊢
      have := ih (by simp) (fun z hz => h z (List.mem_cons_of_mem _ hz))
      simp only [List.cons_append, List.tail_cons] at this ⊢
      rw [pieces_app (h x (by simp)), this]
theorem units_join {xs : List (List UInt8)} (h : ∀ y ∈ xs, Units y) : Units (joinS xs) := by
  induction xs with
  | nil => exact .nil
  | cons x xs ih =>
    rw [joinS_cons]
    exact .one 47 _ (by decide) (by decide) (by decide) ((h x (by simp)).app (ih (fun y hy => h y (List.mem_cons_of_mem _ hy))))

/-- the stage's theorem of normal forms -/
theorem norm_twice (l p q : List UInt8) (h : normS l = (p, q, 0)) :
    p.length + q.length ≤ l.length ∧ l.length ≤ 200 ∧ normS (p ++ q) = (p, q, 0) ∧ (∃ r, p = 47 :: r) ∧ ∀ y ∈ segsOf p, dotB y = false := by
  unfold normS at h
  by_cases hl : 200 < l.length
  · rw [if_pos hl] at h; simp at h
  rw [if_neg hl] at h
  obtain ⟨a, qy, hc, hcat, h63, hqy⟩ := cutQ_loop l
  rw [hc] at h
  simp only at h
  cases hp : plainS a with
  | none => rw [hp] at h; simp at h
  | some r =>
    rw [hp] at h
    simp only at h
    by_cases hh : r.head? = some 47 ∧ mayB qy = true
    · rw [if_pos hh] at h
      simp only [Prod.mk.injEq, and_true] at h
      obtain ⟨h1, h2⟩ := h
      subst h2
      have hu : Units r := units_plain _ _ _ (Nat.le_refl _) h63 hp
      obtain ⟨t, rfl⟩ : ∃ t, r = 47 :: t := by
        cases r with
        | nil => simp at hh
        | cons c t => simp at hh; exact ⟨t, by rw [hh.1]⟩
      simp only [List.tail_cons] at h1
      have hut : ∀ y ∈ pieces 47 t, Units y := by
        have := hu.pieces
        rw [pieces_sep] at this
        exact fun y hy => this y (List.mem_cons_of_mem _ hy)
      have hk := keptS_mem (fun y => Units y ∧ (47 : UInt8) ∉ y) ⟨.nil, by simp⟩ (pieces 47 t) (fun y hy => ⟨hut y hy, pieces_noslash 47 t y hy⟩)
      have hkne := keptS_ne (pieces_ne 47 t)
      have hlen := joinS_kept t
      generalize keptS (pieces 47 t) = K at *
      have hpl := plainS_len _ _ _ (Nat.le_refl _) hp
      simp only [List.length_cons] at hpl
      have hup : Units p := h1 ▸ units_join (fun y hy => (hk y hy).1.1)
      have hpt : pieces 47 p.tail = K := h1 ▸ pieces_joinS hkne (fun y hy => (hk y hy).1.2)
      have hph : ∃ r, p = 47 :: r := by
        cases K with
        | nil => exact absurd rfl hkne
        | cons x K => rw [joinS_cons] at h1; exact ⟨_, h1.symm⟩
      have hle : p.length + qy.length ≤ l.length := by
        rw [hcat, List.length_append, ← h1]
        omega
      refine ⟨hle, by omega, ?_, hph, ?_⟩
      · have hcp : cutQ (p ++ qy) = (p, qy) := by
          rcases hqy with rfl | ⟨r, rfl⟩
          · rw [List.append_nil]; exact cutQ_none hup.noQ
          · exact cutQ_some hup.noQ r
        unfold normS
        rw [if_neg (by rw [List.length_append]; omega), hcp]
        simp only [hup.fix]
        rw [if_pos ⟨by obtain ⟨r, rfl⟩ := hph; rfl, hh.2⟩, hpt, keptS_free (fun y hy => (hk y hy).2), h1]
      · obtain ⟨r, rfl⟩ := hph
        rw [segsOf_cons]
        simp only [List.tail_cons] at hpt
        rw [hpt]
        exact fun y hy => (hk y hy).2
    · rw [if_neg hh] at h; simp at h
theorem norm_bad (l p q : List UInt8) (c : Nat) (h : normS l = (p, q, c)) (hc : c ≠ 0) : p = [] ∧ q = [] := by
  unfold normS at h
  split at h
  · simp at h; simp [h]
  · split at h
    · simp at h; simp [h]
    · split at h
      · simp at h; omega
      · simp at h; simp [h]
/-- what is joined of right segments is a normal form -/
theorem norm_join {xs : List (List UInt8)} (hne : xs ≠ []) (hu : ∀ y ∈ xs, Units y ∧ (47 : UInt8) ∉ y ∧ dotB y = false) (hl : (joinS xs).length ≤ 200) : normS (joinS xs) = (joinS xs, [], 0) := by
  have hup : Units (joinS xs) := units_join (fun y hy => (hu y hy).1)
  unfold normS
  rw [if_neg (by omega), cutQ_none hup.noQ]
  simp only [hup.fix]
  rw [if_pos ⟨by cases xs with
    | nil => exact absurd rfl hne
    | cons x s => rw [joinS_cons]; rfl, rfl⟩, pieces_joinS hne (fun y hy => (hu y hy).2.1), keptS_free (fun y hy => (hu y hy).2.2)]
end Go.Proofs.YtoegjpfngmilhaaDoor
