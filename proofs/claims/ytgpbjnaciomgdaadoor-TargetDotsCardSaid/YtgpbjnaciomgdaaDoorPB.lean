/- Dots put in, and escapes of free bytes, make no difference. -/
import Derived.Test.YtgpbjnaciomgdaaDoorPC
set_option linter.unusedVariables false
set_option linter.unusedSimpArgs false
namespace Go.Proofs.YtgpbjnaciomgdaaDoor
open Go.RowKit Go.Lib

theorem esc_app {r : List UInt8} (h : 2 ≤ r.length) (c : List UInt8) : esc (r ++ c) = esc r := by
  match r with
  | [] => simp at h
  | [_] => simp at h
  | _ :: _ :: _ => rfl
theorem plainS_app : ∀ (n : Nat) (b c q : List UInt8), b.length ≤ n → plainS b = some q → plainS (b ++ c) = (plainS c).map (q ++ ·) := by
  intro n
  induction n with
  | zero =>
    intro b c q hb h
    obtain rfl : b = [] := List.eq_nil_of_length_eq_zero (by omega)
    rw [plainS_nil] at h
    injection h with h
    subst h
    simp
  | succ n ih =>
    intro b c q hb h
    cases b with
    | nil => rw [plainS_nil] at h; injection h with h; subst h; simp
    | cons x r =>
      simp only [List.length_cons] at hb
      rw [List.cons_append]
      by_cases hc : x = 37
      · subst hc
        rw [plainS_esc] at h ⊢
        by_cases he : esc r = 0
        · rw [if_pos he] at h; cases h
        · have h2 := esc_two he
          rw [if_neg he] at h
          rw [esc_app h2, if_neg he, List.drop_append_of_le_length h2]
          cases hp : plainS (r.drop 2) with
          | none => rw [hp] at h; cases h
          | some t =>
            rw [hp] at h
            simp only [Option.map_some] at h
            injection h with h
            subst h
            rw [ih (r.drop 2) c t (by rw [List.length_drop]; omega) hp]
            cases plainS c <;> simp
      · rw [plainS_cons hc] at h ⊢
        by_cases ho : okC x = true
        · rw [if_pos ho] at h ⊢
          cases hp : plainS r with
          | none => rw [hp] at h; cases h
          | some t =>
            rw [hp] at h
            simp only [Option.map_some] at h
            injection h with h
            subst h
            rw [ih r c t (by omega) hp]
            cases plainS c <;> simp
        · rw [if_neg ho] at h; cases h

/-- the segments, and the dots -/
def tX : List (List UInt8) := [[97], [98, 37, 50, 70], [126], [99, 46, 100], [], [37, 67, 51]]
def tD : List (List UInt8) := [[47, 46], [47, 113, 47, 46, 46], [47, 37, 50, 101], [47, 120, 47, 121, 47, 46, 46, 47, 37, 50, 69, 37, 50, 101], [47, 46, 47, 46]]
/-- the dots' segments -/
def tE : List (List (List UInt8)) := [[[46]], [[113], [46, 46]], [[46]], [[120], [121], [46, 46], [46, 46]], [[46], [46]]]
theorem e54 (l : List UInt8) : esc (54 :: 49 :: l) = 97 := by
  have : esc [54, 49] = 97 := by decide +kernel
  exact this
theorem e50F (l : List UInt8) : esc (50 :: 70 :: l) = 47 := by
  have : esc [50, 70] = 47 := by decide +kernel
  exact this
theorem e67 (l : List UInt8) : esc (67 :: 51 :: l) = 195 := by
  have : esc [67, 51] = 195 := by decide +kernel
  exact this
theorem e50e (l : List UInt8) : esc (50 :: 101 :: l) = 46 := by
  have : esc [50, 101] = 46 := by decide +kernel
  exact this
theorem e50E (l : List UInt8) : esc (50 :: 69 :: l) = 46 := by
  have : esc [50, 69] = 46 := by decide +kernel
  exact this
theorem u97 : unit 97 = [97] := by decide +kernel
theorem u47 : unit 47 = [37, 50, 70] := by decide +kernel
theorem u195 : unit 195 = [37, 67, 51] := by decide +kernel
theorem u46 : unit 46 = [46] := by decide +kernel
theorem plain_one {c : UInt8} (h : c ≠ 37) (ho : okC c = true) (r : List UInt8) : plainS (c :: r) = (plainS r).map (c :: ·) := by rw [plainS_cons h, if_pos ho]
theorem tX_plain (k : Nat) (h : k < 6) : plainS (tX[k]'h) = some (tX[k]'h) := by
  match k, h with
  | 0, _ => change plainS [97] = some [97]; rw [plain_one (by decide) (by decide), plainS_nil]; rfl
  | 1, _ => change plainS [98, 37, 50, 70] = some [98, 37, 50, 70]; rw [plain_one (by decide) (by decide), plainS_esc, e50F, u47]; simp [plainS_nil]
  | 2, _ => change plainS [126] = some [126]; rw [plain_one (by decide) (by decide), plainS_nil]; rfl
  | 3, _ => change plainS [99, 46, 100] = some [99, 46, 100]; rw [plain_one (by decide) (by decide), plain_one (by decide) (by decide), plain_one (by decide) (by decide), plainS_nil]; rfl
  | 4, _ => exact plainS_nil
  | 5, _ => change plainS [37, 67, 51] = some [37, 67, 51]; rw [plainS_esc, e67, u195]; simp [plainS_nil]
theorem x61_plain : plainS [37, 54, 49] = some [97] := by rw [plainS_esc, e54, u97]; simp [plainS_nil]
theorem tD_plain (k : Nat) (h : k < 5) : plainS (tD[k]'h) = some (joinS (tE[k]'h)) := by
  match k, h with
  | 0, _ => change plainS [47, 46] = some [47, 46]; rw [plain_one (by decide) (by decide), plain_one (by decide) (by decide), plainS_nil]; rfl
  | 1, _ => change plainS [47, 113, 47, 46, 46] = some [47, 113, 47, 46, 46]; rw [plain_one (by decide) (by decide), plain_one (by decide) (by decide), plain_one (by decide) (by decide), plain_one (by decide) (by decide), plain_one (by decide) (by decide), plainS_nil]; rfl
  | 2, _ => change plainS [47, 37, 50, 101] = some [47, 46]; rw [plain_one (by decide) (by decide), plainS_esc, e50e, u46]; simp [plainS_nil]
  | 3, _ =>
    change plainS [47, 120, 47, 121, 47, 46, 46, 47, 37, 50, 69, 37, 50, 101] = some [47, 120, 47, 121, 47, 46, 46, 47, 46, 46]
    rw [plain_one (by decide) (by decide), plain_one (by decide) (by decide), plain_one (by decide) (by decide), plain_one (by decide) (by decide), plain_one (by decide) (by decide), plain_one (by decide) (by decide), plain_one (by decide) (by decide), plain_one (by decide) (by decide), plainS_esc, e50E, u46]
    simp only [List.drop_succ_cons, List.drop_zero]
    rw [plainS_esc, e50e, u46]
    simp [plainS_nil]
  | 4, _ => change plainS [47, 46, 47, 46] = some [47, 46, 47, 46]; rw [plain_one (by decide) (by decide), plain_one (by decide) (by decide), plain_one (by decide) (by decide), plain_one (by decide) (by decide), plainS_nil]; rfl
theorem tX_facts : ∀ k : Fin 6, (63 : UInt8) ∉ (tX[k.val]'k.isLt) ∧ (47 : UInt8) ∉ (tX[k.val]'k.isLt) ∧ dotB (tX[k.val]'k.isLt) = false ∧ (tX[k.val]'k.isLt).length ≤ 4 := by decide
theorem tD_facts : ∀ k : Fin 5, (63 : UInt8) ∉ (tD[k.val]'k.isLt) ∧ (tD[k.val]'k.isLt).length ≤ 14 ∧ (∀ y ∈ (tE[k.val]'k.isLt), (47 : UInt8) ∉ y) := by decide
theorem tE_fold (k : Nat) (h : k < 5) (out : List (List UInt8)) : (tE[k]'h).foldl stepK out = out := by
  match k, h with
  | 0, _ => rfl
  | 1, _ => change (out ++ [[113]]).dropLast = out; simp
  | 2, _ => rfl
  | 3, _ => change (((out ++ [[120]]) ++ [[121]]).dropLast).dropLast = out; simp
  | 4, _ => rfl

/-- what is made, after some rounds; d: at most so many bytes more -/
def Dts (i d : Nat) (a b : List UInt8) : Prop := ∃ sa sb : List (List UInt8), a = joinS sa ∧ plainS a = some a ∧ plainS b = some (joinS sb) ∧ foldK sa = foldK sb ∧ sa.getLastD [] = sb.getLastD [] ∧ (sa = [] ↔ sb = []) ∧
  (∀ y ∈ sa, (47 : UInt8) ∉ y) ∧ (∀ y ∈ sb, (47 : UInt8) ∉ y) ∧ (63 : UInt8) ∉ a ∧ (63 : UInt8) ∉ b ∧ a.length ≤ 5 * i ∧ b.length ≤ 5 * i + d ∧ (sa = [] ↔ i = 0)
theorem Dts.start : Dts 0 0 [] [] := ⟨[], [], rfl, plainS_nil, plainS_nil, rfl, rfl, Iff.rfl, by simp, by simp, by simp, by simp, by simp, by simp, by simp⟩
/-- the segment x in both; y: how it is written in the second one; D: the dots ahead -/
theorem Dts.step {i d : Nat} {a b : List UInt8} (h : Dts i d a b) (x y D : List UInt8) (E : List (List UInt8)) (m : Nat) (hx : plainS x = some x) (hy : plainS y = some x) (hD : plainS D = some (joinS E)) (hE : ∀ out, E.foldl stepK out = out)
    (hEs : ∀ z ∈ E, (47 : UInt8) ∉ z) (hxs : (47 : UInt8) ∉ x) (hxq : (63 : UInt8) ∉ x) (hyq : (63 : UInt8) ∉ y) (hDq : (63 : UInt8) ∉ D) (hxl : x.length ≤ 4) (hyl : y.length ≤ 4) (hDl : D.length ≤ m) :
    Dts (i + 1) (d + m) (a ++ 47 :: x) (b ++ (D ++ 47 :: y)) := by
  obtain ⟨sa, sb, h1, h2, h3, h4, h5, h6, h7, h8, h9, h10, h11, h12, h13⟩ := h
  have p47 : ∀ (z q : List UInt8), plainS z = some q → plainS (47 :: z) = some (47 :: q) := fun z q hz => by rw [plain_one (by decide) (by decide), hz]; rfl
  refine ⟨sa ++ [x], sb ++ E ++ [x], ?_, ?_, ?_, ?_, ?_, ?_, ?_, ?_, ?_, ?_, ?_, ?_, ?_⟩
  · rw [joinS_app, joinS_one, h1]
  · rw [plainS_app _ _ _ _ (Nat.le_refl _) h2, p47 _ _ hx]; rfl
  · rw [plainS_app _ _ _ _ (Nat.le_refl _) h3, plainS_app _ _ _ _ (Nat.le_refl _) hD, p47 _ _ hy, joinS_app, joinS_app, joinS_one]; simp
  · rw [foldK_snoc, foldK_snoc]
    have : foldK (sb ++ E) = foldK sb := by unfold foldK; rw [List.foldl_append, hE]
    rw [this, h4]
  · simp
  · simp
  · simp only [List.mem_append, List.mem_singleton]; rintro z (hz | rfl); all_goals (first | exact h7 z hz | exact hxs)
  · simp only [List.mem_append, List.mem_singleton]; rintro z ((hz | hz) | rfl); all_goals (first | exact h8 z hz | exact hEs z hz | exact hxs)
  · simp only [List.mem_append, List.mem_cons, not_or]; exact ⟨h9, by decide, hxq⟩
  · simp only [List.mem_append, List.mem_cons, not_or]; exact ⟨h10, hDq, by decide, hyq⟩
  · simp only [List.length_append, List.length_cons]; omega
  · simp only [List.length_append, List.length_cons]; omega
  · simp
theorem Dts.norm {i d : Nat} {a b : List UInt8} (h : Dts i d a b) (hi : i ≤ 12) (hd : d ≤ 14) : ∃ p c, normS a = (p, [], c) ∧ normS b = (p, [], c) ∧ c = (if a = [] then 40 else 0) := by
  obtain ⟨sa, sb, h1, h2, h3, h4, h5, h6, h7, h8, h9, h10, h11, h12, h13⟩ := h
  have hn : ∀ (l : List UInt8) (s : List (List UInt8)), l.length ≤ 200 → (63 : UInt8) ∉ l → plainS l = some (joinS s) → (∀ y ∈ s, (47 : UInt8) ∉ y) → normS l = if s = [] then ([], [], 40) else (joinS (keptS s), [], 0) := by
    intro l s hl hq hp hs
    unfold normS
    rw [if_neg (by omega), cutQ_none hq]
    simp only [hp]
    by_cases he : s = []
    · subst he; rfl
    · rw [if_neg he, pieces_joinS he hs, if_pos ⟨by cases s with
        | nil => exact absurd rfl he
        | cons x s => rw [joinS_cons]; rfl, rfl⟩]
  rw [hn a sa (by omega) h9 (by rw [h2, ← h1]) h7, hn b sb (by omega) h10 h3 h8]
  by_cases he : sa = []
  · have hb := h6.1 he
    subst he hb
    exact ⟨[], 40, rfl, rfl, by simp [h1, joinS]⟩
  · have hb : ¬ sb = [] := fun e => he (h6.2 e)
    have hk : keptS sb = keptS sa := by unfold keptS; rw [h4, h5]
    rw [if_neg he, if_neg hb, hk]
    refine ⟨_, _, rfl, rfl, ?_⟩
    rw [if_neg]
    rw [h1]
    cases sa with
    | nil => exact absurd rfl he
    | cons x s => rw [joinS_cons]; simp
end Go.Proofs.YtgpbjnaciomgdaaDoor
