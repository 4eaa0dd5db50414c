/- Valid texts: lists of characters. -/
import Derived.Test.YthlijkpeafgenaaDoorM
set_option linter.unusedVariables false
set_option linter.unusedSimpArgs false
namespace Go.Proofs.YthlijkpeafgenaaDoor
open Go.RowKit Go.Lib

/-- a text of characters -/
def encS (rs : List Nat) : List UInt8 := rs.flatMap (fun r : Nat => encodeRune (r : Int))
def Chars (l : List UInt8) (rs : List Nat) : Prop := (∀ r ∈ rs, okR r) ∧ l = encS rs
theorem enc_len (r : Int) : 1 ≤ (encodeRune r).length ∧ (encodeRune r).length ≤ 4 := by
  have := encodeRuneZ_length r
  unfold encodeRune
  rw [List.length_map]
  exact this
theorem encS_nil : encS [] = [] := rfl
theorem encS_cons (r : Nat) (rs : List Nat) : encS (r :: rs) = encodeRune (r : Int) ++ encS rs := by simp [encS]
theorem encS_app (a b : List Nat) : encS (a ++ b) = encS a ++ encS b := by simp [encS]
theorem Chars.nil : Chars [] [] := ⟨by simp, rfl⟩
theorem Chars.cons {l : List UInt8} {rs : List Nat} (h : Chars l rs) {r : Nat} (hr : okR r) : Chars (encodeRune (r : Int) ++ l) (r :: rs) := by
  obtain ⟨h1, rfl⟩ := h
  refine ⟨fun x hx => ?_, (encS_cons r rs).symm⟩
  rcases List.mem_cons.1 hx with rfl | hx
  · exact hr
  · exact h1 x hx
/-- is a text characters? -/
def validF : Nat → List UInt8 → Bool
  | 0, l => l.isEmpty
  | k + 1, l => l.isEmpty || (!(decide (dec l = (65533, 1))) && validF k (l.drop (dec l).2))
def validS (l : List UInt8) : Bool := validF l.length l
theorem validF_chars : ∀ (k : Nat) (l : List UInt8), l.length ≤ k → validF k l = true → ∃ rs, Chars l rs := by
  intro k
  induction k with
  | zero =>
    intro l hl h
    obtain rfl : l = [] := List.eq_nil_of_length_eq_zero (by omega)
    exact ⟨[], Chars.nil⟩
  | succ k ih =>
    intro l hl h
    by_cases hn : l = []
    · subst hn; exact ⟨[], Chars.nil⟩
    · unfold validF at h
      have he : l.isEmpty = false := by simpa using hn
      rw [he, Bool.false_or, Bool.and_eq_true] at h
      obtain ⟨c, n, hd⟩ : ∃ c n, dec l = (c, n) := ⟨_, _, rfl⟩
      rw [hd] at h
      have hne : ¬ (c = 65533 ∧ n = 1) := by rintro ⟨rfl, rfl⟩; simp at h
      obtain ⟨ho, t, ht, hn2⟩ := dec_ok hn hd hne
      have hlen := enc_len (c : Int)
      have hdr : l.drop n = t := by rw [ht, hn2, List.drop_left]
      have h2 := h.2
      simp only at h2
      rw [hdr] at h2
      obtain ⟨rs, hr⟩ := ih t (by rw [ht, List.length_append] at hl; omega) h2
      exact ⟨c :: rs, by rw [ht]; exact hr.cons ho⟩
theorem chars_validF : ∀ (rs : List Nat) (k : Nat) (l : List UInt8), Chars l rs → l.length ≤ k → validF k l = true := by
  intro rs
  induction rs with
  | nil =>
    rintro k l ⟨_, rfl⟩ _
    cases k <;> rfl
  | cons r rs ih =>
    rintro k l ⟨h1, rfl⟩ hk
    rw [encS_cons] at hk ⊢
    have hlen := enc_len (r : Int)
    rw [List.length_append] at hk
    cases k with
    | zero => omega
    | succ k =>
      have hd := dec_enc (h1 r (by simp)) (encS rs)
      unfold validF
      rw [hd]
      simp only [List.drop_left]
      rw [ih k (encS rs) ⟨fun x hx => h1 x (List.mem_cons_of_mem _ hx), rfl⟩ (by omega)]
      have hne : ¬ ((r, (encodeRune (r : Int)).length) = ((65533 : Nat), (1 : Nat))) := by
        rintro e
        injection e with e1 e2
        subst e1
        have : (encodeRune ((65533 : Nat) : Int)).length = 3 := by decide +kernel
        omega
      rw [decide_eq_false hne]
      simp
theorem validS_iff (l : List UInt8) : validS l = true ↔ ∃ rs, Chars l rs :=
  ⟨fun h => validF_chars _ l (Nat.le_refl _) h, fun ⟨rs, h⟩ => chars_validF rs _ l h (Nat.le_refl _)⟩
/-- one character further -/
theorem validS_step {l : List UInt8} (hn : l ≠ []) {c n : Nat} (hd : dec l = (c, n)) : validS l = (!(decide ((c, n) = ((65533 : Nat), (1 : Nat)))) && validS (l.drop n)) := by
  by_cases he : (c, n) = ((65533 : Nat), (1 : Nat))
  · rw [decide_eq_true he]
    have hvf : validS l = false := by
      rw [Bool.eq_false_iff]
      intro hv
      obtain ⟨rs, hr⟩ := (validS_iff l).1 hv
      cases rs with
      | nil => exact hn hr.2
      | cons r rs =>
        have h1 := dec_enc (hr.1 r (by simp)) (encS rs)
        rw [← encS_cons, ← hr.2, hd, he] at h1
        injection h1 with e1 e2
        subst e1
        have : (encodeRune ((65533 : Nat) : Int)).length = 3 := by decide +kernel
        omega
    rw [hvf]
    rfl
  · rw [decide_eq_false he, Bool.not_false, Bool.true_and]
    obtain ⟨ho, t, ht, hn2⟩ := dec_ok hn hd (fun h => he (by rw [h.1, h.2]))
    have hdr : l.drop n = t := by rw [ht, hn2, List.drop_left]
    rw [hdr]
    by_cases hv : validS t = true
    · rw [hv]
      obtain ⟨rs, hr⟩ := (validS_iff t).1 hv
      exact (validS_iff l).2 ⟨c :: rs, by rw [ht]; exact hr.cons ho⟩
    · rw [Bool.eq_false_iff.2 hv]
      rw [Bool.eq_false_iff]
      intro hv2
      obtain ⟨rs, hr⟩ := (validS_iff l).1 hv2
      cases rs with
      | nil => exact hn hr.2
      | cons r rs =>
        have h1 := dec_enc (hr.1 r (by simp)) (encS rs)
        have h3 : l = encodeRune (r : Int) ++ encS rs := by rw [← encS_cons]; exact hr.2
        rw [← h3, hd] at h1
        injection h1 with e1 e2
        refine hv ((validS_iff t).2 ⟨rs, fun x hx => hr.1 x (List.mem_cons_of_mem _ hx), ?_⟩)
        rw [← hdr, e2, h3, List.drop_left]
end Go.Proofs.YthlijkpeafgenaaDoor
