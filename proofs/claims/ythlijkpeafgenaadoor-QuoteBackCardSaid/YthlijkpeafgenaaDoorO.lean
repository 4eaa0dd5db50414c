/- The plain laws of quoting: what is quoted is unquoted to the same; what is unquoted is characters, and no longer. -/
import Derived.Test.YthlijkpeafgenaaDoorN
set_option linter.unusedVariables false
set_option linter.unusedSimpArgs false
namespace Go.Proofs.YthlijkpeafgenaaDoor
open Go.RowKit Go.Lib

/-- a character in a quoted text -/
def qR (c : Nat) : List UInt8 := if plainQ c = [] then encodeRune (c : Int) else plainQ c
def qS (rs : List Nat) : List UInt8 := rs.flatMap qR
/-- what stands behind the first quote; how far; is it right? -/
def unqF : Nat → List UInt8 → Nat → List UInt8 → List UInt8 × Nat × Bool
  | 0, _, i, _ => ([], i, false)
  | f + 1, l, i, out => if l = [] then ([], i, false) else
    if (dec l).1 = 34 then (out, i + 1, true) else
    if (dec l).1 < 32 ∨ ((dec l).1 = 65533 ∧ (dec l).2 = 1) then ([], i, false) else
    if (dec l).1 = 92 then
      (if (escQ (l.drop 1)).2 = 0 then ([], i, false) else unqF f (l.drop (1 + (escQ (l.drop 1)).2)) (i + (1 + (escQ (l.drop 1)).2)) (out ++ encodeRune (escQ (l.drop 1)).1))
    else unqF f (l.drop (dec l).2) (i + (dec l).2) (out ++ encodeRune ((dec l).1 : Int))
def unqS (l : List UInt8) : List UInt8 × Nat × Bool := match l with
  | [] => ([], 0, false)
  | c :: r => if c = 34 then unqF (r.length + 1) r 1 [] else ([], 0, false)

theorem par3 : ∀ k : Fin 16, parseS [48, 48, 48, (dgt k.val).toNat] 16 = ((k.val : Int), 0) := by decide +kernel
theorem par2 : ∀ k : Fin 16, parseS [48, 48, 49, (dgt k.val).toNat] 16 = (16 + (k.val : Int), 0) := by decide +kernel
theorem unit_ctl (c : Nat) (h : c < 32) (t : List UInt8) : unitQ ((ctlQ c).drop 1 ++ t) = (c : Int) := by
  unfold ctlQ
  by_cases h1 : c < 16
  · rw [if_pos h1]
    have hp := par3 ⟨c, h1⟩
    simp [unitQ, hp]
  · rw [if_neg h1]
    have hp := par2 ⟨c - 16, by omega⟩
    simp [unitQ, hp]
    omega
theorem ctl_len (c : Nat) : (ctlQ c).length = 6 := by unfold ctlQ; split <;> rfl
theorem ctl_ne (c : Nat) : ctlQ c ≠ [] := fun h => by have := ctl_len c; rw [h] at this; simp at this
theorem ctl_head (c : Nat) : ∃ p, ctlQ c = 92 :: 117 :: p := by unfold ctlQ; split <;> exact ⟨_, rfl⟩
/-- an escape is undone -/
theorem esc_plain (c : Nat) (h : plainQ c ≠ []) (t : List UInt8) : (∃ p, plainQ c = 92 :: p ∧ p ≠ [] ∧ escQ (p ++ t) = ((c : Int), p.length)) ∧ c ≤ 92 := by
  unfold plainQ at h ⊢
  by_cases h1 : c = 34
  · subst h1; rw [if_pos rfl]; exact ⟨⟨_, rfl, by simp, by simp [escQ, shortQ]⟩, by omega⟩
  rw [if_neg h1] at h ⊢
  by_cases h2 : c = 92
  · subst h2; rw [if_pos rfl]; exact ⟨⟨_, rfl, by simp, by simp [escQ, shortQ]⟩, by omega⟩
  rw [if_neg h2] at h ⊢
  by_cases h3 : c = 10
  · subst h3; rw [if_pos rfl]; exact ⟨⟨_, rfl, by simp, by simp [escQ, shortQ]⟩, by omega⟩
  rw [if_neg h3] at h ⊢
  by_cases h4 : c = 13
  · subst h4; rw [if_pos rfl]; exact ⟨⟨_, rfl, by simp, by simp [escQ, shortQ]⟩, by omega⟩
  rw [if_neg h4] at h ⊢
  by_cases h5 : c = 9
  · subst h5; rw [if_pos rfl]; exact ⟨⟨_, rfl, by simp, by simp [escQ, shortQ]⟩, by omega⟩
  rw [if_neg h5] at h ⊢
  by_cases h6 : 32 ≤ c
  · rw [if_pos h6] at h; exact absurd rfl h
  rw [if_neg h6]
  obtain ⟨p, hp⟩ := ctl_head c
  have hu := unit_ctl c (by omega) t
  have hl := ctl_len c
  rw [hp] at hu hl ⊢
  refine ⟨⟨_, rfl, by simp, ?_⟩, by omega⟩
  simp only [List.drop_succ_cons, List.drop_zero] at hu
  have hs : (shortQ ((117 : UInt8).toNat : Int)).2 = false := by decide
  show escQ (117 :: (p ++ t)) = _
  unfold escQ
  simp only
  rw [hs]
  rw [List.cons_append] at hu
  rw [hu]
  rw [if_neg (by decide), if_neg (by omega), if_pos (by omega)]
  simp at hl ⊢
  omega
theorem plain_none {c : Nat} (h : plainQ c = []) : 32 ≤ c ∧ c ≠ 34 ∧ c ≠ 92 := by
  unfold plainQ at h
  by_cases h1 : c = 34
  · rw [if_pos h1] at h; cases h
  rw [if_neg h1] at h
  by_cases h2 : c = 92
  · rw [if_pos h2] at h; cases h
  rw [if_neg h2] at h
  by_cases h3 : c = 10
  · rw [if_pos h3] at h; cases h
  rw [if_neg h3] at h
  by_cases h4 : c = 13
  · rw [if_pos h4] at h; cases h
  rw [if_neg h4] at h
  by_cases h5 : c = 9
  · rw [if_pos h5] at h; cases h
  rw [if_neg h5] at h
  by_cases h6 : 32 ≤ c
  · exact ⟨h6, h1, h2⟩
  · rw [if_neg h6] at h
    exact absurd h (ctl_ne c)
theorem enc_65533 : (encodeRune ((65533 : Nat) : Int)).length = 3 := by decide +kernel
theorem dec_one {a : UInt8} (h : a.toNat < 128) (t : List UInt8) : dec (a :: t) = (a.toNat, 1) := by
  unfold dec
  have : bAt (a :: t) 0 = a.toNat := rfl
  rw [this, if_pos h]
theorem unqF_char {c : Nat} (hc : okR c) (f : Nat) (t : List UInt8) (i : Nat) (out : List UInt8) : unqF (f + 1) (qR c ++ t) i out = unqF f t (i + (qR c).length) (out ++ encodeRune (c : Int)) := by
  unfold qR
  by_cases hp : plainQ c = []
  · rw [if_pos hp]
    obtain ⟨h1, h2, h3⟩ := plain_none hp
    have hl := enc_len (c : Int)
    have hne : encodeRune (c : Int) ++ t ≠ [] := by intro h; have := congrArg List.length h; simp at this; rw [this.1] at hl; simp at hl
    have hd := dec_enc hc t
    rw [unqF, if_neg hne, hd]
    simp only
    rw [if_neg h2, if_neg (show ¬ (c < 32 ∨ (c = 65533 ∧ (encodeRune (c : Int)).length = 1)) from fun h => by rcases h with h | ⟨rfl, h⟩ <;> first | omega | (rw [enc_65533] at h; omega)), if_neg h3, List.drop_left]
  · rw [if_neg hp]
    obtain ⟨⟨p, e, hpn, he⟩, hcl⟩ := esc_plain c hp t
    rw [e]
    have hd := dec_one (a := 92) (by decide) (p ++ t)
    have hpl : p.length ≠ 0 := by simpa using hpn
    rw [unqF, List.cons_append, if_neg (by simp), hd]
    simp only [List.drop_succ_cons, List.drop_zero]
    rw [he]
    simp only
    rw [if_neg (by decide), if_neg (by decide), if_pos (by decide), if_neg hpl]
    have hdr : (92 :: (p ++ t)).drop (1 + p.length) = t := by rw [Nat.add_comm, List.drop_succ_cons, List.drop_left]
    have hln : 1 + p.length = (92 :: p).length := by simp; omega
    rw [hdr, hln]
theorem qS_cons (r : Nat) (rs : List Nat) : qS (r :: rs) = qR r ++ qS rs := by simp [qS]
theorem qS_app (a b : List Nat) : qS (a ++ b) = qS a ++ qS b := by simp [qS]
theorem qR_pos (c : Nat) : 1 ≤ (qR c).length := by
  unfold qR
  split
  · exact (enc_len _).1
  · rename_i h
    cases hp : plainQ c with
    | nil => exact absurd hp h
    | cons a b => simp
theorem unqF_back : ∀ (rs : List Nat) (f : Nat) (more : List UInt8) (i : Nat) (out : List UInt8), (∀ r ∈ rs, okR r) → (qS rs).length < f →
    unqF f (qS rs ++ 34 :: more) i out = (out ++ encS rs, i + (qS rs).length + 1, true) := by
  intro rs
  induction rs with
  | nil =>
    intro f more i out _ hf
    cases f with
    | zero => simp [qS] at hf
    | succ f =>
      show unqF (f + 1) (34 :: more) i out = _
      have hd := dec_one (a := 34) (by decide) more
      rw [unqF, if_neg (by simp), hd]
      simp [encS, qS]
  | cons r rs ih =>
    intro f more i out h hf
    rw [qS_cons, List.length_append] at hf
    have := qR_pos r
    cases f with
    | zero => omega
    | succ f =>
      rw [qS_cons, List.append_assoc, unqF_char (h r (by simp)), ih f more _ _ (fun x hx => h x (List.mem_cons_of_mem _ hx)) (by omega), encS_cons, List.append_assoc]
      simp
      omega
/-- what is quoted is unquoted to the same, whatever stands behind -/
theorem unqS_back (rs : List Nat) (more : List UInt8) (h : ∀ r ∈ rs, okR r) : unqS (34 :: (qS rs ++ [34]) ++ more) = (encS rs, (34 :: (qS rs ++ [34])).length, true) := by
  have e : 34 :: (qS rs ++ [34]) ++ more = 34 :: (qS rs ++ 34 :: more) := by simp
  rw [e]
  unfold unqS
  simp only [if_true]
  rw [unqF_back rs _ more 1 [] h (by simp; omega)]
  simp
  omega

theorem shortQ_ok (c : Int) (h : (shortQ c).2 = true) : 0 ≤ (shortQ c).1 ∧ (shortQ c).1 < 128 := by
  unfold shortQ at h ⊢
  repeat' split
  all_goals first | omega | simp_all
theorem unitQ_len {l : List UInt8} (h : 0 ≤ unitQ l) : 5 ≤ l.length := by
  by_cases h5 : l.length < 5
  · rw [unitQ_short h5] at h; omega
  · omega
theorem enc_one {c : Nat} (h : c < 128) : (encodeRune (c : Int)).length = 1 := by rw [enc1 h]; rfl
/-- what an escape stands for is a character, and no longer than it -/
theorem escQ_ok (l : List UInt8) (h : (escQ l).2 ≠ 0) : ∃ c : Nat, (escQ l).1 = (c : Int) ∧ okR c ∧ (encodeRune (c : Int)).length ≤ 1 + (escQ l).2 ∧ (escQ l).2 ≤ l.length := by
  cases l with
  | nil => exact absurd rfl h
  | cons a r =>
    unfold escQ at h ⊢
    simp only at h ⊢
    by_cases h1 : (shortQ (a.toNat : Int)).2 = true
    · rw [if_pos h1]
      obtain ⟨k0, k1⟩ := shortQ_ok _ h1
      obtain ⟨c, hc⟩ := Int.eq_ofNat_of_zero_le k0
      simp only
      refine ⟨c, hc, .inl (by omega), ?_, by simp⟩
      rw [enc_one (by omega)]
      omega
    rw [if_neg h1] at h ⊢
    obtain ⟨u, hu⟩ : ∃ u, unitQ (a :: r) = u := ⟨_, rfl⟩
    have hul := unitQ_lt (a :: r)
    have hun := unitQ_len (l := a :: r)
    rw [hu] at h hul hun ⊢
    by_cases h2 : u < 0 ∨ 56320 ≤ u ∧ u ≤ 57343
    · rw [if_pos h2] at h; exact absurd rfl h
    rw [if_neg h2] at h ⊢
    by_cases h3 : u < 55296 ∨ 57343 < u
    · rw [if_pos h3]
      obtain ⟨c, hc⟩ := Int.eq_ofNat_of_zero_le (show 0 ≤ u by omega)
      have := enc_len (c : Int)
      refine ⟨c, hc, ?_, by simp only; omega, hun (by omega)⟩
      unfold okR
      omega
    rw [if_neg h3] at h ⊢
    have hd : ((a :: r).drop 5).length = (a :: r).length - 5 := by simp
    have hu5 := hun (by omega)
    generalize hR : (a :: r).drop 5 = R at h hd ⊢
    unfold tailQ at h ⊢
    split
    · rename_i r2
      simp only at h
      by_cases h4 : unitQ r2 < 56320 ∨ 57343 < unitQ r2
      · rw [if_pos h4] at h; exact absurd rfl h
      rw [if_neg h4]
      have h5 := unitQ_len (l := r2) (by omega)
      obtain ⟨c, hc⟩ := Int.eq_ofNat_of_zero_le (show 0 ≤ 65536 + (u - 55296) * 1024 + unitQ r2 - 56320 by omega)
      have := enc_len (c : Int)
      refine ⟨c, hc, ?_, by simp only; omega, ?_⟩
      · unfold okR
        omega
      · simp only [List.length_cons] at hd hu5 ⊢
        omega
    · rename_i hx
      exfalso
      apply h
      first | rfl | (split <;> first | rfl | (rename_i r2 _; exact (hx r2 rfl).elim) | (rename_i r2; exact (hx r2 rfl).elim))
theorem dec_le (l : List UInt8) (hl : l ≠ []) : (dec l).2 ≤ l.length := by
  by_cases h : (dec l).1 = 65533 ∧ (dec l).2 = 1
  · rw [h.2]
    cases l with
    | nil => exact absurd rfl hl
    | cons a b => simp
  · obtain ⟨_, t, ht, hn⟩ := dec_ok hl (c := (dec l).1) (n := (dec l).2) rfl h
    rw [hn]
    have := congrArg List.length ht
    rw [List.length_append] at this
    omega
theorem Chars.snoc {l : List UInt8} {rs : List Nat} (h : Chars l rs) {r : Nat} (hr : okR r) : Chars (l ++ encodeRune (r : Int)) (rs ++ [r]) := by
  refine ⟨fun x hx => ?_, by rw [encS_app, h.2]; simp [encS]⟩
  rcases List.mem_append.1 hx with h1 | h1
  · exact h.1 x h1
  · simp at h1
    subst h1
    exact hr
theorem unqF_valid : ∀ (f : Nat) (l : List UInt8) (i : Nat) (out : List UInt8) (rs : List Nat), Chars out rs → out.length + 1 ≤ i →
    i ≤ (unqF f l i out).2.1 ∧ (unqF f l i out).2.1 ≤ i + l.length ∧ ((unqF f l i out).2.2 = false → (unqF f l i out).1 = []) ∧
    ((unqF f l i out).2.2 = true → (∃ rs, Chars (unqF f l i out).1 rs) ∧ (unqF f l i out).1.length + 2 ≤ (unqF f l i out).2.1) := by
  intro f
  induction f with
  | zero => intro l i out rs _ _; simp [unqF]
  | succ f ih =>
    intro l i out rs hr hi
    rw [unqF]
    by_cases hl : l = []
    · rw [if_pos hl]; simp
    rw [if_neg hl]
    have hlen : 1 ≤ l.length := by cases l with | nil => exact absurd rfl hl | cons a b => simp
    by_cases h1 : (dec l).1 = 34
    · rw [if_pos h1]
      refine ⟨by simp, by simp only; omega, by simp, fun _ => ⟨⟨rs, hr⟩, by simp only; omega⟩⟩
    rw [if_neg h1]
    by_cases h2 : (dec l).1 < 32 ∨ ((dec l).1 = 65533 ∧ (dec l).2 = 1)
    · rw [if_pos h2]; simp
    rw [if_neg h2]
    by_cases h3 : (dec l).1 = 92
    · rw [if_pos h3]
      by_cases h4 : (escQ (l.drop 1)).2 = 0
      · rw [if_pos h4]; simp
      rw [if_neg h4]
      obtain ⟨c, hc, ho, hk, hkl⟩ := escQ_ok (l.drop 1) h4
      rw [List.length_drop] at hkl
      rw [hc]
      obtain ⟨k, hkk⟩ : ∃ k, (escQ (l.drop 1)).2 = k := ⟨_, rfl⟩
      rw [hkk] at hk hkl ⊢
      obtain ⟨p1, p2, p3, p4⟩ := ih (l.drop (1 + k)) (i + (1 + k)) (out ++ encodeRune (c : Int)) (rs ++ [c]) (hr.snoc ho) (by rw [List.length_append]; omega)
      rw [List.length_drop] at p2
      exact ⟨by omega, by omega, p3, p4⟩
    · rw [if_neg h3]
      obtain ⟨ho, t, ht, hn⟩ := dec_ok hl (c := (dec l).1) (n := (dec l).2) rfl (fun h => h2 (.inr h))
      have hle := dec_le l hl
      obtain ⟨c, hc⟩ : ∃ c, (dec l).1 = c := ⟨_, rfl⟩
      obtain ⟨n, hnn⟩ : ∃ n, (dec l).2 = n := ⟨_, rfl⟩
      rw [hc] at hn ho ⊢
      rw [hnn] at hn hle ⊢
      obtain ⟨p1, p2, p3, p4⟩ := ih (l.drop n) (i + n) (out ++ encodeRune (c : Int)) (rs ++ [c]) (hr.snoc ho) (by rw [List.length_append]; omega)
      rw [List.length_drop] at p2
      exact ⟨by omega, by omega, p3, p4⟩
/-- what is unquoted is characters, and no longer than it was -/
theorem unqS_valid (l : List UInt8) : (unqS l).2.1 ≤ l.length ∧ ((unqS l).2.2 = false → (unqS l).1 = []) ∧ ((unqS l).2.2 = true → validS (unqS l).1 = true ∧ (unqS l).1.length + 2 ≤ (unqS l).2.1) := by
  cases l with
  | nil => simp [unqS]
  | cons c r =>
    unfold unqS
    simp only
    by_cases h : c = 34
    · rw [if_pos h]
      obtain ⟨p1, p2, p3, p4⟩ := unqF_valid (r.length + 1) r 1 [] [] Chars.nil (by simp)
      refine ⟨by simp only [List.length_cons]; omega, p3, fun hh => ⟨(validS_iff _).2 (p4 hh).1, (p4 hh).2⟩⟩
    · rw [if_neg h]; simp
end Go.Proofs.YthlijkpeafgenaaDoor
