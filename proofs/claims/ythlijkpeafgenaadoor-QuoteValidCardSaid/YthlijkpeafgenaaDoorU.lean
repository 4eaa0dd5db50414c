/- Characters: how they are read, and written. -/
import Derived.Test.YthlijkpeafgenaaDoorE
set_option linter.unusedVariables false
set_option linter.unusedSimpArgs false
namespace Go.Proofs.YthlijkpeafgenaaDoor
open Go.RowKit Go.Lib

def bAt (l : List UInt8) (k : Nat) : Nat := (l.getD k 0).toNat
def cont (l : List UInt8) (k : Nat) : Bool := decide (k < l.length) && bAt l k / 64 == 2
/-- the first character of a text, and its bytes; (65533, 1): there is none -/
def dec (l : List UInt8) : Nat × Nat :=
  if bAt l 0 < 128 then (bAt l 0, 1)
  else if bAt l 0 / 32 == 6 && cont l 1 then
    if 128 ≤ (bAt l 0 % 32) * 64 + bAt l 1 % 64 then ((bAt l 0 % 32) * 64 + bAt l 1 % 64, 2) else (65533, 1)
  else if bAt l 0 / 16 == 14 && cont l 1 && cont l 2 then
    if decide (2048 ≤ (bAt l 0 % 16) * 4096 + (bAt l 1 % 64) * 64 + bAt l 2 % 64) && Utf8.valid (((bAt l 0 % 16) * 4096 + (bAt l 1 % 64) * 64 + bAt l 2 % 64 : Nat) : Int) then ((bAt l 0 % 16) * 4096 + (bAt l 1 % 64) * 64 + bAt l 2 % 64, 3) else (65533, 1)
  else if bAt l 0 / 8 == 30 && cont l 1 && cont l 2 && cont l 3 then
    if decide (65536 ≤ (bAt l 0 % 8) * 262144 + (bAt l 1 % 64) * 4096 + (bAt l 2 % 64) * 64 + bAt l 3 % 64) && Utf8.valid (((bAt l 0 % 8) * 262144 + (bAt l 1 % 64) * 4096 + (bAt l 2 % 64) * 64 + bAt l 3 % 64 : Nat) : Int) then ((bAt l 0 % 8) * 262144 + (bAt l 1 % 64) * 4096 + (bAt l 2 % 64) * 64 + bAt l 3 % 64, 4) else (65533, 1)
  else (65533, 1)
theorem get_list (l : List UInt8) (i k : Nat) : ((⟨l.toArray⟩ : ByteArray).get! (i + k)).toNat = bAt (l.drop i) k := by
  unfold bAt
  congr 1
  show l.toArray[i + k]! = _
  rw [List.getD_eq_getElem?_getD, List.getElem?_drop]
  rw [List.getElem!_toArray, List.getElem!_eq_getElem?_getD]
  rfl
theorem cont_list (l : List UInt8) (i k : Nat) : (decide (i + k < (⟨l.toArray⟩ : ByteArray).size) && ((⟨l.toArray⟩ : ByteArray).get! (i + k)).toNat / 64 == 2) = cont (l.drop i) k := by
  unfold cont
  rw [get_list]
  congr 1
  have hs : (⟨l.toArray⟩ : ByteArray).size = l.length := by rw [size_eq]
  rw [hs, List.length_drop]
  by_cases h : i + k < l.length
  · rw [decide_eq_true h, decide_eq_true (by omega)]
  · rw [decide_eq_false h, decide_eq_false (by omega)]
theorem decode_list (l : List UInt8) (i : Nat) : Utf8.decode ⟨l.toArray⟩ i = dec (l.drop i) := by
  have h0 := get_list l i 0
  have h1 := get_list l i 1
  have h2 := get_list l i 2
  have h3 := get_list l i 3
  have c1 := cont_list l i 1
  have c2 := cont_list l i 2
  have c3 := cont_list l i 3
  unfold Utf8.decode dec
  simp only [Utf8.runeError] at *
  simp only [h0, h1, h2, h3] at c1 c2 c3 ⊢
  simp only [c1, c2, c3]
theorem decodeGo_list (l : List UInt8) (h : l ≠ []) : decodeGo ⟨l.toArray⟩ = dec l := by
  unfold decodeGo
  have hs : (⟨l.toArray⟩ : ByteArray).size = l.length := by rw [size_eq]
  rw [hs, if_neg (by simpa using h), decode_list]
  rfl

theorem b8 {x : Int} {n : Nat} (h : x = (n : Int)) (hn : n < 256) : (x.toNat.toUInt8).toNat = n := by
  subst h
  simp
  omega
theorem enc1 {r : Nat} (h : r < 128) : encodeRune r = [r.toUInt8] := by
  rw [encodeRune, encodeRuneZ_one (by omega) (by omega)]
  simp
theorem enc2 {r : Nat} (h0 : 128 ≤ r) (h1 : r < 2048) : ∃ a b : UInt8, encodeRune r = [a, b] ∧ a.toNat = 192 + r / 64 ∧ b.toNat = 128 + r % 64 := by
  rw [encodeRune, encodeRuneZ_two (by omega) (by omega)]
  exact ⟨_, _, rfl, b8 (by omega) (by omega), b8 (by omega) (by omega)⟩
theorem enc3 {r : Nat} (h : (2048 ≤ r ∧ r < 55296) ∨ (57343 < r ∧ r ≤ 65535)) : ∃ a b c : UInt8, encodeRune r = [a, b, c] ∧ a.toNat = 224 + r / 4096 ∧ b.toNat = 128 + r / 64 % 64 ∧ c.toNat = 128 + r % 64 := by
  rw [encodeRune, encodeRuneZ_three (by omega)]
  exact ⟨_, _, _, rfl, b8 (by omega) (by omega), b8 (by omega) (by omega), b8 (by omega) (by omega)⟩
theorem enc4 {r : Nat} (h0 : 65536 ≤ r) (h1 : r ≤ 1114111) : ∃ a b c d : UInt8, encodeRune r = [a, b, c, d] ∧ a.toNat = 240 + r / 262144 ∧ b.toNat = 128 + r / 4096 % 64 ∧ c.toNat = 128 + r / 64 % 64 ∧ d.toNat = 128 + r % 64 := by
  rw [encodeRune, encodeRuneZ_four (by omega) (by omega)]
  exact ⟨_, _, _, _, rfl, b8 (by omega) (by omega), b8 (by omega) (by omega), b8 (by omega) (by omega), b8 (by omega) (by omega)⟩
def okR (r : Nat) : Prop := r < 55296 ∨ (57344 ≤ r ∧ r ≤ 1114111)
theorem valid_okR (r : Nat) : Utf8.valid (r : Int) = true ↔ okR r := by
  unfold Utf8.valid okR
  simp
  omega
/-- what is written is read again -/
theorem dec_enc {r : Nat} (h : okR r) (t : List UInt8) : dec (encodeRune r ++ t) = (r, (encodeRune r).length) := by
  have hv := (valid_okR r).2 h
  by_cases h1 : r < 128
  · rw [enc1 h1]
    have : bAt ([r.toUInt8] ++ t) 0 = r := by unfold bAt; simp; omega
    unfold dec
    rw [this, if_pos h1]
    rfl
  by_cases h2 : r < 2048
  · obtain ⟨a, b, e, ha, hb⟩ := enc2 (by omega) h2
    rw [e]
    have q0 : bAt ([a, b] ++ t) 0 = 192 + r / 64 := ha
    have q1 : bAt ([a, b] ++ t) 1 = 128 + r % 64 := hb
    have k1 : cont ([a, b] ++ t) 1 = true := by unfold cont; rw [q1]; simp; omega
    have m0 : (192 + r / 64) / 32 = 6 := by omega
    have m1 : (192 + r / 64) % 32 * 64 + (128 + r % 64) % 64 = r := by omega
    unfold dec
    rw [q0, q1, k1, m0, m1, if_neg (by omega)]
    simp
    omega
  by_cases h3 : r < 65536
  · unfold okR at h
    obtain ⟨a, b, c, e, ha, hb, hc⟩ := enc3 (r := r) (by omega)
    rw [e]
    have q0 : bAt ([a, b, c] ++ t) 0 = 224 + r / 4096 := ha
    have q1 : bAt ([a, b, c] ++ t) 1 = 128 + r / 64 % 64 := hb
    have q2 : bAt ([a, b, c] ++ t) 2 = 128 + r % 64 := hc
    have k1 : cont ([a, b, c] ++ t) 1 = true := by unfold cont; rw [q1]; simp; omega
    have k2 : cont ([a, b, c] ++ t) 2 = true := by unfold cont; rw [q2]; simp; omega
    have m0 : ((224 + r / 4096) / 32 == 6) = false := by simp; omega
    have m1 : ((224 + r / 4096) / 16 == 14) = true := by simp; omega
    have m2 : (224 + r / 4096) % 16 * 4096 + (128 + r / 64 % 64) % 64 * 64 + (128 + r % 64) % 64 = r := by omega
    unfold dec
    rw [q0, q1, q2, k1, k2, m0, m1, m2, if_neg (by omega), hv]
    simp
    omega
  · unfold okR at h
    obtain ⟨a, b, c, d, e, ha, hb, hc, hd⟩ := enc4 (r := r) (by omega) (by omega)
    rw [e]
    have q0 : bAt ([a, b, c, d] ++ t) 0 = 240 + r / 262144 := ha
    have q1 : bAt ([a, b, c, d] ++ t) 1 = 128 + r / 4096 % 64 := hb
    have q2 : bAt ([a, b, c, d] ++ t) 2 = 128 + r / 64 % 64 := hc
    have q3 : bAt ([a, b, c, d] ++ t) 3 = 128 + r % 64 := hd
    have k1 : cont ([a, b, c, d] ++ t) 1 = true := by unfold cont; rw [q1]; simp; omega
    have k2 : cont ([a, b, c, d] ++ t) 2 = true := by unfold cont; rw [q2]; simp; omega
    have k3 : cont ([a, b, c, d] ++ t) 3 = true := by unfold cont; rw [q3]; simp; omega
    have m0 : ((240 + r / 262144) / 32 == 6) = false := by simp; omega
    have m1 : ((240 + r / 262144) / 16 == 14) = false := by simp; omega
    have m2 : ((240 + r / 262144) / 8 == 30) = true := by simp; omega
    have m3 : (240 + r / 262144) % 8 * 262144 + (128 + r / 4096 % 64) % 64 * 4096 + (128 + r / 64 % 64) % 64 * 64 + (128 + r % 64) % 64 = r := by omega
    unfold dec
    rw [q0, q1, q2, q3, k1, k2, k3, m0, m1, m2, m3, if_neg (by omega), hv]
    simp
    omega

theorem cont_out {l : List UInt8} {k : Nat} (h : cont l k = true) : k < l.length ∧ bAt l k / 64 = 2 := by
  unfold cont at h
  simp only [Bool.and_eq_true, decide_eq_true_eq, beq_iff_eq] at h
  exact h
theorem bAt_lt (l : List UInt8) (k : Nat) : bAt l k < 256 := by unfold bAt; exact UInt8.toNat_lt _
theorem len2 {l : List UInt8} (h : 1 < l.length) : ∃ a b t, l = a :: b :: t := by
  match l, h with
  | a :: b :: t, _ => exact ⟨a, b, t, rfl⟩
theorem len3 {l : List UInt8} (h : 2 < l.length) : ∃ a b c t, l = a :: b :: c :: t := by
  match l, h with
  | a :: b :: c :: t, _ => exact ⟨a, b, c, t, rfl⟩
theorem len4 {l : List UInt8} (h : 3 < l.length) : ∃ a b c d t, l = a :: b :: c :: d :: t := by
  match l, h with
  | a :: b :: c :: d :: t, _ => exact ⟨a, b, c, d, t, rfl⟩
/-- what is read is what was written -/
theorem dec_ok {l : List UInt8} (hl : l ≠ []) {c n : Nat} (h : dec l = (c, n)) (hne : ¬ (c = 65533 ∧ n = 1)) : okR c ∧ ∃ t, l = encodeRune c ++ t ∧ n = (encodeRune c).length := by
  have g0 := bAt_lt l 0
  have g1 := bAt_lt l 1
  have g2 := bAt_lt l 2
  have g3 := bAt_lt l 3
  unfold dec at h
  by_cases h0 : bAt l 0 < 128
  · rw [if_pos h0] at h
    injection h with h1 h2
    subst h1 h2
    refine ⟨.inl (by omega), l.drop 1, ?_, by rw [enc1 h0]; rfl⟩
    rw [enc1 h0]
    cases l with
    | nil => exact absurd rfl hl
    | cons a t => simp [bAt]
  rw [if_neg h0] at h
  by_cases h1 : (bAt l 0 / 32 == 6 && cont l 1) = true
  · rw [if_pos h1] at h
    simp only [Bool.and_eq_true, beq_iff_eq] at h1
    obtain ⟨k1, k2⟩ := cont_out h1.2
    by_cases h2 : 128 ≤ bAt l 0 % 32 * 64 + bAt l 1 % 64
    · rw [if_pos h2] at h
      injection h with e1 e2
      obtain ⟨a, b, t, rfl⟩ := len2 k1
      have qa : bAt (a :: b :: t) 0 = a.toNat := rfl
      have qb : bAt (a :: b :: t) 1 = b.toNat := rfl
      obtain ⟨a', b', e, ha, hb⟩ := enc2 (r := c) (by omega) (by omega)
      refine ⟨.inl (by omega), t, ?_, by rw [e, ← e2]; rfl⟩
      rw [e]
      have x1 : a = a' := UInt8.toNat_inj.1 (by rw [ha]; omega)
      have x2 : b = b' := UInt8.toNat_inj.1 (by rw [hb]; omega)
      rw [x1, x2]
      rfl
    · rw [if_neg h2] at h
      injection h with e1 e2
      exact absurd ⟨e1.symm, e2.symm⟩ hne
  rw [if_neg h1] at h
  by_cases h2 : (bAt l 0 / 16 == 14 && cont l 1 && cont l 2) = true
  · rw [if_pos h2] at h
    simp only [Bool.and_eq_true, beq_iff_eq] at h2
    obtain ⟨k1, k2⟩ := cont_out h2.1.2
    obtain ⟨k3, k4⟩ := cont_out h2.2
    split at h
    · rename_i hv
      injection h with e1 e2
      simp only [Bool.and_eq_true, decide_eq_true_eq] at hv
      rw [e1] at hv
      have ho := (valid_okR c).1 hv.2
      unfold okR at ho
      obtain ⟨a, b, d, t, rfl⟩ := len3 k3
      have qa : bAt (a :: b :: d :: t) 0 = a.toNat := rfl
      have qb : bAt (a :: b :: d :: t) 1 = b.toNat := rfl
      have qd : bAt (a :: b :: d :: t) 2 = d.toNat := rfl
      obtain ⟨a', b', d', e, ha, hb, hd⟩ := enc3 (r := c) (by omega)
      refine ⟨ho, t, ?_, by rw [e, ← e2]; rfl⟩
      rw [e]
      have x1 : a = a' := UInt8.toNat_inj.1 (by rw [ha]; omega)
      have x2 : b = b' := UInt8.toNat_inj.1 (by rw [hb]; omega)
      have x3 : d = d' := UInt8.toNat_inj.1 (by rw [hd]; omega)
      rw [x1, x2, x3]
      rfl
    · injection h with e1 e2
      exact absurd ⟨e1.symm, e2.symm⟩ hne
  rw [if_neg h2] at h
  by_cases h3 : (bAt l 0 / 8 == 30 && cont l 1 && cont l 2 && cont l 3) = true
  · rw [if_pos h3] at h
    simp only [Bool.and_eq_true, beq_iff_eq] at h3
    obtain ⟨k1, k2⟩ := cont_out h3.1.1.2
    obtain ⟨k3, k4⟩ := cont_out h3.1.2
    obtain ⟨k5, k6⟩ := cont_out h3.2
    split at h
    · rename_i hv
      injection h with e1 e2
      simp only [Bool.and_eq_true, decide_eq_true_eq] at hv
      rw [e1] at hv
      have ho := (valid_okR c).1 hv.2
      unfold okR at ho
      obtain ⟨a, b, d, f, t, rfl⟩ := len4 k5
      have qa : bAt (a :: b :: d :: f :: t) 0 = a.toNat := rfl
      have qb : bAt (a :: b :: d :: f :: t) 1 = b.toNat := rfl
      have qd : bAt (a :: b :: d :: f :: t) 2 = d.toNat := rfl
      have qf : bAt (a :: b :: d :: f :: t) 3 = f.toNat := rfl
      obtain ⟨a', b', d', f', e, ha, hb, hd, hf⟩ := enc4 (r := c) (by omega) (by omega)
      refine ⟨ho, t, ?_, by rw [e, ← e2]; rfl⟩
      rw [e]
      have x1 : a = a' := UInt8.toNat_inj.1 (by rw [ha]; omega)
      have x2 : b = b' := UInt8.toNat_inj.1 (by rw [hb]; omega)
      have x3 : d = d' := UInt8.toNat_inj.1 (by rw [hd]; omega)
      have x4 : f = f' := UInt8.toNat_inj.1 (by rw [hf]; omega)
      rw [x1, x2, x3, x4]
      rfl
    · injection h with e1 e2
      exact absurd ⟨e1.symm, e2.symm⟩ hne
  rw [if_neg h3] at h
  injection h with e1 e2
  exact absurd ⟨e1.symm, e2.symm⟩ hne
end Go.Proofs.YthlijkpeafgenaaDoor
