/- Contracts of num.Text and of the reference's. -/
import Derived.Test.YtefobhoipclmdaaDoorD
import Derived.Lib.AppendIntMem
set_option linter.unusedVariables false
set_option linter.unusedSimpArgs false
namespace Go.Proofs.YtefobhoipclmdaaDoor
open Go.RowKit
open Go.Proofs.YtefobhoipclmdaaDoorW.PrintWords

/-- what is read of the library's tables -/
def Tabs (w : World) : Prop := Lib.TabIs Tryd.prog w "internal/strconv.uint64pow10" .u64 Lib.pow10Tab ∧ w.cell? ⟨2, 15, none⟩ = some (.int .u8 4)
theorem Tabs.below {w w1 : World} (h : Tabs w) (hb : Below w.heap.size w w1) : Tabs w1 := by
  refine ⟨?_, pw_cell_below hb h.2⟩
  have h1 := h.1
  unfold Lib.TabIs World.var? at h1 ⊢
  cases hg : Tryd.prog.globalNamed "internal/strconv.uint64pow10" with
  | none => rw [hg] at h1; simp at h1
  | some g =>
    rw [hg] at h1
    simp only [Option.bind_some] at h1 ⊢
    cases hh : w.heap[g]? with
    | none => rw [hh] at h1; simp at h1
    | some o => rw [hb.block g (Array.getElem?_eq_some_iff.1 hh).1, hh]; rw [hh] at h1; exact h1

def textS (n k : Int) : List UInt8 := if Fit n ∧ (k = 10 ∨ k = 16) then (if k = 10 then Lib.decDigits n.toNat else hexD n.toNat) else []

theorem ifmt_16 (u : Nat) (hu : u ≤ 9007199254740992) (w : World) (h : w.cell? ⟨2, 15, none⟩ = some (.int .u8 4)) :
    Calls Tryd.prog 21 #[.int .i64 u, .int .i64 16] w fun e w' => e = .returned (.string ⟨(hexD u).toArray⟩) ∧ Below w.heap.size w w' := by
  have h0 : ¬ (u : Int) < 0 := by omega
  have hw : IntKind.u64.wrap (u : Int) = (u : Int) := by rw [IntKind.wrap_u64]; omega
  go_enter Tryd.func21, Tryd.ntmps21
  go_wp2_with (go_at_call 25; refine (formatBits_16 u hu _ h).mono ?_; rintro e w' ⟨rfl, hb⟩)
  go_ret
  exact ⟨rfl, hb⟩
theorem fmt_16 (u : Nat) (hu : u ≤ 9007199254740992) (w : World) (h : w.cell? ⟨2, 15, none⟩ = some (.int .u8 4)) :
    Calls Tryd.prog 20 #[.int .i64 u, .int .i64 16] w fun e w' => e = .returned (.string ⟨(hexD u).toArray⟩) ∧ Below w.heap.size w w' := by
  go_enter Tryd.func20, Tryd.ntmps20
  go_wp2_with (go_at_call 21; refine (ifmt_16 u hu _ h).mono ?_; rintro e w' ⟨rfl, hb⟩)
  go_ret
  exact ⟨rfl, hb⟩
theorem below_grow {w : World} (k : Nat) (os : Array Obj) : Below w.heap.size w (Sort.grow (w.drewN k) os) := Lib.below_grow _ w (Nat.le_refl _) k os
theorem text_any (n k : Int) (w : World) (hT : Tabs w) (hn : -9223372036854775808 ≤ n) (hn2 : n ≤ 9223372036854775807) :
    Calls Tryd.prog 16 #[.int .i64 n, .int .i64 k] w fun e w' => e = .returned (.string ⟨(textS n k).toArray⟩) ∧ Below w.heap.size w w' := by
  by_cases hf : Fit n
  · have A1 := fitB_yes hf
    obtain ⟨u, rfl⟩ := Int.eq_ofNat_of_zero_le hf.1
    have hu : u ≤ 9007199254740992 := by have := hf.2; omega
    by_cases h10 : k = 10
    · subst h10
      have HF := Lib.hid (show textS u 10 = Lib.decDigits u by unfold textS; rw [if_pos ⟨hf, .inl rfl⟩, if_pos rfl, Int.toNat_natCast])
      have HT := Lib.hid hT.1
      clear hT hf
      rw [HF.out]
      go_enter Tryd.func16, Tryd.ntmps16
      go_wp2_with (first | (go_at_call 12; refine (fits_any _ _).mono ?_; rintro e _ ⟨rfl, rfl⟩) | (go_at_call 20; refine (Tryd.strconv_FormatInt_10 u (by omega) (by omega) _ HT.out).mono ?_; rintro e w' ⟨rfl, kk, os, rfl⟩))
      go_ret
      rw [Lib.itoa_nonneg]
      exact ⟨rfl, below_grow _ _⟩
    · by_cases h16 : k = 16
      · subst h16
        have HF := Lib.hid (show textS u 16 = hexD u by unfold textS; rw [if_pos ⟨hf, .inr rfl⟩, if_neg (by omega), Int.toNat_natCast])
        have HT := Lib.hid hT.2
        clear hT hf
        rw [HF.out]
        go_enter Tryd.func16, Tryd.ntmps16
        go_wp2_with (first | (go_at_call 12; refine (fits_any _ _).mono ?_; rintro e _ ⟨rfl, rfl⟩) | (go_at_call 20; refine (fmt_16 u hu _ HT.out).mono ?_; rintro e w' ⟨rfl, hb⟩))
        go_ret
        exact ⟨rfl, hb⟩
      · have HF := Lib.hid (show textS u k = [] by unfold textS; rw [if_neg fun h => h.2.elim h10 h16])
        have hk1 : (k != 10) = true := by simp [h10]
        have hk2 : (k != 16) = true := by simp [h16]
        rw [HF.out]
        clear hf h10 h16
        go_enter Tryd.func16, Tryd.ntmps16
        go_wp2_with (go_at_call 12; refine (fits_any _ _).mono ?_; rintro e _ ⟨rfl, rfl⟩)
        go_ret
        exact ⟨rfl, Below.refl _ _⟩
  · have A1 := fitB_no hf
    have HF := Lib.hid (show textS n k = [] by unfold textS; rw [if_neg fun h => hf h.1])
    rw [HF.out]
    clear hf
    go_enter Tryd.func16, Tryd.ntmps16
    go_wp2_with (go_at_call 12; refine (fits_any _ _).mono ?_; rintro e _ ⟨rfl, rfl⟩)
    go_ret
    exact ⟨rfl, Below.refl _ _⟩

theorem dig16 : ∀ k : Fin 16, (#[48, 49, 50, 51, 52, 53, 54, 55, 56, 57, 97, 98, 99, 100, 101, 102] : Array UInt8).extract k.val (k.val + 1) = #[dgt k.val] := by decide
theorem dig_piece (m : Nat) (h : m < 16) : ({ data := #[48, 49, 50, 51, 52, 53, 54, 55, 56, 57, 97, 98, 99, 100, 101, 102] } : ByteArray).extract m (m + 1) = ⟨#[dgt m]⟩ := by
  apply ByteArray.ext
  rw [ByteArray.data_extract]
  exact dig16 ⟨m, h⟩
theorem dec_small {u : Nat} (h : u < 10) : Lib.decDigits u = [dgt u] := by rw [Lib.decDigits_one h]; unfold dgt; rw [if_pos h]
theorem dec_big {u : Nat} (h : ¬ u < 10) : Lib.decDigits u = Lib.decDigits (u / 10) ++ [dgt (u % 10)] := by
  conv => lhs; rw [Lib.decDigits]
  rw [dif_neg h]
  unfold dgt
  rw [if_pos (by omega)]
theorem dec_len {k u : Nat} (h : u < 10 ^ (k + 1)) : (Lib.decDigits u).length ≤ k + 1 := by
  induction k generalizing u with
  | zero => rw [dec_small (by simpa using h)]; simp
  | succ k ih =>
    by_cases hu : u < 10
    · rw [dec_small hu]; simp
    · rw [dec_big hu, List.length_append, List.length_singleton]
      have : u / 10 < 10 ^ (k + 1) := by rw [Nat.div_lt_iff_lt_mul (by omega), ← Nat.pow_succ]; exact h
      have := ih this
      omega
set_option maxHeartbeats 1000000 in
theorem rtext_10 (u : Nat) : ∀ (hu : u ≤ 9007199254740992) (w : World), Calls Tryd.prog 17 #[.int .i64 u, .int .i64 10] w fun e w' => e = .returned (.string ⟨(Lib.decDigits u).toArray⟩) ∧ Below w.heap.size w w' := by
  induction u using Nat.strongRecOn with
  | _ u ih =>
  intro hu w
  have A1 : fitB u = true := fitB_yes ⟨by omega, by omega⟩
  have hm : (u : Int).tmod 10 = ((u % 10 : Nat) : Int) := by rw [Int.tmod_eq_emod_of_nonneg (by omega)]; rfl
  have hd : (u : Int).tdiv 10 = ((u / 10 : Nat) : Int) := by rw [Int.tdiv_eq_ediv_of_nonneg (by omega)]; rfl
  have HI := Lib.hid ih
  have HP := Lib.hid (dig_piece (u % 10) (by omega))
  clear ih
  by_cases h : u < 10
  · have hlt : (u : Int) < 10 := by omega
    have HF := Lib.hid (show Lib.decDigits u = [dgt (u % 10)] by rw [dec_small h, Nat.mod_eq_of_lt h])
    go_enter Tryd.func17, Tryd.ntmps17
    go_wp2_with (go_at_call 13; refine (rfits_any _ _).mono ?_; rintro e _ ⟨rfl, rfl⟩)
    go_quiet (fail)
    go_wp2_with fail
    go_ret
    refine ⟨?_, pw_below_drewN (Below.refl _ _) _⟩
    show Ending.returned (.string _) = _
    rw [HF.out, HP.out]
  · have hlt : ¬ (u : Int) < 10 := by omega
    have hl : (Lib.decDigits (u / 10)).length ≤ 17 := dec_len (k := 16) (by omega)
    have hlim : ¬ 9223372036854775807 < (Lib.decDigits (u / 10)).length + (min (u % 10 + 1) 16 - u % 10) := by omega
    clear hl
    have HF := Lib.hid (show Lib.decDigits u = Lib.decDigits (u / 10) ++ [dgt (u % 10)] by exact dec_big h)
    go_enter Tryd.func17, Tryd.ntmps17
    go_wp2_with (go_at_call 13; refine (rfits_any _ _).mono ?_; rintro e _ ⟨rfl, rfl⟩)
    go_quiet (fail)
    go_wp2_with (go_at_call 17; refine (HI.out (u / 10) (by omega) (by omega) _).mono ?_; rintro e w' ⟨rfl, hb⟩)
    go_ret
    refine ⟨?_, (pw_below_drewN (Below.refl _ _) _).trans hb⟩
    show Ending.returned (.string _) = _
    rw [HF.out, HP.out]
    congr 2
set_option maxHeartbeats 1000000 in
theorem rtext_16 (u : Nat) : ∀ (hu : u ≤ 9007199254740992) (w : World), Calls Tryd.prog 17 #[.int .i64 u, .int .i64 16] w fun e w' => e = .returned (.string ⟨(hexD u).toArray⟩) ∧ Below w.heap.size w w' := by
  induction u using Nat.strongRecOn with
  | _ u ih =>
  intro hu w
  have A1 : fitB u = true := fitB_yes ⟨by omega, by omega⟩
  have hm : (u : Int).tmod 16 = ((u % 16 : Nat) : Int) := by rw [Int.tmod_eq_emod_of_nonneg (by omega)]; rfl
  have hd : (u : Int).tdiv 16 = ((u / 16 : Nat) : Int) := by rw [Int.tdiv_eq_ediv_of_nonneg (by omega)]; rfl
  have HI := Lib.hid ih
  have HP := Lib.hid (dig_piece (u % 16) (by omega))
  clear ih
  by_cases h : u < 16
  · have hlt : (u : Int) < 16 := by omega
    have HF := Lib.hid (show hexD u = [dgt (u % 16)] by rw [hexD_small h, Nat.mod_eq_of_lt h])
    go_enter Tryd.func17, Tryd.ntmps17
    go_wp2_with (go_at_call 13; refine (rfits_any _ _).mono ?_; rintro e _ ⟨rfl, rfl⟩)
    go_quiet (fail)
    go_wp2_with fail
    go_ret
    refine ⟨?_, pw_below_drewN (Below.refl _ _) _⟩
    show Ending.returned (.string _) = _
    rw [HF.out, HP.out]
  · have hlt : ¬ (u : Int) < 16 := by omega
    have hl : (hexD (u / 16)).length ≤ 14 := hexD_len (k := 13) (by omega)
    have hlim : ¬ 9223372036854775807 < (hexD (u / 16)).length + (min (u % 16 + 1) 16 - u % 16) := by omega
    clear hl
    have HF := Lib.hid (show hexD u = hexD (u / 16) ++ [dgt (u % 16)] by exact hexD_big h)
    go_enter Tryd.func17, Tryd.ntmps17
    go_wp2_with (go_at_call 13; refine (rfits_any _ _).mono ?_; rintro e _ ⟨rfl, rfl⟩)
    go_quiet (fail)
    go_wp2_with (go_at_call 17; refine (HI.out (u / 16) (by omega) (by omega) _).mono ?_; rintro e w' ⟨rfl, hb⟩)
    go_ret
    refine ⟨?_, (pw_below_drewN (Below.refl _ _) _).trans hb⟩
    show Ending.returned (.string _) = _
    rw [HF.out, HP.out]
    congr 2
theorem rtext_any (n k : Int) (w : World) : Calls Tryd.prog 17 #[.int .i64 n, .int .i64 k] w fun e w' => e = .returned (.string ⟨(textS n k).toArray⟩) ∧ Below w.heap.size w w' := by
  by_cases hf : Fit n
  · obtain ⟨u, rfl⟩ := Int.eq_ofNat_of_zero_le hf.1
    have hu : u ≤ 9007199254740992 := by have := hf.2; omega
    by_cases h10 : k = 10
    · subst h10
      rw [show textS u 10 = Lib.decDigits u by unfold textS; rw [if_pos ⟨hf, .inl rfl⟩, if_pos rfl, Int.toNat_natCast]]
      exact rtext_10 u hu w
    · by_cases h16 : k = 16
      · subst h16
        rw [show textS u 16 = hexD u by unfold textS; rw [if_pos ⟨hf, .inr rfl⟩, if_neg (by omega), Int.toNat_natCast]]
        exact rtext_16 u hu w
      · have A1 := fitB_yes hf
        have HF := Lib.hid (show textS u k = [] by unfold textS; rw [if_neg fun h => h.2.elim h10 h16])
        have hk1 : (k != 10) = true := by simp [h10]
        have hk2 : (k != 16) = true := by simp [h16]
        rw [HF.out]
        clear hf h10 h16
        go_enter Tryd.func17, Tryd.ntmps17
        go_wp2_with (go_at_call 13; refine (rfits_any _ _).mono ?_; rintro e _ ⟨rfl, rfl⟩)
        go_ret
        exact ⟨rfl, Below.refl _ _⟩
  · have A1 := fitB_no hf
    have HF := Lib.hid (show textS n k = [] by unfold textS; rw [if_neg fun h => hf h.1])
    rw [HF.out]
    clear hf
    go_enter Tryd.func17, Tryd.ntmps17
    go_wp2_with (go_at_call 13; refine (rfits_any _ _).mono ?_; rintro e _ ⟨rfl, rfl⟩)
    go_ret
    exact ⟨rfl, Below.refl _ _⟩
end Go.Proofs.YtefobhoipclmdaaDoor
