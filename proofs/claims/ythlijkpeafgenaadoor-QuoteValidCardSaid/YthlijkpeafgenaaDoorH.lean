/- quote.plain. -/
import Derived.Test.YthlijkpeafgenaaDoorG
set_option linter.unusedVariables false
set_option linter.unusedSimpArgs false
namespace Go.Proofs.YthlijkpeafgenaaDoor
open Go.RowKit
open Go.Proofs.YthlijkpeafgenaaDoorW.PrintWords

abbrev str (l : List UInt8) : Value := .string ⟨l.toArray⟩
/-- the escape of a character below 32 -/
def ctlQ (c : Nat) : List UInt8 := if c < 16 then [92, 117, 48, 48, 48, dgt c] else [92, 117, 48, 48, 49, dgt (c - 16)]
/-- the escape of a character; nothing: it needs none -/
def plainQ (c : Nat) : List UInt8 := if c = 34 then [92, 34] else if c = 92 then [92, 92] else if c = 10 then [92, 110] else if c = 13 then [92, 114] else if c = 9 then [92, 116] else if 32 ≤ c then [] else ctlQ c
theorem hexD1 {c : Nat} (h : c < 16) : hexD c = [dgt c] := hexD_small h
theorem hexD2 {c : Nat} (h : 16 ≤ c) (h2 : c < 32) : hexD c = [49, dgt (c - 16)] := by
  rw [hexD_big (by omega), hexD_small (by omega)]
  have h3 : c / 16 = 1 := by omega
  have h4 : c % 16 = c - 16 := by omega
  rw [h3, h4]
  rfl
theorem rep_any (k : Nat) (hk : k ≤ 4) (w : World) : Calls Tryd.prog 21 #[.string ⟨#[48]⟩, .int .i64 k] w fun e w' => e = .returned (str (List.replicate k 48)) ∧ Below w.heap.size w w' := by
  refine (Tryd.strings_Repeat ⟨#[48]⟩ k w (by omega) (by simp [ByteArray.size]; omega)).mono ?_
  rintro e w' ⟨rfl, hb⟩
  refine ⟨?_, hb⟩
  have : k = 0 ∨ k = 1 ∨ k = 2 ∨ k = 3 ∨ k = 4 := by omega
  rcases this with rfl | rfl | rfl | rfl | rfl <;> rfl

set_option maxHeartbeats 2000000 in
theorem plain_any (c : Nat) (hc : c ≤ 1114111) (w : World) (h : w.cell? ⟨5, 15, none⟩ = some (.int .u8 4)) :
    Calls Tryd.prog 11 #[.int .i32 (c : Int)] w fun e w' => e = .returned (str (plainQ c)) ∧ Below w.heap.size w w' := by
  by_cases h34 : c = 34
  · subst h34
    have : plainQ 34 = [92, 34] := rfl
    rw [this]
    go_enter Tryd.func11, Tryd.ntmps11
    go_wp2_with fail
    go_ret
    exact ⟨rfl, Below.refl _ _⟩
  by_cases h92 : c = 92
  · subst h92
    have : plainQ 92 = [92, 92] := rfl
    rw [this]
    go_enter Tryd.func11, Tryd.ntmps11
    go_wp2_with fail
    go_ret
    exact ⟨rfl, Below.refl _ _⟩
  by_cases h10 : c = 10
  · subst h10
    have : plainQ 10 = [92, 110] := rfl
    rw [this]
    go_enter Tryd.func11, Tryd.ntmps11
    go_wp2_with fail
    go_ret
    exact ⟨rfl, Below.refl _ _⟩
  by_cases h13 : c = 13
  · subst h13
    have : plainQ 13 = [92, 114] := rfl
    rw [this]
    go_enter Tryd.func11, Tryd.ntmps11
    go_wp2_with fail
    go_ret
    exact ⟨rfl, Below.refl _ _⟩
  by_cases h9 : c = 9
  · subst h9
    have : plainQ 9 = [92, 116] := rfl
    rw [this]
    go_enter Tryd.func11, Tryd.ntmps11
    go_wp2_with fail
    go_ret
    exact ⟨rfl, Below.refl _ _⟩
  have e34 : ((c : Int) == 34) = false := by simp; omega
  have e92 : ((c : Int) == 92) = false := by simp; omega
  have e10 : ((c : Int) == 10) = false := by simp; omega
  have e13 : ((c : Int) == 13) = false := by simp; omega
  have e9 : ((c : Int) == 9) = false := by simp; omega
  by_cases h32 : 32 ≤ c
  · have h32' : (32 : Int) ≤ (c : Int) := by omega
    have : plainQ c = [] := by unfold plainQ; rw [if_neg h34, if_neg h92, if_neg h10, if_neg h13, if_neg h9, if_pos h32]
    rw [this]
    clear this h34 h92 h10 h13 h9
    go_enter Tryd.func11, Tryd.ntmps11
    go_wp2_with fail
    go_ret
    exact ⟨rfl, Below.refl _ _⟩
  · have h32' : ¬ (32 : Int) ≤ (c : Int) := by omega
    have hp : plainQ c = ctlQ c := by unfold plainQ; rw [if_neg h34, if_neg h92, if_neg h10, if_neg h13, if_neg h9, if_neg h32]
    rw [hp]
    have HT := Lib.hid (text16_any c (by omega) w h)
    clear hp h34 h92 h10 h13 h9
    by_cases h16 : c < 16
    · have : ctlQ c = [92, 117, 48, 48, 48, dgt c] := by unfold ctlQ; rw [if_pos h16]
      rw [this]
      rw [hexD1 h16] at HT
      have hc1 : (⟨#[92, 117]⟩ : ByteArray) ++ ⟨#[48, 48, 48]⟩ = ⟨#[92, 117, 48, 48, 48]⟩ := rfl
      have hc2 : (⟨#[92, 117, 48, 48, 48]⟩ : ByteArray) ++ ⟨#[dgt c]⟩ = ⟨#[92, 117, 48, 48, 48, dgt c]⟩ := rfl
      clear this
      go_enter Tryd.func11, Tryd.ntmps11
      go_wp2_with first
        | (go_at_call 20; refine HT.out.mono ?_; rintro e w1 ⟨rfl, hb1⟩; have HB1 := Lib.hid hb1; clear hb1)
        | (go_at_call 21; refine (rep_any 3 (by omega) _).mono ?_; rintro e w2 ⟨rfl, hb2⟩; have HB2 := Lib.hid (HB1.out.trans (hb2.mono HB1.out.size)); clear hb2)
      go_ret
      exact ⟨rfl, HB2.out⟩
    · have : ctlQ c = [92, 117, 48, 48, 49, dgt (c - 16)] := by unfold ctlQ; rw [if_neg h16]
      rw [this]
      rw [hexD2 (by omega) (by omega)] at HT
      generalize dgt (c - 16) = d at HT ⊢
      have hc1 : (⟨#[92, 117]⟩ : ByteArray) ++ ⟨#[48, 48]⟩ = ⟨#[92, 117, 48, 48]⟩ := rfl
      have hc2 : (⟨#[92, 117, 48, 48]⟩ : ByteArray) ++ ⟨#[49, d]⟩ = ⟨#[92, 117, 48, 48, 49, d]⟩ := rfl
      clear this
      go_enter Tryd.func11, Tryd.ntmps11
      go_wp2_with first
        | (go_at_call 20; refine HT.out.mono ?_; rintro e w1 ⟨rfl, hb1⟩; have HB1 := Lib.hid hb1; clear hb1)
        | (go_at_call 21; refine (rep_any 2 (by omega) _).mono ?_; rintro e w2 ⟨rfl, hb2⟩; have HB2 := Lib.hid (HB1.out.trans (hb2.mono HB1.out.size)); clear hb2)
      go_ret
      exact ⟨rfl, HB2.out⟩
end Go.Proofs.YthlijkpeafgenaaDoor
