/- lockagelaw13.TargetLong. -/
import Derived.Test.YtgpbjnaciomgdaaDoorX
set_option linter.unusedVariables false
set_option linter.unusedSimpArgs false
namespace Go.Proofs.YtgpbjnaciomgdaaDoor
open Go.RowKit Go.Lib
open Go.Proofs.YtgpbjnaciomgdaaDoorW.PrintWords

set_option maxRecDepth 100000 in
set_option maxHeartbeats 4000000 in
theorem long_any (n k : Nat) (hn : n < 256) (hk : k < 256) (w : World) (m : Int) (hm : w.cell? ⟨0, 0, none⟩ = some (.int .i64 m)) :
    Calls Tryd.prog 5 #[.int .u8 (n : Int), .int .u8 (k : Int)] w fun e w' => e = .returned (.bool true) ∧ Below w.heap.size w w' := by
  have HM := Lib.hid hm
  clear hm
  obtain ⟨r, hr⟩ : ∃ r, n % 20 = r := ⟨_, rfl⟩
  have hr20 : r < 20 := by omega
  have hr1 : (n : Int) % 20 = (r : Int) := by omega
  have hr2 : (n : Int).tmod 20 = (r : Int) := by rw [Int.tmod_eq_emod_of_nonneg (by omega)]; exact hr1
  have hw1 : wrap64 (n : Int) = (n : Int) := by unfold wrap64; omega
  have hw2 : wrap64 (190 + (r : Int)) = 190 + (r : Int) := by unfold wrap64; omega
  have hw3 : wrap64 (k : Int) = (k : Int) := by unfold wrap64; omega
  have hq : k % 5 = 0 ∨ k % 5 = 1 ∨ k % 5 = 2 ∨ k % 5 = 3 ∨ k % 5 = 4 := by omega
  have HQ := Lib.hid hq
  clear hq hr
  go_enter Tryd.func5, Tryd.ntmps5
  go_wp2_with fail
  go_loopg [5] 212 (fun gg s5 wr => ∃ l : List UInt8, s5 = str l ∧ 212 - l.length ≤ gg ∧ l.length ≤ 212 ∧ Below w.heap.size w wr)
  case atStart => exact ⟨[], rfl, by simp, by simp, Below.refl _ _⟩
  case round =>
    obtain ⟨l, rfl, hg, hl, hb⟩ := hrel
    have HB := Lib.hid hb
    clear hb
    by_cases hlt : l.length < 190 + r
    · have hlt1 : (l.length : Int) < 190 + (r : Int) := by omega
      rcases HQ.out with h5 | h5 | h5 | h5 | h5
      · have h51 : (k : Int) % 5 = 0 := by omega
        have h52 : (k : Int).tmod 5 = 0 := by rw [Int.tmod_eq_emod_of_nonneg (by omega)]; exact h51
        have hcat : (⟨l.toArray⟩ : ByteArray) ++ ⟨#[47]⟩ = ⟨(l ++ [47]).toArray⟩ := bytes_app l [47]
        have HH := Lib.hid h5
        clear h5
        go_wp2_with fail
        go_roundg (212 - (l.length + 1))
        case measure => omega
        case rel => exact ⟨_, rfl, by simp only [List.length_append, List.length_cons, List.length_nil]; omega, by simp only [List.length_append, List.length_cons, List.length_nil]; omega, HB.out.alloc HB.out.size _⟩
      · have h51 : (k : Int) % 5 = 1 := by omega
        have h52 : (k : Int).tmod 5 = 1 := by rw [Int.tmod_eq_emod_of_nonneg (by omega)]; exact h51
        have hcat : (⟨l.toArray⟩ : ByteArray) ++ ⟨#[47, 97]⟩ = ⟨(l ++ [47, 97]).toArray⟩ := bytes_app l [47, 97]
        have HH := Lib.hid h5
        clear h5
        go_wp2_with fail
        go_roundg (212 - (l.length + 1))
        case measure => omega
        case rel => exact ⟨_, rfl, by simp only [List.length_append, List.length_cons, List.length_nil]; omega, by simp only [List.length_append, List.length_cons, List.length_nil]; omega, HB.out.alloc HB.out.size _⟩
      · have h51 : (k : Int) % 5 = 2 := by omega
        have h52 : (k : Int).tmod 5 = 2 := by rw [Int.tmod_eq_emod_of_nonneg (by omega)]; exact h51
        have hcat : (⟨l.toArray⟩ : ByteArray) ++ ⟨#[47, 46, 46]⟩ = ⟨(l ++ [47, 46, 46]).toArray⟩ := bytes_app l [47, 46, 46]
        have HH := Lib.hid h5
        clear h5
        go_wp2_with fail
        go_roundg (212 - (l.length + 1))
        case measure => omega
        case rel => exact ⟨_, rfl, by simp only [List.length_append, List.length_cons, List.length_nil]; omega, by simp only [List.length_append, List.length_cons, List.length_nil]; omega, HB.out.alloc HB.out.size _⟩
      · have h51 : (k : Int) % 5 = 3 := by omega
        have h52 : (k : Int).tmod 5 = 3 := by rw [Int.tmod_eq_emod_of_nonneg (by omega)]; exact h51
        have hcat : (⟨l.toArray⟩ : ByteArray) ++ ⟨#[37, 52, 49]⟩ = ⟨(l ++ [37, 52, 49]).toArray⟩ := bytes_app l [37, 52, 49]
        have HH := Lib.hid h5
        clear h5
        go_wp2_with fail
        go_roundg (212 - (l.length + 1))
        case measure => omega
        case rel => exact ⟨_, rfl, by simp only [List.length_append, List.length_cons, List.length_nil]; omega, by simp only [List.length_append, List.length_cons, List.length_nil]; omega, HB.out.alloc HB.out.size _⟩
      · have h51 : (k : Int) % 5 = 4 := by omega
        have h52 : (k : Int).tmod 5 = 4 := by rw [Int.tmod_eq_emod_of_nonneg (by omega)]; exact h51
        have hcat : (⟨l.toArray⟩ : ByteArray) ++ ⟨#[63]⟩ = ⟨(l ++ [63]).toArray⟩ := bytes_app l [63]
        have HH := Lib.hid h5
        clear h5
        go_wp2_with fail
        go_roundg (212 - (l.length + 1))
        case measure => omega
        case rel => exact ⟨_, rfl, by simp only [List.length_append, List.length_cons, List.length_nil]; omega, by simp only [List.length_append, List.length_cons, List.length_nil]; omega, HB.out.alloc HB.out.size _⟩
    · have hlt1 : ¬ (l.length : Int) < 190 + (r : Int) := by omega
      have hcat : (⟨#[47]⟩ : ByteArray) ++ ⟨l.toArray⟩ = ⟨(47 :: l).toArray⟩ := bytes_app [47] l
      go_wp2_with first
        | (go_at_call 9; refine (same_any (47 :: l) _ m (pw_cell_below HB2.out HM.out) (by simp; omega)).mono ?_; rintro e w3 ⟨rfl, hb3⟩)
        | (go_at_call 9; refine (same_any l _ m (pw_cell_below HB1.out HM.out) (by omega)).mono ?_; rintro e w2 ⟨rfl, hb2⟩; have HB2 := Lib.hid (HB1.out.trans (hb2.mono HB1.out.size)); clear hb2)
        | (go_at_call 8; refine (awake_any _ m (pw_cell_below HB.out HM.out)).mono ?_; rintro e w1 ⟨rfl, hb1⟩; have HB1 := Lib.hid (HB.out.trans (hb1.mono HB.out.size)); clear hb1)
      go_ret
      exact ⟨rfl, HB2.out.trans (hb3.mono HB2.out.size)⟩
end Go.Proofs.YtgpbjnaciomgdaaDoor
