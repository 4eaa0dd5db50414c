/- lockagelaw13.Pieces, TargetSmall. -/
import Derived.Test.YtgpbjnaciomgdaaDoorX
set_option linter.unusedVariables false
set_option linter.unusedSimpArgs false
namespace Go.Proofs.YtgpbjnaciomgdaaDoor
open Go.RowKit Go.Lib
open Go.Proofs.YtgpbjnaciomgdaaDoorW.PrintWords

def pcs : List (List UInt8) := [[47], [97], [46, 46], [46], [37, 50, 101], [37, 50, 70], [37, 55, 101], [37], [37, 48], [37, 48, 48], [63], [98, 61, 99], [35], [37, 52, 49], [126], [47, 47], [47, 46, 47], [47, 46, 46, 47], [37, 67, 51, 37, 97, 52], [195, 169], [32], [37, 122, 122], [37, 51, 102]]
theorem pcs_len : pcs.length = 23 := rfl
theorem pcs_at {k : Nat} (h : k < 23) : (pcs[k]'(by rw [pcs_len]; exact h)).length ≤ 6 := by
  have : ∀ k : Fin 23, (pcs[k.val]'(by rw [pcs_len]; exact k.isLt)).length ≤ 6 := by decide
  exact this ⟨k, h⟩
theorem Rd.byte {w : World} {A : Option Addr} {n c i : Nat} {xs : List Nat} (h : Rd w (.slice A n c) (u8s xs)) (hi : i < xs.length) : ∃ ad, A = some ad ∧ w.cell? (ad.add i) = some (.int .u8 (xs[i] : Int)) := by
  have hl := h.len
  rw [u8s_len] at hl
  obtain ⟨b, off, rfl, hb, hc⟩ := h.get (by omega)
  exact ⟨_, rfl, by rw [add_at]; exact hc i _ (by rw [u8s_at hi])⟩

set_option maxRecDepth 100000 in
set_option maxHeartbeats 4000000 in
theorem pieces_any (A : Option Addr) (n c : Nat) (xs : List Nat) (w : World) (hr : Rd w (.slice A n c) (u8s xs)) (hb8 : ∀ x ∈ xs, x < 256) :
    Calls Tryd.prog 10 #[.slice A n c] w fun e w' => ∃ l : List UInt8, e = .returned (str (47 :: l)) ∧ l.length ≤ 96 ∧ Below w.heap.size w w' := by
  have hn := hr.len
  rw [u8s_len] at hn
  have HR := Lib.hid hr
  clear hr
  go_enter Tryd.func10, Tryd.ntmps10
  go_wp2_with fail
  have hW : Below w.heap.size w (w.alloc (.cells (strs pcs).toArray 9)) := (Below.refl _ _).alloc (Nat.le_refl _) _
  have hP := rd_row w (strs pcs) 9 (by decide)
  change Code.wp _ _ _ _ (w.alloc (.cells (strs pcs).toArray 9))
  obtain ⟨ps, hps, hpl, hpat⟩ : ∃ ps : List (List UInt8), pcs = ps ∧ ps.length = 23 ∧ ∀ k (h : k < ps.length), ps[k].length ≤ 6 := ⟨pcs, rfl, rfl, fun k h => pcs_at h⟩
  rw [hps] at hP hW ⊢
  have hP2 : Rd (w.alloc (.cells (strs ps).toArray 9)) (.slice (some ⟨w.heap.size, 0, none⟩) 23 23) (strs ps) := by
    have := hP
    rw [strs_len, hpl] at this
    exact this
  clear hP hps
  generalize w.alloc (.cells (strs ps).toArray 9) = W1 at *
  have HP := Lib.hid hP2
  have HPL := Lib.hid hpl
  have HPA := Lib.hid hpat
  clear hpl hpat hP2
  have HW := Lib.hid hW
  clear hW
  go_loopg [4, 5] 16 (fun gg s4 s5 wr => ∃ (l : List UInt8) (i : Nat), s4 = str (47 :: l) ∧ s5 = .int .i64 i ∧ i ≤ 16 ∧ 16 - i ≤ gg ∧ l.length ≤ 6 * i ∧ Below W1.heap.size W1 wr)
  case atStart => exact ⟨[], 0, rfl, rfl, by omega, by omega, by simp, Below.refl _ _⟩
  case round =>
    obtain ⟨l, i, rfl, rfl, hi, hg, hl, hb⟩ := hrel
    have HB := Lib.hid hb
    by_cases hin : i < xs.length
    · by_cases hi16 : i < 16
      · have h1 : (i : Int) < (n : Int) := by omega
        have h2 : (i : Int) < 16 := by omega
        obtain ⟨ad, rfl, hat⟩ := (HR.out.below (HW.out.trans (hb.mono HW.out.size))).byte hin
        obtain ⟨x, hx⟩ : ∃ x, xs[i] = x := ⟨_, rfl⟩
        rw [hx] at hat
        obtain ⟨r, hr⟩ : ∃ r, x % 23 = r := ⟨_, rfl⟩
        have hr23 : r < 23 := by omega
        have hr1 : (x : Int) % 23 = (r : Int) := by omega
        have hr2 : (x : Int).tmod 23 = (r : Int) := by rw [Int.tmod_eq_emod_of_nonneg (by omega)]; exact hr1
        have hr3 : (r : Int) < 23 := by omega
        obtain ⟨ad2, he, hat2⟩ := (HP.out.below hb).seg (i := r) (by rw [HPL.out]; exact hr23)
        injection he with he
        subst he
        rw [add_plain] at hat2
        have hpl := HPA.out r (by rw [HPL.out]; exact hr23)
        have hx256 : x < 256 := hb8 x (by rw [← hx]; exact List.getElem_mem hin)
        have hw64 : wrap64 (x : Int) = (x : Int) := by unfold wrap64; omega
        have HX := Lib.hid hx
        clear hx hr hb
        generalize ps[r]'(by rw [HPL.out]; exact hr23) = pc at *
        have hcat : (⟨(47 :: l).toArray⟩ : ByteArray) ++ ⟨pc.toArray⟩ = ⟨(47 :: (l ++ pc)).toArray⟩ := bytes_app (47 :: l) pc
        have HR1 := Lib.hid hr1
        clear hr1
        go_wp2_with fail
        go_roundg (16 - (i + 1))
        case measure => omega
        case rel => exact ⟨l ++ pc, i + 1, rfl, by simp [wrap64] <;> omega, by omega, by omega, by rw [List.length_append]; omega, HB.out⟩
      · have h1 : (i : Int) < (n : Int) := by omega
        have h2 : ¬ (i : Int) < 16 := by omega
        clear hb
        go_wp2_with fail
        go_ret
        exact ⟨l, rfl, by omega, HW.out.trans (HB.out.mono HW.out.size)⟩
    · have h1 : ¬ (i : Int) < (n : Int) := by omega
      clear hb
      go_wp2_with fail
      go_ret
      exact ⟨l, rfl, by omega, HW.out.trans (HB.out.mono HW.out.size)⟩

set_option maxRecDepth 100000 in
set_option maxHeartbeats 2000000 in
theorem small_any (A : Option Addr) (n c : Nat) (xs : List Nat) (w : World) (m : Int) (hr : Rd w (.slice A n c) (u8s xs)) (hb8 : ∀ x ∈ xs, x < 256) (hm : w.cell? ⟨0, 0, none⟩ = some (.int .i64 m)) :
    Calls Tryd.prog 4 #[.slice A n c] w fun e w' => e = .returned (.bool true) ∧ Below w.heap.size w w' := by
  have HM := Lib.hid hm
  have HR := Lib.hid hr
  have H8 := Lib.hid hb8
  clear hm hr hb8
  go_enter Tryd.func4, Tryd.ntmps4
  go_wp2_with first
    | (go_at_call 8; refine (awake_any _ m HM.out).mono ?_; rintro e w1 ⟨rfl, hb1⟩; have HB1 := Lib.hid hb1; clear hb1)
    | (go_at_call 10; refine (pieces_any A n c xs _ (HR.out.below HB3.out) H8.out).mono ?_; rintro e w4 ⟨l4, rfl, hl4, hb4⟩; have HB4 := Lib.hid (HB3.out.trans (hb4.mono HB3.out.size)); have hx4 : (⟨(47 :: l4).toArray⟩ : ByteArray).extract 1 (l4.length + 1) = ⟨l4.toArray⟩ := (by rw [ba_ext (47 :: l4) 1 (l4.length + 1)]; simp); have hx5 : (1 : Int) ≤ (l4.length : Int) + 1 := (by omega); clear hb4)
    | (go_at_call 10; refine (pieces_any A n c xs _ (HR.out.below HB1.out) H8.out).mono ?_; rintro e w2 ⟨l2, rfl, hl2, hb2⟩; have HB2 := Lib.hid (HB1.out.trans (hb2.mono HB1.out.size)); clear hb2)
    | (go_at_call 9; refine (same_any l4 _ m (pw_cell_below HB4.out HM.out) (by omega)).mono ?_; rintro e w5 ⟨rfl, hb5⟩)
    | (go_at_call 9; refine (same_any (47 :: l2) _ m (pw_cell_below HB2.out HM.out) (by simp; omega)).mono ?_; rintro e w3 ⟨rfl, hb3⟩; have HB3 := Lib.hid (HB2.out.trans (hb3.mono HB2.out.size)); clear hb3)
  go_ret
  exact ⟨rfl, HB4.out.trans (hb5.mono HB4.out.size)⟩
end Go.Proofs.YtgpbjnaciomgdaaDoor
