/- lockagelaw10.QuoteValid. -/
import Derived.Test.YthlijkpeafgenaaDoorAA
set_option linter.unusedVariables false
set_option linter.unusedSimpArgs false
namespace Go.Proofs.YthlijkpeafgenaaDoor
open Go.RowKit Go.Lib
open Go.Proofs.YthlijkpeafgenaaDoorW.PrintWords

set_option maxRecDepth 100000 in
set_option maxHeartbeats 4000000 in
theorem qvalid_any (s : List UInt8) (A : Option Addr) (n c : Nat) (xs : List Nat) (w : World) (h : Tb w) (hr : Rd w (.slice A n c) (u8s xs)) (hb8 : ∀ x ∈ xs, x < 256) :
    Calls Tryd.prog 4 #[str s, .slice A n c] w fun e w' => e = .returned (.bool true) ∧ Below w.heap.size w w' := by
  have HR := Lib.hid hr
  have H8 := Lib.hid hb8
  have HT := Lib.hid h
  clear hr hb8 h
  go_enter Tryd.func4, Tryd.ntmps4
  go_upto_region 4 with first
    | (go_at_call 5; refine (aAwake HT.out (Below.refl _ _)).mono ?_; rintro e w1 ⟨rfl, hb1⟩)
  go_upto_region 5 with first
    | (go_at_call 6; refine (aP HR.out H8.out hb1).mono ?_; rintro e w2 ⟨p, rfl, hpl, hb2⟩; have hc1 : (⟨#[34]⟩ : ByteArray) ++ ⟨p.toArray⟩ = ⟨(34 :: p).toArray⟩ := bytes_app [34] p; have hc2 : (⟨(34 :: p).toArray⟩ : ByteArray) ++ ⟨#[34]⟩ = ⟨(34 :: p ++ [34]).toArray⟩ := bytes_app (34 :: p) [34]; have hsz1 : (34 :: p).length ≤ 100 := (by simp; omega))
  have hW : Below w.heap.size w (w2.alloc (.cells (strs [s, 34 :: p ++ [34]]).toArray 9)) := hb2.alloc hb2.size _
  have hP : Rd (w2.alloc (.cells (strs [s, 34 :: p ++ [34]]).toArray 9)) (.slice (some ⟨w2.heap.size, 0, none⟩) 2 2) (strs [s, 34 :: p ++ [34]]) := rd_row w2 (strs [s, 34 :: p ++ [34]]) 9 (by simp [strs])
  change Code.wp _ _ _ _ (w2.alloc (.cells (strs [s, 34 :: p ++ [34]]).toArray 9))
  obtain ⟨ps, hps, hpl2⟩ : ∃ ps : List (List UInt8), [s, 34 :: p ++ [34]] = ps ∧ ps.length = 2 := ⟨_, rfl, rfl⟩
  rw [hps] at hP hW ⊢
  generalize w2.alloc (.cells (strs ps).toArray 9) = W1 at *
  have HP := Lib.hid hP
  have HW := Lib.hid hW
  have HPL := Lib.hid hpl2
  have HT1 := Lib.hid (HT.out.below hW)
  clear hP hW hps hpl2 hpl hb1 hb2 hc1 hc2 hsz1
  go_loopg [21] 3 (fun gg s21 wr => ∃ (i : Nat), s21 = .int .i64 i ∧ i ≤ 2 ∧ 2 - i < gg ∧ Below W1.heap.size W1 wr)
  case atStart => exact ⟨0, rfl, by omega, by omega, Below.refl _ _⟩
  case round =>
    obtain ⟨i, rfl, hi, hg, hb⟩ := hrel
    by_cases hi2 : i < 2
    case neg =>
      have h2 : ¬ (i : Int) < 2 := by omega
      clear hi
      go_wp2_with fail
      go_ret
      exact ⟨rfl, HW.out.trans (hb.mono HW.out.size)⟩
    case pos =>
      have h2 : (i : Int) < 2 := by omega
      obtain ⟨ad2, he, hat⟩ := (HP.out.below hb).seg (i := i) (by rw [HPL.out]; exact hi2)
      injection he with he
      subst he
      rw [YthlijkpeafgenaaDoorW.PrintWords.add_plain] at hat
      generalize ps[i]'(by rw [HPL.out]; exact hi2) = x at *
      have HB := Lib.hid hb
      have hbw := hb
      clear hb
      by_cases hlx : x.length ≤ 200
      case neg =>
        have h3 : (200 : Int) < (x.length : Int) := by omega
        clear hlx
        go_wp2_with fail
        go_roundg (gk - 1)
        case measure => omega
        case rel => exact ⟨i + 1, by simp [wrap64] <;> omega, by omega, by omega, HB.out⟩
      case pos =>
        have h3 : ¬ (200 : Int) < (x.length : Int) := by omega
        obtain ⟨y, m, b, hu⟩ : ∃ y m b, unqS x = (y, m, b) := ⟨_, _, _, rfl⟩
        obtain ⟨k1, k2, k3⟩ := unqS_valid x
        rw [hu] at k1 k2 k3
        simp only at k1 k2 k3
        have cU := fun (W : World) (h : Below W1.heap.size W1 W) => aU HT1.out h x (by omega) hu
        have h4 : ¬ (m : Int) < 0 := by omega
        have h5 : ¬ (x.length : Int) < (m : Int) := by omega
        cases b with
        | true =>
          obtain ⟨k4, k5⟩ := k3 rfl
          have h6 : ¬ (m : Int) < 2 := by omega
          have h7 : ¬ ((m : Int) - 2 < (y.length : Int)) := by omega
          have hm2 : (m : Int) ≤ 200 := by omega
          have hwr : wrap64 ((m : Int) - 2) = (m : Int) - 2 := by unfold wrap64; omega
          have cV := fun (W : World) (h : Below W1.heap.size W1 W) => aV HT1.out h y (by omega) k4
          clear hu k1 k2 k3 k4
          go_wp2_with first
            | (go_at_call 9; refine (cU _ hbw).mono ?_; rintro e w3 ⟨rfl, hb3⟩)
            | (go_at_call 8; refine (cV _ hb3).mono ?_; rintro e w4 ⟨rfl, hb4⟩)
          go_roundg (gk - 1)
          case measure => omega
          case rel => exact ⟨i + 1, by simp [wrap64] <;> omega, by omega, by omega, hb4⟩
        | false =>
          obtain rfl := k2 rfl
          clear hu k1 k2 k3
          go_wp2_with first
            | (go_at_call 9; refine (cU _ hbw).mono ?_; rintro e w3 ⟨rfl, hb3⟩)
          go_roundg (gk - 1)
          case measure => omega
          case rel => exact ⟨i + 1, by simp [wrap64] <;> omega, by omega, by omega, hb3⟩
end Go.Proofs.YthlijkpeafgenaaDoor
