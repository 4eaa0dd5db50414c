/- lockagelaw10.QuoteBack. -/
import Derived.Test.YthlijkpeafgenaaDoorX
set_option linter.unusedVariables false
set_option linter.unusedSimpArgs false
namespace Go.Proofs.YthlijkpeafgenaaDoor
open Go.RowKit Go.Lib
open Go.Proofs.YthlijkpeafgenaaDoorW.PrintWords

theorem qR_len {c : Nat} : (qR c).length ≤ 6 := by
  unfold qR
  have := enc_len (c : Int)
  split
  · omega
  · unfold plainQ
    repeat' split
    all_goals simp [ctl_len]
theorem qS_len (rs : List Nat) : (qS rs).length ≤ 6 * rs.length := by
  induction rs with
  | nil => simp [qS]
  | cons r rs ih =>
    rw [qS_cons, List.length_append, List.length_cons]
    have := qR_len (c := r)
    omega
theorem encS_len (rs : List Nat) : rs.length ≤ (encS rs).length := by
  induction rs with
  | nil => simp
  | cons r rs ih =>
    rw [encS_cons, List.length_append, List.length_cons]
    have := enc_len (r : Int)
    omega
theorem aAwake {w W : World} (h : Tb w) (hb : Below w.heap.size w W) : Calls Tryd.prog 5 #[] W fun e w' => e = .returned (.bool true) ∧ Below w.heap.size w w' := by
  refine (awake_any W (h.below hb)).mono ?_
  rintro e w' ⟨rfl, h1⟩
  exact ⟨rfl, hb.trans (h1.mono hb.size)⟩
theorem aP {w W : World} {A : Option Addr} {n c : Nat} {xs : List Nat} (hr : Rd w (.slice A n c) (u8s xs)) (hb8 : ∀ x ∈ xs, x < 256) (hb : Below w.heap.size w W) :
    Calls Tryd.prog 6 #[.slice A n c] W fun e w' => ∃ l : List UInt8, e = .returned (str l) ∧ l.length ≤ 72 ∧ Below w.heap.size w w' := by
  refine (pieces_any A n c xs W (hr.below hb) hb8).mono ?_
  rintro e w' ⟨l, rfl, hl, h1⟩
  exact ⟨l, rfl, hl, hb.trans (h1.mono hb.size)⟩
theorem aU {w W : World} (h : Tb w) (hb : Below w.heap.size w W) (l : List UInt8) (hl : l.length ≤ 100000) {y : List UInt8} {n : Nat} {b : Bool} (hu : unqS l = (y, n, b)) :
    Calls Tryd.prog 9 #[str l] W fun e w' => e = .returned (.tuple #[str y, .int .i64 (n : Int), .int .i64 (errN b)]) ∧ Below w.heap.size w w' := by
  refine (unq_any l W hl (h.below hb).t).mono ?_
  rintro e w' ⟨rfl, h1⟩
  rw [hu]
  exact ⟨rfl, hb.trans (h1.mono hb.size)⟩
theorem aQ {w W : World} (h : Tb w) (hb : Below w.heap.size w W) (l : List UInt8) (rs : List Nat) (hc : Chars l rs) (hl : l.length ≤ 1000) :
    Calls Tryd.prog 7 #[str l] W fun e w' => e = .returned (.tuple #[str (34 :: (qS rs ++ [34])), .int .i64 0]) ∧ Below w.heap.size w w' := by
  have h1 := qS_len rs
  have h2 := encS_len rs
  rw [← hc.2] at h2
  refine (quote_ok l rs hc W (by omega) (by omega) (h.below hb).t (h.below hb).c).mono ?_
  rintro e w' ⟨rfl, h1⟩
  exact ⟨rfl, hb.trans (h1.mono hb.size)⟩
theorem aQb {w W : World} (h : Tb w) (hb : Below w.heap.size w W) (l : List UInt8) (hv : validS l = false) (hl : l.length ≤ 1000) :
    Calls Tryd.prog 7 #[str l] W fun e w' => e = .returned (.tuple #[str [], .int .i64 30]) ∧ Below w.heap.size w w' := by
  refine (quote_bad l hv W (by omega) (h.below hb).t).mono ?_
  rintro e w' ⟨rfl, h1⟩
  exact ⟨rfl, hb.trans (h1.mono hb.size)⟩

set_option maxRecDepth 100000 in
set_option maxHeartbeats 4000000 in
theorem back_any (s more : List UInt8) (A : Option Addr) (n c : Nat) (xs : List Nat) (w : World) (h : Tb w) (hr : Rd w (.slice A n c) (u8s xs)) (hb8 : ∀ x ∈ xs, x < 256) :
    Calls Tryd.prog 3 #[str s, .slice A n c, str more] w fun e w' => e = .returned (.bool true) ∧ Below w.heap.size w w' := by
  have HR := Lib.hid hr
  have H8 := Lib.hid hb8
  have HT := Lib.hid h
  clear hr hb8 h
  go_enter Tryd.func3, Tryd.ntmps3
  go_upto_region 4 with first
    | (go_at_call 5; refine (aAwake HT.out (Below.refl _ _)).mono ?_; rintro e w1 ⟨rfl, hb1⟩)
  go_upto_region 5 with first
    | (go_at_call 6; refine (aP HR.out H8.out hb1).mono ?_; rintro e w2 ⟨p, rfl, hpl, hb2⟩)
  have hW : Below w.heap.size w (w2.alloc (.cells (strs [s, p]).toArray 9)) := hb2.alloc hb2.size _
  have hP : Rd (w2.alloc (.cells (strs [s, p]).toArray 9)) (.slice (some ⟨w2.heap.size, 0, none⟩) 2 2) (strs [s, p]) := rd_row w2 (strs [s, p]) 9 (by simp [strs])
  change Code.wp _ _ _ _ (w2.alloc (.cells (strs [s, p]).toArray 9))
  obtain ⟨ps, hps, hpl2⟩ : ∃ ps : List (List UInt8), [s, p] = ps ∧ ps.length = 2 := ⟨_, rfl, rfl⟩
  rw [hps] at hP hW ⊢
  generalize w2.alloc (.cells (strs ps).toArray 9) = W1 at *
  have HP := Lib.hid hP
  have HW := Lib.hid hW
  have HPL := Lib.hid hpl2
  have HT1 := Lib.hid (HT.out.below hW)
  clear hP hW hps hpl2 hpl hb1 hb2
  go_loopg [23] 3 (fun gg s23 wr => ∃ (i : Nat), s23 = .int .i64 i ∧ i ≤ 2 ∧ 2 - i < gg ∧ Below W1.heap.size W1 wr)
  case atStart => exact ⟨0, rfl, by omega, by omega, Below.refl _ _⟩
  case round =>
    obtain ⟨i, rfl, hi, hg, hb⟩ := hrel
    by_cases hi2 : i < 2
    case neg =>
      have h2 : ¬ (i : Int) < 2 := by omega
      clear hi
      go_wp2_with fail
      go_ret
      exact ⟨rfl, HW.out.trans (hb.mono HW.out.size)⟩
    case pos =>
      have h2 : (i : Int) < 2 := by omega
      obtain ⟨ad2, he, hat⟩ := (HP.out.below hb).seg (i := i) (by rw [HPL.out]; exact hi2)
      injection he with he
      subst he
      rw [YthlijkpeafgenaaDoorW.PrintWords.add_plain] at hat
      generalize ps[i]'(by rw [HPL.out]; exact hi2) = x at *
      have HB := Lib.hid hb
      have hbw := hb
      clear hb
      by_cases hlx : x.length ≤ 200
      case neg =>
        have h3 : (200 : Int) < (x.length : Int) := by omega
        clear hlx
        go_wp2_with fail
        go_roundg (gk - 1)
        case measure => omega
        case rel => exact ⟨i + 1, by simp [wrap64] <;> omega, by omega, by omega, HB.out⟩
      case pos =>
        have h3 : ¬ (200 : Int) < (x.length : Int) := by omega
        by_cases hlm : more.length ≤ 200
        case neg =>
          have h4 : (200 : Int) < (more.length : Int) := by omega
          clear hlm
          go_wp2_with fail
          go_roundg (gk - 1)
          case measure => omega
          case rel => exact ⟨i + 1, by simp [wrap64] <;> omega, by omega, by omega, HB.out⟩
        case pos =>
          have h4 : ¬ (200 : Int) < (more.length : Int) := by omega
          cases hv : validS x with
          | true =>
            obtain ⟨rs, hc⟩ := (validS_iff x).1 hv
            have hu := unqS_back rs more hc.1
            rw [← hc.2] at hu
            have h6 := qS_len rs
            have h7 := encS_len rs
            rw [← hc.2] at h7
            obtain ⟨q, hq⟩ : ∃ q, 34 :: (qS rs ++ [34]) = q := ⟨_, rfl⟩
            have hql : q.length ≤ 1300 := by rw [← hq]; simp; omega
            have cQ := fun (W : World) (h : Below W1.heap.size W1 W) => aQ HT1.out h x rs hc (by omega)
            rw [hq] at cQ hu
            have hcat : (⟨q.toArray⟩ : ByteArray) ++ ⟨more.toArray⟩ = ⟨(q ++ more).toArray⟩ := bytes_app q more
            have hcl : (q ++ more).length ≤ 100000 := by rw [List.length_append]; omega
            have cU := fun (W : World) (h : Below W1.heap.size W1 W) => aU HT1.out h (q ++ more) hcl hu
            have cV := fun (W : World) (h : Below W1.heap.size W1 W) => aV HT1.out h x (by omega) hv
            clear hu hc h6 h7 hq hcl hv
            go_wp2_with first
              | (go_at_call 7; refine (cQ _ hbw).mono ?_; rintro e w3 ⟨rfl, hb3⟩)
              | (go_at_call 8; refine (cV _ hb3).mono ?_; rintro e w4 ⟨rfl, hb4⟩)
              | (go_at_call 9; refine (cU _ hb4).mono ?_; rintro e w5 ⟨rfl, hb5⟩)
            go_roundg (gk - 1)
            case measure => omega
            case rel => exact ⟨i + 1, by simp [wrap64] <;> omega, by omega, by omega, hb5⟩
          | false =>
            obtain ⟨y, m, b, hu⟩ : ∃ y m b, unqS more = (y, m, b) := ⟨_, _, _, rfl⟩
            have cQ := fun (W : World) (h : Below W1.heap.size W1 W) => aQb HT1.out h x hv (by omega)
            have cU := fun (W : World) (h : Below W1.heap.size W1 W) => aU HT1.out h more (by omega) hu
            have cV := fun (W : World) (h : Below W1.heap.size W1 W) => aV HT1.out h x (by omega) hv
            have hcat : (⟨#[]⟩ : ByteArray) ++ ⟨more.toArray⟩ = ⟨more.toArray⟩ := bytes_app [] more
            clear hu hv
            go_wp2_with first
              | (go_at_call 7; refine (cQ _ hbw).mono ?_; rintro e w3 ⟨rfl, hb3⟩)
              | (go_at_call 8; refine (cV _ hb3).mono ?_; rintro e w4 ⟨rfl, hb4⟩)
              | (go_at_call 9; refine (cU _ hb4).mono ?_; rintro e w5 ⟨rfl, hb5⟩)
            go_roundg (gk - 1)
            case measure => omega
            case rel => exact ⟨i + 1, by simp [wrap64] <;> omega, by omega, by omega, hb5⟩
end Go.Proofs.YthlijkpeafgenaaDoor
