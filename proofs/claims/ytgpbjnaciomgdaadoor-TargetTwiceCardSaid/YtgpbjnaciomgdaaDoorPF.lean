/- lockagelaw13.TargetTwice (printed by mkPF.py). -/
import Derived.Test.YtgpbjnaciomgdaaDoorPC
import Derived.Test.YtgpbjnaciomgdaaDoorPA
set_option linter.unusedVariables false
set_option linter.unusedSimpArgs false
namespace Go.Proofs.YtgpbjnaciomgdaaDoor
open Go.RowKit Go.Lib
open Go.Proofs.YtgpbjnaciomgdaaDoorW.PrintWords

set_option maxRecDepth 100000 in
set_option maxHeartbeats 8000000 in
theorem twice_any (A : Option Addr) (n c : Nat) (xs : List Nat) (S : ByteArray) (bb : Bool) (w : World) (m : Int) (hr : Rd w (.slice A n c) (u8s xs)) (hb8 : ∀ x ∈ xs, x < 256) (hm : w.cell? ⟨0, 0, none⟩ = some (.int .i64 m)) :
    Calls Tryd.prog 6 #[.slice A n c, .string S, .bool bb] w fun e w' => e = .returned (.bool true) ∧ Below w.heap.size w w' := by
  obtain ⟨l0, rfl⟩ : ∃ l : List UInt8, S = ⟨l.toArray⟩ := ⟨lst S, by apply ByteArray.ext; apply Array.ext'; rfl⟩
  have HM := Lib.hid hm
  have HR := Lib.hid hr
  have H8 := Lib.hid hb8
  clear hm hr hb8
  by_cases hs : bb = true ∨ 200 < l0.length
  · have hcs : bb = true ∨ (bb = false ∧ 200 < l0.length) := by cases bb <;> simp_all
    have HCS := Lib.hid hcs
    clear hs hcs
    rcases HCS.out with rfl | ⟨rfl, hlong⟩
    · clear HCS
      go_enter Tryd.func6, Tryd.ntmps6
      go_upto_region 7 with first
        | (go_at_call 11; refine (normal_any (47 :: l2) _ m (pw_cell_below HB2.out HM.out) (by have := HL.out; omega) _ _ _ HQ.out).mono ?_; rintro e w3 ⟨rfl, hb3⟩; have HB3 := Lib.hid (HB2.out.trans (hb3.mono HB2.out.size)); clear hb3)
        | (go_at_call 10; refine (pieces_any A n c xs _ (HR.out.below HB1.out) H8.out).mono ?_; rintro e w2 ⟨l2, rfl, hl2, hb2⟩; have HB2 := Lib.hid (HB1.out.trans (hb2.mono HB1.out.size)); have HL := Lib.hid (show (47 :: l2).length ≤ 200 by simp; omega); clear hb2 hl2; obtain ⟨p, q, k, hq⟩ : ∃ p q k, normS (47 :: l2) = (p, q, k) := ⟨_, _, _, rfl⟩; have HQ := Lib.hid hq; clear hq)
        | (go_at_call 8; refine (awake_any _ m HM.out).mono ?_; rintro e w1 ⟨rfl, hb1⟩; have HB1 := Lib.hid hb1; clear hb1)
      by_cases hk : k = 0
      · subst hk
        obtain ⟨h1, h2, h3, ⟨r, rfl⟩, h5⟩ := norm_twice (47 :: l2) p q HQ.out
        have H3 := Lib.hid h3
        have H5 := Lib.hid h5
        have hcat : (⟨(47 :: r).toArray⟩ : ByteArray) ++ ⟨q.toArray⟩ = ⟨(47 :: r ++ q).toArray⟩ := bytes_app (47 :: r) q
        have hle : (r.length : Int) + 1 + (q.length : Int) ≤ (l2.length : Int) + 1 := by simp only [List.length_cons] at h1; omega
        have hrl : (47 :: r ++ q).length ≤ 200 := by rw [List.length_append]; omega
        have hrq : (r.length : Int) + 1 + (q.length : Int) ≤ 200 := by rw [List.length_append] at hrl; simp only [List.length_cons] at hrl; omega
        have HRL := Lib.hid hrl
        clear h1 h2 h3 h5 hrl
        go_wp2_with first
          | (go_at_call 12; refine (tseg_any (47 :: r) _ m (pw_cell_below HB4.out HM.out) (by have := HRL.out; rw [List.length_append] at this; omega)).mono ?_; rintro e w5 ⟨v5, rfl, hR5⟩; obtain ⟨A5, n5, c5, rfl⟩ := hR5.ow.slice'; have HR5 := Lib.hid hR5; clear hR5)
          | (go_at_call 11; refine (normal_any (47 :: r ++ q) _ m (pw_cell_below HB3.out HM.out) (by have := HRL.out; omega) _ _ _ H3.out).mono ?_; rintro e w4 ⟨rfl, hb4⟩; have HB4 := Lib.hid (HB3.out.trans (hb4.mono HB3.out.size)); clear hb4)
        have HB5 := Lib.hid (HB4.out.trans (HR5.out.bw.mono HB4.out.size))
        have hn5 := HR5.out.ow.rd.len
        rw [strs_len] at hn5
        have hsl : (segsOf (47 :: r)).length ≤ 1000 := by
          have h1 := pieces_len 47 r
          have h2 := HRL.out
          rw [segsOf_cons]
          rw [List.length_append] at h2
          simp only [List.length_cons] at h2
          omega
        generalize segsOf (47 :: r) = sg at HR5 H5 hn5 hsl
        go_loopg [15] sg.length (fun gg s15 wr => ∃ i : Nat, s15 = .int .i64 i ∧ i ≤ sg.length ∧ sg.length - i ≤ gg ∧ wr = w5)
        case atStart => exact ⟨0, rfl, by omega, by omega, rfl⟩
        case round =>
          obtain ⟨i, rfl, hi, hg, rfl⟩ := hrel
          by_cases hlt : i < sg.length
          · have hlt1 : (i : Int) < (n5 : Int) := by omega
            obtain ⟨ad, rfl, hat⟩ := HR5.out.ow.rd.seg hlt
            have hd := H5.out _ (List.getElem_mem hlt)
            generalize sg[i] = y at hat hd
            have hy1 : ¬ y = [46] := fun e => by rw [e] at hd; exact absurd hd (by decide)
            have hy2 : ¬ y = [46, 46] := fun e => by rw [e] at hd; exact absurd hd (by decide)
            have hy3 : (y == [46]) = false := by simpa using hy1
            have hy4 : (y == [46, 46]) = false := by simpa using hy2
            have HD := Lib.hid hd
            clear hd
            go_wp2_with fail
            go_roundg (sg.length - (i + 1))
            case measure => omega
            case rel => exact ⟨i + 1, by simp [wrap64] <;> omega, by omega, by omega, rfl⟩
          · have hlt1 : ¬ (i : Int) < (n5 : Int) := by omega
            go_wp2_with fail
            go_ret
            exact ⟨rfl, HB5.out⟩
      · have hk1 : ¬ (k : Int) = 0 := by omega
        obtain ⟨rfl, rfl⟩ := norm_bad (47 :: l2) p q k HQ.out hk
        have HK := Lib.hid hk
        clear hk
        go_wp2_with fail
        go_ret
        exact ⟨rfl, HB3.out⟩
    · have hlong1 : (200 : Int) < (l0.length : Int) := by omega
      clear HCS
      go_enter Tryd.func6, Tryd.ntmps6
      go_upto_region 7 with first
        | (go_at_call 11; refine (normal_any (47 :: l2) _ m (pw_cell_below HB2.out HM.out) (by have := HL.out; omega) _ _ _ HQ.out).mono ?_; rintro e w3 ⟨rfl, hb3⟩; have HB3 := Lib.hid (HB2.out.trans (hb3.mono HB2.out.size)); clear hb3)
        | (go_at_call 10; refine (pieces_any A n c xs _ (HR.out.below HB1.out) H8.out).mono ?_; rintro e w2 ⟨l2, rfl, hl2, hb2⟩; have HB2 := Lib.hid (HB1.out.trans (hb2.mono HB1.out.size)); have HL := Lib.hid (show (47 :: l2).length ≤ 200 by simp; omega); clear hb2 hl2; obtain ⟨p, q, k, hq⟩ : ∃ p q k, normS (47 :: l2) = (p, q, k) := ⟨_, _, _, rfl⟩; have HQ := Lib.hid hq; clear hq)
        | (go_at_call 8; refine (awake_any _ m HM.out).mono ?_; rintro e w1 ⟨rfl, hb1⟩; have HB1 := Lib.hid hb1; clear hb1)
      by_cases hk : k = 0
      · subst hk
        obtain ⟨h1, h2, h3, ⟨r, rfl⟩, h5⟩ := norm_twice (47 :: l2) p q HQ.out
        have H3 := Lib.hid h3
        have H5 := Lib.hid h5
        have hcat : (⟨(47 :: r).toArray⟩ : ByteArray) ++ ⟨q.toArray⟩ = ⟨(47 :: r ++ q).toArray⟩ := bytes_app (47 :: r) q
        have hle : (r.length : Int) + 1 + (q.length : Int) ≤ (l2.length : Int) + 1 := by simp only [List.length_cons] at h1; omega
        have hrl : (47 :: r ++ q).length ≤ 200 := by rw [List.length_append]; omega
        have hrq : (r.length : Int) + 1 + (q.length : Int) ≤ 200 := by rw [List.length_append] at hrl; simp only [List.length_cons] at hrl; omega
        have HRL := Lib.hid hrl
        clear h1 h2 h3 h5 hrl
        go_wp2_with first
          | (go_at_call 12; refine (tseg_any (47 :: r) _ m (pw_cell_below HB4.out HM.out) (by have := HRL.out; rw [List.length_append] at this; omega)).mono ?_; rintro e w5 ⟨v5, rfl, hR5⟩; obtain ⟨A5, n5, c5, rfl⟩ := hR5.ow.slice'; have HR5 := Lib.hid hR5; clear hR5)
          | (go_at_call 11; refine (normal_any (47 :: r ++ q) _ m (pw_cell_below HB3.out HM.out) (by have := HRL.out; omega) _ _ _ H3.out).mono ?_; rintro e w4 ⟨rfl, hb4⟩; have HB4 := Lib.hid (HB3.out.trans (hb4.mono HB3.out.size)); clear hb4)
        have HB5 := Lib.hid (HB4.out.trans (HR5.out.bw.mono HB4.out.size))
        have hn5 := HR5.out.ow.rd.len
        rw [strs_len] at hn5
        have hsl : (segsOf (47 :: r)).length ≤ 1000 := by
          have h1 := pieces_len 47 r
          have h2 := HRL.out
          rw [segsOf_cons]
          rw [List.length_append] at h2
          simp only [List.length_cons] at h2
          omega
        generalize segsOf (47 :: r) = sg at HR5 H5 hn5 hsl
        go_loopg [15] sg.length (fun gg s15 wr => ∃ i : Nat, s15 = .int .i64 i ∧ i ≤ sg.length ∧ sg.length - i ≤ gg ∧ wr = w5)
        case atStart => exact ⟨0, rfl, by omega, by omega, rfl⟩
        case round =>
          obtain ⟨i, rfl, hi, hg, rfl⟩ := hrel
          by_cases hlt : i < sg.length
          · have hlt1 : (i : Int) < (n5 : Int) := by omega
            obtain ⟨ad, rfl, hat⟩ := HR5.out.ow.rd.seg hlt
            have hd := H5.out _ (List.getElem_mem hlt)
            generalize sg[i] = y at hat hd
            have hy1 : ¬ y = [46] := fun e => by rw [e] at hd; exact absurd hd (by decide)
            have hy2 : ¬ y = [46, 46] := fun e => by rw [e] at hd; exact absurd hd (by decide)
            have hy3 : (y == [46]) = false := by simpa using hy1
            have hy4 : (y == [46, 46]) = false := by simpa using hy2
            have HD := Lib.hid hd
            clear hd
            go_wp2_with fail
            go_roundg (sg.length - (i + 1))
            case measure => omega
            case rel => exact ⟨i + 1, by simp [wrap64] <;> omega, by omega, by omega, rfl⟩
          · have hlt1 : ¬ (i : Int) < (n5 : Int) := by omega
            go_wp2_with fail
            go_ret
            exact ⟨rfl, HB5.out⟩
      · have hk1 : ¬ (k : Int) = 0 := by omega
        obtain ⟨rfl, rfl⟩ := norm_bad (47 :: l2) p q k HQ.out hk
        have HK := Lib.hid hk
        clear hk
        go_wp2_with fail
        go_ret
        exact ⟨rfl, HB3.out⟩
  · obtain rfl : bb = false := by cases bb <;> simp_all
    have hlong1 : ¬ (200 : Int) < (l0.length : Int) := by omega
    have HL := Lib.hid (show l0.length ≤ 200 by omega)
    have HS := Lib.hid hs
    clear hs
    obtain ⟨p, q, k, hq⟩ : ∃ p q k, normS l0 = (p, q, k) := ⟨_, _, _, rfl⟩
    have HQ := Lib.hid hq
    clear hq
    go_enter Tryd.func6, Tryd.ntmps6
    go_upto_region 7 with first
      | (go_at_call 11; refine (normal_any l0 _ m (pw_cell_below HB1.out HM.out) (by have := HL.out; omega) _ _ _ HQ.out).mono ?_; rintro e w3 ⟨rfl, hb3⟩; have HB3 := Lib.hid (HB1.out.trans (hb3.mono HB1.out.size)); clear hb3)
      | (go_at_call 8; refine (awake_any _ m HM.out).mono ?_; rintro e w1 ⟨rfl, hb1⟩; have HB1 := Lib.hid hb1; clear hb1)
    by_cases hk : k = 0
    · subst hk
      obtain ⟨h1, h2, h3, ⟨r, rfl⟩, h5⟩ := norm_twice l0 p q HQ.out
      have H3 := Lib.hid h3
      have H5 := Lib.hid h5
      have hcat : (⟨(47 :: r).toArray⟩ : ByteArray) ++ ⟨q.toArray⟩ = ⟨(47 :: r ++ q).toArray⟩ := bytes_app (47 :: r) q
      have hle : (r.length : Int) + 1 + (q.length : Int) ≤ (l0.length : Int) := by simp only [List.length_cons] at h1; omega
      have hrl : (47 :: r ++ q).length ≤ 200 := by rw [List.length_append]; omega
      have hrq : (r.length : Int) + 1 + (q.length : Int) ≤ 200 := by rw [List.length_append] at hrl; simp only [List.length_cons] at hrl; omega
      have HRL := Lib.hid hrl
      clear h1 h2 h3 h5 hrl
      go_wp2_with first
        | (go_at_call 12; refine (tseg_any (47 :: r) _ m (pw_cell_below HB4.out HM.out) (by have := HRL.out; rw [List.length_append] at this; omega)).mono ?_; rintro e w5 ⟨v5, rfl, hR5⟩; obtain ⟨A5, n5, c5, rfl⟩ := hR5.ow.slice'; have HR5 := Lib.hid hR5; clear hR5)
        | (go_at_call 11; refine (normal_any (47 :: r ++ q) _ m (pw_cell_below HB3.out HM.out) (by have := HRL.out; omega) _ _ _ H3.out).mono ?_; rintro e w4 ⟨rfl, hb4⟩; have HB4 := Lib.hid (HB3.out.trans (hb4.mono HB3.out.size)); clear hb4)
      have HB5 := Lib.hid (HB4.out.trans (HR5.out.bw.mono HB4.out.size))
      have hn5 := HR5.out.ow.rd.len
      rw [strs_len] at hn5
      have hsl : (segsOf (47 :: r)).length ≤ 1000 := by
        have h1 := pieces_len 47 r
        have h2 := HRL.out
        rw [segsOf_cons]
        rw [List.length_append] at h2
        simp only [List.length_cons] at h2
        omega
      generalize segsOf (47 :: r) = sg at HR5 H5 hn5 hsl
      go_loopg [15] sg.length (fun gg s15 wr => ∃ i : Nat, s15 = .int .i64 i ∧ i ≤ sg.length ∧ sg.length - i ≤ gg ∧ wr = w5)
      case atStart => exact ⟨0, rfl, by omega, by omega, rfl⟩
      case round =>
        obtain ⟨i, rfl, hi, hg, rfl⟩ := hrel
        by_cases hlt : i < sg.length
        · have hlt1 : (i : Int) < (n5 : Int) := by omega
          obtain ⟨ad, rfl, hat⟩ := HR5.out.ow.rd.seg hlt
          have hd := H5.out _ (List.getElem_mem hlt)
          generalize sg[i] = y at hat hd
          have hy1 : ¬ y = [46] := fun e => by rw [e] at hd; exact absurd hd (by decide)
          have hy2 : ¬ y = [46, 46] := fun e => by rw [e] at hd; exact absurd hd (by decide)
          have hy3 : (y == [46]) = false := by simpa using hy1
          have hy4 : (y == [46, 46]) = false := by simpa using hy2
          have HD := Lib.hid hd
          clear hd
          go_wp2_with fail
          go_roundg (sg.length - (i + 1))
          case measure => omega
          case rel => exact ⟨i + 1, by simp [wrap64] <;> omega, by omega, by omega, rfl⟩
        · have hlt1 : ¬ (i : Int) < (n5 : Int) := by omega
          go_wp2_with fail
          go_ret
          exact ⟨rfl, HB5.out⟩
    · have hk1 : ¬ (k : Int) = 0 := by omega
      obtain ⟨rfl, rfl⟩ := norm_bad l0 p q k HQ.out hk
      have HK := Lib.hid hk
      clear hk
      go_wp2_with fail
      go_ret
      exact ⟨rfl, HB3.out⟩
end Go.Proofs.YtgpbjnaciomgdaaDoor
