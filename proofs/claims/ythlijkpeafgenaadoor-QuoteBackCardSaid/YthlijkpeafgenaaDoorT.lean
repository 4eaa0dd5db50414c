/- quote.Unquote. -/
import Derived.Test.YthlijkpeafgenaaDoorS
set_option linter.unusedVariables false
set_option linter.unusedSimpArgs false
namespace Go.Proofs.YthlijkpeafgenaaDoor
open Go.RowKit Go.Lib
open Go.Proofs.YthlijkpeafgenaaDoorW.PrintWords

theorem ext_drop (l : List UInt8) (i n : Nat) (hn : n = l.length) : (⟨l.toArray⟩ : ByteArray).extract i n = ⟨(l.drop i).toArray⟩ := by
  subst hn
  apply ByteArray.ext
  rw [ByteArray.data_extract]
  apply Array.ext'
  rw [Array.toList_extract]
  simp [List.take_of_length_le]
theorem dec_rune_le (l : List UInt8) : (dec l).1 ≤ 1114111 := by
  have := decodeL_rune l
  rwa [decodeL_dec] at this
theorem dec_pos (l : List UInt8) : 1 ≤ (dec l).2 := by
  have := decodeL_width l
  rwa [decodeL_dec] at this
theorem dr_any (l : List UInt8) (hl : l ≠ []) {w W : World} (hT : Utf8Tabs 0 1 w) {b : Nat} {out : List UInt8} (h : Pm w W b out) {c n : Nat} (hd : dec l = (c, n)) :
    Calls Tryd.prog 17 #[str l] W fun e w' => e = .returned (.tuple #[.int .i32 (c : Int), .int .i64 (n : Int)]) ∧ Pm w w' b out := by
  refine (Tryd.utf8_DecodeRuneInString ⟨l.toArray⟩ W (Utf8Tabs_below hT h.bw)).mono ?_
  rintro e w' ⟨rfl, hb⟩
  rw [decodeGo_list l hl, hd]
  exact ⟨rfl, h.below hb⟩
theorem esc_pm (l : List UInt8) (hl : l.length ≤ 100000) {w W : World} {b : Nat} {out : List UInt8} (h : Pm w W b out) {x : Int} {k : Nat} (he : escQ l = (x, k)) :
    Calls Tryd.prog 18 #[str l] W fun e w' => e = .returned (.tuple #[.int .i32 x, .int .i64 (k : Int)]) ∧ Pm w w' b out := by
  refine (escape_any l W hl).mono ?_
  rintro e w' ⟨rfl, hb⟩
  rw [he]
  exact ⟨rfl, h.below hb⟩
theorem hp_any (l : List UInt8) (w : World) : Calls Tryd.prog 16 #[str l, str [34]] w fun e w' => e = .returned (.bool (decide (l.head? = some 34))) ∧ w' = w := by
  refine (Tryd.strings_HasPrefix ⟨l.toArray⟩ ⟨#[34]⟩ w).mono ?_
  rintro e w' ⟨rfl, rfl⟩
  refine ⟨?_, rfl⟩
  congr 2
  cases l with
  | nil => rfl
  | cons c r =>
    by_cases h : c = 34
    · subst h; rfl
    · have h' : ¬ (34 : UInt8) = c := fun e => h e.symm
      simp [Lib.hasPrefix, List.isPrefixOf, h, h']
theorem unqF_out {f : Nat} {l : List UInt8} {i : Nat} {out : List UInt8} (h : l = []) : unqF f l i out = ([], i, false) := by
  cases f with
  | zero => rfl
  | succ f => rw [unqF, if_pos h]
theorem unqF_end {f : Nat} {l : List UInt8} {i : Nat} {out : List UInt8} (h : l ≠ []) {n : Nat} (hd : dec l = (34, n)) : unqF (f + 1) l i out = (out, i + 1, true) := by
  rw [unqF, if_neg h, hd]; simp
theorem unqF_bad {f : Nat} {l : List UInt8} {i : Nat} {out : List UInt8} (h : l ≠ []) {c n : Nat} (hd : dec l = (c, n)) (hc : c ≠ 34) (hb : c < 32 ∨ (c = 65533 ∧ n = 1)) : unqF (f + 1) l i out = ([], i, false) := by
  rw [unqF, if_neg h, hd]; simp only; rw [if_neg hc, if_pos hb]
theorem unqF_escbad {f : Nat} {l : List UInt8} {i : Nat} {out : List UInt8} (h : l ≠ []) {n : Nat} (hd : dec l = (92, n)) {x : Int} (he : escQ (l.drop 1) = (x, 0)) : unqF (f + 1) l i out = ([], i, false) := by
  rw [unqF, if_neg h, hd, he]; simp
theorem unqF_esc {f : Nat} {l : List UInt8} {i : Nat} {out : List UInt8} (h : l ≠ []) {n : Nat} (hd : dec l = (92, n)) {x : Int} {k : Nat} (he : escQ (l.drop 1) = (x, k)) (hk : k ≠ 0) : unqF (f + 1) l i out = unqF f (l.drop (1 + k)) (i + (1 + k)) (out ++ encodeRune x) := by
  rw [unqF, if_neg h, hd, he]; simp [hk]
theorem unqF_on {f : Nat} {l : List UInt8} {i : Nat} {out : List UInt8} (h : l ≠ []) {c n : Nat} (hd : dec l = (c, n)) (hc : c ≠ 34) (hb : ¬ (c < 32 ∨ (c = 65533 ∧ n = 1))) (h92 : c ≠ 92) : unqF (f + 1) l i out = unqF f (l.drop n) (i + n) (out ++ encodeRune (c : Int)) := by
  rw [unqF, if_neg h, hd]; simp only; rw [if_neg hc, if_neg hb, if_neg h92]

def errN (b : Bool) : Int := if b then 0 else 30
set_option maxRecDepth 100000 in
set_option maxHeartbeats 4000000 in
theorem unq_any (l : List UInt8) (w : World) (hl : l.length ≤ 100000) (hT : Utf8Tabs 0 1 w) :
    Calls Tryd.prog 9 #[str l] w fun e w' => e = .returned (.tuple #[str (unqS l).1, .int .i64 ((unqS l).2.1 : Int), .int .i64 (errN (unqS l).2.2)]) ∧ Below w.heap.size w w' := by
  have cH := hp_any l w
  by_cases hh : l.head? = some 34
  case neg =>
    have hu : unqS l = ([], 0, false) := by
      cases l with
      | nil => rfl
      | cons c r =>
        unfold unqS
        simp only
        rw [if_neg (fun e => hh (by rw [e]; rfl))]
    rw [decide_eq_false hh] at cH
    rw [hu]
    go_enter Tryd.func9, Tryd.ntmps9
    go_wp2_with (go_at_call 16; refine cH.mono ?_; rintro e w1 ⟨rfl, hw1⟩; subst w1)
    go_ret3
    exact ⟨rfl, Below.refl _ _⟩
  case pos =>
    have hu : unqS l = unqF l.length (l.drop 1) 1 [] := by
      cases l with
      | nil => cases hh
      | cons c r =>
        obtain rfl : c = 34 := by simpa using hh
        rfl
    have hl1 : 1 ≤ l.length := by
      cases l with
      | nil => cases hh
      | cons c r => simp
    rw [decide_eq_true hh] at cH
    obtain ⟨ro, rn, rb, hR⟩ : ∃ ro rn rb, unqS l = (ro, rn, rb) := ⟨_, _, _, rfl⟩
    rw [hR]
    have HS : Aside (unqF l.length (l.drop 1) 1 [] = (ro, rn, rb)) := hu.symm.trans hR
    clear hu hR hh
    go_enter Tryd.func9, Tryd.ntmps9
    go_wp2_with (go_at_call 16; refine cH.mono ?_; rintro e w1 ⟨rfl, hw1⟩; subst w1)
    go_loopg [6] (l.length + 1) (fun gk s6 wx => ∃ (i f : Nat) (out : List UInt8), s6 = .int .i64 (i : Int) ∧ Pm w wx w.heap.size out ∧ i ≤ l.length ∧ 1 ≤ i ∧ l.length - i < gk ∧ l.length - i < f ∧ out.length ≤ 4 * i ∧ Aside (unqF f (l.drop i) i out = (ro, rn, rb)))
    case atStart => exact ⟨1, l.length, [], rfl, Pm.fresh w, hl1, by omega, by omega, by omega, by simp, HS⟩
    case round =>
      obtain ⟨i, f, out, rfl, hP, hi, hi1, hg, hf, hol, hA⟩ := hrel
      by_cases hlt : i < l.length
      case neg =>
        obtain rfl : i = l.length := by omega
        have hA2 : Aside (([], l.length, false) = (ro, rn, rb)) := by
          show _ = _
          rw [← hA.out]
          exact (unqF_out (by simp)).symm
        go_wp2_with fail
        go_ret3
        refine ⟨?_, hP.bw⟩
        have e := hA2.out
        injection e with e1 e2
        injection e2 with e2 e3
        rw [← e1, ← e2, ← e3]
        rfl
      case pos =>
        have hsz : (⟨l.toArray⟩ : ByteArray).size = l.length := by simp [ByteArray.size]
        have hex : (⟨l.toArray⟩ : ByteArray).extract i l.length = ⟨(l.drop i).toArray⟩ := ext_drop l i _ rfl
        have hne : l.drop i ≠ [] := by intro h; have := congrArg List.length h; rw [List.length_drop] at this; simp at this; omega
        obtain ⟨c, n, hd⟩ : ∃ c n, dec (l.drop i) = (c, n) := ⟨_, _, rfl⟩
        have hcl := dec_rune_le (l.drop i)
        have hn1 := dec_pos (l.drop i)
        have hnl := dec_le (l.drop i) hne
        rw [hd] at hcl hn1 hnl
        rw [List.length_drop] at hnl
        simp only at hcl hn1 hnl
        have cD := dr_any (l.drop i) hne hT hP hd
        obtain ⟨f, rfl⟩ : ∃ f', f = f' + 1 := ⟨f - 1, by omega⟩
        by_cases h34 : c = 34
        · subst h34
          have hA2 : Aside ((out, i + 1, true) = (ro, rn, rb)) := by
            show _ = _
            rw [← hA.out]
            exact (unqF_end hne hd).symm
          clear hA hd
          go_wp2_with first
            | (go_at_call 17; refine cD.mono ?_; rintro e w2 ⟨rfl, hP2⟩)
            | (go_at_call 14; refine (str_pm hP2).mono ?_; rintro e w3 ⟨rfl, hP3⟩)
          go_ret3
          refine ⟨?_, hP3.bw⟩
          have e := hA2.out
          injection e with e1 e2
          injection e2 with e2 e3
          rw [← e1, ← e2, ← e3]
          simp [errN]
        have e34 : ((c : Int) == 34) = false := by simp; omega
        by_cases hbad : c < 32 ∨ (c = 65533 ∧ n = 1)
        · have hA2 : Aside (([], i, false) = (ro, rn, rb)) := by
            show _ = _
            rw [← hA.out]
            exact (unqF_bad hne hd h34 hbad).symm
          clear hA hd h34
          rcases hbad with hb1 | ⟨hb1, hb2⟩
          · have hb1z : (c : Int) < 32 := by omega
            go_wp2_with (go_at_call 17; refine cD.mono ?_; rintro e w2 ⟨rfl, hP2⟩)
            go_ret3
            refine ⟨?_, hP2.bw⟩
            have e := hA2.out
            injection e with e1 e2
            injection e2 with e2 e3
            rw [← e1, ← e2, ← e3]
            rfl
          · subst hb1 hb2
            go_wp2_with (go_at_call 17; refine cD.mono ?_; rintro e w2 ⟨rfl, hP2⟩)
            go_ret3
            refine ⟨?_, hP2.bw⟩
            have e := hA2.out
            injection e with e1 e2
            injection e2 with e2 e3
            rw [← e1, ← e2, ← e3]
            rfl
        · have hb1 : ¬ (c : Int) < 32 := by omega
          by_cases h92 : c = 92
          · subst h92
            have hex2 : (⟨l.toArray⟩ : ByteArray).extract (i + 1) l.length = ⟨(l.drop (i + 1)).toArray⟩ := ext_drop l (i + 1) _ rfl
            obtain ⟨x, k, he⟩ : ∃ x k, escQ (l.drop (i + 1)) = (x, k) := ⟨_, _, rfl⟩
            have he2 : escQ ((l.drop i).drop 1) = (x, k) := by rw [List.drop_drop]; exact he
            have cE := fun {W : World} (h : Pm w W w.heap.size out) => esc_pm (l.drop (i + 1)) (by rw [List.length_drop]; omega) h he
            by_cases hk : k = 0
            · subst hk
              have hA2 : Aside (([], i, false) = (ro, rn, rb)) := by
                show _ = _
                rw [← hA.out]
                exact (unqF_escbad hne hd he2).symm
              clear hA hd he he2
              go_wp2_with first
                | (go_at_call 17; refine cD.mono ?_; rintro e w2 ⟨rfl, hP2⟩)
                | (go_at_call 18; refine (cE hP2).mono ?_; rintro e w3 ⟨rfl, hP3⟩)
              go_ret3
              refine ⟨?_, hP3.bw⟩
              have e := hA2.out
              injection e with e1 e2
              injection e2 with e2 e3
              rw [← e1, ← e2, ← e3]
              rfl
            · obtain ⟨x', hx, hox, _, hkl⟩ := escQ_ok (l.drop (i + 1)) (by rw [he]; exact hk)
              rw [he] at hx hkl
              simp only at hx hkl
              subst hx
              rw [List.length_drop] at hkl
              have hxl := okR_le hox
              have hel := enc_len (x' : Int)
              have hA2 : Aside (unqF f (l.drop (i + (1 + k))) (i + (1 + k)) (out ++ encodeRune (x' : Int)) = (ro, rn, rb)) := by
                show _ = _
                rw [← hA.out, unqF_esc hne hd he2 hk, List.drop_drop]
              have hk0 : ((k : Int) == 0) = false := by simp; omega
              have HK := Lib.hid hk
              clear hA hd he he2 hk
              go_wp2_with first
                | (go_at_call 17; refine cD.mono ?_; rintro e w2 ⟨rfl, hP2⟩)
                | (go_at_call 18; refine (cE hP2).mono ?_; rintro e w3 ⟨rfl, hP3⟩)
                | (go_at_call 13; refine (wr_pm (x' : Int) (by omega) (by omega) hP3 (by omega)).mono ?_; rintro e w4 ⟨k4, rfl, hP4⟩)
              go_roundg (gk - 1)
              case measure => omega
              case rel => exact ⟨i + (1 + k), f, _, by congr 1, hP4, by omega, by omega, by omega, by omega, by rw [List.length_append]; omega, hA2⟩
          · have h92z : ((c : Int) == 92) = false := by simp; omega
            have hel := enc_len (c : Int)
            have hA2 : Aside (unqF f (l.drop (i + n)) (i + n) (out ++ encodeRune (c : Int)) = (ro, rn, rb)) := by
              show _ = _
              rw [← hA.out, unqF_on hne hd h34 hbad h92, List.drop_drop]
            by_cases h5 : c = 65533
            · have h5z : ((c : Int) == 65533) = true := by simp; omega
              have hn : ((n : Int) == 1) = false := by simp; omega
              clear hA hd hbad h34 h92 h5
              go_wp2_with first
                | (go_at_call 17; refine cD.mono ?_; rintro e w2 ⟨rfl, hP2⟩)
                | (go_at_call 13; refine (wr_pm (c : Int) (by omega) (by omega) hP2 (by omega)).mono ?_; rintro e w4 ⟨k4, rfl, hP4⟩)
              go_roundg (gk - 1)
              case measure => omega
              case rel => exact ⟨i + n, f, _, by congr 1, hP4, by omega, by omega, by omega, by omega, by rw [List.length_append]; omega, hA2⟩
            · have h5z : ((c : Int) == 65533) = false := by simp; omega
              clear hA hd hbad h34 h92 h5
              go_wp2_with first
                | (go_at_call 17; refine cD.mono ?_; rintro e w2 ⟨rfl, hP2⟩)
                | (go_at_call 13; refine (wr_pm (c : Int) (by omega) (by omega) hP2 (by omega)).mono ?_; rintro e w4 ⟨k4, rfl, hP4⟩)
              go_roundg (gk - 1)
              case measure => omega
              case rel => exact ⟨i + n, f, _, by congr 1, hP4, by omega, by omega, by omega, by omega, by rw [List.length_append]; omega, hA2⟩
end Go.Proofs.YthlijkpeafgenaaDoor
