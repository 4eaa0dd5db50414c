/- target.Segments; lockageref05.Strings. -/
import Derived.Test.YtgpbjnaciomgdaaDoorT
import Derived.Lib.SplitLaws
import Derived.Lib.CountLaws
set_option linter.unusedVariables false
set_option linter.unusedSimpArgs false
namespace Go.Proofs.YtgpbjnaciomgdaaDoor
open Go.RowKit Go.Lib
open Go.Proofs.YtgpbjnaciomgdaaDoorW.PrintWords

abbrev ba (l : List UInt8) : ByteArray := ⟨l.toArray⟩
theorem indexB_one (l : List UInt8) : indexB (ba l) ⟨#[47]⟩ = indexByte l 47 := index_one l 47
theorem ba_ext (l : List UInt8) (i j : Nat) : (ba l).extract i j = ba ((l.drop i).take (j - i)) := by
  apply ByteArray.ext
  apply Array.ext'
  exact lst_extract (ba l) i j
theorem splitB_pieces : ∀ (n : Nat) (l : List UInt8), l.length ≤ n → splitB ⟨#[47]⟩ 0 (countB (ba l) ⟨#[47]⟩) (ba l) = (pieces 47 l).map ba := by
  intro n
  induction n with
  | zero =>
    intro l hl
    obtain rfl : l = [] := List.eq_nil_of_length_eq_zero (by omega)
    rw [splitB_miss _ _ _ _ (by rw [indexB_one]; rfl)]
    rfl
  | succ n ih =>
    intro l hl
    rcases index1 47 l with ⟨h, hi⟩ | ⟨a, r, rfl, h, hi⟩
    · rw [splitB_miss _ _ _ _ (by rw [indexB_one]; exact hi), pieces_none h]
      rfl
    · have hix : indexB (ba (a ++ 47 :: r)) ⟨#[47]⟩ = (a.length : Int) := by rw [indexB_one]; exact hi
      have h1 : (ba (a ++ 47 :: r)).extract (a.length + (ByteArray.mk #[47]).size) (ba (a ++ 47 :: r)).size = ba r := by
        rw [ba_ext]
        congr 1
        have : (ByteArray.mk #[47]).size = 1 := rfl
        rw [this]
        simp [ByteArray.size]
        exact List.take_of_length_le (by omega)
      have h2 : (ba (a ++ 47 :: r)).extract 0 (a.length + 0) = ba a := by
        rw [ba_ext]
        simp
      rw [countB_hit _ _ _ (by decide) hix, Nat.add_comm, splitB_hit _ _ _ _ _ hix, h1, h2, ih r (by simp at hl; omega), pieces_app h]
      rfl
theorem countB_pieces (l : List UInt8) : countB (ba l) ⟨#[47]⟩ + 1 = (pieces 47 l).length := by
  rw [← splitB_all ⟨#[47]⟩ (by decide) 0 _ (ba l) rfl, splitB_pieces _ l (Nat.le_refl _), List.length_map]

set_option maxRecDepth 100000 in
set_option maxHeartbeats 2000000 in
theorem tseg_any (l : List UInt8) (w : World) (m : Int) (hm : w.cell? ⟨0, 0, none⟩ = some (.int .i64 m)) (hl : l.length ≤ 100000) :
    Calls Tryd.prog 12 #[str l] w fun e w' => ∃ v, e = .returned v ∧ Rw w w' v (segsOf l) := by
  cases l with
  | nil =>
    go_enter Tryd.func12, Tryd.ntmps12
    go_wp2_with fail
    go_ret
    exact ⟨_, rfl, Rw.start w⟩
  | cons c r =>
    have hx : (⟨(c :: r).toArray⟩ : ByteArray).extract 1 (r.length + 1) = ⟨r.toArray⟩ := by
      have := ba_ext (c :: r) 1 (r.length + 1)
      rw [this]
      simp
    have hx1 : (1 : Int) ≤ (r.length : Int) + 1 := by omega
    simp only [List.length_cons] at hl
    have arm : Calls Tryd.prog 23 #[.string ⟨r.toArray⟩, .string ⟨#[47]⟩] w fun e w' => ∃ v, e = .returned v ∧ Rw w w' v (pieces 47 r) := by
      refine (Tryd.strings_Split ⟨r.toArray⟩ ⟨#[47]⟩ m w (by simp [ByteArray.size]; omega) hm (by decide)).mono ?_
      rintro e w' ⟨rfl, rfl⟩
      refine ⟨_, rfl, ?_, (Below.refl _ _).alloc (Nat.le_refl _) _⟩
      have h1 := splitB_pieces _ r (Nat.le_refl _)
      have h2 := countB_pieces r
      have h3 := pieces_len 47 r
      rw [h1, h2]
      have hcells : ((pieces 47 r).map ba).map Value.string = strs (pieces 47 r) := by simp [strs]
      rw [hcells]
      have hb := heap_alloc_new w (.cells (strs (pieces 47 r)).toArray 9)
      have := Ow.mk (base := w.heap.size) (xs := strs (pieces 47 r)) (off := 0) (c := (pieces 47 r).length) (Nat.le_refl _) hb (by rw [strs_len]; exact Nat.le_refl _) (by omega) (by simp [strs_len])
      have h4 := this (by simp)
      rwa [strs_len] at h4
    go_enter Tryd.func12, Tryd.ntmps12
    go_wp2_with (go_at_call 23; refine arm.mono ?_; rintro e w1 ⟨v, rfl, hR⟩)
    go_ret
    exact ⟨_, rfl, hR⟩

/-- lockageref05.Strings, of like rows -/
theorem eqs_any (A B : Option Addr) (n c n2 c2 : Nat) (xs : List (List UInt8)) (w : World) (hr : Rd w (.slice A n c) (strs xs)) (hr2 : Rd w (.slice B n2 c2) (strs xs)) (hl : xs.length ≤ 1000000) :
    Calls Tryd.prog 13 #[.slice A n c, .slice B n2 c2] w fun e w' => e = .returned (.bool true) ∧ Below w.heap.size w w' := by
  have hn := hr.len
  have hn2 := hr2.len
  rw [strs_len] at hn hn2
  subst hn
  subst hn2
  have HR := Lib.hid hr
  have HR2 := Lib.hid hr2
  clear hr hr2
  go_enter Tryd.func13, Tryd.ntmps13
  go_wp2_with fail
  go_loopg [5] xs.length (fun gg s5 wr => ∃ i : Nat, s5 = .int .i64 i ∧ i ≤ xs.length ∧ xs.length - i ≤ gg ∧ Below w.heap.size w wr)
  case atStart => exact ⟨0, rfl, by omega, by omega, Below.refl _ _⟩
  case round =>
    obtain ⟨i, rfl, hi, hg, hb⟩ := hrel
    by_cases hlt : i < xs.length
    · have hlt1 : (i : Int) < (xs.length : Int) := by omega
      obtain ⟨ad, rfl, hat⟩ := (HR.out.below hb).seg hlt
      obtain ⟨ad2, rfl, hat2⟩ := (HR2.out.below hb).seg hlt
      have HB := Lib.hid hb
      clear hb
      generalize xs[i] = sg at *
      go_wp2_with fail
      go_region
      all_goals
        go_wp2_with fail
        go_roundg (xs.length - (i + 1))
        case measure => omega
        case rel => exact ⟨i + 1, by simp [wrap64] <;> omega, by omega, by omega, by first | exact HB.out | exact below_drew HB.out⟩
    · have hlt1 : ¬ (i : Int) < (xs.length : Int) := by omega
      go_wp2_with fail
      go_ret
      exact ⟨rfl, hb⟩

set_option maxRecDepth 100000 in
set_option maxHeartbeats 2000000 in
/-- the answers agree -/
theorem same_any (l : List UInt8) (w : World) (m : Int) (hm : w.cell? ⟨0, 0, none⟩ = some (.int .i64 m)) (hl : l.length ≤ 1000) :
    Calls Tryd.prog 9 #[str l] w fun e w' => e = .returned (.bool true) ∧ Below w.heap.size w w' := by
  obtain ⟨A, B, c, hq⟩ : ∃ A B c, normS l = (A, B, c) := ⟨_, _, _, rfl⟩
  have HM := Lib.hid hm
  clear hm
  have HQ := Lib.hid hq
  clear hq
  cases l with
  | nil =>
    go_enter Tryd.func9, Tryd.ntmps9
    go_wp2_with first
      | (go_at_call 11; refine (normal_any [] _ m HM.out (by omega) A B c HQ.out).mono ?_; rintro e w1 ⟨rfl, hb1⟩)
      | (go_at_call 14; refine (rnormal_any [] _ (by omega) A B c HQ.out).mono ?_; rintro e w2 ⟨rfl, hb2⟩)
    go_ret
    exact ⟨rfl, hb1.trans (hb2.mono hb1.size)⟩
  | cons x r =>
    go_enter Tryd.func9, Tryd.ntmps9
    go_wp2_with first
      | (go_at_call 11; refine (normal_any (x :: r) _ m HM.out (by omega) A B c HQ.out).mono ?_; rintro e w1 ⟨rfl, hb1⟩)
      | (go_at_call 14; refine (rnormal_any (x :: r) _ (by omega) A B c HQ.out).mono ?_; rintro e w2 ⟨rfl, hb2⟩; have hb12 := hb1.trans (hb2.mono hb1.size); have HB := Lib.hid hb12; clear hb1 hb2 hb12)
      | (go_at_call 12; refine (tseg_any (x :: r) _ m (pw_cell_below HB.out HM.out) (by omega)).mono ?_; rintro e w3 ⟨v3, rfl, hR3⟩; have HR3 := Lib.hid hR3; clear hR3)
      | (go_at_call 15; refine (rseg_any (x :: r) _ (by omega)).mono ?_; rintro e w4 ⟨v4, rfl, hR4⟩; have HR4 := Lib.hid hR4; obtain ⟨A3, n3, c3, rfl⟩ := HR3.out.ow.slice'; obtain ⟨A4, n4, c4, rfl⟩ := HR4.out.ow.slice'; clear hR4)
      | (go_at_call 13; refine (eqs_any _ _ _ _ _ _ (segsOf (x :: r)) _ (HR3.out.ow.rd.below HR4.out.bw) HR4.out.ow.rd (by have := pieces_len 47 r; simp [segsOf]; simp at hl; omega)).mono ?_; rintro e w5 ⟨rfl, hb5⟩)
    have h23 := HB.out.trans (HR3.out.bw.mono HB.out.size)
    have h24 := h23.trans (HR4.out.bw.mono h23.size)
    go_ret
    exact ⟨rfl, h24.trans (hb5.mono h24.size)⟩
end Go.Proofs.YtgpbjnaciomgdaaDoor
