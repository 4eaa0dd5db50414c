/- lockagelaw13.TargetDots (printed by mkPE.py). -/
import Derived.Test.YtgpbjnaciomgdaaDoorPB
set_option linter.unusedVariables false
set_option linter.unusedSimpArgs false
namespace Go.Proofs.YtgpbjnaciomgdaaDoor
open Go.RowKit Go.Lib
open Go.Proofs.YtgpbjnaciomgdaaDoorW.PrintWords

theorem Rd.byte {w : World} {A : Option Addr} {n c i : Nat} {xs : List Nat} (h : Rd w (.slice A n c) (u8s xs)) (hi : i < xs.length) : ∃ ad, A = some ad ∧ w.cell? (ad.add i) = some (.int .u8 (xs[i] : Int)) := by
  have hl := h.len
  rw [u8s_len] at hl
  obtain ⟨b, off, rfl, hb, hc⟩ := h.get (by omega)
  exact ⟨_, rfl, by rw [add_at]; exact hc i _ (by rw [u8s_at hi])⟩
def dD (t i : Nat) : Nat := if t % 12 < i then 14 else 0
theorem dts_plain {i t : Nat} {a b : List UInt8} (h : Dts i (dD t i) a b) (k : Nat) (hk : k < 6) (x : List UInt8) (hx : tX[k]'hk = x) (y : List UInt8) (hy : plainS y = some x) (hyq : (63 : UInt8) ∉ y) (hyl : y.length ≤ 4) (ht : t % 12 ≠ i) :
    Dts (i + 1) (dD t (i + 1)) (a ++ 47 :: x) (b ++ 47 :: y) := by
  have hf := tX_facts ⟨k, hk⟩
  simp only [hx] at hf
  have hd : dD t (i + 1) = dD t i + 0 := by unfold dD; split <;> split <;> omega
  rw [hd]
  exact h.step x y [] [] 0 (by rw [← hx]; exact tX_plain k hk) hy plainS_nil (fun _ => rfl) (by simp) hf.2.1 hf.1 hyq (by simp) hf.2.2.2 hyl (by simp)
theorem dts_dots {i t : Nat} {a b : List UInt8} (h : Dts i (dD t i) a b) (k : Nat) (hk : k < 6) (x : List UInt8) (hx : tX[k]'hk = x) (y : List UInt8) (hy : plainS y = some x) (hyq : (63 : UInt8) ∉ y) (hyl : y.length ≤ 4) (ht : t % 12 = i)
    (j : Nat) (hj : j < 5) (D : List UInt8) (hD : tD[j]'hj = D) : Dts (i + 1) (dD t (i + 1)) (a ++ 47 :: x) (b ++ D ++ 47 :: y) := by
  have hf := tX_facts ⟨k, hk⟩
  simp only [hx] at hf
  have hg := tD_facts ⟨j, hj⟩
  simp only [hD] at hg
  have hd : dD t (i + 1) = dD t i + 14 := by unfold dD; rw [if_pos (by omega), if_neg (by omega)]
  rw [hd, List.append_assoc]
  exact h.step x y D (tE[j]'hj) 14 (by rw [← hx]; exact tX_plain k hk) hy (by rw [← hD]; exact tD_plain j hj) (tE_fold j hj) hg.2.2 hf.2.1 hf.1 hyq hg.1 hf.2.2.2 hyl hg.2.1

theorem Dts.len {i d : Nat} {a b : List UInt8} (h : Dts i d a b) (hi : i ≤ 12) (hd : d ≤ 14) : a.length ≤ 60 ∧ b.length ≤ 74 := by
  obtain ⟨sa, sb, h1, h2, h3, h4, h5, h6, h7, h8, h9, h10, h11, h12, h13⟩ := h
  exact ⟨by omega, by omega⟩
theorem wr8 {x : Nat} (h : x < 256) : wrap64 (x : Int) = (x : Int) := by unfold wrap64; omega
theorem tmodN {t u : Nat} (k : Nat) (h : t % k = u) : (t : Int).tmod (k : Int) = (u : Int) := by rw [← h]; exact (Int.ofNat_tmod t k).symm
theorem dD_at {t u : Nat} (h : t % 12 = u) : dD t (u + 1) = dD t u + 14 := by unfold dD; rw [if_pos (by omega), if_neg (by omega)]
theorem dD_off {t u i : Nat} (h : t % 12 = u) (hne : ¬ u = i) : dD t (i + 1) = dD t i + 0 := by unfold dD; split <;> split <;> omega
theorem odd2 {x : Nat} (h : ¬ x % 2 = 0) : x % 2 = 1 := by omega
theorem tX_all (k : Nat) (h : k < 6) : (63 : UInt8) ∉ tX.getD k [] ∧ (47 : UInt8) ∉ tX.getD k [] ∧ (tX.getD k []).length ≤ 4 ∧ plainS (tX.getD k []) = some (tX.getD k []) ∧ (tX.getD k [] = [97] ∨ tX.getD k [] ≠ [97]) := by
  have h1 := tX_facts ⟨k, h⟩
  have h2 := tX_plain k h
  have h3 : tX.getD k [] = tX[k]'h := by rw [List.getD_eq_getElem?_getD, List.getElem?_eq_getElem h]; rfl
  rw [h3]
  exact ⟨h1.1, h1.2.1, h1.2.2.2, h2, Classical.em _⟩
theorem tX_six (x : Nat) : (63 : UInt8) ∉ tX.getD (x % 6) [] ∧ (47 : UInt8) ∉ tX.getD (x % 6) [] ∧ (tX.getD (x % 6) []).length ≤ 4 ∧ plainS (tX.getD (x % 6) []) = some (tX.getD (x % 6) []) ∧ (tX.getD (x % 6) [] = [97] ∨ tX.getD (x % 6) [] ≠ [97]) := tX_all _ (Nat.mod_lt _ (by decide))
theorem mod6 (x : Nat) : x % 6 = 0 ∨ x % 6 = 1 ∨ x % 6 = 2 ∨ x % 6 = 3 ∨ x % 6 = 4 ∨ x % 6 = 5 := by omega
theorem mod5 (t : Nat) : t % 5 = 0 ∨ t % 5 = 1 ∨ t % 5 = 2 ∨ t % 5 = 3 ∨ t % 5 = 4 := by omega
theorem dD_le (t i : Nat) : dD t i ≤ 14 := by unfold dD; split <;> omega

set_option maxRecDepth 100000 in
set_option maxHeartbeats 20000000 in
theorem dotsL_0 (A : Option Addr) (n c : Nat) (xs : List Nat) (t : Nat) (ht256 : t < 256) (w : World) (m : Int) (hr : Rd w (.slice A n c) (u8s xs)) (hb8 : ∀ x ∈ xs, x < 256) (hm : w.cell? ⟨0, 0, none⟩ = some (.int .i64 m)) (h5 : t % 5 = 0) :
    Calls Tryd.prog 7 #[.slice A n c, .int .u8 (t : Int)] w fun e w' => e = .returned (.bool true) ∧ Below w.heap.size w w' := by
  have hn := hr.len
  rw [u8s_len] at hn
  have HM := Lib.hid hm
  have H5 := Lib.hid h5
  clear h5
  have HR := Lib.hid hr
  have H8 := Lib.hid hb8
  clear hm hr hb8
  go_enter Tryd.func7, Tryd.ntmps7
  go_wp2_with (go_at_call 8; refine (awake_any _ m HM.out).mono ?_; rintro e w1 ⟨rfl, hb1⟩; have HB1 := Lib.hid hb1; clear hb1)
  go_loopg [6, 7, 8] 12 (fun gg s6 s7 s8 wr => ∃ (a b : List UInt8) (i : Nat), s6 = str a ∧ s7 = str b ∧ s8 = .int .i64 i ∧ i ≤ 12 ∧ 12 - i ≤ gg ∧ Aside (Dts i (dD t i) a b) ∧ Below w.heap.size w wr)
  case atStart => exact ⟨[], [], 0, rfl, rfl, rfl, by omega, by omega, Dts.start, HB1.out⟩
  case round =>
    obtain ⟨a, b, i, rfl, rfl, rfl, hi, hg, hdt, hb⟩ := hrel
    have HB := Lib.hid hb
    have HD := Lib.hid hdt.out
    obtain ⟨hal, hbl⟩ := hdt.out.len hi (dD_le t i)
    clear hb hdt
    by_cases hin : i < xs.length ∧ i < 12
    · have h1 : (i : Int) < (n : Int) := by omega
      have h2 : (i : Int) < 12 := by omega
      obtain ⟨ad, rfl, hat⟩ := (HR.out.below HB.out).byte hin.1
      have hx256 : xs[i] < 256 := H8.out _ (List.getElem_mem hin.1)
      generalize xs[i] = x at hat hx256
      have hca : (⟨a.toArray⟩ : ByteArray) ++ ⟨#[47]⟩ = ⟨(a ++ [47]).toArray⟩ := bytes_app a [47]
      have HX6 := Lib.hid (mod6 x)
      have hi12 : i < 12 := hin.2
      have HIN := Lib.hid hin
      clear hin
      obtain ⟨u, hu⟩ : ∃ u, t % 12 = u := ⟨_, rfl⟩
      have hu2 : (t : Int).tmod 12 = (u : Int) := tmodN 12 hu
      have hwx := wr8 hx256
      have hwt := wr8 ht256
      have HU := Lib.hid hu
      clear hu
      go_upto_region 8 with fail
      go_cut [9] from 29 to 37 (fun s9 wx => s9 = str (tX.getD (x % 6) []) ∧ Below wr.heap.size wr wx)
      case first =>
        have hat0 := pw_cell_below ((Below.refl wr.heap.size wr).alloc (Nat.le_refl _) (.cells #[str [97], str [98, 37, 50, 70], str [126], str [99, 46, 100], str [], str [37, 67, 51]] 9)) hat
        clear hca hu2
        rcases HX6.out with h6 | h6 | h6 | h6 | h6 | h6
        · have h62 : (x : Int).tmod 6 = 0 := tmodN 6 h6
          have H6 := Lib.hid h6
          clear h6
          go_wp2_with fail
          go_meet
          case rel => exact ⟨by rw [H6.out]; rfl, (Below.refl _ _).alloc (Nat.le_refl _) _⟩
        · have h62 : (x : Int).tmod 6 = 1 := tmodN 6 h6
          have H6 := Lib.hid h6
          clear h6
          go_wp2_with fail
          go_meet
          case rel => exact ⟨by rw [H6.out]; rfl, (Below.refl _ _).alloc (Nat.le_refl _) _⟩
        · have h62 : (x : Int).tmod 6 = 2 := tmodN 6 h6
          have H6 := Lib.hid h6
          clear h6
          go_wp2_with fail
          go_meet
          case rel => exact ⟨by rw [H6.out]; rfl, (Below.refl _ _).alloc (Nat.le_refl _) _⟩
        · have h62 : (x : Int).tmod 6 = 3 := tmodN 6 h6
          have H6 := Lib.hid h6
          clear h6
          go_wp2_with fail
          go_meet
          case rel => exact ⟨by rw [H6.out]; rfl, (Below.refl _ _).alloc (Nat.le_refl _) _⟩
        · have h62 : (x : Int).tmod 6 = 4 := tmodN 6 h6
          have H6 := Lib.hid h6
          clear h6
          go_wp2_with fail
          go_meet
          case rel => exact ⟨by rw [H6.out]; rfl, (Below.refl _ _).alloc (Nat.le_refl _) _⟩
        · have h62 : (x : Int).tmod 6 = 5 := tmodN 6 h6
          have H6 := Lib.hid h6
          clear h6
          go_wp2_with fail
          go_meet
          case rel => exact ⟨by rw [H6.out]; rfl, (Below.refl _ _).alloc (Nat.le_refl _) _⟩
      case rest =>
        obtain ⟨rfl, hbx⟩ := hcut
        obtain ⟨X, hX⟩ : ∃ X, tX.getD (x % 6) [] = X := ⟨_, rfl⟩
        have hXf := tX_six x
        rw [hX] at hXf
        rw [hX]
        have hXl := hXf.2.2.1
        have HX := Lib.hid hXf
        have HXX := Lib.hid hX
        have hca2 : (⟨(a ++ [47]).toArray⟩ : ByteArray) ++ ⟨X.toArray⟩ = ⟨(a ++ 47 :: X).toArray⟩ := (bytes_app (a ++ [47]) X).trans (by simp)
        have HBX := Lib.hid (HB.out.trans (hbx.mono HB.out.size))
        have hat1 := pw_cell_below hbx hat
        clear hXf hX hbx hat hca
        have hca : (⟨a.toArray⟩ : ByteArray) ++ ⟨#[47]⟩ = ⟨(a ++ [47]).toArray⟩ := bytes_app a [47]
        have HWX := Lib.hid hwx
        have HWT := Lib.hid hwt
        have HU2 := Lib.hid hu2
        clear hwx hwt hu2
        go_upto_region 10 with fail
        have hwt := HWT.out
        have hu2 := HU2.out
        have hwx := HWX.out
        have hX3 : (X = [97] ∧ x % 2 = 0) ∨ (X = [97] ∧ x % 2 = 1) ∨ X ≠ [97] := by
          rcases HX.out.2.2.2.2 with h | h
          · rcases Nat.mod_two_eq_zero_or_one x with h2 | h2
            · exact .inl ⟨h, h2⟩
            · exact .inr (.inl ⟨h, h2⟩)
          · exact .inr (.inr h)
        have HX3 := Lib.hid hX3
        clear hX3
        by_cases hui : u = i
        · subst hui
          have hstep : ∀ Y : List UInt8, plainS Y = some X → (63 : UInt8) ∉ Y → Y.length ≤ 4 → ∀ (j : Nat) (hj : j < 5), Dts (u + 1) (dD t (u + 1)) (a ++ 47 :: X) (b ++ (tD[j]'hj ++ 47 :: Y)) := by
            intro Y h1 h2 h3 j hj
            have hX := HX.out
            have hg := tD_facts ⟨j, hj⟩
            rw [dD_at HU.out]
            exact HD.out.step X Y _ (tE[j]'hj) 14 hX.2.2.2.1 h1 (tD_plain j hj) (tE_fold j hj) hg.2.2 hX.2.1 hX.1 h2 hg.1 hX.2.2.1 h3 hg.2.1
          have HS := Lib.hid hstep
          clear hstep
          have h52 : (t : Int).tmod 5 = 0 := tmodN 5 H5.out
          rcases HX3.out with ⟨rfl, hp⟩ | ⟨rfl, hp⟩ | hXa
          · have hp2 : (x : Int).tmod 2 = 0 := tmodN 2 hp
            have HP := Lib.hid hp
            clear hp
            have hat2 := pw_cell_below ((Below.refl _ _).alloc (Nat.le_refl _) (.cells #[str [47, 46], str [47, 113, 47, 46, 46], str [47, 37, 50, 101], str [47, 120, 47, 121, 47, 46, 46, 47, 37, 50, 69, 37, 50, 101], str [47, 46, 47, 46]] 9)) hat1
            have hcd : (⟨b.toArray⟩ : ByteArray) ++ ⟨#[47, 46]⟩ = ⟨(b ++ [47, 46]).toArray⟩ := bytes_app b [47, 46]
            have hcb : (⟨(b ++ [47, 46]).toArray⟩ : ByteArray) ++ ⟨#[47]⟩ = ⟨(b ++ [47, 46, 47]).toArray⟩ := (bytes_app (b ++ [47, 46]) [47]).trans (by simp)
            have hcb2 : (⟨(b ++ [47, 46, 47]).toArray⟩ : ByteArray) ++ ⟨#[37, 54, 49]⟩ = ⟨(b ++ [47, 46, 47, 37, 54, 49]).toArray⟩ := (bytes_app (b ++ [47, 46, 47]) [37, 54, 49]).trans (by simp)
            go_wp2_with fail
            go_roundg (12 - (u + 1))
            case measure => omega
            case rel => exact ⟨_, _, u + 1, rfl, rfl, by simp [wrap64] <;> omega, by omega, by omega, HS.out [37, 54, 49] x61_plain (by decide) (by decide) 0 (by decide), (HBX.out.alloc HBX.out.size _)⟩
          · have hp2 : (x : Int).tmod 2 = 1 := tmodN 2 hp
            have HP := Lib.hid hp
            clear hp
            have hat2 := pw_cell_below ((Below.refl _ _).alloc (Nat.le_refl _) (.cells #[str [47, 46], str [47, 113, 47, 46, 46], str [47, 37, 50, 101], str [47, 120, 47, 121, 47, 46, 46, 47, 37, 50, 69, 37, 50, 101], str [47, 46, 47, 46]] 9)) hat1
            have hcd : (⟨b.toArray⟩ : ByteArray) ++ ⟨#[47, 46]⟩ = ⟨(b ++ [47, 46]).toArray⟩ := bytes_app b [47, 46]
            have hcb : (⟨(b ++ [47, 46]).toArray⟩ : ByteArray) ++ ⟨#[47]⟩ = ⟨(b ++ [47, 46, 47]).toArray⟩ := (bytes_app (b ++ [47, 46]) [47]).trans (by simp)
            have hcb2 : (⟨(b ++ [47, 46, 47]).toArray⟩ : ByteArray) ++ ⟨#[97]⟩ = ⟨(b ++ [47, 46, 47, 97]).toArray⟩ := (bytes_app (b ++ [47, 46, 47]) [97]).trans (by simp)
            go_wp2_with fail
            go_roundg (12 - (u + 1))
            case measure => omega
            case rel => exact ⟨_, _, u + 1, rfl, rfl, by simp [wrap64] <;> omega, by omega, by omega, HS.out [97] HX.out.2.2.2.1 HX.out.1 HX.out.2.2.1 0 (by decide), (HBX.out.alloc HBX.out.size _)⟩
          · have hXb : (X == [97]) = false := by simpa using hXa
            have HXA := Lib.hid hXa
            clear hXa
            have hat2 := pw_cell_below ((Below.refl _ _).alloc (Nat.le_refl _) (.cells #[str [47, 46], str [47, 113, 47, 46, 46], str [47, 37, 50, 101], str [47, 120, 47, 121, 47, 46, 46, 47, 37, 50, 69, 37, 50, 101], str [47, 46, 47, 46]] 9)) hat1
            have hcd : (⟨b.toArray⟩ : ByteArray) ++ ⟨#[47, 46]⟩ = ⟨(b ++ [47, 46]).toArray⟩ := bytes_app b [47, 46]
            have hcb : (⟨(b ++ [47, 46]).toArray⟩ : ByteArray) ++ ⟨#[47]⟩ = ⟨(b ++ [47, 46, 47]).toArray⟩ := (bytes_app (b ++ [47, 46]) [47]).trans (by simp)
            have hcb2 : (⟨(b ++ [47, 46, 47]).toArray⟩ : ByteArray) ++ ⟨X.toArray⟩ = ⟨(b ++ (47 :: 46 :: 47 :: X)).toArray⟩ := (bytes_app (b ++ [47, 46, 47]) X).trans (by simp)
            go_wp2_with fail
            go_roundg (12 - (u + 1))
            case measure => omega
            case rel => exact ⟨_, _, u + 1, rfl, rfl, by simp [wrap64] <;> omega, by omega, by omega, HS.out X HX.out.2.2.2.1 HX.out.1 HX.out.2.2.1 0 (by decide), (HBX.out.alloc HBX.out.size _)⟩
        · have hui2 : ((u : Int) == (i : Int)) = false := by simp; omega
          have hstep : ∀ Y : List UInt8, plainS Y = some X → (63 : UInt8) ∉ Y → Y.length ≤ 4 → Dts (i + 1) (dD t (i + 1)) (a ++ 47 :: X) (b ++ 47 :: Y) := by
            intro Y h1 h2 h3
            have hX := HX.out
            rw [dD_off HU.out hui]
            exact HD.out.step X Y [] [] 0 hX.2.2.2.1 h1 plainS_nil (fun _ => rfl) (by simp) hX.2.1 hX.1 h2 (by simp) hX.2.2.1 h3 (by simp)
          have HS := Lib.hid hstep
          have HUI := Lib.hid hui
          clear hui hstep hXl
          go_upto_region 12 with fail
          clear hwt hu2 hui2 hca2
          have hXl := HX.out.2.2.1
          rcases HX3.out with ⟨rfl, hp⟩ | ⟨rfl, hp⟩ | hXa
          · have hp2 : (x : Int).tmod 2 = 0 := tmodN 2 hp
            have HP := Lib.hid hp
            clear hp
            have hcb : (⟨b.toArray⟩ : ByteArray) ++ ⟨#[47]⟩ = ⟨(b ++ [47]).toArray⟩ := bytes_app b [47]
            have hcb2 : (⟨(b ++ [47]).toArray⟩ : ByteArray) ++ ⟨#[37, 54, 49]⟩ = ⟨(b ++ 47 :: [37, 54, 49]).toArray⟩ := (bytes_app (b ++ [47]) [37, 54, 49]).trans (by simp)
            go_wp2_with fail
            go_roundg (12 - (i + 1))
            case measure => omega
            case rel => exact ⟨_, _, i + 1, rfl, rfl, by simp [wrap64] <;> omega, by omega, by omega, HS.out [37, 54, 49] x61_plain (by decide) (by decide), HBX.out⟩
          · have hp2 : (x : Int).tmod 2 = 1 := tmodN 2 hp
            have HP := Lib.hid hp
            clear hp
            have hcb : (⟨b.toArray⟩ : ByteArray) ++ ⟨#[47]⟩ = ⟨(b ++ [47]).toArray⟩ := bytes_app b [47]
            have hcb2 : (⟨(b ++ [47]).toArray⟩ : ByteArray) ++ ⟨#[97]⟩ = ⟨(b ++ 47 :: [97]).toArray⟩ := (bytes_app (b ++ [47]) [97]).trans (by simp)
            go_wp2_with fail
            go_roundg (12 - (i + 1))
            case measure => omega
            case rel => exact ⟨_, _, i + 1, rfl, rfl, by simp [wrap64] <;> omega, by omega, by omega, HS.out [97] HX.out.2.2.2.1 HX.out.1 HX.out.2.2.1, HBX.out⟩
          · have hXb : (X == [97]) = false := by simpa using hXa
            have HXA := Lib.hid hXa
            clear hXa
            have hcb : (⟨b.toArray⟩ : ByteArray) ++ ⟨#[47]⟩ = ⟨(b ++ [47]).toArray⟩ := bytes_app b [47]
            have hcb2 : (⟨(b ++ [47]).toArray⟩ : ByteArray) ++ ⟨X.toArray⟩ = ⟨(b ++ 47 :: X).toArray⟩ := (bytes_app (b ++ [47]) X).trans (by simp)
            go_wp2_with fail
            go_roundg (12 - (i + 1))
            case measure => omega
            case rel => exact ⟨_, _, i + 1, rfl, rfl, by simp [wrap64] <;> omega, by omega, by omega, HS.out X HX.out.2.2.2.1 HX.out.1 HX.out.2.2.1, HBX.out⟩
    · have hex : ¬ (i : Int) < (n : Int) ∨ ((i : Int) < (n : Int) ∧ ¬ (i : Int) < 12) := by omega
      have HEX := Lib.hid hex
      have HIN := Lib.hid hin
      clear hex hin
      obtain ⟨p, c', hq1, hq2, hc⟩ := HD.out.norm hi (dD_le t i)
      have HQ1 := Lib.hid hq1
      have HQ2 := Lib.hid hq2
      clear hq1 hq2
      by_cases ha : a = []
      · subst ha
        obtain rfl : c' = 40 := by simpa using hc
        clear hc
        rcases HEX.out with h1 | ⟨h1, h2⟩
        all_goals
          go_wp2_with first
            | (go_at_call 11; refine (normal_any b _ m (pw_cell_below HB2.out HM.out) (by omega) _ _ _ HQ2.out).mono ?_; rintro e w3 ⟨rfl, hb3⟩)
            | (go_at_call 11; refine (normal_any [] _ m (pw_cell_below HB.out HM.out) (by simp) _ _ _ HQ1.out).mono ?_; rintro e w2 ⟨rfl, hb2⟩; have HB2 := Lib.hid (HB.out.trans (hb2.mono HB.out.size)); clear hb2)
          go_ret
          exact ⟨rfl, HB2.out.trans (hb3.mono HB2.out.size)⟩
      · obtain rfl : c' = 0 := by simpa [ha] using hc
        have ha1 : (a == []) = false := by simpa using ha
        have HA := Lib.hid ha
        clear hc ha
        rcases HEX.out with h1 | ⟨h1, h2⟩
        all_goals
          go_wp2_with first
            | (go_at_call 11; refine (normal_any b _ m (pw_cell_below HB2.out HM.out) (by omega) _ _ _ HQ2.out).mono ?_; rintro e w3 ⟨rfl, hb3⟩)
            | (go_at_call 11; refine (normal_any a _ m (pw_cell_below HB.out HM.out) (by omega) _ _ _ HQ1.out).mono ?_; rintro e w2 ⟨rfl, hb2⟩; have HB2 := Lib.hid (HB.out.trans (hb2.mono HB.out.size)); clear hb2)
          go_ret
          exact ⟨rfl, HB2.out.trans (hb3.mono HB2.out.size)⟩

set_option maxRecDepth 100000 in
set_option maxHeartbeats 20000000 in
theorem dotsL_1 (A : Option Addr) (n c : Nat) (xs : List Nat) (t : Nat) (ht256 : t < 256) (w : World) (m : Int) (hr : Rd w (.slice A n c) (u8s xs)) (hb8 : ∀ x ∈ xs, x < 256) (hm : w.cell? ⟨0, 0, none⟩ = some (.int .i64 m)) (h5 : t % 5 = 1) :
    Calls Tryd.prog 7 #[.slice A n c, .int .u8 (t : Int)] w fun e w' => e = .returned (.bool true) ∧ Below w.heap.size w w' := by
  have hn := hr.len
  rw [u8s_len] at hn
  have HM := Lib.hid hm
  have H5 := Lib.hid h5
  clear h5
  have HR := Lib.hid hr
  have H8 := Lib.hid hb8
  clear hm hr hb8
  go_enter Tryd.func7, Tryd.ntmps7
  go_wp2_with (go_at_call 8; refine (awake_any _ m HM.out).mono ?_; rintro e w1 ⟨rfl, hb1⟩; have HB1 := Lib.hid hb1; clear hb1)
  go_loopg [6, 7, 8] 12 (fun gg s6 s7 s8 wr => ∃ (a b : List UInt8) (i : Nat), s6 = str a ∧ s7 = str b ∧ s8 = .int .i64 i ∧ i ≤ 12 ∧ 12 - i ≤ gg ∧ Aside (Dts i (dD t i) a b) ∧ Below w.heap.size w wr)
  case atStart => exact ⟨[], [], 0, rfl, rfl, rfl, by omega, by omega, Dts.start, HB1.out⟩
  case round =>
    obtain ⟨a, b, i, rfl, rfl, rfl, hi, hg, hdt, hb⟩ := hrel
    have HB := Lib.hid hb
    have HD := Lib.hid hdt.out
    obtain ⟨hal, hbl⟩ := hdt.out.len hi (dD_le t i)
    clear hb hdt
    by_cases hin : i < xs.length ∧ i < 12
    · have h1 : (i : Int) < (n : Int) := by omega
      have h2 : (i : Int) < 12 := by omega
      obtain ⟨ad, rfl, hat⟩ := (HR.out.below HB.out).byte hin.1
      have hx256 : xs[i] < 256 := H8.out _ (List.getElem_mem hin.1)
      generalize xs[i] = x at hat hx256
      have hca : (⟨a.toArray⟩ : ByteArray) ++ ⟨#[47]⟩ = ⟨(a ++ [47]).toArray⟩ := bytes_app a [47]
      have HX6 := Lib.hid (mod6 x)
      have hi12 : i < 12 := hin.2
      have HIN := Lib.hid hin
      clear hin
      obtain ⟨u, hu⟩ : ∃ u, t % 12 = u := ⟨_, rfl⟩
      have hu2 : (t : Int).tmod 12 = (u : Int) := tmodN 12 hu
      have hwx := wr8 hx256
      have hwt := wr8 ht256
      have HU := Lib.hid hu
      clear hu
      go_upto_region 8 with fail
      go_cut [9] from 29 to 37 (fun s9 wx => s9 = str (tX.getD (x % 6) []) ∧ Below wr.heap.size wr wx)
      case first =>
        have hat0 := pw_cell_below ((Below.refl wr.heap.size wr).alloc (Nat.le_refl _) (.cells #[str [97], str [98, 37, 50, 70], str [126], str [99, 46, 100], str [], str [37, 67, 51]] 9)) hat
        clear hca hu2
        rcases HX6.out with h6 | h6 | h6 | h6 | h6 | h6
        · have h62 : (x : Int).tmod 6 = 0 := tmodN 6 h6
          have H6 := Lib.hid h6
          clear h6
          go_wp2_with fail
          go_meet
          case rel => exact ⟨by rw [H6.out]; rfl, (Below.refl _ _).alloc (Nat.le_refl _) _⟩
        · have h62 : (x : Int).tmod 6 = 1 := tmodN 6 h6
          have H6 := Lib.hid h6
          clear h6
          go_wp2_with fail
          go_meet
          case rel => exact ⟨by rw [H6.out]; rfl, (Below.refl _ _).alloc (Nat.le_refl _) _⟩
        · have h62 : (x : Int).tmod 6 = 2 := tmodN 6 h6
          have H6 := Lib.hid h6
          clear h6
          go_wp2_with fail
          go_meet
          case rel => exact ⟨by rw [H6.out]; rfl, (Below.refl _ _).alloc (Nat.le_refl _) _⟩
        · have h62 : (x : Int).tmod 6 = 3 := tmodN 6 h6
          have H6 := Lib.hid h6
          clear h6
          go_wp2_with fail
          go_meet
          case rel => exact ⟨by rw [H6.out]; rfl, (Below.refl _ _).alloc (Nat.le_refl _) _⟩
        · have h62 : (x : Int).tmod 6 = 4 := tmodN 6 h6
          have H6 := Lib.hid h6
          clear h6
          go_wp2_with fail
          go_meet
          case rel => exact ⟨by rw [H6.out]; rfl, (Below.refl _ _).alloc (Nat.le_refl _) _⟩
        · have h62 : (x : Int).tmod 6 = 5 := tmodN 6 h6
          have H6 := Lib.hid h6
          clear h6
          go_wp2_with fail
          go_meet
          case rel => exact ⟨by rw [H6.out]; rfl, (Below.refl _ _).alloc (Nat.le_refl _) _⟩
      case rest =>
        obtain ⟨rfl, hbx⟩ := hcut
        obtain ⟨X, hX⟩ : ∃ X, tX.getD (x % 6) [] = X := ⟨_, rfl⟩
        have hXf := tX_six x
        rw [hX] at hXf
        rw [hX]
        have hXl := hXf.2.2.1
        have HX := Lib.hid hXf
        have HXX := Lib.hid hX
        have hca2 : (⟨(a ++ [47]).toArray⟩ : ByteArray) ++ ⟨X.toArray⟩ = ⟨(a ++ 47 :: X).toArray⟩ := (bytes_app (a ++ [47]) X).trans (by simp)
        have HBX := Lib.hid (HB.out.trans (hbx.mono HB.out.size))
        have hat1 := pw_cell_below hbx hat
        clear hXf hX hbx hat hca
        have hca : (⟨a.toArray⟩ : ByteArray) ++ ⟨#[47]⟩ = ⟨(a ++ [47]).toArray⟩ := bytes_app a [47]
        have HWX := Lib.hid hwx
        have HWT := Lib.hid hwt
        have HU2 := Lib.hid hu2
        clear hwx hwt hu2
        go_upto_region 10 with fail
        have hwt := HWT.out
        have hu2 := HU2.out
        have hwx := HWX.out
        have hX3 : (X = [97] ∧ x % 2 = 0) ∨ (X = [97] ∧ x % 2 = 1) ∨ X ≠ [97] := by
          rcases HX.out.2.2.2.2 with h | h
          · rcases Nat.mod_two_eq_zero_or_one x with h2 | h2
            · exact .inl ⟨h, h2⟩
            · exact .inr (.inl ⟨h, h2⟩)
          · exact .inr (.inr h)
        have HX3 := Lib.hid hX3
        clear hX3
        by_cases hui : u = i
        · subst hui
          have hstep : ∀ Y : List UInt8, plainS Y = some X → (63 : UInt8) ∉ Y → Y.length ≤ 4 → ∀ (j : Nat) (hj : j < 5), Dts (u + 1) (dD t (u + 1)) (a ++ 47 :: X) (b ++ (tD[j]'hj ++ 47 :: Y)) := by
            intro Y h1 h2 h3 j hj
            have hX := HX.out
            have hg := tD_facts ⟨j, hj⟩
            rw [dD_at HU.out]
            exact HD.out.step X Y _ (tE[j]'hj) 14 hX.2.2.2.1 h1 (tD_plain j hj) (tE_fold j hj) hg.2.2 hX.2.1 hX.1 h2 hg.1 hX.2.2.1 h3 hg.2.1
          have HS := Lib.hid hstep
          clear hstep
          have h52 : (t : Int).tmod 5 = 1 := tmodN 5 H5.out
          rcases HX3.out with ⟨rfl, hp⟩ | ⟨rfl, hp⟩ | hXa
          · have hp2 : (x : Int).tmod 2 = 0 := tmodN 2 hp
            have HP := Lib.hid hp
            clear hp
            have hat2 := pw_cell_below ((Below.refl _ _).alloc (Nat.le_refl _) (.cells #[str [47, 46], str [47, 113, 47, 46, 46], str [47, 37, 50, 101], str [47, 120, 47, 121, 47, 46, 46, 47, 37, 50, 69, 37, 50, 101], str [47, 46, 47, 46]] 9)) hat1
            have hcd : (⟨b.toArray⟩ : ByteArray) ++ ⟨#[47, 113, 47, 46, 46]⟩ = ⟨(b ++ [47, 113, 47, 46, 46]).toArray⟩ := bytes_app b [47, 113, 47, 46, 46]
            have hcb : (⟨(b ++ [47, 113, 47, 46, 46]).toArray⟩ : ByteArray) ++ ⟨#[47]⟩ = ⟨(b ++ [47, 113, 47, 46, 46, 47]).toArray⟩ := (bytes_app (b ++ [47, 113, 47, 46, 46]) [47]).trans (by simp)
            have hcb2 : (⟨(b ++ [47, 113, 47, 46, 46, 47]).toArray⟩ : ByteArray) ++ ⟨#[37, 54, 49]⟩ = ⟨(b ++ [47, 113, 47, 46, 46, 47, 37, 54, 49]).toArray⟩ := (bytes_app (b ++ [47, 113, 47, 46, 46, 47]) [37, 54, 49]).trans (by simp)
            go_wp2_with fail
            go_roundg (12 - (u + 1))
            case measure => omega
            case rel => exact ⟨_, _, u + 1, rfl, rfl, by simp [wrap64] <;> omega, by omega, by omega, HS.out [37, 54, 49] x61_plain (by decide) (by decide) 1 (by decide), (HBX.out.alloc HBX.out.size _)⟩
          · have hp2 : (x : Int).tmod 2 = 1 := tmodN 2 hp
            have HP := Lib.hid hp
            clear hp
            have hat2 := pw_cell_below ((Below.refl _ _).alloc (Nat.le_refl _) (.cells #[str [47, 46], str [47, 113, 47, 46, 46], str [47, 37, 50, 101], str [47, 120, 47, 121, 47, 46, 46, 47, 37, 50, 69, 37, 50, 101], str [47, 46, 47, 46]] 9)) hat1
            have hcd : (⟨b.toArray⟩ : ByteArray) ++ ⟨#[47, 113, 47, 46, 46]⟩ = ⟨(b ++ [47, 113, 47, 46, 46]).toArray⟩ := bytes_app b [47, 113, 47, 46, 46]
            have hcb : (⟨(b ++ [47, 113, 47, 46, 46]).toArray⟩ : ByteArray) ++ ⟨#[47]⟩ = ⟨(b ++ [47, 113, 47, 46, 46, 47]).toArray⟩ := (bytes_app (b ++ [47, 113, 47, 46, 46]) [47]).trans (by simp)
            have hcb2 : (⟨(b ++ [47, 113, 47, 46, 46, 47]).toArray⟩ : ByteArray) ++ ⟨#[97]⟩ = ⟨(b ++ [47, 113, 47, 46, 46, 47, 97]).toArray⟩ := (bytes_app (b ++ [47, 113, 47, 46, 46, 47]) [97]).trans (by simp)
            go_wp2_with fail
            go_roundg (12 - (u + 1))
            case measure => omega
            case rel => exact ⟨_, _, u + 1, rfl, rfl, by simp [wrap64] <;> omega, by omega, by omega, HS.out [97] HX.out.2.2.2.1 HX.out.1 HX.out.2.2.1 1 (by decide), (HBX.out.alloc HBX.out.size _)⟩
          · have hXb : (X == [97]) = false := by simpa using hXa
            have HXA := Lib.hid hXa
            clear hXa
            have hat2 := pw_cell_below ((Below.refl _ _).alloc (Nat.le_refl _) (.cells #[str [47, 46], str [47, 113, 47, 46, 46], str [47, 37, 50, 101], str [47, 120, 47, 121, 47, 46, 46, 47, 37, 50, 69, 37, 50, 101], str [47, 46, 47, 46]] 9)) hat1
            have hcd : (⟨b.toArray⟩ : ByteArray) ++ ⟨#[47, 113, 47, 46, 46]⟩ = ⟨(b ++ [47, 113, 47, 46, 46]).toArray⟩ := bytes_app b [47, 113, 47, 46, 46]
            have hcb : (⟨(b ++ [47, 113, 47, 46, 46]).toArray⟩ : ByteArray) ++ ⟨#[47]⟩ = ⟨(b ++ [47, 113, 47, 46, 46, 47]).toArray⟩ := (bytes_app (b ++ [47, 113, 47, 46, 46]) [47]).trans (by simp)
            have hcb2 : (⟨(b ++ [47, 113, 47, 46, 46, 47]).toArray⟩ : ByteArray) ++ ⟨X.toArray⟩ = ⟨(b ++ (47 :: 113 :: 47 :: 46 :: 46 :: 47 :: X)).toArray⟩ := (bytes_app (b ++ [47, 113, 47, 46, 46, 47]) X).trans (by simp)
            go_wp2_with fail
            go_roundg (12 - (u + 1))
            case measure => omega
            case rel => exact ⟨_, _, u + 1, rfl, rfl, by simp [wrap64] <;> omega, by omega, by omega, HS.out X HX.out.2.2.2.1 HX.out.1 HX.out.2.2.1 1 (by decide), (HBX.out.alloc HBX.out.size _)⟩
        · have hui2 : ((u : Int) == (i : Int)) = false := by simp; omega
          have hstep : ∀ Y : List UInt8, plainS Y = some X → (63 : UInt8) ∉ Y → Y.length ≤ 4 → Dts (i + 1) (dD t (i + 1)) (a ++ 47 :: X) (b ++ 47 :: Y) := by
            intro Y h1 h2 h3
            have hX := HX.out
            rw [dD_off HU.out hui]
            exact HD.out.step X Y [] [] 0 hX.2.2.2.1 h1 plainS_nil (fun _ => rfl) (by simp) hX.2.1 hX.1 h2 (by simp) hX.2.2.1 h3 (by simp)
          have HS := Lib.hid hstep
          have HUI := Lib.hid hui
          clear hui hstep hXl
          go_upto_region 12 with fail
          clear hwt hu2 hui2 hca2
          have hXl := HX.out.2.2.1
          rcases HX3.out with ⟨rfl, hp⟩ | ⟨rfl, hp⟩ | hXa
          · have hp2 : (x : Int).tmod 2 = 0 := tmodN 2 hp
            have HP := Lib.hid hp
            clear hp
            have hcb : (⟨b.toArray⟩ : ByteArray) ++ ⟨#[47]⟩ = ⟨(b ++ [47]).toArray⟩ := bytes_app b [47]
            have hcb2 : (⟨(b ++ [47]).toArray⟩ : ByteArray) ++ ⟨#[37, 54, 49]⟩ = ⟨(b ++ 47 :: [37, 54, 49]).toArray⟩ := (bytes_app (b ++ [47]) [37, 54, 49]).trans (by simp)
            go_wp2_with fail
            go_roundg (12 - (i + 1))
            case measure => omega
            case rel => exact ⟨_, _, i + 1, rfl, rfl, by simp [wrap64] <;> omega, by omega, by omega, HS.out [37, 54, 49] x61_plain (by decide) (by decide), HBX.out⟩
          · have hp2 : (x : Int).tmod 2 = 1 := tmodN 2 hp
            have HP := Lib.hid hp
            clear hp
            have hcb : (⟨b.toArray⟩ : ByteArray) ++ ⟨#[47]⟩ = ⟨(b ++ [47]).toArray⟩ := bytes_app b [47]
            have hcb2 : (⟨(b ++ [47]).toArray⟩ : ByteArray) ++ ⟨#[97]⟩ = ⟨(b ++ 47 :: [97]).toArray⟩ := (bytes_app (b ++ [47]) [97]).trans (by simp)
            go_wp2_with fail
            go_roundg (12 - (i + 1))
            case measure => omega
            case rel => exact ⟨_, _, i + 1, rfl, rfl, by simp [wrap64] <;> omega, by omega, by omega, HS.out [97] HX.out.2.2.2.1 HX.out.1 HX.out.2.2.1, HBX.out⟩
          · have hXb : (X == [97]) = false := by simpa using hXa
            have HXA := Lib.hid hXa
            clear hXa
            have hcb : (⟨b.toArray⟩ : ByteArray) ++ ⟨#[47]⟩ = ⟨(b ++ [47]).toArray⟩ := bytes_app b [47]
            have hcb2 : (⟨(b ++ [47]).toArray⟩ : ByteArray) ++ ⟨X.toArray⟩ = ⟨(b ++ 47 :: X).toArray⟩ := (bytes_app (b ++ [47]) X).trans (by simp)
            go_wp2_with fail
            go_roundg (12 - (i + 1))
            case measure => omega
            case rel => exact ⟨_, _, i + 1, rfl, rfl, by simp [wrap64] <;> omega, by omega, by omega, HS.out X HX.out.2.2.2.1 HX.out.1 HX.out.2.2.1, HBX.out⟩
    · have hex : ¬ (i : Int) < (n : Int) ∨ ((i : Int) < (n : Int) ∧ ¬ (i : Int) < 12) := by omega
      have HEX := Lib.hid hex
      have HIN := Lib.hid hin
      clear hex hin
      obtain ⟨p, c', hq1, hq2, hc⟩ := HD.out.norm hi (dD_le t i)
      have HQ1 := Lib.hid hq1
      have HQ2 := Lib.hid hq2
      clear hq1 hq2
      by_cases ha : a = []
      · subst ha
        obtain rfl : c' = 40 := by simpa using hc
        clear hc
        rcases HEX.out with h1 | ⟨h1, h2⟩
        all_goals
          go_wp2_with first
            | (go_at_call 11; refine (normal_any b _ m (pw_cell_below HB2.out HM.out) (by omega) _ _ _ HQ2.out).mono ?_; rintro e w3 ⟨rfl, hb3⟩)
            | (go_at_call 11; refine (normal_any [] _ m (pw_cell_below HB.out HM.out) (by simp) _ _ _ HQ1.out).mono ?_; rintro e w2 ⟨rfl, hb2⟩; have HB2 := Lib.hid (HB.out.trans (hb2.mono HB.out.size)); clear hb2)
          go_ret
          exact ⟨rfl, HB2.out.trans (hb3.mono HB2.out.size)⟩
      · obtain rfl : c' = 0 := by simpa [ha] using hc
        have ha1 : (a == []) = false := by simpa using ha
        have HA := Lib.hid ha
        clear hc ha
        rcases HEX.out with h1 | ⟨h1, h2⟩
        all_goals
          go_wp2_with first
            | (go_at_call 11; refine (normal_any b _ m (pw_cell_below HB2.out HM.out) (by omega) _ _ _ HQ2.out).mono ?_; rintro e w3 ⟨rfl, hb3⟩)
            | (go_at_call 11; refine (normal_any a _ m (pw_cell_below HB.out HM.out) (by omega) _ _ _ HQ1.out).mono ?_; rintro e w2 ⟨rfl, hb2⟩; have HB2 := Lib.hid (HB.out.trans (hb2.mono HB.out.size)); clear hb2)
          go_ret
          exact ⟨rfl, HB2.out.trans (hb3.mono HB2.out.size)⟩

set_option maxRecDepth 100000 in
set_option maxHeartbeats 20000000 in
theorem dotsL_2 (A : Option Addr) (n c : Nat) (xs : List Nat) (t : Nat) (ht256 : t < 256) (w : World) (m : Int) (hr : Rd w (.slice A n c) (u8s xs)) (hb8 : ∀ x ∈ xs, x < 256) (hm : w.cell? ⟨0, 0, none⟩ = some (.int .i64 m)) (h5 : t % 5 = 2) :
    Calls Tryd.prog 7 #[.slice A n c, .int .u8 (t : Int)] w fun e w' => e = .returned (.bool true) ∧ Below w.heap.size w w' := by
  have hn := hr.len
  rw [u8s_len] at hn
  have HM := Lib.hid hm
  have H5 := Lib.hid h5
  clear h5
  have HR := Lib.hid hr
  have H8 := Lib.hid hb8
  clear hm hr hb8
  go_enter Tryd.func7, Tryd.ntmps7
  go_wp2_with (go_at_call 8; refine (awake_any _ m HM.out).mono ?_; rintro e w1 ⟨rfl, hb1⟩; have HB1 := Lib.hid hb1; clear hb1)
  go_loopg [6, 7, 8] 12 (fun gg s6 s7 s8 wr => ∃ (a b : List UInt8) (i : Nat), s6 = str a ∧ s7 = str b ∧ s8 = .int .i64 i ∧ i ≤ 12 ∧ 12 - i ≤ gg ∧ Aside (Dts i (dD t i) a b) ∧ Below w.heap.size w wr)
  case atStart => exact ⟨[], [], 0, rfl, rfl, rfl, by omega, by omega, Dts.start, HB1.out⟩
  case round =>
    obtain ⟨a, b, i, rfl, rfl, rfl, hi, hg, hdt, hb⟩ := hrel
    have HB := Lib.hid hb
    have HD := Lib.hid hdt.out
    obtain ⟨hal, hbl⟩ := hdt.out.len hi (dD_le t i)
    clear hb hdt
    by_cases hin : i < xs.length ∧ i < 12
    · have h1 : (i : Int) < (n : Int) := by omega
      have h2 : (i : Int) < 12 := by omega
      obtain ⟨ad, rfl, hat⟩ := (HR.out.below HB.out).byte hin.1
      have hx256 : xs[i] < 256 := H8.out _ (List.getElem_mem hin.1)
      generalize xs[i] = x at hat hx256
      have hca : (⟨a.toArray⟩ : ByteArray) ++ ⟨#[47]⟩ = ⟨(a ++ [47]).toArray⟩ := bytes_app a [47]
      have HX6 := Lib.hid (mod6 x)
      have hi12 : i < 12 := hin.2
      have HIN := Lib.hid hin
      clear hin
      obtain ⟨u, hu⟩ : ∃ u, t % 12 = u := ⟨_, rfl⟩
      have hu2 : (t : Int).tmod 12 = (u : Int) := tmodN 12 hu
      have hwx := wr8 hx256
      have hwt := wr8 ht256
      have HU := Lib.hid hu
      clear hu
      go_upto_region 8 with fail
      go_cut [9] from 29 to 37 (fun s9 wx => s9 = str (tX.getD (x % 6) []) ∧ Below wr.heap.size wr wx)
      case first =>
        have hat0 := pw_cell_below ((Below.refl wr.heap.size wr).alloc (Nat.le_refl _) (.cells #[str [97], str [98, 37, 50, 70], str [126], str [99, 46, 100], str [], str [37, 67, 51]] 9)) hat
        clear hca hu2
        rcases HX6.out with h6 | h6 | h6 | h6 | h6 | h6
        · have h62 : (x : Int).tmod 6 = 0 := tmodN 6 h6
          have H6 := Lib.hid h6
          clear h6
          go_wp2_with fail
          go_meet
          case rel => exact ⟨by rw [H6.out]; rfl, (Below.refl _ _).alloc (Nat.le_refl _) _⟩
        · have h62 : (x : Int).tmod 6 = 1 := tmodN 6 h6
          have H6 := Lib.hid h6
          clear h6
          go_wp2_with fail
          go_meet
          case rel => exact ⟨by rw [H6.out]; rfl, (Below.refl _ _).alloc (Nat.le_refl _) _⟩
        · have h62 : (x : Int).tmod 6 = 2 := tmodN 6 h6
          have H6 := Lib.hid h6
          clear h6
          go_wp2_with fail
          go_meet
          case rel => exact ⟨by rw [H6.out]; rfl, (Below.refl _ _).alloc (Nat.le_refl _) _⟩
        · have h62 : (x : Int).tmod 6 = 3 := tmodN 6 h6
          have H6 := Lib.hid h6
          clear h6
          go_wp2_with fail
          go_meet
          case rel => exact ⟨by rw [H6.out]; rfl, (Below.refl _ _).alloc (Nat.le_refl _) _⟩
        · have h62 : (x : Int).tmod 6 = 4 := tmodN 6 h6
          have H6 := Lib.hid h6
          clear h6
          go_wp2_with fail
          go_meet
          case rel => exact ⟨by rw [H6.out]; rfl, (Below.refl _ _).alloc (Nat.le_refl _) _⟩
        · have h62 : (x : Int).tmod 6 = 5 := tmodN 6 h6
          have H6 := Lib.hid h6
          clear h6
          go_wp2_with fail
          go_meet
          case rel => exact ⟨by rw [H6.out]; rfl, (Below.refl _ _).alloc (Nat.le_refl _) _⟩
      case rest =>
        obtain ⟨rfl, hbx⟩ := hcut
        obtain ⟨X, hX⟩ : ∃ X, tX.getD (x % 6) [] = X := ⟨_, rfl⟩
        have hXf := tX_six x
        rw [hX] at hXf
        rw [hX]
        have hXl := hXf.2.2.1
        have HX := Lib.hid hXf
        have HXX := Lib.hid hX
        have hca2 : (⟨(a ++ [47]).toArray⟩ : ByteArray) ++ ⟨X.toArray⟩ = ⟨(a ++ 47 :: X).toArray⟩ := (bytes_app (a ++ [47]) X).trans (by simp)
        have HBX := Lib.hid (HB.out.trans (hbx.mono HB.out.size))
        have hat1 := pw_cell_below hbx hat
        clear hXf hX hbx hat hca
        have hca : (⟨a.toArray⟩ : ByteArray) ++ ⟨#[47]⟩ = ⟨(a ++ [47]).toArray⟩ := bytes_app a [47]
        have HWX := Lib.hid hwx
        have HWT := Lib.hid hwt
        have HU2 := Lib.hid hu2
        clear hwx hwt hu2
        go_upto_region 10 with fail
        have hwt := HWT.out
        have hu2 := HU2.out
        have hwx := HWX.out
        have hX3 : (X = [97] ∧ x % 2 = 0) ∨ (X = [97] ∧ x % 2 = 1) ∨ X ≠ [97] := by
          rcases HX.out.2.2.2.2 with h | h
          · rcases Nat.mod_two_eq_zero_or_one x with h2 | h2
            · exact .inl ⟨h, h2⟩
            · exact .inr (.inl ⟨h, h2⟩)
          · exact .inr (.inr h)
        have HX3 := Lib.hid hX3
        clear hX3
        by_cases hui : u = i
        · subst hui
          have hstep : ∀ Y : List UInt8, plainS Y = some X → (63 : UInt8) ∉ Y → Y.length ≤ 4 → ∀ (j : Nat) (hj : j < 5), Dts (u + 1) (dD t (u + 1)) (a ++ 47 :: X) (b ++ (tD[j]'hj ++ 47 :: Y)) := by
            intro Y h1 h2 h3 j hj
            have hX := HX.out
            have hg := tD_facts ⟨j, hj⟩
            rw [dD_at HU.out]
            exact HD.out.step X Y _ (tE[j]'hj) 14 hX.2.2.2.1 h1 (tD_plain j hj) (tE_fold j hj) hg.2.2 hX.2.1 hX.1 h2 hg.1 hX.2.2.1 h3 hg.2.1
          have HS := Lib.hid hstep
          clear hstep
          have h52 : (t : Int).tmod 5 = 2 := tmodN 5 H5.out
          rcases HX3.out with ⟨rfl, hp⟩ | ⟨rfl, hp⟩ | hXa
          · have hp2 : (x : Int).tmod 2 = 0 := tmodN 2 hp
            have HP := Lib.hid hp
            clear hp
            have hat2 := pw_cell_below ((Below.refl _ _).alloc (Nat.le_refl _) (.cells #[str [47, 46], str [47, 113, 47, 46, 46], str [47, 37, 50, 101], str [47, 120, 47, 121, 47, 46, 46, 47, 37, 50, 69, 37, 50, 101], str [47, 46, 47, 46]] 9)) hat1
            have hcd : (⟨b.toArray⟩ : ByteArray) ++ ⟨#[47, 37, 50, 101]⟩ = ⟨(b ++ [47, 37, 50, 101]).toArray⟩ := bytes_app b [47, 37, 50, 101]
            have hcb : (⟨(b ++ [47, 37, 50, 101]).toArray⟩ : ByteArray) ++ ⟨#[47]⟩ = ⟨(b ++ [47, 37, 50, 101, 47]).toArray⟩ := (bytes_app (b ++ [47, 37, 50, 101]) [47]).trans (by simp)
            have hcb2 : (⟨(b ++ [47, 37, 50, 101, 47]).toArray⟩ : ByteArray) ++ ⟨#[37, 54, 49]⟩ = ⟨(b ++ [47, 37, 50, 101, 47, 37, 54, 49]).toArray⟩ := (bytes_app (b ++ [47, 37, 50, 101, 47]) [37, 54, 49]).trans (by simp)
            go_wp2_with fail
            go_roundg (12 - (u + 1))
            case measure => omega
            case rel => exact ⟨_, _, u + 1, rfl, rfl, by simp [wrap64] <;> omega, by omega, by omega, HS.out [37, 54, 49] x61_plain (by decide) (by decide) 2 (by decide), (HBX.out.alloc HBX.out.size _)⟩
          · have hp2 : (x : Int).tmod 2 = 1 := tmodN 2 hp
            have HP := Lib.hid hp
            clear hp
            have hat2 := pw_cell_below ((Below.refl _ _).alloc (Nat.le_refl _) (.cells #[str [47, 46], str [47, 113, 47, 46, 46], str [47, 37, 50, 101], str [47, 120, 47, 121, 47, 46, 46, 47, 37, 50, 69, 37, 50, 101], str [47, 46, 47, 46]] 9)) hat1
            have hcd : (⟨b.toArray⟩ : ByteArray) ++ ⟨#[47, 37, 50, 101]⟩ = ⟨(b ++ [47, 37, 50, 101]).toArray⟩ := bytes_app b [47, 37, 50, 101]
            have hcb : (⟨(b ++ [47, 37, 50, 101]).toArray⟩ : ByteArray) ++ ⟨#[47]⟩ = ⟨(b ++ [47, 37, 50, 101, 47]).toArray⟩ := (bytes_app (b ++ [47, 37, 50, 101]) [47]).trans (by simp)
            have hcb2 : (⟨(b ++ [47, 37, 50, 101, 47]).toArray⟩ : ByteArray) ++ ⟨#[97]⟩ = ⟨(b ++ [47, 37, 50, 101, 47, 97]).toArray⟩ := (bytes_app (b ++ [47, 37, 50, 101, 47]) [97]).trans (by simp)
            go_wp2_with fail
            go_roundg (12 - (u + 1))
            case measure => omega
            case rel => exact ⟨_, _, u + 1, rfl, rfl, by simp [wrap64] <;> omega, by omega, by omega, HS.out [97] HX.out.2.2.2.1 HX.out.1 HX.out.2.2.1 2 (by decide), (HBX.out.alloc HBX.out.size _)⟩
          · have hXb : (X == [97]) = false := by simpa using hXa
            have HXA := Lib.hid hXa
            clear hXa
            have hat2 := pw_cell_below ((Below.refl _ _).alloc (Nat.le_refl _) (.cells #[str [47, 46], str [47, 113, 47, 46, 46], str [47, 37, 50, 101], str [47, 120, 47, 121, 47, 46, 46, 47, 37, 50, 69, 37, 50, 101], str [47, 46, 47, 46]] 9)) hat1
            have hcd : (⟨b.toArray⟩ : ByteArray) ++ ⟨#[47, 37, 50, 101]⟩ = ⟨(b ++ [47, 37, 50, 101]).toArray⟩ := bytes_app b [47, 37, 50, 101]
            have hcb : (⟨(b ++ [47, 37, 50, 101]).toArray⟩ : ByteArray) ++ ⟨#[47]⟩ = ⟨(b ++ [47, 37, 50, 101, 47]).toArray⟩ := (bytes_app (b ++ [47, 37, 50, 101]) [47]).trans (by simp)
            have hcb2 : (⟨(b ++ [47, 37, 50, 101, 47]).toArray⟩ : ByteArray) ++ ⟨X.toArray⟩ = ⟨(b ++ (47 :: 37 :: 50 :: 101 :: 47 :: X)).toArray⟩ := (bytes_app (b ++ [47, 37, 50, 101, 47]) X).trans (by simp)
            go_wp2_with fail
            go_roundg (12 - (u + 1))
            case measure => omega
            case rel => exact ⟨_, _, u + 1, rfl, rfl, by simp [wrap64] <;> omega, by omega, by omega, HS.out X HX.out.2.2.2.1 HX.out.1 HX.out.2.2.1 2 (by decide), (HBX.out.alloc HBX.out.size _)⟩
        · have hui2 : ((u : Int) == (i : Int)) = false := by simp; omega
          have hstep : ∀ Y : List UInt8, plainS Y = some X → (63 : UInt8) ∉ Y → Y.length ≤ 4 → Dts (i + 1) (dD t (i + 1)) (a ++ 47 :: X) (b ++ 47 :: Y) := by
            intro Y h1 h2 h3
            have hX := HX.out
            rw [dD_off HU.out hui]
            exact HD.out.step X Y [] [] 0 hX.2.2.2.1 h1 plainS_nil (fun _ => rfl) (by simp) hX.2.1 hX.1 h2 (by simp) hX.2.2.1 h3 (by simp)
          have HS := Lib.hid hstep
          have HUI := Lib.hid hui
          clear hui hstep hXl
          go_upto_region 12 with fail
          clear hwt hu2 hui2 hca2
          have hXl := HX.out.2.2.1
          rcases HX3.out with ⟨rfl, hp⟩ | ⟨rfl, hp⟩ | hXa
          · have hp2 : (x : Int).tmod 2 = 0 := tmodN 2 hp
            have HP := Lib.hid hp
            clear hp
            have hcb : (⟨b.toArray⟩ : ByteArray) ++ ⟨#[47]⟩ = ⟨(b ++ [47]).toArray⟩ := bytes_app b [47]
            have hcb2 : (⟨(b ++ [47]).toArray⟩ : ByteArray) ++ ⟨#[37, 54, 49]⟩ = ⟨(b ++ 47 :: [37, 54, 49]).toArray⟩ := (bytes_app (b ++ [47]) [37, 54, 49]).trans (by simp)
            go_wp2_with fail
            go_roundg (12 - (i + 1))
            case measure => omega
            case rel => exact ⟨_, _, i + 1, rfl, rfl, by simp [wrap64] <;> omega, by omega, by omega, HS.out [37, 54, 49] x61_plain (by decide) (by decide), HBX.out⟩
          · have hp2 : (x : Int).tmod 2 = 1 := tmodN 2 hp
            have HP := Lib.hid hp
            clear hp
            have hcb : (⟨b.toArray⟩ : ByteArray) ++ ⟨#[47]⟩ = ⟨(b ++ [47]).toArray⟩ := bytes_app b [47]
            have hcb2 : (⟨(b ++ [47]).toArray⟩ : ByteArray) ++ ⟨#[97]⟩ = ⟨(b ++ 47 :: [97]).toArray⟩ := (bytes_app (b ++ [47]) [97]).trans (by simp)
            go_wp2_with fail
            go_roundg (12 - (i + 1))
            case measure => omega
            case rel => exact ⟨_, _, i + 1, rfl, rfl, by simp [wrap64] <;> omega, by omega, by omega, HS.out [97] HX.out.2.2.2.1 HX.out.1 HX.out.2.2.1, HBX.out⟩
          · have hXb : (X == [97]) = false := by simpa using hXa
            have HXA := Lib.hid hXa
            clear hXa
            have hcb : (⟨b.toArray⟩ : ByteArray) ++ ⟨#[47]⟩ = ⟨(b ++ [47]).toArray⟩ := bytes_app b [47]
            have hcb2 : (⟨(b ++ [47]).toArray⟩ : ByteArray) ++ ⟨X.toArray⟩ = ⟨(b ++ 47 :: X).toArray⟩ := (bytes_app (b ++ [47]) X).trans (by simp)
            go_wp2_with fail
            go_roundg (12 - (i + 1))
            case measure => omega
            case rel => exact ⟨_, _, i + 1, rfl, rfl, by simp [wrap64] <;> omega, by omega, by omega, HS.out X HX.out.2.2.2.1 HX.out.1 HX.out.2.2.1, HBX.out⟩
    · have hex : ¬ (i : Int) < (n : Int) ∨ ((i : Int) < (n : Int) ∧ ¬ (i : Int) < 12) := by omega
      have HEX := Lib.hid hex
      have HIN := Lib.hid hin
      clear hex hin
      obtain ⟨p, c', hq1, hq2, hc⟩ := HD.out.norm hi (dD_le t i)
      have HQ1 := Lib.hid hq1
      have HQ2 := Lib.hid hq2
      clear hq1 hq2
      by_cases ha : a = []
      · subst ha
        obtain rfl : c' = 40 := by simpa using hc
        clear hc
        rcases HEX.out with h1 | ⟨h1, h2⟩
        all_goals
          go_wp2_with first
            | (go_at_call 11; refine (normal_any b _ m (pw_cell_below HB2.out HM.out) (by omega) _ _ _ HQ2.out).mono ?_; rintro e w3 ⟨rfl, hb3⟩)
            | (go_at_call 11; refine (normal_any [] _ m (pw_cell_below HB.out HM.out) (by simp) _ _ _ HQ1.out).mono ?_; rintro e w2 ⟨rfl, hb2⟩; have HB2 := Lib.hid (HB.out.trans (hb2.mono HB.out.size)); clear hb2)
          go_ret
          exact ⟨rfl, HB2.out.trans (hb3.mono HB2.out.size)⟩
      · obtain rfl : c' = 0 := by simpa [ha] using hc
        have ha1 : (a == []) = false := by simpa using ha
        have HA := Lib.hid ha
        clear hc ha
        rcases HEX.out with h1 | ⟨h1, h2⟩
        all_goals
          go_wp2_with first
            | (go_at_call 11; refine (normal_any b _ m (pw_cell_below HB2.out HM.out) (by omega) _ _ _ HQ2.out).mono ?_; rintro e w3 ⟨rfl, hb3⟩)
            | (go_at_call 11; refine (normal_any a _ m (pw_cell_below HB.out HM.out) (by omega) _ _ _ HQ1.out).mono ?_; rintro e w2 ⟨rfl, hb2⟩; have HB2 := Lib.hid (HB.out.trans (hb2.mono HB.out.size)); clear hb2)
          go_ret
          exact ⟨rfl, HB2.out.trans (hb3.mono HB2.out.size)⟩

set_option maxRecDepth 100000 in
set_option maxHeartbeats 20000000 in
theorem dotsL_3 (A : Option Addr) (n c : Nat) (xs : List Nat) (t : Nat) (ht256 : t < 256) (w : World) (m : Int) (hr : Rd w (.slice A n c) (u8s xs)) (hb8 : ∀ x ∈ xs, x < 256) (hm : w.cell? ⟨0, 0, none⟩ = some (.int .i64 m)) (h5 : t % 5 = 3) :
    Calls Tryd.prog 7 #[.slice A n c, .int .u8 (t : Int)] w fun e w' => e = .returned (.bool true) ∧ Below w.heap.size w w' := by
  have hn := hr.len
  rw [u8s_len] at hn
  have HM := Lib.hid hm
  have H5 := Lib.hid h5
  clear h5
  have HR := Lib.hid hr
  have H8 := Lib.hid hb8
  clear hm hr hb8
  go_enter Tryd.func7, Tryd.ntmps7
  go_wp2_with (go_at_call 8; refine (awake_any _ m HM.out).mono ?_; rintro e w1 ⟨rfl, hb1⟩; have HB1 := Lib.hid hb1; clear hb1)
  go_loopg [6, 7, 8] 12 (fun gg s6 s7 s8 wr => ∃ (a b : List UInt8) (i : Nat), s6 = str a ∧ s7 = str b ∧ s8 = .int .i64 i ∧ i ≤ 12 ∧ 12 - i ≤ gg ∧ Aside (Dts i (dD t i) a b) ∧ Below w.heap.size w wr)
  case atStart => exact ⟨[], [], 0, rfl, rfl, rfl, by omega, by omega, Dts.start, HB1.out⟩
  case round =>
    obtain ⟨a, b, i, rfl, rfl, rfl, hi, hg, hdt, hb⟩ := hrel
    have HB := Lib.hid hb
    have HD := Lib.hid hdt.out
    obtain ⟨hal, hbl⟩ := hdt.out.len hi (dD_le t i)
    clear hb hdt
    by_cases hin : i < xs.length ∧ i < 12
    · have h1 : (i : Int) < (n : Int) := by omega
      have h2 : (i : Int) < 12 := by omega
      obtain ⟨ad, rfl, hat⟩ := (HR.out.below HB.out).byte hin.1
      have hx256 : xs[i] < 256 := H8.out _ (List.getElem_mem hin.1)
      generalize xs[i] = x at hat hx256
      have hca : (⟨a.toArray⟩ : ByteArray) ++ ⟨#[47]⟩ = ⟨(a ++ [47]).toArray⟩ := bytes_app a [47]
      have HX6 := Lib.hid (mod6 x)
      have hi12 : i < 12 := hin.2
      have HIN := Lib.hid hin
      clear hin
      obtain ⟨u, hu⟩ : ∃ u, t % 12 = u := ⟨_, rfl⟩
      have hu2 : (t : Int).tmod 12 = (u : Int) := tmodN 12 hu
      have hwx := wr8 hx256
      have hwt := wr8 ht256
      have HU := Lib.hid hu
      clear hu
      go_upto_region 8 with fail
      go_cut [9] from 29 to 37 (fun s9 wx => s9 = str (tX.getD (x % 6) []) ∧ Below wr.heap.size wr wx)
      case first =>
        have hat0 := pw_cell_below ((Below.refl wr.heap.size wr).alloc (Nat.le_refl _) (.cells #[str [97], str [98, 37, 50, 70], str [126], str [99, 46, 100], str [], str [37, 67, 51]] 9)) hat
        clear hca hu2
        rcases HX6.out with h6 | h6 | h6 | h6 | h6 | h6
        · have h62 : (x : Int).tmod 6 = 0 := tmodN 6 h6
          have H6 := Lib.hid h6
          clear h6
          go_wp2_with fail
          go_meet
          case rel => exact ⟨by rw [H6.out]; rfl, (Below.refl _ _).alloc (Nat.le_refl _) _⟩
        · have h62 : (x : Int).tmod 6 = 1 := tmodN 6 h6
          have H6 := Lib.hid h6
          clear h6
          go_wp2_with fail
          go_meet
          case rel => exact ⟨by rw [H6.out]; rfl, (Below.refl _ _).alloc (Nat.le_refl _) _⟩
        · have h62 : (x : Int).tmod 6 = 2 := tmodN 6 h6
          have H6 := Lib.hid h6
          clear h6
          go_wp2_with fail
          go_meet
          case rel => exact ⟨by rw [H6.out]; rfl, (Below.refl _ _).alloc (Nat.le_refl _) _⟩
        · have h62 : (x : Int).tmod 6 = 3 := tmodN 6 h6
          have H6 := Lib.hid h6
          clear h6
          go_wp2_with fail
          go_meet
          case rel => exact ⟨by rw [H6.out]; rfl, (Below.refl _ _).alloc (Nat.le_refl _) _⟩
        · have h62 : (x : Int).tmod 6 = 4 := tmodN 6 h6
          have H6 := Lib.hid h6
          clear h6
          go_wp2_with fail
          go_meet
          case rel => exact ⟨by rw [H6.out]; rfl, (Below.refl _ _).alloc (Nat.le_refl _) _⟩
        · have h62 : (x : Int).tmod 6 = 5 := tmodN 6 h6
          have H6 := Lib.hid h6
          clear h6
          go_wp2_with fail
          go_meet
          case rel => exact ⟨by rw [H6.out]; rfl, (Below.refl _ _).alloc (Nat.le_refl _) _⟩
      case rest =>
        obtain ⟨rfl, hbx⟩ := hcut
        obtain ⟨X, hX⟩ : ∃ X, tX.getD (x % 6) [] = X := ⟨_, rfl⟩
        have hXf := tX_six x
        rw [hX] at hXf
        rw [hX]
        have hXl := hXf.2.2.1
        have HX := Lib.hid hXf
        have HXX := Lib.hid hX
        have hca2 : (⟨(a ++ [47]).toArray⟩ : ByteArray) ++ ⟨X.toArray⟩ = ⟨(a ++ 47 :: X).toArray⟩ := (bytes_app (a ++ [47]) X).trans (by simp)
        have HBX := Lib.hid (HB.out.trans (hbx.mono HB.out.size))
        have hat1 := pw_cell_below hbx hat
        clear hXf hX hbx hat hca
        have hca : (⟨a.toArray⟩ : ByteArray) ++ ⟨#[47]⟩ = ⟨(a ++ [47]).toArray⟩ := bytes_app a [47]
        have HWX := Lib.hid hwx
        have HWT := Lib.hid hwt
        have HU2 := Lib.hid hu2
        clear hwx hwt hu2
        go_upto_region 10 with fail
        have hwt := HWT.out
        have hu2 := HU2.out
        have hwx := HWX.out
        have hX3 : (X = [97] ∧ x % 2 = 0) ∨ (X = [97] ∧ x % 2 = 1) ∨ X ≠ [97] := by
          rcases HX.out.2.2.2.2 with h | h
          · rcases Nat.mod_two_eq_zero_or_one x with h2 | h2
            · exact .inl ⟨h, h2⟩
            · exact .inr (.inl ⟨h, h2⟩)
          · exact .inr (.inr h)
        have HX3 := Lib.hid hX3
        clear hX3
        by_cases hui : u = i
        · subst hui
          have hstep : ∀ Y : List UInt8, plainS Y = some X → (63 : UInt8) ∉ Y → Y.length ≤ 4 → ∀ (j : Nat) (hj : j < 5), Dts (u + 1) (dD t (u + 1)) (a ++ 47 :: X) (b ++ (tD[j]'hj ++ 47 :: Y)) := by
            intro Y h1 h2 h3 j hj
            have hX := HX.out
            have hg := tD_facts ⟨j, hj⟩
            rw [dD_at HU.out]
            exact HD.out.step X Y _ (tE[j]'hj) 14 hX.2.2.2.1 h1 (tD_plain j hj) (tE_fold j hj) hg.2.2 hX.2.1 hX.1 h2 hg.1 hX.2.2.1 h3 hg.2.1
          have HS := Lib.hid hstep
          clear hstep
          have h52 : (t : Int).tmod 5 = 3 := tmodN 5 H5.out
          rcases HX3.out with ⟨rfl, hp⟩ | ⟨rfl, hp⟩ | hXa
          · have hp2 : (x : Int).tmod 2 = 0 := tmodN 2 hp
            have HP := Lib.hid hp
            clear hp
            have hat2 := pw_cell_below ((Below.refl _ _).alloc (Nat.le_refl _) (.cells #[str [47, 46], str [47, 113, 47, 46, 46], str [47, 37, 50, 101], str [47, 120, 47, 121, 47, 46, 46, 47, 37, 50, 69, 37, 50, 101], str [47, 46, 47, 46]] 9)) hat1
            have hcd : (⟨b.toArray⟩ : ByteArray) ++ ⟨#[47, 120, 47, 121, 47, 46, 46, 47, 37, 50, 69, 37, 50, 101]⟩ = ⟨(b ++ [47, 120, 47, 121, 47, 46, 46, 47, 37, 50, 69, 37, 50, 101]).toArray⟩ := bytes_app b [47, 120, 47, 121, 47, 46, 46, 47, 37, 50, 69, 37, 50, 101]
            have hcb : (⟨(b ++ [47, 120, 47, 121, 47, 46, 46, 47, 37, 50, 69, 37, 50, 101]).toArray⟩ : ByteArray) ++ ⟨#[47]⟩ = ⟨(b ++ [47, 120, 47, 121, 47, 46, 46, 47, 37, 50, 69, 37, 50, 101, 47]).toArray⟩ := (bytes_app (b ++ [47, 120, 47, 121, 47, 46, 46, 47, 37, 50, 69, 37, 50, 101]) [47]).trans (by simp)
            have hcb2 : (⟨(b ++ [47, 120, 47, 121, 47, 46, 46, 47, 37, 50, 69, 37, 50, 101, 47]).toArray⟩ : ByteArray) ++ ⟨#[37, 54, 49]⟩ = ⟨(b ++ [47, 120, 47, 121, 47, 46, 46, 47, 37, 50, 69, 37, 50, 101, 47, 37, 54, 49]).toArray⟩ := (bytes_app (b ++ [47, 120, 47, 121, 47, 46, 46, 47, 37, 50, 69, 37, 50, 101, 47]) [37, 54, 49]).trans (by simp)
            go_wp2_with fail
            go_roundg (12 - (u + 1))
            case measure => omega
            case rel => exact ⟨_, _, u + 1, rfl, rfl, by simp [wrap64] <;> omega, by omega, by omega, HS.out [37, 54, 49] x61_plain (by decide) (by decide) 3 (by decide), (HBX.out.alloc HBX.out.size _)⟩
          · have hp2 : (x : Int).tmod 2 = 1 := tmodN 2 hp
            have HP := Lib.hid hp
            clear hp
            have hat2 := pw_cell_below ((Below.refl _ _).alloc (Nat.le_refl _) (.cells #[str [47, 46], str [47, 113, 47, 46, 46], str [47, 37, 50, 101], str [47, 120, 47, 121, 47, 46, 46, 47, 37, 50, 69, 37, 50, 101], str [47, 46, 47, 46]] 9)) hat1
            have hcd : (⟨b.toArray⟩ : ByteArray) ++ ⟨#[47, 120, 47, 121, 47, 46, 46, 47, 37, 50, 69, 37, 50, 101]⟩ = ⟨(b ++ [47, 120, 47, 121, 47, 46, 46, 47, 37, 50, 69, 37, 50, 101]).toArray⟩ := bytes_app b [47, 120, 47, 121, 47, 46, 46, 47, 37, 50, 69, 37, 50, 101]
            have hcb : (⟨(b ++ [47, 120, 47, 121, 47, 46, 46, 47, 37, 50, 69, 37, 50, 101]).toArray⟩ : ByteArray) ++ ⟨#[47]⟩ = ⟨(b ++ [47, 120, 47, 121, 47, 46, 46, 47, 37, 50, 69, 37, 50, 101, 47]).toArray⟩ := (bytes_app (b ++ [47, 120, 47, 121, 47, 46, 46, 47, 37, 50, 69, 37, 50, 101]) [47]).trans (by simp)
            have hcb2 : (⟨(b ++ [47, 120, 47, 121, 47, 46, 46, 47, 37, 50, 69, 37, 50, 101, 47]).toArray⟩ : ByteArray) ++ ⟨#[97]⟩ = ⟨(b ++ [47, 120, 47, 121, 47, 46, 46, 47, 37, 50, 69, 37, 50, 101, 47, 97]).toArray⟩ := (bytes_app (b ++ [47, 120, 47, 121, 47, 46, 46, 47, 37, 50, 69, 37, 50, 101, 47]) [97]).trans (by simp)
            go_wp2_with fail
            go_roundg (12 - (u + 1))
            case measure => omega
            case rel => exact ⟨_, _, u + 1, rfl, rfl, by simp [wrap64] <;> omega, by omega, by omega, HS.out [97] HX.out.2.2.2.1 HX.out.1 HX.out.2.2.1 3 (by decide), (HBX.out.alloc HBX.out.size _)⟩
          · have hXb : (X == [97]) = false := by simpa using hXa
            have HXA := Lib.hid hXa
            clear hXa
            have hat2 := pw_cell_below ((Below.refl _ _).alloc (Nat.le_refl _) (.cells #[str [47, 46], str [47, 113, 47, 46, 46], str [47, 37, 50, 101], str [47, 120, 47, 121, 47, 46, 46, 47, 37, 50, 69, 37, 50, 101], str [47, 46, 47, 46]] 9)) hat1
            have hcd : (⟨b.toArray⟩ : ByteArray) ++ ⟨#[47, 120, 47, 121, 47, 46, 46, 47, 37, 50, 69, 37, 50, 101]⟩ = ⟨(b ++ [47, 120, 47, 121, 47, 46, 46, 47, 37, 50, 69, 37, 50, 101]).toArray⟩ := bytes_app b [47, 120, 47, 121, 47, 46, 46, 47, 37, 50, 69, 37, 50, 101]
            have hcb : (⟨(b ++ [47, 120, 47, 121, 47, 46, 46, 47, 37, 50, 69, 37, 50, 101]).toArray⟩ : ByteArray) ++ ⟨#[47]⟩ = ⟨(b ++ [47, 120, 47, 121, 47, 46, 46, 47, 37, 50, 69, 37, 50, 101, 47]).toArray⟩ := (bytes_app (b ++ [47, 120, 47, 121, 47, 46, 46, 47, 37, 50, 69, 37, 50, 101]) [47]).trans (by simp)
            have hcb2 : (⟨(b ++ [47, 120, 47, 121, 47, 46, 46, 47, 37, 50, 69, 37, 50, 101, 47]).toArray⟩ : ByteArray) ++ ⟨X.toArray⟩ = ⟨(b ++ (47 :: 120 :: 47 :: 121 :: 47 :: 46 :: 46 :: 47 :: 37 :: 50 :: 69 :: 37 :: 50 :: 101 :: 47 :: X)).toArray⟩ := (bytes_app (b ++ [47, 120, 47, 121, 47, 46, 46, 47, 37, 50, 69, 37, 50, 101, 47]) X).trans (by simp)
            go_wp2_with fail
            go_roundg (12 - (u + 1))
            case measure => omega
            case rel => exact ⟨_, _, u + 1, rfl, rfl, by simp [wrap64] <;> omega, by omega, by omega, HS.out X HX.out.2.2.2.1 HX.out.1 HX.out.2.2.1 3 (by decide), (HBX.out.alloc HBX.out.size _)⟩
        · have hui2 : ((u : Int) == (i : Int)) = false := by simp; omega
          have hstep : ∀ Y : List UInt8, plainS Y = some X → (63 : UInt8) ∉ Y → Y.length ≤ 4 → Dts (i + 1) (dD t (i + 1)) (a ++ 47 :: X) (b ++ 47 :: Y) := by
            intro Y h1 h2 h3
            have hX := HX.out
            rw [dD_off HU.out hui]
            exact HD.out.step X Y [] [] 0 hX.2.2.2.1 h1 plainS_nil (fun _ => rfl) (by simp) hX.2.1 hX.1 h2 (by simp) hX.2.2.1 h3 (by simp)
          have HS := Lib.hid hstep
          have HUI := Lib.hid hui
          clear hui hstep hXl
          go_upto_region 12 with fail
          clear hwt hu2 hui2 hca2
          have hXl := HX.out.2.2.1
          rcases HX3.out with ⟨rfl, hp⟩ | ⟨rfl, hp⟩ | hXa
          · have hp2 : (x : Int).tmod 2 = 0 := tmodN 2 hp
            have HP := Lib.hid hp
            clear hp
            have hcb : (⟨b.toArray⟩ : ByteArray) ++ ⟨#[47]⟩ = ⟨(b ++ [47]).toArray⟩ := bytes_app b [47]
            have hcb2 : (⟨(b ++ [47]).toArray⟩ : ByteArray) ++ ⟨#[37, 54, 49]⟩ = ⟨(b ++ 47 :: [37, 54, 49]).toArray⟩ := (bytes_app (b ++ [47]) [37, 54, 49]).trans (by simp)
            go_wp2_with fail
            go_roundg (12 - (i + 1))
            case measure => omega
            case rel => exact ⟨_, _, i + 1, rfl, rfl, by simp [wrap64] <;> omega, by omega, by omega, HS.out [37, 54, 49] x61_plain (by decide) (by decide), HBX.out⟩
          · have hp2 : (x : Int).tmod 2 = 1 := tmodN 2 hp
            have HP := Lib.hid hp
            clear hp
            have hcb : (⟨b.toArray⟩ : ByteArray) ++ ⟨#[47]⟩ = ⟨(b ++ [47]).toArray⟩ := bytes_app b [47]
            have hcb2 : (⟨(b ++ [47]).toArray⟩ : ByteArray) ++ ⟨#[97]⟩ = ⟨(b ++ 47 :: [97]).toArray⟩ := (bytes_app (b ++ [47]) [97]).trans (by simp)
            go_wp2_with fail
            go_roundg (12 - (i + 1))
            case measure => omega
            case rel => exact ⟨_, _, i + 1, rfl, rfl, by simp [wrap64] <;> omega, by omega, by omega, HS.out [97] HX.out.2.2.2.1 HX.out.1 HX.out.2.2.1, HBX.out⟩
          · have hXb : (X == [97]) = false := by simpa using hXa
            have HXA := Lib.hid hXa
            clear hXa
            have hcb : (⟨b.toArray⟩ : ByteArray) ++ ⟨#[47]⟩ = ⟨(b ++ [47]).toArray⟩ := bytes_app b [47]
            have hcb2 : (⟨(b ++ [47]).toArray⟩ : ByteArray) ++ ⟨X.toArray⟩ = ⟨(b ++ 47 :: X).toArray⟩ := (bytes_app (b ++ [47]) X).trans (by simp)
            go_wp2_with fail
            go_roundg (12 - (i + 1))
            case measure => omega
            case rel => exact ⟨_, _, i + 1, rfl, rfl, by simp [wrap64] <;> omega, by omega, by omega, HS.out X HX.out.2.2.2.1 HX.out.1 HX.out.2.2.1, HBX.out⟩
    · have hex : ¬ (i : Int) < (n : Int) ∨ ((i : Int) < (n : Int) ∧ ¬ (i : Int) < 12) := by omega
      have HEX := Lib.hid hex
      have HIN := Lib.hid hin
      clear hex hin
      obtain ⟨p, c', hq1, hq2, hc⟩ := HD.out.norm hi (dD_le t i)
      have HQ1 := Lib.hid hq1
      have HQ2 := Lib.hid hq2
      clear hq1 hq2
      by_cases ha : a = []
      · subst ha
        obtain rfl : c' = 40 := by simpa using hc
        clear hc
        rcases HEX.out with h1 | ⟨h1, h2⟩
        all_goals
          go_wp2_with first
            | (go_at_call 11; refine (normal_any b _ m (pw_cell_below HB2.out HM.out) (by omega) _ _ _ HQ2.out).mono ?_; rintro e w3 ⟨rfl, hb3⟩)
            | (go_at_call 11; refine (normal_any [] _ m (pw_cell_below HB.out HM.out) (by simp) _ _ _ HQ1.out).mono ?_; rintro e w2 ⟨rfl, hb2⟩; have HB2 := Lib.hid (HB.out.trans (hb2.mono HB.out.size)); clear hb2)
          go_ret
          exact ⟨rfl, HB2.out.trans (hb3.mono HB2.out.size)⟩
      · obtain rfl : c' = 0 := by simpa [ha] using hc
        have ha1 : (a == []) = false := by simpa using ha
        have HA := Lib.hid ha
        clear hc ha
        rcases HEX.out with h1 | ⟨h1, h2⟩
        all_goals
          go_wp2_with first
            | (go_at_call 11; refine (normal_any b _ m (pw_cell_below HB2.out HM.out) (by omega) _ _ _ HQ2.out).mono ?_; rintro e w3 ⟨rfl, hb3⟩)
            | (go_at_call 11; refine (normal_any a _ m (pw_cell_below HB.out HM.out) (by omega) _ _ _ HQ1.out).mono ?_; rintro e w2 ⟨rfl, hb2⟩; have HB2 := Lib.hid (HB.out.trans (hb2.mono HB.out.size)); clear hb2)
          go_ret
          exact ⟨rfl, HB2.out.trans (hb3.mono HB2.out.size)⟩

set_option maxRecDepth 100000 in
set_option maxHeartbeats 20000000 in
theorem dotsL_4 (A : Option Addr) (n c : Nat) (xs : List Nat) (t : Nat) (ht256 : t < 256) (w : World) (m : Int) (hr : Rd w (.slice A n c) (u8s xs)) (hb8 : ∀ x ∈ xs, x < 256) (hm : w.cell? ⟨0, 0, none⟩ = some (.int .i64 m)) (h5 : t % 5 = 4) :
    Calls Tryd.prog 7 #[.slice A n c, .int .u8 (t : Int)] w fun e w' => e = .returned (.bool true) ∧ Below w.heap.size w w' := by
  have hn := hr.len
  rw [u8s_len] at hn
  have HM := Lib.hid hm
  have H5 := Lib.hid h5
  clear h5
  have HR := Lib.hid hr
  have H8 := Lib.hid hb8
  clear hm hr hb8
  go_enter Tryd.func7, Tryd.ntmps7
  go_wp2_with (go_at_call 8; refine (awake_any _ m HM.out).mono ?_; rintro e w1 ⟨rfl, hb1⟩; have HB1 := Lib.hid hb1; clear hb1)
  go_loopg [6, 7, 8] 12 (fun gg s6 s7 s8 wr => ∃ (a b : List UInt8) (i : Nat), s6 = str a ∧ s7 = str b ∧ s8 = .int .i64 i ∧ i ≤ 12 ∧ 12 - i ≤ gg ∧ Aside (Dts i (dD t i) a b) ∧ Below w.heap.size w wr)
  case atStart => exact ⟨[], [], 0, rfl, rfl, rfl, by omega, by omega, Dts.start, HB1.out⟩
  case round =>
    obtain ⟨a, b, i, rfl, rfl, rfl, hi, hg, hdt, hb⟩ := hrel
    have HB := Lib.hid hb
    have HD := Lib.hid hdt.out
    obtain ⟨hal, hbl⟩ := hdt.out.len hi (dD_le t i)
    clear hb hdt
    by_cases hin : i < xs.length ∧ i < 12
    · have h1 : (i : Int) < (n : Int) := by omega
      have h2 : (i : Int) < 12 := by omega
      obtain ⟨ad, rfl, hat⟩ := (HR.out.below HB.out).byte hin.1
      have hx256 : xs[i] < 256 := H8.out _ (List.getElem_mem hin.1)
      generalize xs[i] = x at hat hx256
      have hca : (⟨a.toArray⟩ : ByteArray) ++ ⟨#[47]⟩ = ⟨(a ++ [47]).toArray⟩ := bytes_app a [47]
      have HX6 := Lib.hid (mod6 x)
      have hi12 : i < 12 := hin.2
      have HIN := Lib.hid hin
      clear hin
      obtain ⟨u, hu⟩ : ∃ u, t % 12 = u := ⟨_, rfl⟩
      have hu2 : (t : Int).tmod 12 = (u : Int) := tmodN 12 hu
      have hwx := wr8 hx256
      have hwt := wr8 ht256
      have HU := Lib.hid hu
      clear hu
      go_upto_region 8 with fail
      go_cut [9] from 29 to 37 (fun s9 wx => s9 = str (tX.getD (x % 6) []) ∧ Below wr.heap.size wr wx)
      case first =>
        have hat0 := pw_cell_below ((Below.refl wr.heap.size wr).alloc (Nat.le_refl _) (.cells #[str [97], str [98, 37, 50, 70], str [126], str [99, 46, 100], str [], str [37, 67, 51]] 9)) hat
        clear hca hu2
        rcases HX6.out with h6 | h6 | h6 | h6 | h6 | h6
        · have h62 : (x : Int).tmod 6 = 0 := tmodN 6 h6
          have H6 := Lib.hid h6
          clear h6
          go_wp2_with fail
          go_meet
          case rel => exact ⟨by rw [H6.out]; rfl, (Below.refl _ _).alloc (Nat.le_refl _) _⟩
        · have h62 : (x : Int).tmod 6 = 1 := tmodN 6 h6
          have H6 := Lib.hid h6
          clear h6
          go_wp2_with fail
          go_meet
          case rel => exact ⟨by rw [H6.out]; rfl, (Below.refl _ _).alloc (Nat.le_refl _) _⟩
        · have h62 : (x : Int).tmod 6 = 2 := tmodN 6 h6
          have H6 := Lib.hid h6
          clear h6
          go_wp2_with fail
          go_meet
          case rel => exact ⟨by rw [H6.out]; rfl, (Below.refl _ _).alloc (Nat.le_refl _) _⟩
        · have h62 : (x : Int).tmod 6 = 3 := tmodN 6 h6
          have H6 := Lib.hid h6
          clear h6
          go_wp2_with fail
          go_meet
          case rel => exact ⟨by rw [H6.out]; rfl, (Below.refl _ _).alloc (Nat.le_refl _) _⟩
        · have h62 : (x : Int).tmod 6 = 4 := tmodN 6 h6
          have H6 := Lib.hid h6
          clear h6
          go_wp2_with fail
          go_meet
          case rel => exact ⟨by rw [H6.out]; rfl, (Below.refl _ _).alloc (Nat.le_refl _) _⟩
        · have h62 : (x : Int).tmod 6 = 5 := tmodN 6 h6
          have H6 := Lib.hid h6
          clear h6
          go_wp2_with fail
          go_meet
          case rel => exact ⟨by rw [H6.out]; rfl, (Below.refl _ _).alloc (Nat.le_refl _) _⟩
      case rest =>
        obtain ⟨rfl, hbx⟩ := hcut
        obtain ⟨X, hX⟩ : ∃ X, tX.getD (x % 6) [] = X := ⟨_, rfl⟩
        have hXf := tX_six x
        rw [hX] at hXf
        rw [hX]
        have hXl := hXf.2.2.1
        have HX := Lib.hid hXf
        have HXX := Lib.hid hX
        have hca2 : (⟨(a ++ [47]).toArray⟩ : ByteArray) ++ ⟨X.toArray⟩ = ⟨(a ++ 47 :: X).toArray⟩ := (bytes_app (a ++ [47]) X).trans (by simp)
        have HBX := Lib.hid (HB.out.trans (hbx.mono HB.out.size))
        have hat1 := pw_cell_below hbx hat
        clear hXf hX hbx hat hca
        have hca : (⟨a.toArray⟩ : ByteArray) ++ ⟨#[47]⟩ = ⟨(a ++ [47]).toArray⟩ := bytes_app a [47]
        have HWX := Lib.hid hwx
        have HWT := Lib.hid hwt
        have HU2 := Lib.hid hu2
        clear hwx hwt hu2
        go_upto_region 10 with fail
        have hwt := HWT.out
        have hu2 := HU2.out
        have hwx := HWX.out
        have hX3 : (X = [97] ∧ x % 2 = 0) ∨ (X = [97] ∧ x % 2 = 1) ∨ X ≠ [97] := by
          rcases HX.out.2.2.2.2 with h | h
          · rcases Nat.mod_two_eq_zero_or_one x with h2 | h2
            · exact .inl ⟨h, h2⟩
            · exact .inr (.inl ⟨h, h2⟩)
          · exact .inr (.inr h)
        have HX3 := Lib.hid hX3
        clear hX3
        by_cases hui : u = i
        · subst hui
          have hstep : ∀ Y : List UInt8, plainS Y = some X → (63 : UInt8) ∉ Y → Y.length ≤ 4 → ∀ (j : Nat) (hj : j < 5), Dts (u + 1) (dD t (u + 1)) (a ++ 47 :: X) (b ++ (tD[j]'hj ++ 47 :: Y)) := by
            intro Y h1 h2 h3 j hj
            have hX := HX.out
            have hg := tD_facts ⟨j, hj⟩
            rw [dD_at HU.out]
            exact HD.out.step X Y _ (tE[j]'hj) 14 hX.2.2.2.1 h1 (tD_plain j hj) (tE_fold j hj) hg.2.2 hX.2.1 hX.1 h2 hg.1 hX.2.2.1 h3 hg.2.1
          have HS := Lib.hid hstep
          clear hstep
          have h52 : (t : Int).tmod 5 = 4 := tmodN 5 H5.out
          rcases HX3.out with ⟨rfl, hp⟩ | ⟨rfl, hp⟩ | hXa
          · have hp2 : (x : Int).tmod 2 = 0 := tmodN 2 hp
            have HP := Lib.hid hp
            clear hp
            have hat2 := pw_cell_below ((Below.refl _ _).alloc (Nat.le_refl _) (.cells #[str [47, 46], str [47, 113, 47, 46, 46], str [47, 37, 50, 101], str [47, 120, 47, 121, 47, 46, 46, 47, 37, 50, 69, 37, 50, 101], str [47, 46, 47, 46]] 9)) hat1
            have hcd : (⟨b.toArray⟩ : ByteArray) ++ ⟨#[47, 46, 47, 46]⟩ = ⟨(b ++ [47, 46, 47, 46]).toArray⟩ := bytes_app b [47, 46, 47, 46]
            have hcb : (⟨(b ++ [47, 46, 47, 46]).toArray⟩ : ByteArray) ++ ⟨#[47]⟩ = ⟨(b ++ [47, 46, 47, 46, 47]).toArray⟩ := (bytes_app (b ++ [47, 46, 47, 46]) [47]).trans (by simp)
            have hcb2 : (⟨(b ++ [47, 46, 47, 46, 47]).toArray⟩ : ByteArray) ++ ⟨#[37, 54, 49]⟩ = ⟨(b ++ [47, 46, 47, 46, 47, 37, 54, 49]).toArray⟩ := (bytes_app (b ++ [47, 46, 47, 46, 47]) [37, 54, 49]).trans (by simp)
            go_wp2_with fail
            go_roundg (12 - (u + 1))
            case measure => omega
            case rel => exact ⟨_, _, u + 1, rfl, rfl, by simp [wrap64] <;> omega, by omega, by omega, HS.out [37, 54, 49] x61_plain (by decide) (by decide) 4 (by decide), (HBX.out.alloc HBX.out.size _)⟩
          · have hp2 : (x : Int).tmod 2 = 1 := tmodN 2 hp
            have HP := Lib.hid hp
            clear hp
            have hat2 := pw_cell_below ((Below.refl _ _).alloc (Nat.le_refl _) (.cells #[str [47, 46], str [47, 113, 47, 46, 46], str [47, 37, 50, 101], str [47, 120, 47, 121, 47, 46, 46, 47, 37, 50, 69, 37, 50, 101], str [47, 46, 47, 46]] 9)) hat1
            have hcd : (⟨b.toArray⟩ : ByteArray) ++ ⟨#[47, 46, 47, 46]⟩ = ⟨(b ++ [47, 46, 47, 46]).toArray⟩ := bytes_app b [47, 46, 47, 46]
            have hcb : (⟨(b ++ [47, 46, 47, 46]).toArray⟩ : ByteArray) ++ ⟨#[47]⟩ = ⟨(b ++ [47, 46, 47, 46, 47]).toArray⟩ := (bytes_app (b ++ [47, 46, 47, 46]) [47]).trans (by simp)
            have hcb2 : (⟨(b ++ [47, 46, 47, 46, 47]).toArray⟩ : ByteArray) ++ ⟨#[97]⟩ = ⟨(b ++ [47, 46, 47, 46, 47, 97]).toArray⟩ := (bytes_app (b ++ [47, 46, 47, 46, 47]) [97]).trans (by simp)
            go_wp2_with fail
            go_roundg (12 - (u + 1))
            case measure => omega
            case rel => exact ⟨_, _, u + 1, rfl, rfl, by simp [wrap64] <;> omega, by omega, by omega, HS.out [97] HX.out.2.2.2.1 HX.out.1 HX.out.2.2.1 4 (by decide), (HBX.out.alloc HBX.out.size _)⟩
          · have hXb : (X == [97]) = false := by simpa using hXa
            have HXA := Lib.hid hXa
            clear hXa
            have hat2 := pw_cell_below ((Below.refl _ _).alloc (Nat.le_refl _) (.cells #[str [47, 46], str [47, 113, 47, 46, 46], str [47, 37, 50, 101], str [47, 120, 47, 121, 47, 46, 46, 47, 37, 50, 69, 37, 50, 101], str [47, 46, 47, 46]] 9)) hat1
            have hcd : (⟨b.toArray⟩ : ByteArray) ++ ⟨#[47, 46, 47, 46]⟩ = ⟨(b ++ [47, 46, 47, 46]).toArray⟩ := bytes_app b [47, 46, 47, 46]
            have hcb : (⟨(b ++ [47, 46, 47, 46]).toArray⟩ : ByteArray) ++ ⟨#[47]⟩ = ⟨(b ++ [47, 46, 47, 46, 47]).toArray⟩ := (bytes_app (b ++ [47, 46, 47, 46]) [47]).trans (by simp)
            have hcb2 : (⟨(b ++ [47, 46, 47, 46, 47]).toArray⟩ : ByteArray) ++ ⟨X.toArray⟩ = ⟨(b ++ (47 :: 46 :: 47 :: 46 :: 47 :: X)).toArray⟩ := (bytes_app (b ++ [47, 46, 47, 46, 47]) X).trans (by simp)
            go_wp2_with fail
            go_roundg (12 - (u + 1))
            case measure => omega
            case rel => exact ⟨_, _, u + 1, rfl, rfl, by simp [wrap64] <;> omega, by omega, by omega, HS.out X HX.out.2.2.2.1 HX.out.1 HX.out.2.2.1 4 (by decide), (HBX.out.alloc HBX.out.size _)⟩
        · have hui2 : ((u : Int) == (i : Int)) = false := by simp; omega
          have hstep : ∀ Y : List UInt8, plainS Y = some X → (63 : UInt8) ∉ Y → Y.length ≤ 4 → Dts (i + 1) (dD t (i + 1)) (a ++ 47 :: X) (b ++ 47 :: Y) := by
            intro Y h1 h2 h3
            have hX := HX.out
            rw [dD_off HU.out hui]
            exact HD.out.step X Y [] [] 0 hX.2.2.2.1 h1 plainS_nil (fun _ => rfl) (by simp) hX.2.1 hX.1 h2 (by simp) hX.2.2.1 h3 (by simp)
          have HS := Lib.hid hstep
          have HUI := Lib.hid hui
          clear hui hstep hXl
          go_upto_region 12 with fail
          clear hwt hu2 hui2 hca2
          have hXl := HX.out.2.2.1
          rcases HX3.out with ⟨rfl, hp⟩ | ⟨rfl, hp⟩ | hXa
          · have hp2 : (x : Int).tmod 2 = 0 := tmodN 2 hp
            have HP := Lib.hid hp
            clear hp
            have hcb : (⟨b.toArray⟩ : ByteArray) ++ ⟨#[47]⟩ = ⟨(b ++ [47]).toArray⟩ := bytes_app b [47]
            have hcb2 : (⟨(b ++ [47]).toArray⟩ : ByteArray) ++ ⟨#[37, 54, 49]⟩ = ⟨(b ++ 47 :: [37, 54, 49]).toArray⟩ := (bytes_app (b ++ [47]) [37, 54, 49]).trans (by simp)
            go_wp2_with fail
            go_roundg (12 - (i + 1))
            case measure => omega
            case rel => exact ⟨_, _, i + 1, rfl, rfl, by simp [wrap64] <;> omega, by omega, by omega, HS.out [37, 54, 49] x61_plain (by decide) (by decide), HBX.out⟩
          · have hp2 : (x : Int).tmod 2 = 1 := tmodN 2 hp
            have HP := Lib.hid hp
            clear hp
            have hcb : (⟨b.toArray⟩ : ByteArray) ++ ⟨#[47]⟩ = ⟨(b ++ [47]).toArray⟩ := bytes_app b [47]
            have hcb2 : (⟨(b ++ [47]).toArray⟩ : ByteArray) ++ ⟨#[97]⟩ = ⟨(b ++ 47 :: [97]).toArray⟩ := (bytes_app (b ++ [47]) [97]).trans (by simp)
            go_wp2_with fail
            go_roundg (12 - (i + 1))
            case measure => omega
            case rel => exact ⟨_, _, i + 1, rfl, rfl, by simp [wrap64] <;> omega, by omega, by omega, HS.out [97] HX.out.2.2.2.1 HX.out.1 HX.out.2.2.1, HBX.out⟩
          · have hXb : (X == [97]) = false := by simpa using hXa
            have HXA := Lib.hid hXa
            clear hXa
            have hcb : (⟨b.toArray⟩ : ByteArray) ++ ⟨#[47]⟩ = ⟨(b ++ [47]).toArray⟩ := bytes_app b [47]
            have hcb2 : (⟨(b ++ [47]).toArray⟩ : ByteArray) ++ ⟨X.toArray⟩ = ⟨(b ++ 47 :: X).toArray⟩ := (bytes_app (b ++ [47]) X).trans (by simp)
            go_wp2_with fail
            go_roundg (12 - (i + 1))
            case measure => omega
            case rel => exact ⟨_, _, i + 1, rfl, rfl, by simp [wrap64] <;> omega, by omega, by omega, HS.out X HX.out.2.2.2.1 HX.out.1 HX.out.2.2.1, HBX.out⟩
    · have hex : ¬ (i : Int) < (n : Int) ∨ ((i : Int) < (n : Int) ∧ ¬ (i : Int) < 12) := by omega
      have HEX := Lib.hid hex
      have HIN := Lib.hid hin
      clear hex hin
      obtain ⟨p, c', hq1, hq2, hc⟩ := HD.out.norm hi (dD_le t i)
      have HQ1 := Lib.hid hq1
      have HQ2 := Lib.hid hq2
      clear hq1 hq2
      by_cases ha : a = []
      · subst ha
        obtain rfl : c' = 40 := by simpa using hc
        clear hc
        rcases HEX.out with h1 | ⟨h1, h2⟩
        all_goals
          go_wp2_with first
            | (go_at_call 11; refine (normal_any b _ m (pw_cell_below HB2.out HM.out) (by omega) _ _ _ HQ2.out).mono ?_; rintro e w3 ⟨rfl, hb3⟩)
            | (go_at_call 11; refine (normal_any [] _ m (pw_cell_below HB.out HM.out) (by simp) _ _ _ HQ1.out).mono ?_; rintro e w2 ⟨rfl, hb2⟩; have HB2 := Lib.hid (HB.out.trans (hb2.mono HB.out.size)); clear hb2)
          go_ret
          exact ⟨rfl, HB2.out.trans (hb3.mono HB2.out.size)⟩
      · obtain rfl : c' = 0 := by simpa [ha] using hc
        have ha1 : (a == []) = false := by simpa using ha
        have HA := Lib.hid ha
        clear hc ha
        rcases HEX.out with h1 | ⟨h1, h2⟩
        all_goals
          go_wp2_with first
            | (go_at_call 11; refine (normal_any b _ m (pw_cell_below HB2.out HM.out) (by omega) _ _ _ HQ2.out).mono ?_; rintro e w3 ⟨rfl, hb3⟩)
            | (go_at_call 11; refine (normal_any a _ m (pw_cell_below HB.out HM.out) (by omega) _ _ _ HQ1.out).mono ?_; rintro e w2 ⟨rfl, hb2⟩; have HB2 := Lib.hid (HB.out.trans (hb2.mono HB.out.size)); clear hb2)
          go_ret
          exact ⟨rfl, HB2.out.trans (hb3.mono HB2.out.size)⟩

theorem dotsL_any (A : Option Addr) (n c : Nat) (xs : List Nat) (t : Nat) (ht256 : t < 256) (w : World) (m : Int) (hr : Rd w (.slice A n c) (u8s xs)) (hb8 : ∀ x ∈ xs, x < 256) (hm : w.cell? ⟨0, 0, none⟩ = some (.int .i64 m)) :
    Calls Tryd.prog 7 #[.slice A n c, .int .u8 (t : Int)] w fun e w' => e = .returned (.bool true) ∧ Below w.heap.size w w' := by
  rcases mod5 t with h5 | h5 | h5 | h5 | h5
  · exact dotsL_0 A n c xs t ht256 w m hr hb8 hm h5
  · exact dotsL_1 A n c xs t ht256 w m hr hb8 hm h5
  · exact dotsL_2 A n c xs t ht256 w m hr hb8 hm h5
  · exact dotsL_3 A n c xs t ht256 w m hr hb8 hm h5
  · exact dotsL_4 A n c xs t ht256 w m hr hb8 hm h5
end Go.Proofs.YtgpbjnaciomgdaaDoor
