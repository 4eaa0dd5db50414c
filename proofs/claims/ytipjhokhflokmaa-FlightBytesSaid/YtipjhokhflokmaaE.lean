/- lockageref18.find, waits; flight.waits. -/
import Derived.Test.YtipjhokhflokmaaD
set_option linter.unusedVariables false
set_option linter.unusedSimpArgs false
namespace Go.Proofs.Ytipjhokhflokmaa
open Go.RowKit
open Go.Proofs.YtipjhokhflokmaaW.PrintWords

theorem fls_at {ys : List FV} {i : Nat} {y : FV} (h : ys[i]? = some y) : (fls ys)[i]? = some y.1 := by simp [fls, h]

set_option maxHeartbeats 800000 in
theorem rfind_any (w : World) (room next : Int) (A : Option Addr) (n c : Nat) (ys : List FV) (id : Int) (hr : RdF w (.slice A n c) ys) (hn : n ≤ 100000) :
    Calls Try.prog 52 #[fv room next (.slice A n c), .int .i64 id] w fun e w' => e = .returned (.int .i64 (findG (fun x => x.id == id) (fls ys))) ∧ Below w.heap.size w w' := by
  have hl := hr.len
  have hal : Below w.heap.size w (w.alloc (.cells #[.int .i64 room, .int .i64 next, .slice A n c] 26)) := (Below.refl _ _).alloc (Nat.le_refl _) _
  have x1 := heap_alloc_new w (.cells #[.int .i64 room, .int .i64 next, .slice A n c] 26)
  have HR := Lib.hid (hr.below hal)
  clear hr
  go_enter Try.func52, Try.ntmps52
  go_wp2_with fail
  generalize w.alloc (.cells #[.int .i64 room, .int .i64 next, .slice A n c] 26) = U at *
  have z2 := box_at x1 2 _ rfl
  clear x1
  have HAL := Lib.hid hal
  clear hal
  go_loopg [5] n (fun gg s5 wr => ∃ kk : Nat, kk ≤ n ∧ n - kk ≤ gg ∧ s5 = .int .i64 kk ∧ wr = U ∧ Aside (∀ (j : Nat) (x : FV), j < kk → ys[j]? = some x → (x.1.id == id) = false))
  case atStart => exact ⟨0, Nat.zero_le _, by omega, rfl, rfl, by show Aside _; exact fun j x hj => absurd hj (Nat.not_lt_zero _)⟩
  case round =>
    obtain ⟨kk, hkk, hg, rfl, rfl, HA⟩ := hrel
    by_cases hlt : kk < n
    · have h1 : (kk : Int) < (n : Int) := by omega
      have hx : ys[kk]? = some (ys[kk]'(by omega)) := List.getElem?_eq_getElem _
      generalize ys[kk]'(by omega) = y at hx
      obtain ⟨b, off, rfl, hF⟩ := HR.out.at_ hx
      have k2 : wr.cell? ⟨b, off + kk * 8 + 2, none⟩ = some (.int .i64 y.1.id) := hF.c2
      have HX := Lib.hid hx
      clear hx hF
      by_cases he : y.1.id = id
      · have he1 : (y.1.id == id) = true := by simp [he]
        have HE := Lib.hid he
        clear he
        go_wp2_with fail
        go_ret
        refine ⟨ret_int ?_, HAL.out⟩
        rw [findG_map]
        exact findG_is (.inr ⟨kk, y, rfl, HX.out, by simp [HE.out], HA.out⟩)
      · have he1 : (y.1.id == id) = false := by simpa using he
        have HE := Lib.hid he
        clear he
        go_wp2_with fail
        go_roundg (n - (kk + 1))
        case measure => omega
        case rel =>
          refine ⟨kk + 1, by omega, by omega, by go_num, rfl, (show Aside _ from fun j z hj hz => ?_)⟩
          rcases Nat.lt_or_ge j kk with h | h
          · exact HA.out j z h hz
          · obtain rfl : j = kk := by omega
            rw [HX.out] at hz
            injection hz with hz
            subst hz
            simpa using HE.out
    · have h1 : ¬ (kk : Int) < (n : Int) := by omega
      go_wp2_with fail
      go_ret
      refine ⟨ret_int ?_, HAL.out⟩
      rw [findG_map]
      exact findG_is (.inl ⟨rfl, fun j x hx => HA.out j x (by have := (List.getElem?_eq_some_iff.1 hx).1; omega) hx⟩)

/-- does one wait for it? -/
def idxW (id : Int) (x : Fl) : Int := findG (fun t => t.id == id) x.ws
def hasW (id : Int) (x : Fl) : Bool := decide (0 ≤ idxW id x)
/-- where one waits -/
def waitsS (fs : List Fl) (id : Int) : Int × Int :=
  (findG (hasW id) fs, if findG (hasW id) fs < 0 then -1 else match fs[(findG (hasW id) fs).toNat]? with | some x => idxW id x | none => -1)
theorem waitsS_none {ys : List FV} {id : Int} (h : ∀ (j : Nat) (x : FV), ys[j]? = some x → hasW id x.1 = false) : waitsS (fls ys) id = (-1, -1) := by
  have : findG (hasW id) (fls ys) = -1 := by
    rw [findG_map]
    exact (findG_is (.inl ⟨rfl, h⟩)).symm
  unfold waitsS
  rw [this]
  rfl
theorem waitsS_some {ys : List FV} {id : Int} {kk : Nat} {y : FV} (hy : ys[kk]? = some y) (hp : hasW id y.1 = true) (h : ∀ (j : Nat) (x : FV), j < kk → ys[j]? = some x → hasW id x.1 = false) : waitsS (fls ys) id = ((kk : Int), idxW id y.1) := by
  have : findG (hasW id) (fls ys) = (kk : Int) := by
    rw [findG_map]
    exact (findG_is (.inr ⟨kk, y, rfl, hy, hp, h⟩)).symm
  unfold waitsS
  rw [this, if_neg (by omega), Int.toNat_natCast, fls_at hy]
theorem idxW_map (id : Int) (x : Fl) : findG (fun a => a == id) (x.ws.map Tm.id) = idxW id x := findG_map _ _ _

set_option maxHeartbeats 1600000 in
/-- flight.waits -/
theorem waits_any (w : World) (room next : Int) (A : Option Addr) (n c : Nat) (ys : List FV) (id : Int) (hr : RdF w (.slice A n c) ys) (hn : n ≤ 1000) (hw : ∀ (i : Nat) (y : FV), ys[i]? = some y → y.1.ws.length ≤ 1000) :
    Calls Try.prog 23 #[fv room next (.slice A n c), .int .i64 id] w fun e w' => e = .returned (.tuple #[.int .i64 (waitsS (fls ys) id).1, .int .i64 (waitsS (fls ys) id).2]) ∧ Below w.heap.size w w' := by
  have hl := hr.len
  have hal : Below w.heap.size w (w.alloc (.cells #[.int .i64 room, .int .i64 next, .slice A n c] 26)) := (Below.refl _ _).alloc (Nat.le_refl _) _
  have x1 := heap_alloc_new w (.cells #[.int .i64 room, .int .i64 next, .slice A n c] 26)
  have HR := Lib.hid (hr.below hal)
  have HWL := Lib.hid hw
  clear hr hw
  go_enter Try.func23, Try.ntmps23
  go_upto_region 1 with fail
  generalize w.alloc (.cells #[.int .i64 room, .int .i64 next, .slice A n c] 26) = U at *
  have z2 := box_at x1 2 _ rfl
  go_wp2_with fail
  clear z2
  have HX1 := Lib.hid x1
  clear x1
  have HAL := Lib.hid hal
  clear hal
  go_loopg [11] n (fun gg s11 wr => ∃ kk : Nat, kk ≤ n ∧ n - kk ≤ gg ∧ s11 = .int .i64 kk ∧ Below U.heap.size U wr ∧ Aside (∀ (j : Nat) (x : FV), j < kk → ys[j]? = some x → hasW id x.1 = false))
  case atStart => exact ⟨0, Nat.zero_le _, by omega, rfl, Below.refl _ _, by show Aside _; exact fun j x hj => absurd hj (Nat.not_lt_zero _)⟩
  case round =>
    obtain ⟨kk, hkk, hg, rfl, hB, HA⟩ := hrel
    by_cases hlt : kk < n
    · have h1 : (kk : Int) < (n : Int) := by omega
      have hx : ys[kk]? = some (ys[kk]'(by omega)) := List.getElem?_eq_getElem _
      generalize ys[kk]'(by omega) = y at hx
      obtain ⟨b, off, rfl, hF⟩ := (HR.out.below hB).at_ hx
      have z2 := box_at (keep hB HX1.out) 2 _ rfl
      have HX := Lib.hid hx
      have HF := Lib.hid hF
      have HB := Lib.hid hB
      clear hx hF hB
      have him := idxW_map id y.1
      by_cases hp : hasW id y.1 = true
      · have hp0 : 0 ≤ idxW id y.1 := of_decide_eq_true hp
        have HPP := Lib.hid hp
        clear hp
        go_wp2_with first
          | (go_at_call 29; refine (ids_any _ b (off + kk * 8) y HF.out (HWL.out _ _ HX.out)).mono ?_; rintro e w2 ⟨B, m, d, rfl, hO, hb2⟩; have hml : m ≤ 100000 := (by have h8 := hO.rd.len; rw [List.length_map] at h8; have := HWL.out _ _ HX.out; omega))
          | (go_at_call 47; refine (index_any _ B m d _ id hO.rd hml).mono ?_; rw [him]; rintro e w3 ⟨rfl, hw3⟩; subst w3)
        go_ret2
        refine ⟨?_, HAL.out.trans (HB.out.trans (hb2.mono HB.out.size) |>.mono HAL.out.size)⟩
        rw [waitsS_some HX.out HPP.out HA.out]
        rfl
      · have hp0 : ¬ 0 ≤ idxW id y.1 := by
          intro h
          exact hp (decide_eq_true h)
        have HPP := Lib.hid hp
        clear hp
        go_wp2_with first
          | (go_at_call 29; refine (ids_any _ b (off + kk * 8) y HF.out (HWL.out _ _ HX.out)).mono ?_; rintro e w2 ⟨B, m, d, rfl, hO, hb2⟩; have hml : m ≤ 100000 := (by have h8 := hO.rd.len; rw [List.length_map] at h8; have := HWL.out _ _ HX.out; omega))
          | (go_at_call 47; refine (index_any _ B m d _ id hO.rd hml).mono ?_; rw [him]; rintro e w3 ⟨rfl, hw3⟩; subst w3)
        go_roundg (n - (kk + 1))
        case measure => omega
        case rel =>
          refine ⟨kk + 1, by omega, by omega, by go_num, HB.out.trans (hb2.mono HB.out.size), (show Aside _ from fun j z hj hz => ?_)⟩
          rcases Nat.lt_or_ge j kk with h | h
          · exact HA.out j z h hz
          · obtain rfl : j = kk := by omega
            rw [HX.out] at hz
            injection hz with hz
            subst hz
            exact Bool.eq_false_iff.2 HPP.out
    · have h1 : ¬ (kk : Int) < (n : Int) := by omega
      go_wp2_with fail
      go_ret2
      refine ⟨?_, HAL.out.trans (hB.mono HAL.out.size)⟩
      rw [waitsS_none (fun j x hx => HA.out j x (by have := (List.getElem?_eq_some_iff.1 hx).1; omega) hx)]
      rfl
end Go.Proofs.Ytipjhokhflokmaa
