/- lockageref18.waits. -/
import Derived.Test.YtipjhokhflokmaaE
set_option linter.unusedVariables false
set_option linter.unusedSimpArgs false
namespace Go.Proofs.Ytipjhokhflokmaa
open Go.RowKit
open Go.Proofs.YtipjhokhflokmaaW.PrintWords

theorem RdE.tm {w : World} {A : Option Addr} {n c : Nat} {xs : List Tm} (h : RdE tenc 2 w (.slice A n c) xs) {i : Nat} {t : Tm} (ht : xs[i]? = some t) : ∃ b off, A = some ⟨b, off, none⟩ ∧ b < w.heap.size ∧ w.cell? ⟨b, off + i * 2, none⟩ = some (.int .i64 t.id) ∧ w.cell? ⟨b, off + i * 2 + 1, none⟩ = some (.int .i64 t.at') := by
  have hl := h.len
  have hi := (List.getElem?_eq_some_iff.1 ht).1
  obtain ⟨b, off, rfl, hb, hc⟩ := h.get (by omega)
  exact ⟨b, off, rfl, hb, hc i 0 t _ ht rfl, hc i 1 t _ ht rfl⟩

set_option maxHeartbeats 1600000 in
theorem rwaits_any (w : World) (room next : Int) (A : Option Addr) (n c : Nat) (ys : List FV) (id : Int) (hr : RdF w (.slice A n c) ys) (hn : n ≤ 1000) (hw : ∀ (i : Nat) (y : FV), ys[i]? = some y → y.1.ws.length ≤ 1000) :
    Calls Try.prog 38 #[fv room next (.slice A n c), .int .i64 id] w fun e w' => e = .returned (.tuple #[.int .i64 (waitsS (fls ys) id).1, .int .i64 (waitsS (fls ys) id).2]) ∧ Below w.heap.size w w' := by
  have hl := hr.len
  have hal : Below w.heap.size w (w.alloc (.cells #[.int .i64 room, .int .i64 next, .slice A n c] 26)) := (Below.refl _ _).alloc (Nat.le_refl _) _
  have x1 := heap_alloc_new w (.cells #[.int .i64 room, .int .i64 next, .slice A n c] 26)
  have HR := Lib.hid (hr.below hal)
  have HWL := Lib.hid hw
  clear hr hw
  go_enter Try.func38, Try.ntmps38
  go_wp2_with fail
  generalize w.alloc (.cells #[.int .i64 room, .int .i64 next, .slice A n c] 26) = U at *
  have z2 : U.cell? ⟨w.heap.size, 2, none⟩ = some (.slice A n c) := box_at x1 2 _ rfl
  clear x1
  have HAL := Lib.hid hal
  clear hal
  go_loopg [6] n (fun gg s6 wr => ∃ kk : Nat, kk ≤ n ∧ n - kk ≤ gg ∧ s6 = .int .i64 kk ∧ wr = U ∧ Aside (∀ (j : Nat) (x : FV), j < kk → ys[j]? = some x → hasW id x.1 = false))
  case atStart => exact ⟨0, Nat.zero_le _, by omega, rfl, rfl, by show Aside _; exact fun j x hj => absurd hj (Nat.not_lt_zero _)⟩
  case round =>
    obtain ⟨kk, hkk, hg, rfl, rfl, HA⟩ := hrel
    by_cases hlt : kk < n
    · have h1 : (kk : Int) < (n : Int) := by omega
      have hx : ys[kk]? = some (ys[kk]'(by omega)) := List.getElem?_eq_getElem _
      generalize ys[kk]'(by omega) = y at hx
      obtain ⟨b, off, hA, hF⟩ := HR.out.at_ hx
      obtain ⟨⟨fk, fs, fi, fb, fd, ft, fo, ws⟩, ⟨B, m, d⟩⟩ := y
      have k7 : wr.cell? ⟨b, off + kk * 8 + 7, none⟩ = some (.slice B m d) := hF.c7
      have hW : RdE tenc 2 wr (.slice B m d) ws := hF.r
      have hwl : ws.length = m := hW.len
      have hwm : ws.length ≤ 1000 := HWL.out kk _ hx
      have HW := Lib.hid hW
      have HX := Lib.hid hx
      subst hA
      clear hx hF hW
      go_wp2_with fail
      go_loopg [7] m (fun gg s7 wq => ∃ k2 : Nat, k2 ≤ m ∧ m - k2 ≤ gg ∧ s7 = .int .i64 k2 ∧ wq = wr ∧ Aside (∀ (j : Nat) (t : Tm), j < k2 → ws[j]? = some t → (t.id == id) = false))
      case atStart => exact ⟨0, Nat.zero_le _, by omega, rfl, rfl, by show Aside _; exact fun j x hj => absurd hj (Nat.not_lt_zero _)⟩
      case round =>
        obtain ⟨k2, hk2, hg2, rfl, hwq, HB⟩ := hrel
        subst hwq
        by_cases hlt2 : k2 < m
        · have h2 : (k2 : Int) < (m : Int) := by omega
          have ht : ws[k2]? = some (ws[k2]'(by omega)) := List.getElem?_eq_getElem _
          generalize ws[k2]'(by omega) = t at ht
          obtain ⟨b2, o2, rfl, _, j0, j1⟩ := HW.out.tm ht
          have HT := Lib.hid ht
          clear ht
          by_cases he : t.id = id
          · have he1 : (t.id == id) = true := by simp [he]
            have HE := Lib.hid he
            clear he
            go_wp2_with fail
            go_ret2
            refine ⟨?_, HAL.out⟩
            have hi : (k2 : Int) = idxW id ⟨fk, fs, fi, fb, fd, ft, fo, ws⟩ := findG_is (.inr ⟨k2, t, rfl, HT.out, by simp [HE.out], HB.out⟩)
            have hh : hasW id ⟨fk, fs, fi, fb, fd, ft, fo, ws⟩ = true := by unfold hasW; rw [← hi]; exact decide_eq_true (by omega)
            rw [waitsS_some HX.out hh HA.out, ← hi]
            rfl
          · have he1 : (t.id == id) = false := by simpa using he
            have HE := Lib.hid he
            clear he
            go_wp2_with fail
            go_roundg (m - (k2 + 1))
            case measure => omega
            case rel =>
              refine ⟨k2 + 1, by omega, by omega, by go_num, rfl, (show Aside _ from fun j z hj hz => ?_)⟩
              rcases Nat.lt_or_ge j k2 with h | h
              · exact HB.out j z h hz
              · obtain rfl : j = k2 := by omega
                rw [HT.out] at hz
                injection hz with hz
                subst hz
                simpa using HE.out
        · have h2 : ¬ (k2 : Int) < (m : Int) := by omega
          have hi : -1 = idxW id ⟨fk, fs, fi, fb, fd, ft, fo, ws⟩ := findG_is (.inl ⟨rfl, fun j x hx => HB.out j x (by have h9 : j < ws.length := (List.getElem?_eq_some_iff.1 hx).1; omega) hx⟩)
          have hh : hasW id ⟨fk, fs, fi, fb, fd, ft, fo, ws⟩ = false := by unfold hasW; rw [← hi]; rfl
          have HH := Lib.hid hh
          clear hi hh HB
          go_wp2_with fail
          go_roundg (n - (kk + 1))
          case measure => omega
          case rel =>
            refine ⟨kk + 1, by omega, by omega, by go_num, rfl, (show Aside _ from fun j z hj hz => ?_)⟩
            rcases Nat.lt_or_ge j kk with h | h
            · exact HA.out j z h hz
            · obtain rfl : j = kk := by omega
              rw [HX.out] at hz
              injection hz with hz
              subst hz
              exact HH.out
    · have h1 : ¬ (kk : Int) < (n : Int) := by omega
      go_wp2_with fail
      go_ret2
      refine ⟨?_, HAL.out⟩
      rw [waitsS_none (fun j x hx => HA.out j x (by have := (List.getElem?_eq_some_iff.1 hx).1; omega) hx)]
      rfl
end Go.Proofs.Ytipjhokhflokmaa
