/- Contract of the reference's Right. -/
import Derived.Test.YtjomenldmojnjaaE
set_option linter.unusedVariables false
set_option linter.unusedSimpArgs false
namespace Go.Proofs.Ytjomenldmojnjaa
open Go.RowKit
open Go.Proofs.YtjomenldmojnjaaW.PrintWords

theorem rightB_no {bs : List Bk} {nx : Int} (h : ¬ RightP bs nx) : rightB bs nx = false := by
  cases hq : rightB bs nx with
  | false => rfl
  | true => exact absurd (rightB_iff.1 hq) h
theorem rightB_yes {bs : List Bk} {nx : Int} (h : RightP bs nx) : rightB bs nx = true := rightB_iff.2 h

set_option maxHeartbeats 4000000 in
theorem rright_any (w : World) (A : Option Addr) (n c : Nat) (nx : Int) (bs : List Bk) (hr : RdE enc 4 w (.slice A n c) bs) :
    Calls Try.prog 20 #[.agg #[.slice A n c, .int .i64 nx]] w fun e w' => e = .returned (.bool (rightB bs nx)) ∧ Below w.heap.size w w' := by
  have ln := hr.len
  have HR := Lib.hid hr
  have HLN := Lib.hid ln
  clear hr ln
  by_cases c1 : n < 1
  · have c1' : (n : Int) < 1 := by omega
    have HF := Lib.hid (rightB_no (bs := bs) (nx := nx) fun h => by have h1 := h.1; have h2 := h.2.1; have := HLN.out; omega)
    go_enter Try.func20, Try.ntmps20
    go_wp2_with fail
    go_ret
    exact ⟨ret_bool HF.out.symm, (Below.refl _ _).alloc (Nat.le_refl _) _⟩
  have c1' : ¬ (n : Int) < 1 := by omega
  by_cases c2 : 8 < n
  · have c2' : (8 : Int) < (n : Int) := by omega
    have HF := Lib.hid (rightB_no (bs := bs) (nx := nx) fun h => by have h1 := h.1; have h2 := h.2.1; have := HLN.out; omega)
    go_enter Try.func20, Try.ntmps20
    go_wp2_with fail
    go_ret
    exact ⟨ret_bool HF.out.symm, (Below.refl _ _).alloc (Nat.le_refl _) _⟩
  have c2' : ¬ (8 : Int) < (n : Int) := by omega
  by_cases c3 : nx < 0
  · have HF := Lib.hid (rightB_no (bs := bs) (nx := nx) fun h => by have h1 := h.1; have h2 := h.2.1; have := HLN.out; omega)
    go_enter Try.func20, Try.ntmps20
    go_wp2_with fail
    go_ret
    exact ⟨ret_bool HF.out.symm, (Below.refl _ _).alloc (Nat.le_refl _) _⟩
  by_cases c4 : (n : Int) ≤ nx
  · have HF := Lib.hid (rightB_no (bs := bs) (nx := nx) fun h => by have h1 := h.1; have h2 := h.2.1; have := HLN.out; omega)
    go_enter Try.func20, Try.ntmps20
    go_wp2_with fail
    go_ret
    exact ⟨ret_bool HF.out.symm, (Below.refl _ _).alloc (Nat.le_refl _) _⟩
  go_enter Try.func20, Try.ntmps20
  go_wp2_with fail
  go_loopg [4] n (fun gg s4 wr => ∃ kk : Nat, kk ≤ n ∧ n - kk ≤ gg ∧ s4 = .int .i64 kk ∧ Below w.heap.size w wr ∧ Aside (wr.heap[w.heap.size]? = some (.cells #[.slice A n c, .int .i64 nx] 24 (0, 0)) ∧ ∀ j x, j < kk → bs[j]? = some x → Okb x))
  case atStart => exact ⟨0, Nat.zero_le _, by omega, rfl, (Below.refl _ _).alloc (Nat.le_refl _) _, ⟨heap_alloc_new _ _, fun j x hj => absurd hj (Nat.not_lt_zero _)⟩⟩
  case round =>
    obtain ⟨kk, hkk, hg, rfl, hB, HA⟩ := hrel
    have HA := Lib.hid HA.out
    have hX := HA.out.1
    by_cases hlt : kk < n
    · have hltz : (kk : Int) < (n : Int) := by omega
      obtain ⟨b, off, rfl, hbl, hc⟩ := HR.out.get (by omega)
      have hl : kk < bs.length := by have := HLN.out; omega
      have hmem : bs[kk] ∈ bs := List.getElem_mem hl
      have hat : bs[kk]? = some bs[kk] := List.getElem?_eq_getElem hl
      have hcs : ∀ j y, (enc bs[kk])[j]? = some y → wr.cell? ⟨b, off + kk * 4 + j, none⟩ = some y := fun j y hy => (hB.cell (p := ⟨b, off + kk * 4 + j, none⟩) hbl).trans (hc kk j bs[kk] y hat hy)
      generalize bs[kk] = y at hcs hmem hat
      obtain ⟨yo, yr, yi, yf⟩ := y
      have k0 : wr.cell? ⟨b, off + kk * 4, none⟩ = some (.int .i64 yo) := hcs 0 _ rfl
      have k1 : wr.cell? ⟨b, off + kk * 4 + 1, none⟩ = some (.int .i64 yr) := hcs 1 _ rfl
      have k2 : wr.cell? ⟨b, off + kk * 4 + 2, none⟩ = some (.int .i64 yi) := hcs 2 _ rfl
      have k3 : wr.cell? ⟨b, off + kk * 4 + 3, none⟩ = some (.int .i64 yf) := hcs 3 _ rfl
      have HMEM := Lib.hid hmem
      have HAT := Lib.hid hat
      have z0 := box_at hX 0 _ rfl
      have z1 := box_at hX 1 _ rfl
      clear hcs hc hX hmem hat
      by_cases e0 : yr < 1
      · have HF := Lib.hid (rightB_no (bs := bs) (nx := nx) fun h => by have := h.2.2 _ HMEM.out; unfold Okb at this; simp only at this; omega)
        go_wp2_with fail
        go_ret
        exact ⟨ret_bool HF.out.symm, hB.alloc hB.size _⟩
      by_cases e1 : 8 < yr
      · have HF := Lib.hid (rightB_no (bs := bs) (nx := nx) fun h => by have := h.2.2 _ HMEM.out; unfold Okb at this; simp only at this; omega)
        go_wp2_with fail
        go_ret
        exact ⟨ret_bool HF.out.symm, hB.alloc hB.size _⟩
      by_cases e2 : yo < 0
      · have HF := Lib.hid (rightB_no (bs := bs) (nx := nx) fun h => by have := h.2.2 _ HMEM.out; unfold Okb at this; simp only at this; omega)
        go_wp2_with fail
        go_ret
        exact ⟨ret_bool HF.out.symm, hB.alloc hB.size _⟩
      by_cases e3 : yi < 0
      · have HF := Lib.hid (rightB_no (bs := bs) (nx := nx) fun h => by have := h.2.2 _ HMEM.out; unfold Okb at this; simp only at this; omega)
        go_wp2_with fail
        go_ret
        exact ⟨ret_bool HF.out.symm, hB.alloc hB.size _⟩
      by_cases e4 : yr < yo
      · have HF := Lib.hid (rightB_no (bs := bs) (nx := nx) fun h => by have := h.2.2 _ HMEM.out; unfold Okb at this; simp only at this; omega)
        go_wp2_with fail
        go_ret
        exact ⟨ret_bool HF.out.symm, hB.alloc hB.size _⟩
      have hA : IntKind.i64.wrap (yr - yo) = yr - yo := by rw [IntKind.wrap_i64]; omega
      by_cases e5 : yr - yo < yi
      · have HF := Lib.hid (rightB_no (bs := bs) (nx := nx) fun h => by have := h.2.2 _ HMEM.out; unfold Okb at this; simp only at this; omega)
        go_wp2_with fail
        go_ret
        exact ⟨ret_bool HF.out.symm, hB.alloc hB.size _⟩
      by_cases e6 : yf < 0
      · have HF := Lib.hid (rightB_no (bs := bs) (nx := nx) fun h => by have := h.2.2 _ HMEM.out; unfold Okb at this; simp only at this; omega)
        go_wp2_with fail
        go_ret
        exact ⟨ret_bool HF.out.symm, hB.alloc hB.size _⟩
      by_cases e7 : 5 < yf
      · have HF := Lib.hid (rightB_no (bs := bs) (nx := nx) fun h => by have := h.2.2 _ HMEM.out; unfold Okb at this; simp only at this; omega)
        go_wp2_with fail
        go_ret
        exact ⟨ret_bool HF.out.symm, hB.alloc hB.size _⟩
      go_wp2_with fail
      go_roundg (n - (kk + 1))
      case measure => omega
      case rel =>
        refine ⟨kk + 1, by omega, by omega, by simp, hB.alloc hB.size _, ⟨keep ((Below.refl _ _).alloc (Nat.le_refl _) _) HA.out.1, fun j x hj hx => ?_⟩⟩
        rcases Nat.lt_or_ge j kk with h | h
        · exact HA.out.2 j x h hx
        · obtain rfl : j = kk := by omega
          rw [HAT.out] at hx
          injection hx with hx
          subst hx
          unfold Okb
          simp only
          omega
    · have hltz : ¬ (kk : Int) < (n : Int) := by omega
      have HF := Lib.hid (rightB_yes (bs := bs) (nx := nx) ⟨by have := HLN.out; omega, by have := HLN.out; omega, fun b hb => by
        obtain ⟨j, hj, rfl⟩ := List.getElem_of_mem hb
        exact HA.out.2 j _ (by have := HLN.out; omega) (List.getElem?_eq_getElem hj)⟩)
      clear hX
      go_wp2_with fail
      go_ret
      exact ⟨ret_bool HF.out.symm, hB⟩

end Go.Proofs.Ytjomenldmojnjaa
