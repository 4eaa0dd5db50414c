/- Contract of the reference's Same, at pools alike. -/
import Derived.Test.YtjomenldmojnjaaR
set_option linter.unusedVariables false
set_option linter.unusedSimpArgs false
namespace Go.Proofs.Ytjomenldmojnjaa
open Go.RowKit
open Go.Proofs.YtjomenldmojnjaaW.PrintWords

set_option maxHeartbeats 4000000 in
theorem same_any (w : World) (A B : Option Addr) (n c m d : Nat) (nx : Int) (bs : List Bk) (hr : RdE enc 4 w (.slice A n c) bs) (hs : RdE enc 4 w (.slice B m d) bs) :
    Calls Try.prog 21 #[.agg #[.slice A n c, .int .i64 nx], .agg #[.slice B m d, .int .i64 nx]] w fun e w' => e = .returned (.bool true) ∧ Below w.heap.size w w' := by
  have hnm : n = m := by have := hr.len; have := hs.len; omega
  subst hnm
  have HLN := Lib.hid hr.len
  have HR := Lib.hid hr
  have HS := Lib.hid hs
  have hW : Below w.heap.size w ((w.alloc (.cells #[.slice A n c, .int .i64 nx] 24)).alloc (.cells #[.slice B n d, .int .i64 nx] 24)) := ((Below.refl _ _).alloc (Nat.le_refl _) _).alloc (by simp) _
  have x1 : ((w.alloc (.cells #[.slice A n c, .int .i64 nx] 24)).alloc (.cells #[.slice B n d, .int .i64 nx] 24)).heap[w.heap.size]? = some (.cells #[.slice A n c, .int .i64 nx] 24 (0, 0)) := keep ((Below.refl _ _).alloc (Nat.le_refl _) _) (heap_alloc_new w (.cells #[.slice A n c, .int .i64 nx] 24))
  have x2 : ((w.alloc (.cells #[.slice A n c, .int .i64 nx] 24)).alloc (.cells #[.slice B n d, .int .i64 nx] 24)).heap[w.heap.size + 1]? = some (.cells #[.slice B n d, .int .i64 nx] 24 (0, 0)) := by
    have := heap_alloc_new (w.alloc (.cells #[.slice A n c, .int .i64 nx] 24)) (.cells #[.slice B n d, .int .i64 nx] 24)
    simpa using this
  have HW := Lib.hid hW
  have X1 := Lib.hid x1
  have X2 := Lib.hid x2
  clear hr hs hW x1 x2
  go_enter Try.func21, Try.ntmps21
  go_wp2_with fail
  go_loopg [5] n (fun gg s5 wr => ∃ kk : Nat, kk ≤ n ∧ n - kk ≤ gg ∧ s5 = .int .i64 kk ∧ Aside (Below w.heap.size w wr ∧ wr.heap[w.heap.size]? = some (.cells #[.slice A n c, .int .i64 nx] 24 (0, 0)) ∧ wr.heap[w.heap.size + 1]? = some (.cells #[.slice B n d, .int .i64 nx] 24 (0, 0))))
  case atStart => exact ⟨0, Nat.zero_le _, by omega, rfl, ⟨HW.out, X1.out, X2.out⟩⟩
  case round =>
    obtain ⟨kk, hkk, hg, rfl, HA⟩ := hrel
    have HA := Lib.hid HA.out
    have z0 := box_at HA.out.2.1 0 _ rfl
    have u0 := box_at HA.out.2.2 0 _ rfl
    by_cases hlt : kk < n
    · have hltz : (kk : Int) < (n : Int) := by omega
      have hl : kk < bs.length := by have := HLN.out; omega
      obtain ⟨b, off, rfl, hbl, hc⟩ := HR.out.get (by omega)
      obtain ⟨b2, off2, rfl, hbl2, hc2⟩ := HS.out.get (by omega)
      have hat : bs[kk]? = some bs[kk] := List.getElem?_eq_getElem hl
      have hcs : ∀ j y, (enc bs[kk])[j]? = some y → wr.cell? ⟨b, off + kk * 4 + j, none⟩ = some y := fun j y hy => (HA.out.1.cell (p := ⟨b, off + kk * 4 + j, none⟩) hbl).trans (hc kk j bs[kk] y hat hy)
      have hcs2 : ∀ j y, (enc bs[kk])[j]? = some y → wr.cell? ⟨b2, off2 + kk * 4 + j, none⟩ = some y := fun j y hy => (HA.out.1.cell (p := ⟨b2, off2 + kk * 4 + j, none⟩) hbl2).trans (hc2 kk j bs[kk] y hat hy)
      generalize bs[kk] = y at hcs hcs2
      obtain ⟨yo, yr, yi, yf⟩ := y
      have k0 : wr.cell? ⟨b, off + kk * 4, none⟩ = some (.int .i64 yo) := hcs 0 _ rfl
      have k1 : wr.cell? ⟨b, off + kk * 4 + 1, none⟩ = some (.int .i64 yr) := hcs 1 _ rfl
      have k2 : wr.cell? ⟨b, off + kk * 4 + 2, none⟩ = some (.int .i64 yi) := hcs 2 _ rfl
      have k3 : wr.cell? ⟨b, off + kk * 4 + 3, none⟩ = some (.int .i64 yf) := hcs 3 _ rfl
      have j0 : wr.cell? ⟨b2, off2 + kk * 4, none⟩ = some (.int .i64 yo) := hcs2 0 _ rfl
      have j1 : wr.cell? ⟨b2, off2 + kk * 4 + 1, none⟩ = some (.int .i64 yr) := hcs2 1 _ rfl
      have j2 : wr.cell? ⟨b2, off2 + kk * 4 + 2, none⟩ = some (.int .i64 yi) := hcs2 2 _ rfl
      have j3 : wr.cell? ⟨b2, off2 + kk * 4 + 3, none⟩ = some (.int .i64 yf) := hcs2 3 _ rfl
      clear hcs hcs2 hc hc2 hat
      go_wp2_with fail
      go_quiet (fail)
      go_wp2_with fail
      go_roundg (n - (kk + 1))
      case measure => omega
      case rel => exact ⟨kk + 1, by omega, by omega, by have h1 := HR.out.max; have h2 := HLN.out; have h3 := w64 (x := (kk : Int) + 1) (by omega) (by omega); simp [h3], ⟨pw_below_drewN HA.out.1 _, HA.out.2.1, HA.out.2.2⟩⟩
    · have hltz : ¬ (kk : Int) < (n : Int) := by omega
      go_wp2_with fail
      go_ret
      exact ⟨rfl, HA.out.1⟩
end Go.Proofs.Ytjomenldmojnjaa
