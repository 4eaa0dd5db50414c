/- lockagelaw04.WheelAny. -/
import Derived.Test.YtnlgmfkgpaampaaAE
set_option linter.unusedVariables false
set_option linter.unusedSimpArgs false
namespace Go.Proofs.Ytnlgmfkgpaampaa
open Go.RowKit
open Go.Proofs.YtnlgmfkgpaampaaW.PrintWords

set_option maxHeartbeats 4000000 in
theorem wheelAny_any (w : World) (nw : Int) (A : Nat → Option Addr) (n c : Nat → Nat) (ts : Nat → List Tm) (id a : Int) (hr : WhR w A n c ts) (hbig : tot n 8 ≤ 4611686018427387904) (hwf : ∀ i, i < 8 → ∀ t ∈ ts i, t.id ≤ 9223372036854775807) :
    Calls Try.prog 3 #[.agg #[.int .i64 nw, .slice (A 0) (n 0) (c 0), .slice (A 1) (n 1) (c 1), .slice (A 2) (n 2) (c 2), .slice (A 3) (n 3) (c 3), .slice (A 4) (n 4) (c 4), .slice (A 5) (n 5) (c 5), .slice (A 6) (n 6) (c 6), .slice (A 7) (n 7) (c 7)], .int .i64 id, .int .i64 a] w fun e w' => e = .returned (.bool true) ∧ Below w.heap.size w w' := by
  have hal : Below w.heap.size w (w.alloc (.cells #[.int .i64 nw, .slice (A 0) (n 0) (c 0), .slice (A 1) (n 1) (c 1), .slice (A 2) (n 2) (c 2), .slice (A 3) (n 3) (c 3), .slice (A 4) (n 4) (c 4), .slice (A 5) (n 5) (c 5), .slice (A 6) (n 6) (c 6), .slice (A 7) (n 7) (c 7)] 25)) := (Below.refl _ _).alloc (Nat.le_refl _) _
  have HB := Lib.hid (BoxW.alloc w nw (fun i => .slice (A i) (n i) (c i)))
  have HW := Lib.hid hal
  have HR := Lib.hid hr
  have HWF := Lib.hid hwf
  clear hal hr hwf
  go_enter Try.func3, Try.ntmps3
  go_upto_region 1 with fail
  generalize w.alloc (.cells #[.int .i64 nw, .slice (A 0) (n 0) (c 0), .slice (A 1) (n 1) (c 1), .slice (A 2) (n 2) (c 2), .slice (A 3) (n 3) (c 3), .slice (A 4) (n 4) (c 4), .slice (A 5) (n 5) (c 5), .slice (A 6) (n 6) (c 6), .slice (A 7) (n 7) (c 7)] 25) = W0 at *
  obtain ⟨bf, hbf⟩ : ∃ b, decide (tot n 8 ≤ 100) = b := ⟨_, rfl⟩
  have HF := Lib.hid hbf
  clear hbf
  cases bf with
  | false =>
    go_wp2_with (first
      | (go_at_call 7; refine (awake_any W0).mono ?_; rintro e w1 ⟨rfl, hb⟩; have HB1 := Lib.hid (HB.out.below hb); have HW1 := Lib.hid (HW.out.trans (hb.mono HW.out.size)); clear hb; have z0 := HB1.out.now; have z1 := HB1.out.slot (show 0 < 8 by omega); have z2 := HB1.out.slot (show 1 < 8 by omega); have z3 := HB1.out.slot (show 2 < 8 by omega); have z4 := HB1.out.slot (show 3 < 8 by omega); have z5 := HB1.out.slot (show 4 < 8 by omega); have z6 := HB1.out.slot (show 5 < 8 by omega); have z7 := HB1.out.slot (show 6 < 8 by omega); have z8 := HB1.out.slot (show 7 < 8 by omega))
      | (go_at_call 8; refine (few_any w1 nw A n c hbig).mono ?_; rw [HF.out]; rintro e w2 ⟨rfl, hb⟩; have HW2 := Lib.hid (HW1.out.trans (hb.mono HW1.out.size)); clear hb))
    go_ret
    exact ⟨by simp, HW2.out⟩
  | true =>
    have h100 : tot n 8 ≤ 100 := of_decide_eq_true HF.out
    go_wp2_with (first
      | (go_at_call 7; refine (awake_any W0).mono ?_; rintro e w1 ⟨rfl, hb⟩; have HB1 := Lib.hid (HB.out.below hb); have HW1 := Lib.hid (HW.out.trans (hb.mono HW.out.size)); clear hb; have z0 := HB1.out.now; have z1 := HB1.out.slot (show 0 < 8 by omega); have z2 := HB1.out.slot (show 1 < 8 by omega); have z3 := HB1.out.slot (show 2 < 8 by omega); have z4 := HB1.out.slot (show 3 < 8 by omega); have z5 := HB1.out.slot (show 4 < 8 by omega); have z6 := HB1.out.slot (show 5 < 8 by omega); have z7 := HB1.out.slot (show 6 < 8 by omega); have z8 := HB1.out.slot (show 7 < 8 by omega))
      | (go_at_call 8; refine (few_any w1 nw A n c hbig).mono ?_; rw [HF.out]; rintro e w2 ⟨rfl, hb⟩; have HB2 := Lib.hid (HB1.out.below hb); have HW2 := Lib.hid (HW1.out.trans (hb.mono HW1.out.size)); clear hb z0 z1 z2 z3 z4 z5 z6 z7 z8; have z0 := HB2.out.now; have z1 := HB2.out.slot (show 0 < 8 by omega); have z2 := HB2.out.slot (show 1 < 8 by omega); have z3 := HB2.out.slot (show 2 < 8 by omega); have z4 := HB2.out.slot (show 3 < 8 by omega); have z5 := HB2.out.slot (show 4 < 8 by omega); have z6 := HB2.out.slot (show 5 < 8 by omega); have z7 := HB2.out.slot (show 6 < 8 by omega); have z8 := HB2.out.slot (show 7 < 8 by omega))
      | (go_at_call 9; refine (told_any w2 nw A n c ts id a (HR.out.below HW2.out) (by omega) HWF.out).mono ?_; rintro e w3 ⟨rfl, hb⟩; have HW3 := Lib.hid (HW2.out.trans (hb.mono HW2.out.size)); clear hb))
    go_ret
    exact ⟨by simp, HW3.out⟩
end Go.Proofs.Ytnlgmfkgpaampaa
