/- lockagelaw04.told. -/
import Derived.Test.YtnlgmfkgpaampaaAB
import Derived.Deep.RegionHeld3
set_option linter.unusedVariables false
set_option linter.unusedSimpArgs false
namespace Go.Proofs.Ytnlgmfkgpaampaa
open Go.RowKit
open Go.Proofs.YtnlgmfkgpaampaaW.PrintWords

set_option maxRecDepth 4000 in
set_option maxHeartbeats 16000000 in
theorem told_any (w : World) (nw : Int) (A0 : Nat → Option Addr) (n0 c0 : Nat → Nat) (ts : Nat → List Tm) (id a : Int) (hr : WhR w A0 n0 c0 ts) (ht : tot n0 8 ≤ 1000) (hwf : ∀ i, i < 8 → ∀ t ∈ ts i, t.id ≤ 9223372036854775807) :
    Calls Try.prog 9 #[.agg #[.int .i64 nw, .slice (A0 0) (n0 0) (c0 0), .slice (A0 1) (n0 1) (c0 1), .slice (A0 2) (n0 2) (c0 2), .slice (A0 3) (n0 3) (c0 3), .slice (A0 4) (n0 4) (c0 4), .slice (A0 5) (n0 5) (c0 5), .slice (A0 6) (n0 6) (c0 6), .slice (A0 7) (n0 7) (c0 7)], .int .i64 id, .int .i64 a] w fun e w' => e = .returned (.bool true) ∧ Below w.heap.size w w' := by
  have hal : Below w.heap.size w (w.alloc (.cells #[.int .i64 nw, .slice (A0 0) (n0 0) (c0 0), .slice (A0 1) (n0 1) (c0 1), .slice (A0 2) (n0 2) (c0 2), .slice (A0 3) (n0 3) (c0 3), .slice (A0 4) (n0 4) (c0 4), .slice (A0 5) (n0 5) (c0 5), .slice (A0 6) (n0 6) (c0 6), .slice (A0 7) (n0 7) (c0 7)] 25)) := (Below.refl _ _).alloc (Nat.le_refl _) _
  have HB0 := Lib.hid (BoxW.alloc w nw (fun i => .slice (A0 i) (n0 i) (c0 i)))
  have HW := Lib.hid hal
  have HR := Lib.hid hr
  have HWF := Lib.hid hwf
  clear hal hr hwf
  generalize hsE : setE nw ts id a = sE
  generalize hsT : setT nw ts id a = sT
  generalize hcE : canE nw ts id = cE
  generalize hcT : canT nw ts id = cT
  obtain ⟨tE, htE⟩ : ∃ x, tickE nw ts = x := ⟨_, rfl⟩
  obtain ⟨tw, htw⟩ : ∃ x, tickN nw ts = x := ⟨_, rfl⟩
  obtain ⟨tT, htT⟩ : ∃ x, tickT nw ts = x := ⟨_, rfl⟩
  obtain ⟨tF, htF⟩ : ∃ x, tickF nw ts = x := ⟨_, rfl⟩
  have HsE := Lib.hid hsE
  have HsT := Lib.hid hsT
  have HcE := Lib.hid hcE
  have HcT := Lib.hid hcT
  have HtE := Lib.hid htE
  have Htw := Lib.hid htw
  have HtT := Lib.hid htT
  have HtF := Lib.hid htF
  clear hsE hsT hcE hcT htE htw htT htF
  go_enter Try.func9, Try.ntmps9
  go_upto_region 1 with fail
  generalize w.alloc (.cells #[.int .i64 nw, .slice (A0 0) (n0 0) (c0 0), .slice (A0 1) (n0 1) (c0 1), .slice (A0 2) (n0 2) (c0 2), .slice (A0 3) (n0 3) (c0 3), .slice (A0 4) (n0 4) (c0 4), .slice (A0 5) (n0 5) (c0 5), .slice (A0 6) (n0 6) (c0 6), .slice (A0 7) (n0 7) (c0 7)] 25) = W0 at *
  have z0 : W0.cell? ⟨w.heap.size, 0, none⟩ = some (.int .i64 nw) := HB0.out.now
  have z1 : W0.cell? ⟨w.heap.size, 1, none⟩ = some (.slice (A0 0) (n0 0) (c0 0)) := HB0.out.slot (show 0 < 8 by omega)
  have z2 : W0.cell? ⟨w.heap.size, 2, none⟩ = some (.slice (A0 1) (n0 1) (c0 1)) := HB0.out.slot (show 1 < 8 by omega)
  have z3 : W0.cell? ⟨w.heap.size, 3, none⟩ = some (.slice (A0 2) (n0 2) (c0 2)) := HB0.out.slot (show 2 < 8 by omega)
  have z4 : W0.cell? ⟨w.heap.size, 4, none⟩ = some (.slice (A0 3) (n0 3) (c0 3)) := HB0.out.slot (show 3 < 8 by omega)
  have z5 : W0.cell? ⟨w.heap.size, 5, none⟩ = some (.slice (A0 4) (n0 4) (c0 4)) := HB0.out.slot (show 4 < 8 by omega)
  have z6 : W0.cell? ⟨w.heap.size, 6, none⟩ = some (.slice (A0 5) (n0 5) (c0 5)) := HB0.out.slot (show 5 < 8 by omega)
  have z7 : W0.cell? ⟨w.heap.size, 7, none⟩ = some (.slice (A0 6) (n0 6) (c0 6)) := HB0.out.slot (show 6 < 8 by omega)
  have z8 : W0.cell? ⟨w.heap.size, 8, none⟩ = some (.slice (A0 7) (n0 7) (c0 7)) := HB0.out.slot (show 7 < 8 by omega)
  go_upto_region 2 with (go_at_call 13; refine (set_any W0 nw A0 n0 c0 ts id a (HR.out.below HW.out) (by omega) HWF.out).mono ?_; unfold WePost; rw [HsE.out, HsT.out]; rintro e v ⟨A1, n1, c1, rfl, hO, hb⟩; replace HB0 := Lib.hid (HB0.out.below hb); replace HW := Lib.hid (HW.out.trans (hb.mono HW.out.size)); have HO1 := Lib.hid hO.rd; clear hO hb z0 z1 z2 z3 z4 z5 z6 z7 z8)
  have hal : Below v.heap.size v (v.alloc (.cells #[.int .i64 nw, .slice (A1 0) (n1 0) (c1 0), .slice (A1 1) (n1 1) (c1 1), .slice (A1 2) (n1 2) (c1 2), .slice (A1 3) (n1 3) (c1 3), .slice (A1 4) (n1 4) (c1 4), .slice (A1 5) (n1 5) (c1 5), .slice (A1 6) (n1 6) (c1 6), .slice (A1 7) (n1 7) (c1 7)] 25)) := (Below.refl _ _).alloc (Nat.le_refl _) _
  have HB1 := Lib.hid (BoxW.alloc v nw (fun i => .slice (A1 i) (n1 i) (c1 i)))
  replace HB0 := Lib.hid (HB0.out.below hal)
  replace HO1 := Lib.hid (HO1.out.below hal)
  replace HW := Lib.hid (HW.out.trans (hal.mono HW.out.size))
  clear hal
  generalize v.alloc (.cells #[.int .i64 nw, .slice (A1 0) (n1 0) (c1 0), .slice (A1 1) (n1 1) (c1 1), .slice (A1 2) (n1 2) (c1 2), .slice (A1 3) (n1 3) (c1 3), .slice (A1 4) (n1 4) (c1 4), .slice (A1 5) (n1 5) (c1 5), .slice (A1 6) (n1 6) (c1 6), .slice (A1 7) (n1 7) (c1 7)] 25) = W1 at *
  generalize v.heap.size = b1 at *
  clear v
  have z0 : W1.cell? ⟨w.heap.size, 0, none⟩ = some (.int .i64 nw) := HB0.out.now
  have z1 : W1.cell? ⟨w.heap.size, 1, none⟩ = some (.slice (A0 0) (n0 0) (c0 0)) := HB0.out.slot (show 0 < 8 by omega)
  have z2 : W1.cell? ⟨w.heap.size, 2, none⟩ = some (.slice (A0 1) (n0 1) (c0 1)) := HB0.out.slot (show 1 < 8 by omega)
  have z3 : W1.cell? ⟨w.heap.size, 3, none⟩ = some (.slice (A0 2) (n0 2) (c0 2)) := HB0.out.slot (show 2 < 8 by omega)
  have z4 : W1.cell? ⟨w.heap.size, 4, none⟩ = some (.slice (A0 3) (n0 3) (c0 3)) := HB0.out.slot (show 3 < 8 by omega)
  have z5 : W1.cell? ⟨w.heap.size, 5, none⟩ = some (.slice (A0 4) (n0 4) (c0 4)) := HB0.out.slot (show 4 < 8 by omega)
  have z6 : W1.cell? ⟨w.heap.size, 6, none⟩ = some (.slice (A0 5) (n0 5) (c0 5)) := HB0.out.slot (show 5 < 8 by omega)
  have z7 : W1.cell? ⟨w.heap.size, 7, none⟩ = some (.slice (A0 6) (n0 6) (c0 6)) := HB0.out.slot (show 6 < 8 by omega)
  have z8 : W1.cell? ⟨w.heap.size, 8, none⟩ = some (.slice (A0 7) (n0 7) (c0 7)) := HB0.out.slot (show 7 < 8 by omega)
  go_upto_region 3 with (go_at_call 15; refine (rset_any W1 nw A0 n0 c0 ts id a (HR.out.below HW.out) (by omega)).mono ?_; unfold WePost; rw [HsE.out, HsT.out]; rintro e v ⟨A2, n2, c2, rfl, hO, hb⟩; replace HB0 := Lib.hid (HB0.out.below hb); replace HB1 := Lib.hid (HB1.out.below hb); replace HO1 := Lib.hid (HO1.out.below hb); replace HW := Lib.hid (HW.out.trans (hb.mono HW.out.size)); have HO2 := Lib.hid hO.rd; clear hO hb z0 z1 z2 z3 z4 z5 z6 z7 z8)
  have hal : Below v.heap.size v (v.alloc (.cells #[.int .i64 nw, .slice (A2 0) (n2 0) (c2 0), .slice (A2 1) (n2 1) (c2 1), .slice (A2 2) (n2 2) (c2 2), .slice (A2 3) (n2 3) (c2 3), .slice (A2 4) (n2 4) (c2 4), .slice (A2 5) (n2 5) (c2 5), .slice (A2 6) (n2 6) (c2 6), .slice (A2 7) (n2 7) (c2 7)] 25)) := (Below.refl _ _).alloc (Nat.le_refl _) _
  have HB2 := Lib.hid (BoxW.alloc v nw (fun i => .slice (A2 i) (n2 i) (c2 i)))
  replace HB0 := Lib.hid (HB0.out.below hal)
  replace HB1 := Lib.hid (HB1.out.below hal)
  replace HO1 := Lib.hid (HO1.out.below hal)
  replace HO2 := Lib.hid (HO2.out.below hal)
  replace HW := Lib.hid (HW.out.trans (hal.mono HW.out.size))
  clear hal
  generalize v.alloc (.cells #[.int .i64 nw, .slice (A2 0) (n2 0) (c2 0), .slice (A2 1) (n2 1) (c2 1), .slice (A2 2) (n2 2) (c2 2), .slice (A2 3) (n2 3) (c2 3), .slice (A2 4) (n2 4) (c2 4), .slice (A2 5) (n2 5) (c2 5), .slice (A2 6) (n2 6) (c2 6), .slice (A2 7) (n2 7) (c2 7)] 25) = W2 at *
  generalize v.heap.size = b2 at *
  clear v
  have z0 : W2.cell? ⟨w.heap.size, 0, none⟩ = some (.int .i64 nw) := HB0.out.now
  have z1 : W2.cell? ⟨w.heap.size, 1, none⟩ = some (.slice (A0 0) (n0 0) (c0 0)) := HB0.out.slot (show 0 < 8 by omega)
  have z2 : W2.cell? ⟨w.heap.size, 2, none⟩ = some (.slice (A0 1) (n0 1) (c0 1)) := HB0.out.slot (show 1 < 8 by omega)
  have z3 : W2.cell? ⟨w.heap.size, 3, none⟩ = some (.slice (A0 2) (n0 2) (c0 2)) := HB0.out.slot (show 2 < 8 by omega)
  have z4 : W2.cell? ⟨w.heap.size, 4, none⟩ = some (.slice (A0 3) (n0 3) (c0 3)) := HB0.out.slot (show 3 < 8 by omega)
  have z5 : W2.cell? ⟨w.heap.size, 5, none⟩ = some (.slice (A0 4) (n0 4) (c0 4)) := HB0.out.slot (show 4 < 8 by omega)
  have z6 : W2.cell? ⟨w.heap.size, 6, none⟩ = some (.slice (A0 5) (n0 5) (c0 5)) := HB0.out.slot (show 5 < 8 by omega)
  have z7 : W2.cell? ⟨w.heap.size, 7, none⟩ = some (.slice (A0 6) (n0 6) (c0 6)) := HB0.out.slot (show 6 < 8 by omega)
  have z8 : W2.cell? ⟨w.heap.size, 8, none⟩ = some (.slice (A0 7) (n0 7) (c0 7)) := HB0.out.slot (show 7 < 8 by omega)
  go_upto_region 4 with (go_at_call 12; refine (cancel_any W2 nw A0 n0 c0 ts id (HR.out.below HW.out) (by omega) HWF.out).mono ?_; unfold WePost; rw [HcE.out, HcT.out]; rintro e v ⟨A3, n3, c3, rfl, hO, hb⟩; replace HB0 := Lib.hid (HB0.out.below hb); replace HB1 := Lib.hid (HB1.out.below hb); replace HB2 := Lib.hid (HB2.out.below hb); replace HO1 := Lib.hid (HO1.out.below hb); replace HO2 := Lib.hid (HO2.out.below hb); replace HW := Lib.hid (HW.out.trans (hb.mono HW.out.size)); have HO3 := Lib.hid hO.rd; clear hO hb z0 z1 z2 z3 z4 z5 z6 z7 z8)
  have hal : Below v.heap.size v (v.alloc (.cells #[.int .i64 nw, .slice (A3 0) (n3 0) (c3 0), .slice (A3 1) (n3 1) (c3 1), .slice (A3 2) (n3 2) (c3 2), .slice (A3 3) (n3 3) (c3 3), .slice (A3 4) (n3 4) (c3 4), .slice (A3 5) (n3 5) (c3 5), .slice (A3 6) (n3 6) (c3 6), .slice (A3 7) (n3 7) (c3 7)] 25)) := (Below.refl _ _).alloc (Nat.le_refl _) _
  have HB3 := Lib.hid (BoxW.alloc v nw (fun i => .slice (A3 i) (n3 i) (c3 i)))
  replace HB0 := Lib.hid (HB0.out.below hal)
  replace HB1 := Lib.hid (HB1.out.below hal)
  replace HB2 := Lib.hid (HB2.out.below hal)
  replace HO1 := Lib.hid (HO1.out.below hal)
  replace HO2 := Lib.hid (HO2.out.below hal)
  replace HO3 := Lib.hid (HO3.out.below hal)
  replace HW := Lib.hid (HW.out.trans (hal.mono HW.out.size))
  clear hal
  generalize v.alloc (.cells #[.int .i64 nw, .slice (A3 0) (n3 0) (c3 0), .slice (A3 1) (n3 1) (c3 1), .slice (A3 2) (n3 2) (c3 2), .slice (A3 3) (n3 3) (c3 3), .slice (A3 4) (n3 4) (c3 4), .slice (A3 5) (n3 5) (c3 5), .slice (A3 6) (n3 6) (c3 6), .slice (A3 7) (n3 7) (c3 7)] 25) = W3 at *
  generalize v.heap.size = b3 at *
  clear v
  have z0 : W3.cell? ⟨w.heap.size, 0, none⟩ = some (.int .i64 nw) := HB0.out.now
  have z1 : W3.cell? ⟨w.heap.size, 1, none⟩ = some (.slice (A0 0) (n0 0) (c0 0)) := HB0.out.slot (show 0 < 8 by omega)
  have z2 : W3.cell? ⟨w.heap.size, 2, none⟩ = some (.slice (A0 1) (n0 1) (c0 1)) := HB0.out.slot (show 1 < 8 by omega)
  have z3 : W3.cell? ⟨w.heap.size, 3, none⟩ = some (.slice (A0 2) (n0 2) (c0 2)) := HB0.out.slot (show 2 < 8 by omega)
  have z4 : W3.cell? ⟨w.heap.size, 4, none⟩ = some (.slice (A0 3) (n0 3) (c0 3)) := HB0.out.slot (show 3 < 8 by omega)
  have z5 : W3.cell? ⟨w.heap.size, 5, none⟩ = some (.slice (A0 4) (n0 4) (c0 4)) := HB0.out.slot (show 4 < 8 by omega)
  have z6 : W3.cell? ⟨w.heap.size, 6, none⟩ = some (.slice (A0 5) (n0 5) (c0 5)) := HB0.out.slot (show 5 < 8 by omega)
  have z7 : W3.cell? ⟨w.heap.size, 7, none⟩ = some (.slice (A0 6) (n0 6) (c0 6)) := HB0.out.slot (show 6 < 8 by omega)
  have z8 : W3.cell? ⟨w.heap.size, 8, none⟩ = some (.slice (A0 7) (n0 7) (c0 7)) := HB0.out.slot (show 7 < 8 by omega)
  go_upto_region 5 with (go_at_call 16; refine (rcancel_any W3 nw A0 n0 c0 ts id (HR.out.below HW.out) (by omega)).mono ?_; unfold WePost; rw [HcE.out, HcT.out]; rintro e v ⟨A4, n4, c4, rfl, hO, hb⟩; replace HB0 := Lib.hid (HB0.out.below hb); replace HB1 := Lib.hid (HB1.out.below hb); replace HB2 := Lib.hid (HB2.out.below hb); replace HB3 := Lib.hid (HB3.out.below hb); replace HO1 := Lib.hid (HO1.out.below hb); replace HO2 := Lib.hid (HO2.out.below hb); replace HO3 := Lib.hid (HO3.out.below hb); replace HW := Lib.hid (HW.out.trans (hb.mono HW.out.size)); have HO4 := Lib.hid hO.rd; clear hO hb z0 z1 z2 z3 z4 z5 z6 z7 z8)
  have hal : Below v.heap.size v (v.alloc (.cells #[.int .i64 nw, .slice (A4 0) (n4 0) (c4 0), .slice (A4 1) (n4 1) (c4 1), .slice (A4 2) (n4 2) (c4 2), .slice (A4 3) (n4 3) (c4 3), .slice (A4 4) (n4 4) (c4 4), .slice (A4 5) (n4 5) (c4 5), .slice (A4 6) (n4 6) (c4 6), .slice (A4 7) (n4 7) (c4 7)] 25)) := (Below.refl _ _).alloc (Nat.le_refl _) _
  have HB4 := Lib.hid (BoxW.alloc v nw (fun i => .slice (A4 i) (n4 i) (c4 i)))
  replace HB0 := Lib.hid (HB0.out.below hal)
  replace HB1 := Lib.hid (HB1.out.below hal)
  replace HB2 := Lib.hid (HB2.out.below hal)
  replace HB3 := Lib.hid (HB3.out.below hal)
  replace HO1 := Lib.hid (HO1.out.below hal)
  replace HO2 := Lib.hid (HO2.out.below hal)
  replace HO3 := Lib.hid (HO3.out.below hal)
  replace HO4 := Lib.hid (HO4.out.below hal)
  replace HW := Lib.hid (HW.out.trans (hal.mono HW.out.size))
  clear hal
  generalize v.alloc (.cells #[.int .i64 nw, .slice (A4 0) (n4 0) (c4 0), .slice (A4 1) (n4 1) (c4 1), .slice (A4 2) (n4 2) (c4 2), .slice (A4 3) (n4 3) (c4 3), .slice (A4 4) (n4 4) (c4 4), .slice (A4 5) (n4 5) (c4 5), .slice (A4 6) (n4 6) (c4 6), .slice (A4 7) (n4 7) (c4 7)] 25) = W4 at *
  generalize v.heap.size = b4 at *
  clear v
  have z0 : W4.cell? ⟨w.heap.size, 0, none⟩ = some (.int .i64 nw) := HB0.out.now
  have z1 : W4.cell? ⟨w.heap.size, 1, none⟩ = some (.slice (A0 0) (n0 0) (c0 0)) := HB0.out.slot (show 0 < 8 by omega)
  have z2 : W4.cell? ⟨w.heap.size, 2, none⟩ = some (.slice (A0 1) (n0 1) (c0 1)) := HB0.out.slot (show 1 < 8 by omega)
  have z3 : W4.cell? ⟨w.heap.size, 3, none⟩ = some (.slice (A0 2) (n0 2) (c0 2)) := HB0.out.slot (show 2 < 8 by omega)
  have z4 : W4.cell? ⟨w.heap.size, 4, none⟩ = some (.slice (A0 3) (n0 3) (c0 3)) := HB0.out.slot (show 3 < 8 by omega)
  have z5 : W4.cell? ⟨w.heap.size, 5, none⟩ = some (.slice (A0 4) (n0 4) (c0 4)) := HB0.out.slot (show 4 < 8 by omega)
  have z6 : W4.cell? ⟨w.heap.size, 6, none⟩ = some (.slice (A0 5) (n0 5) (c0 5)) := HB0.out.slot (show 5 < 8 by omega)
  have z7 : W4.cell? ⟨w.heap.size, 7, none⟩ = some (.slice (A0 6) (n0 6) (c0 6)) := HB0.out.slot (show 6 < 8 by omega)
  have z8 : W4.cell? ⟨w.heap.size, 8, none⟩ = some (.slice (A0 7) (n0 7) (c0 7)) := HB0.out.slot (show 7 < 8 by omega)
  go_upto_region 6 with (go_at_call 11; refine (tick_any W4 nw A0 n0 c0 ts  (HR.out.below HW.out) (by omega) HWF.out).mono ?_; unfold TickPost; rw [HtE.out, Htw.out, HtT.out, HtF.out]; rintro e v ⟨A5, n5, c5, F5, f5, g5, rfl, hO, hF, hb⟩; replace HB0 := Lib.hid (HB0.out.below hb); replace HB1 := Lib.hid (HB1.out.below hb); replace HB2 := Lib.hid (HB2.out.below hb); replace HB3 := Lib.hid (HB3.out.below hb); replace HB4 := Lib.hid (HB4.out.below hb); replace HO1 := Lib.hid (HO1.out.below hb); replace HO2 := Lib.hid (HO2.out.below hb); replace HO3 := Lib.hid (HO3.out.below hb); replace HO4 := Lib.hid (HO4.out.below hb); replace HW := Lib.hid (HW.out.trans (hb.mono HW.out.size)); have HO5 := Lib.hid hO.rd; have HF5 := Lib.hid hF; clear hF; clear hO hb z0 z1 z2 z3 z4 z5 z6 z7 z8)
  have hal : Below v.heap.size v (v.alloc (.cells #[.int .i64 tw, .slice (A5 0) (n5 0) (c5 0), .slice (A5 1) (n5 1) (c5 1), .slice (A5 2) (n5 2) (c5 2), .slice (A5 3) (n5 3) (c5 3), .slice (A5 4) (n5 4) (c5 4), .slice (A5 5) (n5 5) (c5 5), .slice (A5 6) (n5 6) (c5 6), .slice (A5 7) (n5 7) (c5 7)] 25)) := (Below.refl _ _).alloc (Nat.le_refl _) _
  have HB5 := Lib.hid (BoxW.alloc v tw (fun i => .slice (A5 i) (n5 i) (c5 i)))
  replace HB0 := Lib.hid (HB0.out.below hal)
  replace HB1 := Lib.hid (HB1.out.below hal)
  replace HB2 := Lib.hid (HB2.out.below hal)
  replace HB3 := Lib.hid (HB3.out.below hal)
  replace HB4 := Lib.hid (HB4.out.below hal)
  replace HO1 := Lib.hid (HO1.out.below hal)
  replace HO2 := Lib.hid (HO2.out.below hal)
  replace HO3 := Lib.hid (HO3.out.below hal)
  replace HO4 := Lib.hid (HO4.out.below hal)
  replace HO5 := Lib.hid (HO5.out.below hal)
  replace HF5 := Lib.hid (HF5.out.below hal)
  replace HW := Lib.hid (HW.out.trans (hal.mono HW.out.size))
  clear hal
  generalize v.alloc (.cells #[.int .i64 tw, .slice (A5 0) (n5 0) (c5 0), .slice (A5 1) (n5 1) (c5 1), .slice (A5 2) (n5 2) (c5 2), .slice (A5 3) (n5 3) (c5 3), .slice (A5 4) (n5 4) (c5 4), .slice (A5 5) (n5 5) (c5 5), .slice (A5 6) (n5 6) (c5 6), .slice (A5 7) (n5 7) (c5 7)] 25) = W5 at *
  generalize v.heap.size = b5 at *
  clear v
  have z0 : W5.cell? ⟨w.heap.size, 0, none⟩ = some (.int .i64 nw) := HB0.out.now
  have z1 : W5.cell? ⟨w.heap.size, 1, none⟩ = some (.slice (A0 0) (n0 0) (c0 0)) := HB0.out.slot (show 0 < 8 by omega)
  have z2 : W5.cell? ⟨w.heap.size, 2, none⟩ = some (.slice (A0 1) (n0 1) (c0 1)) := HB0.out.slot (show 1 < 8 by omega)
  have z3 : W5.cell? ⟨w.heap.size, 3, none⟩ = some (.slice (A0 2) (n0 2) (c0 2)) := HB0.out.slot (show 2 < 8 by omega)
  have z4 : W5.cell? ⟨w.heap.size, 4, none⟩ = some (.slice (A0 3) (n0 3) (c0 3)) := HB0.out.slot (show 3 < 8 by omega)
  have z5 : W5.cell? ⟨w.heap.size, 5, none⟩ = some (.slice (A0 4) (n0 4) (c0 4)) := HB0.out.slot (show 4 < 8 by omega)
  have z6 : W5.cell? ⟨w.heap.size, 6, none⟩ = some (.slice (A0 5) (n0 5) (c0 5)) := HB0.out.slot (show 5 < 8 by omega)
  have z7 : W5.cell? ⟨w.heap.size, 7, none⟩ = some (.slice (A0 6) (n0 6) (c0 6)) := HB0.out.slot (show 6 < 8 by omega)
  have z8 : W5.cell? ⟨w.heap.size, 8, none⟩ = some (.slice (A0 7) (n0 7) (c0 7)) := HB0.out.slot (show 7 < 8 by omega)
  go_upto_region 7 with (go_at_call 17; refine (rtick_any W5 nw A0 n0 c0 ts  (HR.out.below HW.out) (by omega)).mono ?_; unfold TickPost; rw [HtE.out, Htw.out, HtT.out, HtF.out]; rintro e v ⟨A6, n6, c6, F6, f6, g6, rfl, hO, hF, hb⟩; replace HB0 := Lib.hid (HB0.out.below hb); replace HB1 := Lib.hid (HB1.out.below hb); replace HB2 := Lib.hid (HB2.out.below hb); replace HB3 := Lib.hid (HB3.out.below hb); replace HB4 := Lib.hid (HB4.out.below hb); replace HB5 := Lib.hid (HB5.out.below hb); replace HO1 := Lib.hid (HO1.out.below hb); replace HO2 := Lib.hid (HO2.out.below hb); replace HO3 := Lib.hid (HO3.out.below hb); replace HO4 := Lib.hid (HO4.out.below hb); replace HO5 := Lib.hid (HO5.out.below hb); replace HF5 := Lib.hid (HF5.out.below hb); replace HW := Lib.hid (HW.out.trans (hb.mono HW.out.size)); have HO6 := Lib.hid hO.rd; have HF6 := Lib.hid hF; clear hF; clear hO hb z0 z1 z2 z3 z4 z5 z6 z7 z8)
  have hal : Below v.heap.size v (v.alloc (.cells #[.int .i64 tw, .slice (A6 0) (n6 0) (c6 0), .slice (A6 1) (n6 1) (c6 1), .slice (A6 2) (n6 2) (c6 2), .slice (A6 3) (n6 3) (c6 3), .slice (A6 4) (n6 4) (c6 4), .slice (A6 5) (n6 5) (c6 5), .slice (A6 6) (n6 6) (c6 6), .slice (A6 7) (n6 7) (c6 7)] 25)) := (Below.refl _ _).alloc (Nat.le_refl _) _
  have HB6 := Lib.hid (BoxW.alloc v tw (fun i => .slice (A6 i) (n6 i) (c6 i)))
  replace HB0 := Lib.hid (HB0.out.below hal)
  replace HB1 := Lib.hid (HB1.out.below hal)
  replace HB2 := Lib.hid (HB2.out.below hal)
  replace HB3 := Lib.hid (HB3.out.below hal)
  replace HB4 := Lib.hid (HB4.out.below hal)
  replace HB5 := Lib.hid (HB5.out.below hal)
  replace HO1 := Lib.hid (HO1.out.below hal)
  replace HO2 := Lib.hid (HO2.out.below hal)
  replace HO3 := Lib.hid (HO3.out.below hal)
  replace HO4 := Lib.hid (HO4.out.below hal)
  replace HO5 := Lib.hid (HO5.out.below hal)
  replace HO6 := Lib.hid (HO6.out.below hal)
  replace HF5 := Lib.hid (HF5.out.below hal)
  replace HF6 := Lib.hid (HF6.out.below hal)
  replace HW := Lib.hid (HW.out.trans (hal.mono HW.out.size))
  clear hal
  generalize v.alloc (.cells #[.int .i64 tw, .slice (A6 0) (n6 0) (c6 0), .slice (A6 1) (n6 1) (c6 1), .slice (A6 2) (n6 2) (c6 2), .slice (A6 3) (n6 3) (c6 3), .slice (A6 4) (n6 4) (c6 4), .slice (A6 5) (n6 5) (c6 5), .slice (A6 6) (n6 6) (c6 6), .slice (A6 7) (n6 7) (c6 7)] 25) = W6 at *
  generalize v.heap.size = b6 at *
  clear v
  obtain ⟨S, hSd, hSm, hS0⟩ : ∃ S : World → Prop, (∀ w', S w' → BoxW w' w.heap.size nw (fun i => .slice (A0 i) (n0 i) (c0 i)) ∧ BoxW w' b1 nw (fun i => .slice (A1 i) (n1 i) (c1 i)) ∧ BoxW w' b2 nw (fun i => .slice (A2 i) (n2 i) (c2 i)) ∧ BoxW w' b3 nw (fun i => .slice (A3 i) (n3 i) (c3 i)) ∧ BoxW w' b4 nw (fun i => .slice (A4 i) (n4 i) (c4 i)) ∧ BoxW w' b5 tw (fun i => .slice (A5 i) (n5 i) (c5 i)) ∧ BoxW w' b6 tw (fun i => .slice (A6 i) (n6 i) (c6 i)) ∧ Below W6.heap.size W6 w') ∧ (∀ w1 w2, S w1 → Below w1.heap.size w1 w2 → S w2) ∧ S W6.drew :=
    ⟨fun w' => BoxW w' w.heap.size nw (fun i => .slice (A0 i) (n0 i) (c0 i)) ∧ BoxW w' b1 nw (fun i => .slice (A1 i) (n1 i) (c1 i)) ∧ BoxW w' b2 nw (fun i => .slice (A2 i) (n2 i) (c2 i)) ∧ BoxW w' b3 nw (fun i => .slice (A3 i) (n3 i) (c3 i)) ∧ BoxW w' b4 nw (fun i => .slice (A4 i) (n4 i) (c4 i)) ∧ BoxW w' b5 tw (fun i => .slice (A5 i) (n5 i) (c5 i)) ∧ BoxW w' b6 tw (fun i => .slice (A6 i) (n6 i) (c6 i)) ∧ Below W6.heap.size W6 w', fun _ h => h, fun w1 w2 h hb => ⟨h.1.below hb, h.2.1.below hb, h.2.2.1.below hb, h.2.2.2.1.below hb, h.2.2.2.2.1.below hb, h.2.2.2.2.2.1.below hb, h.2.2.2.2.2.2.1.below hb, h.2.2.2.2.2.2.2.trans (hb.mono h.2.2.2.2.2.2.2.size)⟩, ⟨HB0.out.below (below_drew (Below.refl _ _)), HB1.out.below (below_drew (Below.refl _ _)), HB2.out.below (below_drew (Below.refl _ _)), HB3.out.below (below_drew (Below.refl _ _)), HB4.out.below (below_drew (Below.refl _ _)), HB5.out.below (below_drew (Below.refl _ _)), HB6.out.below (below_drew (Below.refl _ _)), below_drew (Below.refl _ _)⟩⟩
  have HSD := Lib.hid hSd
  have HSM := Lib.hid hSm
  obtain ⟨rb, hrb⟩ : ∃ b, rightB nw ts = b := ⟨_, rfl⟩
  have HRB := Lib.hid hrb
  have HX := Lib.hid (show ∀ w', S w' → Below W6.heap.size W6 w' from fun w' h => (hSd w' h).2.2.2.2.2.2.2)
  clear hSd hSm hrb HB0 HB1 HB2 HB3 HB4 HB5 HB6
  refine wp_region_held_drew (S := S) (by kernel_rfl) hS0 (fun hHeld => ?_)
  clear hHeld
  refine wpAnyH_take (i := 0) (oi := _) (v := .agg #[.int .i64 nw, .slice (A0 0) (n0 0) (c0 0), .slice (A0 1) (n0 1) (c0 1), .slice (A0 2) (n0 2) (c0 2), .slice (A0 3) (n0 3) (c0 3), .slice (A0 4) (n0 4) (c0 4), .slice (A0 5) (n0 5) (c0 5), .slice (A0 6) (n0 6) (c0 6), .slice (A0 7) (n0 7) (c0 7)]) rfl (by kernel_rfl) (by kernel_rfl) (by kernel_rfl) (fun _ _ _ h => h) (Or.inl ⟨by kernel_rfl, ?yq1⟩) hS0 ?rq1
  case yq1 =>
    intro w' hSw
    have hj := (HSD.out w' hSw).1
    have z0 : w'.cell? ⟨w.heap.size, 0, none⟩ = some (.int .i64 nw) := hj.now
    have z1 : w'.cell? ⟨w.heap.size, 1, none⟩ = some (.slice (A0 0) (n0 0) (c0 0)) := hj.slot (show 0 < 8 by omega)
    have z2 : w'.cell? ⟨w.heap.size, 2, none⟩ = some (.slice (A0 1) (n0 1) (c0 1)) := hj.slot (show 1 < 8 by omega)
    have z3 : w'.cell? ⟨w.heap.size, 3, none⟩ = some (.slice (A0 2) (n0 2) (c0 2)) := hj.slot (show 2 < 8 by omega)
    have z4 : w'.cell? ⟨w.heap.size, 4, none⟩ = some (.slice (A0 3) (n0 3) (c0 3)) := hj.slot (show 3 < 8 by omega)
    have z5 : w'.cell? ⟨w.heap.size, 5, none⟩ = some (.slice (A0 4) (n0 4) (c0 4)) := hj.slot (show 4 < 8 by omega)
    have z6 : w'.cell? ⟨w.heap.size, 6, none⟩ = some (.slice (A0 5) (n0 5) (c0 5)) := hj.slot (show 5 < 8 by omega)
    have z7 : w'.cell? ⟨w.heap.size, 7, none⟩ = some (.slice (A0 6) (n0 6) (c0 6)) := hj.slot (show 6 < 8 by omega)
    have z8 : w'.cell? ⟨w.heap.size, 8, none⟩ = some (.slice (A0 7) (n0 7) (c0 7)) := hj.slot (show 7 < 8 by omega)
    clear hj hSw hS0
    go_simp
    try (with_reducible rfl)
  case rq1 =>
    simp only [List.getElem_toArray, List.getElem_cons_succ, List.getElem_cons_zero, Act.put, List.setIfInBounds_toArray, List.set_cons_zero, List.set_cons_succ]
    refine wpAnyH_take (i := 2) (oi := _) (v := .agg #[.int .i64 nw, .slice (A0 0) (n0 0) (c0 0), .slice (A0 1) (n0 1) (c0 1), .slice (A0 2) (n0 2) (c0 2), .slice (A0 3) (n0 3) (c0 3), .slice (A0 4) (n0 4) (c0 4), .slice (A0 5) (n0 5) (c0 5), .slice (A0 6) (n0 6) (c0 6), .slice (A0 7) (n0 7) (c0 7)]) rfl (by kernel_rfl) (by kernel_rfl) (by kernel_rfl) (fun _ _ _ h => h) (Or.inl ⟨by kernel_rfl, ?yq2⟩) hS0 ?rq2
    case yq2 =>
      intro w' hSw
      have hj := (HSD.out w' hSw).1
      have z0 : w'.cell? ⟨w.heap.size, 0, none⟩ = some (.int .i64 nw) := hj.now
      have z1 : w'.cell? ⟨w.heap.size, 1, none⟩ = some (.slice (A0 0) (n0 0) (c0 0)) := hj.slot (show 0 < 8 by omega)
      have z2 : w'.cell? ⟨w.heap.size, 2, none⟩ = some (.slice (A0 1) (n0 1) (c0 1)) := hj.slot (show 1 < 8 by omega)
      have z3 : w'.cell? ⟨w.heap.size, 3, none⟩ = some (.slice (A0 2) (n0 2) (c0 2)) := hj.slot (show 2 < 8 by omega)
      have z4 : w'.cell? ⟨w.heap.size, 4, none⟩ = some (.slice (A0 3) (n0 3) (c0 3)) := hj.slot (show 3 < 8 by omega)
      have z5 : w'.cell? ⟨w.heap.size, 5, none⟩ = some (.slice (A0 4) (n0 4) (c0 4)) := hj.slot (show 4 < 8 by omega)
      have z6 : w'.cell? ⟨w.heap.size, 6, none⟩ = some (.slice (A0 5) (n0 5) (c0 5)) := hj.slot (show 5 < 8 by omega)
      have z7 : w'.cell? ⟨w.heap.size, 7, none⟩ = some (.slice (A0 6) (n0 6) (c0 6)) := hj.slot (show 6 < 8 by omega)
      have z8 : w'.cell? ⟨w.heap.size, 8, none⟩ = some (.slice (A0 7) (n0 7) (c0 7)) := hj.slot (show 7 < 8 by omega)
      clear hj hSw hS0
      go_simp
      try (with_reducible rfl)
    case rq2 =>
      simp only [List.getElem_toArray, List.getElem_cons_succ, List.getElem_cons_zero, Act.put, List.setIfInBounds_toArray, List.set_cons_zero, List.set_cons_succ]
      refine wpAnyH_ready (rs := [1]) (by kernel_rfl) (by simp) ?_
      refine AllReadyH.cons (o := _) rfl (fun K hK => ?_) AllReadyH.nil
      go_simp
      (go_at_call 14; refine (right_any _ nw A0 n0 c0 ts (HR.out.below (HW.out.trans ((HX.out _ hS0).mono HW.out.size))) (by omega) HWF.out).mono ?_; rw [HRB.out]; rintro e u1 ⟨rfl, hbu1⟩)
      have su1 : S u1 := HSM.out _ _ hS0 hbu1
      clear hbu1
      go_wp2_with fail
      refine hK.out _ _ su1 (fun hHeld => ?_)
      clear hK K hHeld
      try simp only [List.getElem_toArray, List.getElem_cons_succ, List.getElem_cons_zero, Act.put, List.setIfInBounds_toArray, List.set_cons_zero, List.set_cons_succ]
      refine wpAnyH_ready (rs := [3]) (by kernel_rfl) (by simp) ?_
      refine AllReadyH.cons (o := _) rfl (fun K hK => ?_) AllReadyH.nil
      go_simp
      (go_at_call 18; refine (rright_any _ nw A0 n0 c0 ts (HR.out.below (HW.out.trans ((HX.out _ su1).mono HW.out.size))) (by omega)).mono ?_; rw [HRB.out]; rintro e u2 ⟨rfl, hbu2⟩)
      have su2 : S u2 := HSM.out _ _ su1 hbu2
      clear hbu2
      go_wp2_with fail
      refine hK.out _ _ su2 (fun hHeld => ?_)
      clear hK K hHeld
      try simp only [List.getElem_toArray, List.getElem_cons_succ, List.getElem_cons_zero, Act.put, List.setIfInBounds_toArray, List.set_cons_zero, List.set_cons_succ]
      refine wpAnyH_take (i := 4) (oi := _) (v := .bool true) rfl (by kernel_rfl) (by kernel_rfl) (by kernel_rfl) (fun _ _ _ h => h) (Or.inl ⟨by kernel_rfl, ?yq3⟩) su2 ?rq3
      case yq3 => (intro w' hSw; go_simp; try (with_reducible rfl))
      case rq3 =>
        simp only [List.getElem_toArray, List.getElem_cons_succ, List.getElem_cons_zero, Act.put, List.setIfInBounds_toArray, List.set_cons_zero, List.set_cons_succ]
        refine wpAnyH_take (i := 5) (oi := _) (v := .bool true) rfl (by kernel_rfl) (by kernel_rfl) (by kernel_rfl) (fun _ _ _ h => h) (Or.inl ⟨by kernel_rfl, ?yq4⟩) su2 ?rq4
        case yq4 => (intro w' hSw; go_simp; try (with_reducible rfl))
        case rq4 =>
          simp only [List.getElem_toArray, List.getElem_cons_succ, List.getElem_cons_zero, Act.put, List.setIfInBounds_toArray, List.set_cons_zero, List.set_cons_succ]
          refine wpAnyH_take (i := 6) (oi := _) (v := .agg #[.int .i64 nw, .slice (A1 0) (n1 0) (c1 0), .slice (A1 1) (n1 1) (c1 1), .slice (A1 2) (n1 2) (c1 2), .slice (A1 3) (n1 3) (c1 3), .slice (A1 4) (n1 4) (c1 4), .slice (A1 5) (n1 5) (c1 5), .slice (A1 6) (n1 6) (c1 6), .slice (A1 7) (n1 7) (c1 7)]) rfl (by kernel_rfl) (by kernel_rfl) (by kernel_rfl) (fun _ _ _ h => h) (Or.inl ⟨by kernel_rfl, ?yq5⟩) su2 ?rq5
          case yq5 =>
            intro w' hSw
            have hj := (HSD.out w' hSw).2.1
            have z0 : w'.cell? ⟨b1, 0, none⟩ = some (.int .i64 nw) := hj.now
            have z1 : w'.cell? ⟨b1, 1, none⟩ = some (.slice (A1 0) (n1 0) (c1 0)) := hj.slot (show 0 < 8 by omega)
            have z2 : w'.cell? ⟨b1, 2, none⟩ = some (.slice (A1 1) (n1 1) (c1 1)) := hj.slot (show 1 < 8 by omega)
            have z3 : w'.cell? ⟨b1, 3, none⟩ = some (.slice (A1 2) (n1 2) (c1 2)) := hj.slot (show 2 < 8 by omega)
            have z4 : w'.cell? ⟨b1, 4, none⟩ = some (.slice (A1 3) (n1 3) (c1 3)) := hj.slot (show 3 < 8 by omega)
            have z5 : w'.cell? ⟨b1, 5, none⟩ = some (.slice (A1 4) (n1 4) (c1 4)) := hj.slot (show 4 < 8 by omega)
            have z6 : w'.cell? ⟨b1, 6, none⟩ = some (.slice (A1 5) (n1 5) (c1 5)) := hj.slot (show 5 < 8 by omega)
            have z7 : w'.cell? ⟨b1, 7, none⟩ = some (.slice (A1 6) (n1 6) (c1 6)) := hj.slot (show 6 < 8 by omega)
            have z8 : w'.cell? ⟨b1, 8, none⟩ = some (.slice (A1 7) (n1 7) (c1 7)) := hj.slot (show 7 < 8 by omega)
            clear hj hSw su2
            go_simp
            try (with_reducible rfl)
          case rq5 =>
            simp only [List.getElem_toArray, List.getElem_cons_succ, List.getElem_cons_zero, Act.put, List.setIfInBounds_toArray, List.set_cons_zero, List.set_cons_succ]
            refine wpAnyH_take (i := 7) (oi := _) (v := .agg #[.int .i64 nw, .slice (A2 0) (n2 0) (c2 0), .slice (A2 1) (n2 1) (c2 1), .slice (A2 2) (n2 2) (c2 2), .slice (A2 3) (n2 3) (c2 3), .slice (A2 4) (n2 4) (c2 4), .slice (A2 5) (n2 5) (c2 5), .slice (A2 6) (n2 6) (c2 6), .slice (A2 7) (n2 7) (c2 7)]) rfl (by kernel_rfl) (by kernel_rfl) (by kernel_rfl) (fun _ _ _ h => h) (Or.inl ⟨by kernel_rfl, ?yq6⟩) su2 ?rq6
            case yq6 =>
              intro w' hSw
              have hj := (HSD.out w' hSw).2.2.1
              have z0 : w'.cell? ⟨b2, 0, none⟩ = some (.int .i64 nw) := hj.now
              have z1 : w'.cell? ⟨b2, 1, none⟩ = some (.slice (A2 0) (n2 0) (c2 0)) := hj.slot (show 0 < 8 by omega)
              have z2 : w'.cell? ⟨b2, 2, none⟩ = some (.slice (A2 1) (n2 1) (c2 1)) := hj.slot (show 1 < 8 by omega)
              have z3 : w'.cell? ⟨b2, 3, none⟩ = some (.slice (A2 2) (n2 2) (c2 2)) := hj.slot (show 2 < 8 by omega)
              have z4 : w'.cell? ⟨b2, 4, none⟩ = some (.slice (A2 3) (n2 3) (c2 3)) := hj.slot (show 3 < 8 by omega)
              have z5 : w'.cell? ⟨b2, 5, none⟩ = some (.slice (A2 4) (n2 4) (c2 4)) := hj.slot (show 4 < 8 by omega)
              have z6 : w'.cell? ⟨b2, 6, none⟩ = some (.slice (A2 5) (n2 5) (c2 5)) := hj.slot (show 5 < 8 by omega)
              have z7 : w'.cell? ⟨b2, 7, none⟩ = some (.slice (A2 6) (n2 6) (c2 6)) := hj.slot (show 6 < 8 by omega)
              have z8 : w'.cell? ⟨b2, 8, none⟩ = some (.slice (A2 7) (n2 7) (c2 7)) := hj.slot (show 7 < 8 by omega)
              clear hj hSw su2
              go_simp
              try (with_reducible rfl)
            case rq6 =>
              simp only [List.getElem_toArray, List.getElem_cons_succ, List.getElem_cons_zero, Act.put, List.setIfInBounds_toArray, List.set_cons_zero, List.set_cons_succ]
              refine wpAnyH_ready (rs := [8]) (by kernel_rfl) (by simp) ?_
              refine AllReadyH.cons (o := _) rfl (fun K hK => ?_) AllReadyH.nil
              go_simp
              (go_at_call 19; refine (same_any _ nw A1 A2 n1 c1 n2 c2 sT (HO1.out.below (HX.out _ su2)) (HO2.out.below (HX.out _ su2))).mono ?_; rintro e vp0 ⟨rfl, hbvp0⟩)
              have svp0 : S vp0 := HSM.out _ _ su2 hbvp0
              clear hbvp0
              go_wp2_with fail
              refine hK.out _ _ svp0 (fun hHeld => ?_)
              clear hK K hHeld
              try simp only [List.getElem_toArray, List.getElem_cons_succ, List.getElem_cons_zero, Act.put, List.setIfInBounds_toArray, List.set_cons_zero, List.set_cons_succ]
              refine wpAnyH_take (i := 9) (oi := _) (v := .bool true) rfl (by kernel_rfl) (by kernel_rfl) (by kernel_rfl) (fun _ _ _ h => h) (Or.inl ⟨by kernel_rfl, ?yq7⟩) svp0 ?rq7
              case yq7 => (intro w' hSw; go_simp; try (with_reducible rfl))
              case rq7 =>
                simp only [List.getElem_toArray, List.getElem_cons_succ, List.getElem_cons_zero, Act.put, List.setIfInBounds_toArray, List.set_cons_zero, List.set_cons_succ]
                refine wpAnyH_take (i := 10) (oi := _) (v := .bool true) rfl (by kernel_rfl) (by kernel_rfl) (by kernel_rfl) (fun _ _ _ h => h) (Or.inl ⟨by kernel_rfl, ?yq8⟩) svp0 ?rq8
                case yq8 => (intro w' hSw; go_simp; try (with_reducible rfl))
                case rq8 =>
                  simp only [List.getElem_toArray, List.getElem_cons_succ, List.getElem_cons_zero, Act.put, List.setIfInBounds_toArray, List.set_cons_zero, List.set_cons_succ]
                  refine wpAnyH_take (i := 11) (oi := _) (v := .int .i64 (sE : Int)) rfl (by kernel_rfl) (by kernel_rfl) (by kernel_rfl) (fun _ _ _ h => h) (Or.inl ⟨by kernel_rfl, ?yq9⟩) svp0 ?rq9
                  case yq9 => (intro w' hSw; go_simp; try (with_reducible rfl))
                  case rq9 =>
                    simp only [List.getElem_toArray, List.getElem_cons_succ, List.getElem_cons_zero, Act.put, List.setIfInBounds_toArray, List.set_cons_zero, List.set_cons_succ]
                    refine wpAnyH_take (i := 12) (oi := _) (v := .int .i64 (sE : Int)) rfl (by kernel_rfl) (by kernel_rfl) (by kernel_rfl) (fun _ _ _ h => h) (Or.inl ⟨by kernel_rfl, ?yq10⟩) svp0 ?rq10
                    case yq10 => (intro w' hSw; go_simp; try (with_reducible rfl))
                    case rq10 =>
                      simp only [List.getElem_toArray, List.getElem_cons_succ, List.getElem_cons_zero, Act.put, List.setIfInBounds_toArray, List.set_cons_zero, List.set_cons_succ]
                      refine wpAnyH_take (i := 13) (oi := _) (v := .bool true) rfl (by kernel_rfl) (by kernel_rfl) (by kernel_rfl) (fun _ _ _ h => h) (Or.inl ⟨by kernel_rfl, ?yq11⟩) svp0 ?rq11
                      case yq11 => (intro w' hSw; go_simp; try (with_reducible rfl))
                      case rq11 =>
                        simp only [List.getElem_toArray, List.getElem_cons_succ, List.getElem_cons_zero, Act.put, List.setIfInBounds_toArray, List.set_cons_zero, List.set_cons_succ]
                        refine wpAnyH_take (i := 14) (oi := _) (v := .bool true) rfl (by kernel_rfl) (by kernel_rfl) (by kernel_rfl) (fun _ _ _ h => h) (Or.inl ⟨by kernel_rfl, ?yq12⟩) svp0 ?rq12
                        case yq12 => (intro w' hSw; go_simp; try (with_reducible rfl))
                        case rq12 =>
                          simp only [List.getElem_toArray, List.getElem_cons_succ, List.getElem_cons_zero, Act.put, List.setIfInBounds_toArray, List.set_cons_zero, List.set_cons_succ]
                          refine wpAnyH_take (i := 15) (oi := _) (v := .bool true) rfl (by kernel_rfl) (by kernel_rfl) (by kernel_rfl) (fun _ _ _ h => h) (Or.inl ⟨by kernel_rfl, ?yq13⟩) svp0 ?rq13
                          case yq13 => (intro w' hSw; go_simp; try (with_reducible rfl))
                          case rq13 =>
                            simp only [List.getElem_toArray, List.getElem_cons_succ, List.getElem_cons_zero, Act.put, List.setIfInBounds_toArray, List.set_cons_zero, List.set_cons_succ]
                            refine wpAnyH_take (i := 16) (oi := _) (v := .agg #[.int .i64 nw, .slice (A3 0) (n3 0) (c3 0), .slice (A3 1) (n3 1) (c3 1), .slice (A3 2) (n3 2) (c3 2), .slice (A3 3) (n3 3) (c3 3), .slice (A3 4) (n3 4) (c3 4), .slice (A3 5) (n3 5) (c3 5), .slice (A3 6) (n3 6) (c3 6), .slice (A3 7) (n3 7) (c3 7)]) rfl (by kernel_rfl) (by kernel_rfl) (by kernel_rfl) (fun _ _ _ h => h) (Or.inl ⟨by kernel_rfl, ?yq14⟩) svp0 ?rq14
                            case yq14 =>
                              intro w' hSw
                              have hj := (HSD.out w' hSw).2.2.2.1
                              have z0 : w'.cell? ⟨b3, 0, none⟩ = some (.int .i64 nw) := hj.now
                              have z1 : w'.cell? ⟨b3, 1, none⟩ = some (.slice (A3 0) (n3 0) (c3 0)) := hj.slot (show 0 < 8 by omega)
                              have z2 : w'.cell? ⟨b3, 2, none⟩ = some (.slice (A3 1) (n3 1) (c3 1)) := hj.slot (show 1 < 8 by omega)
                              have z3 : w'.cell? ⟨b3, 3, none⟩ = some (.slice (A3 2) (n3 2) (c3 2)) := hj.slot (show 2 < 8 by omega)
                              have z4 : w'.cell? ⟨b3, 4, none⟩ = some (.slice (A3 3) (n3 3) (c3 3)) := hj.slot (show 3 < 8 by omega)
                              have z5 : w'.cell? ⟨b3, 5, none⟩ = some (.slice (A3 4) (n3 4) (c3 4)) := hj.slot (show 4 < 8 by omega)
                              have z6 : w'.cell? ⟨b3, 6, none⟩ = some (.slice (A3 5) (n3 5) (c3 5)) := hj.slot (show 5 < 8 by omega)
                              have z7 : w'.cell? ⟨b3, 7, none⟩ = some (.slice (A3 6) (n3 6) (c3 6)) := hj.slot (show 6 < 8 by omega)
                              have z8 : w'.cell? ⟨b3, 8, none⟩ = some (.slice (A3 7) (n3 7) (c3 7)) := hj.slot (show 7 < 8 by omega)
                              clear hj hSw svp0
                              go_simp
                              try (with_reducible rfl)
                            case rq14 =>
                              simp only [List.getElem_toArray, List.getElem_cons_succ, List.getElem_cons_zero, Act.put, List.setIfInBounds_toArray, List.set_cons_zero, List.set_cons_succ]
                              refine wpAnyH_take (i := 17) (oi := _) (v := .agg #[.int .i64 nw, .slice (A4 0) (n4 0) (c4 0), .slice (A4 1) (n4 1) (c4 1), .slice (A4 2) (n4 2) (c4 2), .slice (A4 3) (n4 3) (c4 3), .slice (A4 4) (n4 4) (c4 4), .slice (A4 5) (n4 5) (c4 5), .slice (A4 6) (n4 6) (c4 6), .slice (A4 7) (n4 7) (c4 7)]) rfl (by kernel_rfl) (by kernel_rfl) (by kernel_rfl) (fun _ _ _ h => h) (Or.inl ⟨by kernel_rfl, ?yq15⟩) svp0 ?rq15
                              case yq15 =>
                                intro w' hSw
                                have hj := (HSD.out w' hSw).2.2.2.2.1
                                have z0 : w'.cell? ⟨b4, 0, none⟩ = some (.int .i64 nw) := hj.now
                                have z1 : w'.cell? ⟨b4, 1, none⟩ = some (.slice (A4 0) (n4 0) (c4 0)) := hj.slot (show 0 < 8 by omega)
                                have z2 : w'.cell? ⟨b4, 2, none⟩ = some (.slice (A4 1) (n4 1) (c4 1)) := hj.slot (show 1 < 8 by omega)
                                have z3 : w'.cell? ⟨b4, 3, none⟩ = some (.slice (A4 2) (n4 2) (c4 2)) := hj.slot (show 2 < 8 by omega)
                                have z4 : w'.cell? ⟨b4, 4, none⟩ = some (.slice (A4 3) (n4 3) (c4 3)) := hj.slot (show 3 < 8 by omega)
                                have z5 : w'.cell? ⟨b4, 5, none⟩ = some (.slice (A4 4) (n4 4) (c4 4)) := hj.slot (show 4 < 8 by omega)
                                have z6 : w'.cell? ⟨b4, 6, none⟩ = some (.slice (A4 5) (n4 5) (c4 5)) := hj.slot (show 5 < 8 by omega)
                                have z7 : w'.cell? ⟨b4, 7, none⟩ = some (.slice (A4 6) (n4 6) (c4 6)) := hj.slot (show 6 < 8 by omega)
                                have z8 : w'.cell? ⟨b4, 8, none⟩ = some (.slice (A4 7) (n4 7) (c4 7)) := hj.slot (show 7 < 8 by omega)
                                clear hj hSw svp0
                                go_simp
                                try (with_reducible rfl)
                              case rq15 =>
                                simp only [List.getElem_toArray, List.getElem_cons_succ, List.getElem_cons_zero, Act.put, List.setIfInBounds_toArray, List.set_cons_zero, List.set_cons_succ]
                                refine wpAnyH_ready (rs := [18]) (by kernel_rfl) (by simp) ?_
                                refine AllReadyH.cons (o := _) rfl (fun K hK => ?_) AllReadyH.nil
                                go_simp
                                (go_at_call 19; refine (same_any _ nw A3 A4 n3 c3 n4 c4 cT (HO3.out.below (HX.out _ svp0)) (HO4.out.below (HX.out _ svp0))).mono ?_; rintro e vp1 ⟨rfl, hbvp1⟩)
                                have svp1 : S vp1 := HSM.out _ _ svp0 hbvp1
                                clear hbvp1
                                go_wp2_with fail
                                refine hK.out _ _ svp1 (fun hHeld => ?_)
                                clear hK K hHeld
                                try simp only [List.getElem_toArray, List.getElem_cons_succ, List.getElem_cons_zero, Act.put, List.setIfInBounds_toArray, List.set_cons_zero, List.set_cons_succ]
                                refine wpAnyH_take (i := 19) (oi := _) (v := .bool true) rfl (by kernel_rfl) (by kernel_rfl) (by kernel_rfl) (fun _ _ _ h => h) (Or.inl ⟨by kernel_rfl, ?yq16⟩) svp1 ?rq16
                                case yq16 => (intro w' hSw; go_simp; try (with_reducible rfl))
                                case rq16 =>
                                  simp only [List.getElem_toArray, List.getElem_cons_succ, List.getElem_cons_zero, Act.put, List.setIfInBounds_toArray, List.set_cons_zero, List.set_cons_succ]
                                  refine wpAnyH_take (i := 20) (oi := _) (v := .bool true) rfl (by kernel_rfl) (by kernel_rfl) (by kernel_rfl) (fun _ _ _ h => h) (Or.inl ⟨by kernel_rfl, ?yq17⟩) svp1 ?rq17
                                  case yq17 => (intro w' hSw; go_simp; try (with_reducible rfl))
                                  case rq17 =>
                                    simp only [List.getElem_toArray, List.getElem_cons_succ, List.getElem_cons_zero, Act.put, List.setIfInBounds_toArray, List.set_cons_zero, List.set_cons_succ]
                                    refine wpAnyH_take (i := 21) (oi := _) (v := .int .i64 (cE : Int)) rfl (by kernel_rfl) (by kernel_rfl) (by kernel_rfl) (fun _ _ _ h => h) (Or.inl ⟨by kernel_rfl, ?yq18⟩) svp1 ?rq18
                                    case yq18 => (intro w' hSw; go_simp; try (with_reducible rfl))
                                    case rq18 =>
                                      simp only [List.getElem_toArray, List.getElem_cons_succ, List.getElem_cons_zero, Act.put, List.setIfInBounds_toArray, List.set_cons_zero, List.set_cons_succ]
                                      refine wpAnyH_take (i := 22) (oi := _) (v := .int .i64 (cE : Int)) rfl (by kernel_rfl) (by kernel_rfl) (by kernel_rfl) (fun _ _ _ h => h) (Or.inl ⟨by kernel_rfl, ?yq19⟩) svp1 ?rq19
                                      case yq19 => (intro w' hSw; go_simp; try (with_reducible rfl))
                                      case rq19 =>
                                        simp only [List.getElem_toArray, List.getElem_cons_succ, List.getElem_cons_zero, Act.put, List.setIfInBounds_toArray, List.set_cons_zero, List.set_cons_succ]
                                        refine wpAnyH_take (i := 23) (oi := _) (v := .bool true) rfl (by kernel_rfl) (by kernel_rfl) (by kernel_rfl) (fun _ _ _ h => h) (Or.inl ⟨by kernel_rfl, ?yq20⟩) svp1 ?rq20
                                        case yq20 => (intro w' hSw; go_simp; try (with_reducible rfl))
                                        case rq20 =>
                                          simp only [List.getElem_toArray, List.getElem_cons_succ, List.getElem_cons_zero, Act.put, List.setIfInBounds_toArray, List.set_cons_zero, List.set_cons_succ]
                                          refine wpAnyH_take (i := 24) (oi := _) (v := .bool true) rfl (by kernel_rfl) (by kernel_rfl) (by kernel_rfl) (fun _ _ _ h => h) (Or.inl ⟨by kernel_rfl, ?yq21⟩) svp1 ?rq21
                                          case yq21 => (intro w' hSw; go_simp; try (with_reducible rfl))
                                          case rq21 =>
                                            simp only [List.getElem_toArray, List.getElem_cons_succ, List.getElem_cons_zero, Act.put, List.setIfInBounds_toArray, List.set_cons_zero, List.set_cons_succ]
                                            refine wpAnyH_take (i := 25) (oi := _) (v := .bool true) rfl (by kernel_rfl) (by kernel_rfl) (by kernel_rfl) (fun _ _ _ h => h) (Or.inl ⟨by kernel_rfl, ?yq22⟩) svp1 ?rq22
                                            case yq22 => (intro w' hSw; go_simp; try (with_reducible rfl))
                                            case rq22 =>
                                              simp only [List.getElem_toArray, List.getElem_cons_succ, List.getElem_cons_zero, Act.put, List.setIfInBounds_toArray, List.set_cons_zero, List.set_cons_succ]
                                              refine wpAnyH_take (i := 26) (oi := _) (v := .agg #[.int .i64 tw, .slice (A5 0) (n5 0) (c5 0), .slice (A5 1) (n5 1) (c5 1), .slice (A5 2) (n5 2) (c5 2), .slice (A5 3) (n5 3) (c5 3), .slice (A5 4) (n5 4) (c5 4), .slice (A5 5) (n5 5) (c5 5), .slice (A5 6) (n5 6) (c5 6), .slice (A5 7) (n5 7) (c5 7)]) rfl (by kernel_rfl) (by kernel_rfl) (by kernel_rfl) (fun _ _ _ h => h) (Or.inl ⟨by kernel_rfl, ?yq23⟩) svp1 ?rq23
                                              case yq23 =>
                                                intro w' hSw
                                                have hj := (HSD.out w' hSw).2.2.2.2.2.1
                                                have z0 : w'.cell? ⟨b5, 0, none⟩ = some (.int .i64 tw) := hj.now
                                                have z1 : w'.cell? ⟨b5, 1, none⟩ = some (.slice (A5 0) (n5 0) (c5 0)) := hj.slot (show 0 < 8 by omega)
                                                have z2 : w'.cell? ⟨b5, 2, none⟩ = some (.slice (A5 1) (n5 1) (c5 1)) := hj.slot (show 1 < 8 by omega)
                                                have z3 : w'.cell? ⟨b5, 3, none⟩ = some (.slice (A5 2) (n5 2) (c5 2)) := hj.slot (show 2 < 8 by omega)
                                                have z4 : w'.cell? ⟨b5, 4, none⟩ = some (.slice (A5 3) (n5 3) (c5 3)) := hj.slot (show 3 < 8 by omega)
                                                have z5 : w'.cell? ⟨b5, 5, none⟩ = some (.slice (A5 4) (n5 4) (c5 4)) := hj.slot (show 4 < 8 by omega)
                                                have z6 : w'.cell? ⟨b5, 6, none⟩ = some (.slice (A5 5) (n5 5) (c5 5)) := hj.slot (show 5 < 8 by omega)
                                                have z7 : w'.cell? ⟨b5, 7, none⟩ = some (.slice (A5 6) (n5 6) (c5 6)) := hj.slot (show 6 < 8 by omega)
                                                have z8 : w'.cell? ⟨b5, 8, none⟩ = some (.slice (A5 7) (n5 7) (c5 7)) := hj.slot (show 7 < 8 by omega)
                                                clear hj hSw svp1
                                                go_simp
                                                try (with_reducible rfl)
                                              case rq23 =>
                                                simp only [List.getElem_toArray, List.getElem_cons_succ, List.getElem_cons_zero, Act.put, List.setIfInBounds_toArray, List.set_cons_zero, List.set_cons_succ]
                                                refine wpAnyH_take (i := 27) (oi := _) (v := .agg #[.int .i64 tw, .slice (A6 0) (n6 0) (c6 0), .slice (A6 1) (n6 1) (c6 1), .slice (A6 2) (n6 2) (c6 2), .slice (A6 3) (n6 3) (c6 3), .slice (A6 4) (n6 4) (c6 4), .slice (A6 5) (n6 5) (c6 5), .slice (A6 6) (n6 6) (c6 6), .slice (A6 7) (n6 7) (c6 7)]) rfl (by kernel_rfl) (by kernel_rfl) (by kernel_rfl) (fun _ _ _ h => h) (Or.inl ⟨by kernel_rfl, ?yq24⟩) svp1 ?rq24
                                                case yq24 =>
                                                  intro w' hSw
                                                  have hj := (HSD.out w' hSw).2.2.2.2.2.2.1
                                                  have z0 : w'.cell? ⟨b6, 0, none⟩ = some (.int .i64 tw) := hj.now
                                                  have z1 : w'.cell? ⟨b6, 1, none⟩ = some (.slice (A6 0) (n6 0) (c6 0)) := hj.slot (show 0 < 8 by omega)
                                                  have z2 : w'.cell? ⟨b6, 2, none⟩ = some (.slice (A6 1) (n6 1) (c6 1)) := hj.slot (show 1 < 8 by omega)
                                                  have z3 : w'.cell? ⟨b6, 3, none⟩ = some (.slice (A6 2) (n6 2) (c6 2)) := hj.slot (show 2 < 8 by omega)
                                                  have z4 : w'.cell? ⟨b6, 4, none⟩ = some (.slice (A6 3) (n6 3) (c6 3)) := hj.slot (show 3 < 8 by omega)
                                                  have z5 : w'.cell? ⟨b6, 5, none⟩ = some (.slice (A6 4) (n6 4) (c6 4)) := hj.slot (show 4 < 8 by omega)
                                                  have z6 : w'.cell? ⟨b6, 6, none⟩ = some (.slice (A6 5) (n6 5) (c6 5)) := hj.slot (show 5 < 8 by omega)
                                                  have z7 : w'.cell? ⟨b6, 7, none⟩ = some (.slice (A6 6) (n6 6) (c6 6)) := hj.slot (show 6 < 8 by omega)
                                                  have z8 : w'.cell? ⟨b6, 8, none⟩ = some (.slice (A6 7) (n6 7) (c6 7)) := hj.slot (show 7 < 8 by omega)
                                                  clear hj hSw svp1
                                                  go_simp
                                                  try (with_reducible rfl)
                                                case rq24 =>
                                                  simp only [List.getElem_toArray, List.getElem_cons_succ, List.getElem_cons_zero, Act.put, List.setIfInBounds_toArray, List.set_cons_zero, List.set_cons_succ]
                                                  refine wpAnyH_ready (rs := [28]) (by kernel_rfl) (by simp) ?_
                                                  refine AllReadyH.cons (o := _) rfl (fun K hK => ?_) AllReadyH.nil
                                                  go_simp
                                                  (go_at_call 19; refine (same_any _ tw A5 A6 n5 c5 n6 c6 tT (HO5.out.below (HX.out _ svp1)) (HO6.out.below (HX.out _ svp1))).mono ?_; rintro e vp2 ⟨rfl, hbvp2⟩)
                                                  have svp2 : S vp2 := HSM.out _ _ svp1 hbvp2
                                                  clear hbvp2
                                                  go_wp2_with fail
                                                  refine hK.out _ _ svp2 (fun hHeld => ?_)
                                                  clear hK K hHeld
                                                  try simp only [List.getElem_toArray, List.getElem_cons_succ, List.getElem_cons_zero, Act.put, List.setIfInBounds_toArray, List.set_cons_zero, List.set_cons_succ]
                                                  refine wpAnyH_take (i := 29) (oi := _) (v := .bool true) rfl (by kernel_rfl) (by kernel_rfl) (by kernel_rfl) (fun _ _ _ h => h) (Or.inl ⟨by kernel_rfl, ?yq25⟩) svp2 ?rq25
                                                  case yq25 => (intro w' hSw; go_simp; try (with_reducible rfl))
                                                  case rq25 =>
                                                    simp only [List.getElem_toArray, List.getElem_cons_succ, List.getElem_cons_zero, Act.put, List.setIfInBounds_toArray, List.set_cons_zero, List.set_cons_succ]
                                                    refine wpAnyH_take (i := 30) (oi := _) (v := .bool true) rfl (by kernel_rfl) (by kernel_rfl) (by kernel_rfl) (fun _ _ _ h => h) (Or.inl ⟨by kernel_rfl, ?yq26⟩) svp2 ?rq26
                                                    case yq26 => (intro w' hSw; go_simp; try (with_reducible rfl))
                                                    case rq26 =>
                                                      simp only [List.getElem_toArray, List.getElem_cons_succ, List.getElem_cons_zero, Act.put, List.setIfInBounds_toArray, List.set_cons_zero, List.set_cons_succ]
                                                      refine wpAnyH_take (i := 31) (oi := _) (v := .slice F5 f5 g5) rfl (by kernel_rfl) (by kernel_rfl) (by kernel_rfl) (fun _ _ _ h => h) (Or.inl ⟨by kernel_rfl, ?yq27⟩) svp2 ?rq27
                                                      case yq27 => (intro w' hSw; go_simp; try (with_reducible rfl))
                                                      case rq27 =>
                                                        simp only [List.getElem_toArray, List.getElem_cons_succ, List.getElem_cons_zero, Act.put, List.setIfInBounds_toArray, List.set_cons_zero, List.set_cons_succ]
                                                        refine wpAnyH_take (i := 32) (oi := _) (v := .slice F6 f6 g6) rfl (by kernel_rfl) (by kernel_rfl) (by kernel_rfl) (fun _ _ _ h => h) (Or.inl ⟨by kernel_rfl, ?yq28⟩) svp2 ?rq28
                                                        case yq28 => (intro w' hSw; go_simp; try (with_reducible rfl))
                                                        case rq28 =>
                                                          simp only [List.getElem_toArray, List.getElem_cons_succ, List.getElem_cons_zero, Act.put, List.setIfInBounds_toArray, List.set_cons_zero, List.set_cons_succ]
                                                          refine wpAnyH_ready (rs := [33]) (by kernel_rfl) (by simp) ?_
                                                          refine AllReadyH.cons (o := _) rfl (fun K hK => ?_) AllReadyH.nil
                                                          go_simp
                                                          (go_at_call 20; refine (ints_any _ F5 F6 f5 g5 f6 g6 tF (HF5.out.below (HX.out _ svp2)) (HF6.out.below (HX.out _ svp2))).mono ?_; rintro e vp9 ⟨rfl, hbvp9⟩)
                                                          have svp9 : S vp9 := HSM.out _ _ svp2 hbvp9
                                                          clear hbvp9
                                                          go_wp2_with fail
                                                          refine hK.out _ _ svp9 (fun hHeld => ?_)
                                                          clear hK K hHeld
                                                          try simp only [List.getElem_toArray, List.getElem_cons_succ, List.getElem_cons_zero, Act.put, List.setIfInBounds_toArray, List.set_cons_zero, List.set_cons_succ]
                                                          refine wpAnyH_take (i := 34) (oi := _) (v := .bool true) rfl (by kernel_rfl) (by kernel_rfl) (by kernel_rfl) (fun _ _ _ h => h) (Or.inl ⟨by kernel_rfl, ?yq29⟩) svp9 ?rq29
                                                          case yq29 => (intro w' hSw; go_simp; try (with_reducible rfl))
                                                          case rq29 =>
                                                            simp only [List.getElem_toArray, List.getElem_cons_succ, List.getElem_cons_zero, Act.put, List.setIfInBounds_toArray, List.set_cons_zero, List.set_cons_succ]
                                                            refine wpAnyH_take (i := 35) (oi := _) (v := .bool true) rfl (by kernel_rfl) (by kernel_rfl) (by kernel_rfl) (fun _ _ _ h => h) (Or.inl ⟨by kernel_rfl, ?yq30⟩) svp9 ?rq30
                                                            case yq30 => (intro w' hSw; go_simp; try (with_reducible rfl))
                                                            case rq30 =>
                                                              simp only [List.getElem_toArray, List.getElem_cons_succ, List.getElem_cons_zero, Act.put, List.setIfInBounds_toArray, List.set_cons_zero, List.set_cons_succ]
                                                              refine wpAnyH_take (i := 36) (oi := _) (v := .int .i64 (tE : Int)) rfl (by kernel_rfl) (by kernel_rfl) (by kernel_rfl) (fun _ _ _ h => h) (Or.inl ⟨by kernel_rfl, ?yq31⟩) svp9 ?rq31
                                                              case yq31 => (intro w' hSw; go_simp; try (with_reducible rfl))
                                                              case rq31 =>
                                                                simp only [List.getElem_toArray, List.getElem_cons_succ, List.getElem_cons_zero, Act.put, List.setIfInBounds_toArray, List.set_cons_zero, List.set_cons_succ]
                                                                refine wpAnyH_take (i := 37) (oi := _) (v := .int .i64 (tE : Int)) rfl (by kernel_rfl) (by kernel_rfl) (by kernel_rfl) (fun _ _ _ h => h) (Or.inl ⟨by kernel_rfl, ?yq32⟩) svp9 ?rq32
                                                                case yq32 => (intro w' hSw; go_simp; try (with_reducible rfl))
                                                                case rq32 =>
                                                                  simp only [List.getElem_toArray, List.getElem_cons_succ, List.getElem_cons_zero, Act.put, List.setIfInBounds_toArray, List.set_cons_zero, List.set_cons_succ]
                                                                  refine wpAnyH_take (i := 38) (oi := _) (v := .bool true) rfl (by kernel_rfl) (by kernel_rfl) (by kernel_rfl) (fun _ _ _ h => h) (Or.inl ⟨by kernel_rfl, ?yq33⟩) svp9 ?rq33
                                                                  case yq33 => (intro w' hSw; go_simp; try (with_reducible rfl))
                                                                  case rq33 =>
                                                                    simp only [List.getElem_toArray, List.getElem_cons_succ, List.getElem_cons_zero, Act.put, List.setIfInBounds_toArray, List.set_cons_zero, List.set_cons_succ]
                                                                    refine wpAnyH_take (i := 39) (oi := _) (v := .bool true) rfl (by kernel_rfl) (by kernel_rfl) (by kernel_rfl) (fun _ _ _ h => h) (Or.inl ⟨by kernel_rfl, ?yq34⟩) svp9 ?rq34
                                                                    case yq34 => (intro w' hSw; go_simp; try (with_reducible rfl))
                                                                    case rq34 =>
                                                                      simp only [List.getElem_toArray, List.getElem_cons_succ, List.getElem_cons_zero, Act.put, List.setIfInBounds_toArray, List.set_cons_zero, List.set_cons_succ]
                                                                      refine wpAnyH_take (i := 40) (oi := _) (v := .bool true) rfl (by kernel_rfl) (by kernel_rfl) (by kernel_rfl) (fun _ _ _ h => h) (Or.inl ⟨by kernel_rfl, ?yq35⟩) svp9 ?rq35
                                                                      case yq35 => (intro w' hSw; go_simp; try (with_reducible rfl))
                                                                      case rq35 =>
                                                                        simp only [List.getElem_toArray, List.getElem_cons_succ, List.getElem_cons_zero, Act.put, List.setIfInBounds_toArray, List.set_cons_zero, List.set_cons_succ]
                                                                        refine wpAnyH_done (by kernel_rfl) ?_ _
                                                                        go_wp2_with fail
                                                                        go_ret
                                                                        exact ⟨by simp, HW.out.trans ((HX.out _ svp9).mono HW.out.size)⟩
end Go.Proofs.Ytnlgmfkgpaampaa
