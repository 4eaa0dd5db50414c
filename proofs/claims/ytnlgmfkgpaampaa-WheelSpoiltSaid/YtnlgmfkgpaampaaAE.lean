/- lockagelaw04.awake. -/
import Derived.Test.YtnlgmfkgpaampaaAD
set_option linter.unusedVariables false
set_option linter.unusedSimpArgs false
namespace Go.Proofs.Ytnlgmfkgpaampaa
open Go.RowKit
open Go.Proofs.YtnlgmfkgpaampaaW.PrintWords

theorem BoxW.sets {w2 : World} {bx : Nat} {nw mw : Int} {S : Nat → Value} {A : Nat → Option Addr} {n c : Nat → Nat} (hb : BoxW w2 bx nw S) : BoxW (((((((((w2.setCell ⟨bx, 0, none⟩ (.int .i64 mw)).setCell ⟨bx, 1, none⟩ (.slice (A 0) (n 0) (c 0))).setCell ⟨bx, 2, none⟩ (.slice (A 1) (n 1) (c 1))).setCell ⟨bx, 3, none⟩ (.slice (A 2) (n 2) (c 2))).setCell ⟨bx, 4, none⟩ (.slice (A 3) (n 3) (c 3))).setCell ⟨bx, 5, none⟩ (.slice (A 4) (n 4) (c 4))).setCell ⟨bx, 6, none⟩ (.slice (A 5) (n 5) (c 5))).setCell ⟨bx, 7, none⟩ (.slice (A 6) (n 6) (c 6))).setCell ⟨bx, 8, none⟩ (.slice (A 7) (n 7) (c 7))) bx mw (fun i => .slice (A i) (n i) (c i)) := by
  have h9 := (((((((((hb.setNow mw).set (show 0 < 8 by omega) (.slice (A 0) (n 0) (c 0))).set (show 1 < 8 by omega) (.slice (A 1) (n 1) (c 1))).set (show 2 < 8 by omega) (.slice (A 2) (n 2) (c 2))).set (show 3 < 8 by omega) (.slice (A 3) (n 3) (c 3))).set (show 4 < 8 by omega) (.slice (A 4) (n 4) (c 4))).set (show 5 < 8 by omega) (.slice (A 5) (n 5) (c 5))).set (show 6 < 8 by omega) (.slice (A 6) (n 6) (c 6))).set (show 7 < 8 by omega) (.slice (A 7) (n 7) (c 7)))
  refine h9.congr fun i hi => ?_
  obtain rfl | rfl | rfl | rfl | rfl | rfl | rfl | rfl : i = 0 ∨ i = 1 ∨ i = 2 ∨ i = 3 ∨ i = 4 ∨ i = 5 ∨ i = 6 ∨ i = 7 := by omega
  all_goals simp
theorem WhO.sets {w2 : World} {bx base : Nat} {nw mw : Int} {S : Nat → Value} {A : Nat → Option Addr} {n c : Nat → Nat} {ts : Nat → List Tm} (hb : BoxW w2 bx nw S) (hO : WhO w2 base A n c ts) : WhO (((((((((w2.setCell ⟨bx, 0, none⟩ (.int .i64 mw)).setCell ⟨bx, 1, none⟩ (.slice (A 0) (n 0) (c 0))).setCell ⟨bx, 2, none⟩ (.slice (A 1) (n 1) (c 1))).setCell ⟨bx, 3, none⟩ (.slice (A 2) (n 2) (c 2))).setCell ⟨bx, 4, none⟩ (.slice (A 3) (n 3) (c 3))).setCell ⟨bx, 5, none⟩ (.slice (A 4) (n 4) (c 4))).setCell ⟨bx, 6, none⟩ (.slice (A 5) (n 5) (c 5))).setCell ⟨bx, 7, none⟩ (.slice (A 6) (n 6) (c 6))).setCell ⟨bx, 8, none⟩ (.slice (A 7) (n 7) (c 7))) base A n c ts := by
  have nb : ∀ i, i < 8 → ∀ k, (Value.slice (A i) (n i) (c i)).ownBlock = some k → k ≠ bx := by
    intro i hi k hk
    rintro rfl
    exact hb.ne (hO.o i hi) hk.symm
  exact ⟨fun i hi => (((((((((hO.o i hi).far (nb i hi) _).far (nb i hi) _).far (nb i hi) _).far (nb i hi) _).far (nb i hi) _).far (nb i hi) _).far (nb i hi) _).far (nb i hi) _).far (nb i hi) _, hO.ne⟩
theorem tot_of {w : World} {A : Nat → Option Addr} {n c : Nat → Nat} {ts : Nat → List Tm} (h : WhR w A n c ts) : tot n 8 = (allT ts 8).length := (allT_len h.len 8 (Nat.le_refl _)).symm

set_option maxRecDepth 4000 in
set_option maxHeartbeats 16000000 in
theorem awake_any (w : World) : Calls Try.prog 7 #[] w fun e w' => e = .returned (.bool true) ∧ Below w.heap.size w w' := by
  have hz : WhR w (fun _ => none) (fun _ => 0) (fun _ => 0) e0 := fun i hi => RdE.nil _ _ _
  have HZ := Lib.hid hz
  clear hz
  go_enter Try.func7, Try.ntmps7
  go_upto_region 2 with (go_at_call 13; refine (set_any w 0 (fun _ => none) (fun _ => 0) (fun _ => 0) e0 7 2 HZ.out (by decide) (by simp [e0])).mono ?_; unfold WePost; rw [aw1.1, aw1.2]; rintro e v ⟨A1, n1, c1, rfl, hO, hb⟩; have HW := Lib.hid hb; have hO1 := hO; clear hb hO)
  have hal : Below v.heap.size v (v.alloc (.cells #[.int .i64 0, .slice (A1 0) (n1 0) (c1 0), .slice (A1 1) (n1 1) (c1 1), .slice (A1 2) (n1 2) (c1 2), .slice (A1 3) (n1 3) (c1 3), .slice (A1 4) (n1 4) (c1 4), .slice (A1 5) (n1 5) (c1 5), .slice (A1 6) (n1 6) (c1 6), .slice (A1 7) (n1 7) (c1 7)] 25)) := (Below.refl _ _).alloc (Nat.le_refl _) _
  have HB1 := Lib.hid (BoxW.alloc v 0 (fun i => .slice (A1 i) (n1 i) (c1 i)))
  have HO1 := Lib.hid (hO1.rd.below hal)
  have hb1w : w.heap.size ≤ v.heap.size := HW.out.size
  replace HW := Lib.hid (HW.out.trans (hal.mono HW.out.size))
  clear hal hO1
  generalize v.alloc (.cells #[.int .i64 0, .slice (A1 0) (n1 0) (c1 0), .slice (A1 1) (n1 1) (c1 1), .slice (A1 2) (n1 2) (c1 2), .slice (A1 3) (n1 3) (c1 3), .slice (A1 4) (n1 4) (c1 4), .slice (A1 5) (n1 5) (c1 5), .slice (A1 6) (n1 6) (c1 6), .slice (A1 7) (n1 7) (c1 7)] 25) = W1 at *
  generalize v.heap.size = b1 at *
  clear v
  have z0 : W1.cell? ⟨b1, 0, none⟩ = some (.int .i64 0) := HB1.out.now
  have z1 : W1.cell? ⟨b1, 1, none⟩ = some (.slice (A1 0) (n1 0) (c1 0)) := HB1.out.slot (show 0 < 8 by omega)
  have z2 : W1.cell? ⟨b1, 2, none⟩ = some (.slice (A1 1) (n1 1) (c1 1)) := HB1.out.slot (show 1 < 8 by omega)
  have z3 : W1.cell? ⟨b1, 3, none⟩ = some (.slice (A1 2) (n1 2) (c1 2)) := HB1.out.slot (show 2 < 8 by omega)
  have z4 : W1.cell? ⟨b1, 4, none⟩ = some (.slice (A1 3) (n1 3) (c1 3)) := HB1.out.slot (show 3 < 8 by omega)
  have z5 : W1.cell? ⟨b1, 5, none⟩ = some (.slice (A1 4) (n1 4) (c1 4)) := HB1.out.slot (show 4 < 8 by omega)
  have z6 : W1.cell? ⟨b1, 6, none⟩ = some (.slice (A1 5) (n1 5) (c1 5)) := HB1.out.slot (show 5 < 8 by omega)
  have z7 : W1.cell? ⟨b1, 7, none⟩ = some (.slice (A1 6) (n1 6) (c1 6)) := HB1.out.slot (show 6 < 8 by omega)
  have z8 : W1.cell? ⟨b1, 8, none⟩ = some (.slice (A1 7) (n1 7) (c1 7)) := HB1.out.slot (show 7 < 8 by omega)
  go_upto_region 3 with (go_at_call 13; refine (set_any W1 0 A1 n1 c1 T1 9 10 HO1.out (by rw [tot_of HO1.out]; decide) wf1).mono ?_; unfold WePost; rw [aw2.1, aw2.2]; rintro e v ⟨A2, n2, c2, rfl, hO, hb⟩; replace HB1 := Lib.hid (HB1.out.below hb); replace HO1 := Lib.hid (HO1.out.below hb); replace HW := Lib.hid (HW.out.trans (hb.mono HW.out.size)); have hO2 := hO; clear hb hO z0 z1 z2 z3 z4 z5 z6 z7 z8; have z0 := HB1.out.now; have z1 := HB1.out.slot (show 0 < 8 by omega); have z2 := HB1.out.slot (show 1 < 8 by omega); have z3 := HB1.out.slot (show 2 < 8 by omega); have z4 := HB1.out.slot (show 3 < 8 by omega); have z5 := HB1.out.slot (show 4 < 8 by omega); have z6 := HB1.out.slot (show 5 < 8 by omega); have z7 := HB1.out.slot (show 6 < 8 by omega); have z8 := HB1.out.slot (show 7 < 8 by omega); have zf := HB1.out.free)
  clear z0 z1 z2 z3 z4 z5 z6 z7 z8 zf
  have HB2 := Lib.hid (HB1.out.sets (mw := 0) (A := A2) (n := n2) (c := c2))
  have HO2 := Lib.hid (WhO.sets (mw := 0) HB1.out hO2).rd
  have hsw := Lib.hid HB1.out.lt
  replace HW := Lib.hid (show Below w.heap.size w (((((((((v.setCell ⟨b1, 0, none⟩ (.int .i64 0)).setCell ⟨b1, 1, none⟩ (.slice (A2 0) (n2 0) (c2 0))).setCell ⟨b1, 2, none⟩ (.slice (A2 1) (n2 1) (c2 1))).setCell ⟨b1, 3, none⟩ (.slice (A2 2) (n2 2) (c2 2))).setCell ⟨b1, 4, none⟩ (.slice (A2 3) (n2 3) (c2 3))).setCell ⟨b1, 5, none⟩ (.slice (A2 4) (n2 4) (c2 4))).setCell ⟨b1, 6, none⟩ (.slice (A2 5) (n2 5) (c2 5))).setCell ⟨b1, 7, none⟩ (.slice (A2 6) (n2 6) (c2 6))).setCell ⟨b1, 8, none⟩ (.slice (A2 7) (n2 7) (c2 7))) from ((((((((HW.out.setCell hb1w _).setCell hb1w _).setCell hb1w _).setCell hb1w _).setCell hb1w _).setCell hb1w _).setCell hb1w _).setCell hb1w _).setCell hb1w _)
  clear HB1 HO1 hO2 hsw
  generalize (((((((((v.setCell ⟨b1, 0, none⟩ (.int .i64 0)).setCell ⟨b1, 1, none⟩ (.slice (A2 0) (n2 0) (c2 0))).setCell ⟨b1, 2, none⟩ (.slice (A2 1) (n2 1) (c2 1))).setCell ⟨b1, 3, none⟩ (.slice (A2 2) (n2 2) (c2 2))).setCell ⟨b1, 4, none⟩ (.slice (A2 3) (n2 3) (c2 3))).setCell ⟨b1, 5, none⟩ (.slice (A2 4) (n2 4) (c2 4))).setCell ⟨b1, 6, none⟩ (.slice (A2 5) (n2 5) (c2 5))).setCell ⟨b1, 7, none⟩ (.slice (A2 6) (n2 6) (c2 6))).setCell ⟨b1, 8, none⟩ (.slice (A2 7) (n2 7) (c2 7))) = W2 at *
  have z0 : W2.cell? ⟨b1, 0, none⟩ = some (.int .i64 0) := HB2.out.now
  have z1 : W2.cell? ⟨b1, 1, none⟩ = some (.slice (A2 0) (n2 0) (c2 0)) := HB2.out.slot (show 0 < 8 by omega)
  have z2 : W2.cell? ⟨b1, 2, none⟩ = some (.slice (A2 1) (n2 1) (c2 1)) := HB2.out.slot (show 1 < 8 by omega)
  have z3 : W2.cell? ⟨b1, 3, none⟩ = some (.slice (A2 2) (n2 2) (c2 2)) := HB2.out.slot (show 2 < 8 by omega)
  have z4 : W2.cell? ⟨b1, 4, none⟩ = some (.slice (A2 3) (n2 3) (c2 3)) := HB2.out.slot (show 3 < 8 by omega)
  have z5 : W2.cell? ⟨b1, 5, none⟩ = some (.slice (A2 4) (n2 4) (c2 4)) := HB2.out.slot (show 4 < 8 by omega)
  have z6 : W2.cell? ⟨b1, 6, none⟩ = some (.slice (A2 5) (n2 5) (c2 5)) := HB2.out.slot (show 5 < 8 by omega)
  have z7 : W2.cell? ⟨b1, 7, none⟩ = some (.slice (A2 6) (n2 6) (c2 6)) := HB2.out.slot (show 6 < 8 by omega)
  have z8 : W2.cell? ⟨b1, 8, none⟩ = some (.slice (A2 7) (n2 7) (c2 7)) := HB2.out.slot (show 7 < 8 by omega)
  go_upto_region 4 with (go_at_call 13; refine (set_any W2 0 A2 n2 c2 T2 9 3 HO2.out (by rw [tot_of HO2.out]; decide) wf2).mono ?_; unfold WePost; rw [aw3.1, aw3.2]; rintro e v ⟨A3, n3, c3, rfl, hO, hb⟩; replace HB2 := Lib.hid (HB2.out.below hb); replace HO2 := Lib.hid (HO2.out.below hb); replace HW := Lib.hid (HW.out.trans (hb.mono HW.out.size)); have hO3 := hO; clear hb hO z0 z1 z2 z3 z4 z5 z6 z7 z8)
  have hal : Below v.heap.size v (v.alloc (.cells #[.int .i64 0, .slice (A3 0) (n3 0) (c3 0), .slice (A3 1) (n3 1) (c3 1), .slice (A3 2) (n3 2) (c3 2), .slice (A3 3) (n3 3) (c3 3), .slice (A3 4) (n3 4) (c3 4), .slice (A3 5) (n3 5) (c3 5), .slice (A3 6) (n3 6) (c3 6), .slice (A3 7) (n3 7) (c3 7)] 25)) := (Below.refl _ _).alloc (Nat.le_refl _) _
  have HB3 := Lib.hid (BoxW.alloc v 0 (fun i => .slice (A3 i) (n3 i) (c3 i)))
  have HO3 := Lib.hid (hO3.rd.below hal)
  replace HB2 := Lib.hid (HB2.out.below hal)
  replace HO2 := Lib.hid (HO2.out.below hal)
  replace HW := Lib.hid (HW.out.trans (hal.mono HW.out.size))
  clear hal hO3
  generalize v.alloc (.cells #[.int .i64 0, .slice (A3 0) (n3 0) (c3 0), .slice (A3 1) (n3 1) (c3 1), .slice (A3 2) (n3 2) (c3 2), .slice (A3 3) (n3 3) (c3 3), .slice (A3 4) (n3 4) (c3 4), .slice (A3 5) (n3 5) (c3 5), .slice (A3 6) (n3 6) (c3 6), .slice (A3 7) (n3 7) (c3 7)] 25) = W3 at *
  generalize v.heap.size = b3 at *
  clear v
  clear HB3 HO3
  have z0 : W3.cell? ⟨b1, 0, none⟩ = some (.int .i64 0) := HB2.out.now
  have z1 : W3.cell? ⟨b1, 1, none⟩ = some (.slice (A2 0) (n2 0) (c2 0)) := HB2.out.slot (show 0 < 8 by omega)
  have z2 : W3.cell? ⟨b1, 2, none⟩ = some (.slice (A2 1) (n2 1) (c2 1)) := HB2.out.slot (show 1 < 8 by omega)
  have z3 : W3.cell? ⟨b1, 3, none⟩ = some (.slice (A2 2) (n2 2) (c2 2)) := HB2.out.slot (show 2 < 8 by omega)
  have z4 : W3.cell? ⟨b1, 4, none⟩ = some (.slice (A2 3) (n2 3) (c2 3)) := HB2.out.slot (show 3 < 8 by omega)
  have z5 : W3.cell? ⟨b1, 5, none⟩ = some (.slice (A2 4) (n2 4) (c2 4)) := HB2.out.slot (show 4 < 8 by omega)
  have z6 : W3.cell? ⟨b1, 6, none⟩ = some (.slice (A2 5) (n2 5) (c2 5)) := HB2.out.slot (show 5 < 8 by omega)
  have z7 : W3.cell? ⟨b1, 7, none⟩ = some (.slice (A2 6) (n2 6) (c2 6)) := HB2.out.slot (show 6 < 8 by omega)
  have z8 : W3.cell? ⟨b1, 8, none⟩ = some (.slice (A2 7) (n2 7) (c2 7)) := HB2.out.slot (show 7 < 8 by omega)
  go_upto_region 5 with (go_at_call 11; refine (tick_any W3 0 A2 n2 c2 T2 HO2.out (by rw [tot_of HO2.out]; decide) wf2).mono ?_; unfold TickPost; rw [aw4.1, aw4.2.1, aw4.2.2.1, aw4.2.2.2]; rintro e v ⟨A4, n4, c4, F4, f4, g4, rfl, hO, hF, hb⟩; replace HB2 := Lib.hid (HB2.out.below hb); replace HO2 := Lib.hid (HO2.out.below hb); replace HW := Lib.hid (HW.out.trans (hb.mono HW.out.size)); have hO4 := hO; have HF4 := Lib.hid hF; clear hF; clear hb hO z0 z1 z2 z3 z4 z5 z6 z7 z8)
  have hal : Below v.heap.size v (v.alloc (.cells #[.int .i64 1, .slice (A4 0) (n4 0) (c4 0), .slice (A4 1) (n4 1) (c4 1), .slice (A4 2) (n4 2) (c4 2), .slice (A4 3) (n4 3) (c4 3), .slice (A4 4) (n4 4) (c4 4), .slice (A4 5) (n4 5) (c4 5), .slice (A4 6) (n4 6) (c4 6), .slice (A4 7) (n4 7) (c4 7)] 25)) := (Below.refl _ _).alloc (Nat.le_refl _) _
  have HB4 := Lib.hid (BoxW.alloc v 1 (fun i => .slice (A4 i) (n4 i) (c4 i)))
  have HO4 := Lib.hid (hO4.rd.below hal)
  replace HB2 := Lib.hid (HB2.out.below hal)
  replace HO2 := Lib.hid (HO2.out.below hal)
  replace HF4 := Lib.hid (HF4.out.below hal)
  replace HW := Lib.hid (HW.out.trans (hal.mono HW.out.size))
  clear hal hO4
  generalize v.alloc (.cells #[.int .i64 1, .slice (A4 0) (n4 0) (c4 0), .slice (A4 1) (n4 1) (c4 1), .slice (A4 2) (n4 2) (c4 2), .slice (A4 3) (n4 3) (c4 3), .slice (A4 4) (n4 4) (c4 4), .slice (A4 5) (n4 5) (c4 5), .slice (A4 6) (n4 6) (c4 6), .slice (A4 7) (n4 7) (c4 7)] 25) = W4 at *
  generalize v.heap.size = b4 at *
  clear v
  clear HB2 HO2
  have z0 : W4.cell? ⟨b4, 0, none⟩ = some (.int .i64 1) := HB4.out.now
  have z1 : W4.cell? ⟨b4, 1, none⟩ = some (.slice (A4 0) (n4 0) (c4 0)) := HB4.out.slot (show 0 < 8 by omega)
  have z2 : W4.cell? ⟨b4, 2, none⟩ = some (.slice (A4 1) (n4 1) (c4 1)) := HB4.out.slot (show 1 < 8 by omega)
  have z3 : W4.cell? ⟨b4, 3, none⟩ = some (.slice (A4 2) (n4 2) (c4 2)) := HB4.out.slot (show 2 < 8 by omega)
  have z4 : W4.cell? ⟨b4, 4, none⟩ = some (.slice (A4 3) (n4 3) (c4 3)) := HB4.out.slot (show 3 < 8 by omega)
  have z5 : W4.cell? ⟨b4, 5, none⟩ = some (.slice (A4 4) (n4 4) (c4 4)) := HB4.out.slot (show 4 < 8 by omega)
  have z6 : W4.cell? ⟨b4, 6, none⟩ = some (.slice (A4 5) (n4 5) (c4 5)) := HB4.out.slot (show 5 < 8 by omega)
  have z7 : W4.cell? ⟨b4, 7, none⟩ = some (.slice (A4 6) (n4 6) (c4 6)) := HB4.out.slot (show 6 < 8 by omega)
  have z8 : W4.cell? ⟨b4, 8, none⟩ = some (.slice (A4 7) (n4 7) (c4 7)) := HB4.out.slot (show 7 < 8 by omega)
  go_upto_region 6 with (go_at_call 11; refine (tick_any W4 1 A4 n4 c4 T3 HO4.out (by rw [tot_of HO4.out]; decide) wf3).mono ?_; unfold TickPost; rw [aw5.1, aw5.2.1, aw5.2.2.1, aw5.2.2.2]; rintro e v ⟨A5, n5, c5, F5, f5, g5, rfl, hO, hF, hb⟩; replace HB4 := Lib.hid (HB4.out.below hb); replace HO4 := Lib.hid (HO4.out.below hb); replace HF4 := Lib.hid (HF4.out.below hb); replace HW := Lib.hid (HW.out.trans (hb.mono HW.out.size)); have hO5 := hO; have HF5 := Lib.hid hF; clear hF; clear hb hO z0 z1 z2 z3 z4 z5 z6 z7 z8)
  have hal : Below v.heap.size v (v.alloc (.cells #[.int .i64 2, .slice (A5 0) (n5 0) (c5 0), .slice (A5 1) (n5 1) (c5 1), .slice (A5 2) (n5 2) (c5 2), .slice (A5 3) (n5 3) (c5 3), .slice (A5 4) (n5 4) (c5 4), .slice (A5 5) (n5 5) (c5 5), .slice (A5 6) (n5 6) (c5 6), .slice (A5 7) (n5 7) (c5 7)] 25)) := (Below.refl _ _).alloc (Nat.le_refl _) _
  have HB5 := Lib.hid (BoxW.alloc v 2 (fun i => .slice (A5 i) (n5 i) (c5 i)))
  have HO5 := Lib.hid (hO5.rd.below hal)
  replace HB4 := Lib.hid (HB4.out.below hal)
  replace HO4 := Lib.hid (HO4.out.below hal)
  replace HF4 := Lib.hid (HF4.out.below hal)
  replace HF5 := Lib.hid (HF5.out.below hal)
  replace HW := Lib.hid (HW.out.trans (hal.mono HW.out.size))
  clear hal hO5
  generalize v.alloc (.cells #[.int .i64 2, .slice (A5 0) (n5 0) (c5 0), .slice (A5 1) (n5 1) (c5 1), .slice (A5 2) (n5 2) (c5 2), .slice (A5 3) (n5 3) (c5 3), .slice (A5 4) (n5 4) (c5 4), .slice (A5 5) (n5 5) (c5 5), .slice (A5 6) (n5 6) (c5 6), .slice (A5 7) (n5 7) (c5 7)] 25) = W5 at *
  generalize v.heap.size = b5 at *
  clear v
  have z0 : W5.cell? ⟨b5, 0, none⟩ = some (.int .i64 2) := HB5.out.now
  have z1 : W5.cell? ⟨b5, 1, none⟩ = some (.slice (A5 0) (n5 0) (c5 0)) := HB5.out.slot (show 0 < 8 by omega)
  have z2 : W5.cell? ⟨b5, 2, none⟩ = some (.slice (A5 1) (n5 1) (c5 1)) := HB5.out.slot (show 1 < 8 by omega)
  have z3 : W5.cell? ⟨b5, 3, none⟩ = some (.slice (A5 2) (n5 2) (c5 2)) := HB5.out.slot (show 2 < 8 by omega)
  have z4 : W5.cell? ⟨b5, 4, none⟩ = some (.slice (A5 3) (n5 3) (c5 3)) := HB5.out.slot (show 3 < 8 by omega)
  have z5 : W5.cell? ⟨b5, 5, none⟩ = some (.slice (A5 4) (n5 4) (c5 4)) := HB5.out.slot (show 4 < 8 by omega)
  have z6 : W5.cell? ⟨b5, 6, none⟩ = some (.slice (A5 5) (n5 5) (c5 5)) := HB5.out.slot (show 5 < 8 by omega)
  have z7 : W5.cell? ⟨b5, 7, none⟩ = some (.slice (A5 6) (n5 6) (c5 6)) := HB5.out.slot (show 6 < 8 by omega)
  have z8 : W5.cell? ⟨b5, 8, none⟩ = some (.slice (A5 7) (n5 7) (c5 7)) := HB5.out.slot (show 7 < 8 by omega)
  go_upto_region 7 with (go_at_call 12; refine (cancel_any W5 2 A5 n5 c5 T4 7 HO5.out (by rw [tot_of HO5.out]; decide) wf4).mono ?_; unfold WePost; rw [aw6.1, aw6.2]; rintro e v ⟨A6, n6, c6, rfl, hO, hb⟩; replace HB4 := Lib.hid (HB4.out.below hb); replace HO4 := Lib.hid (HO4.out.below hb); replace HB5 := Lib.hid (HB5.out.below hb); replace HO5 := Lib.hid (HO5.out.below hb); replace HF4 := Lib.hid (HF4.out.below hb); replace HF5 := Lib.hid (HF5.out.below hb); replace HW := Lib.hid (HW.out.trans (hb.mono HW.out.size)); have hO6 := hO; clear hb hO z0 z1 z2 z3 z4 z5 z6 z7 z8)
  have hal : Below v.heap.size v (v.alloc (.cells #[.int .i64 2, .slice (A6 0) (n6 0) (c6 0), .slice (A6 1) (n6 1) (c6 1), .slice (A6 2) (n6 2) (c6 2), .slice (A6 3) (n6 3) (c6 3), .slice (A6 4) (n6 4) (c6 4), .slice (A6 5) (n6 5) (c6 5), .slice (A6 6) (n6 6) (c6 6), .slice (A6 7) (n6 7) (c6 7)] 25)) := (Below.refl _ _).alloc (Nat.le_refl _) _
  have HB6 := Lib.hid (BoxW.alloc v 2 (fun i => .slice (A6 i) (n6 i) (c6 i)))
  have HO6 := Lib.hid (hO6.rd.below hal)
  replace HB4 := Lib.hid (HB4.out.below hal)
  replace HO4 := Lib.hid (HO4.out.below hal)
  replace HB5 := Lib.hid (HB5.out.below hal)
  replace HO5 := Lib.hid (HO5.out.below hal)
  replace HF4 := Lib.hid (HF4.out.below hal)
  replace HF5 := Lib.hid (HF5.out.below hal)
  replace HW := Lib.hid (HW.out.trans (hal.mono HW.out.size))
  clear hal hO6
  generalize v.alloc (.cells #[.int .i64 2, .slice (A6 0) (n6 0) (c6 0), .slice (A6 1) (n6 1) (c6 1), .slice (A6 2) (n6 2) (c6 2), .slice (A6 3) (n6 3) (c6 3), .slice (A6 4) (n6 4) (c6 4), .slice (A6 5) (n6 5) (c6 5), .slice (A6 6) (n6 6) (c6 6), .slice (A6 7) (n6 7) (c6 7)] 25) = W6 at *
  generalize v.heap.size = b6 at *
  clear v
  clear HB4 HO4
  clear HB6 HO6
  have z0 : W6.cell? ⟨b5, 0, none⟩ = some (.int .i64 2) := HB5.out.now
  have z1 : W6.cell? ⟨b5, 1, none⟩ = some (.slice (A5 0) (n5 0) (c5 0)) := HB5.out.slot (show 0 < 8 by omega)
  have z2 : W6.cell? ⟨b5, 2, none⟩ = some (.slice (A5 1) (n5 1) (c5 1)) := HB5.out.slot (show 1 < 8 by omega)
  have z3 : W6.cell? ⟨b5, 3, none⟩ = some (.slice (A5 2) (n5 2) (c5 2)) := HB5.out.slot (show 2 < 8 by omega)
  have z4 : W6.cell? ⟨b5, 4, none⟩ = some (.slice (A5 3) (n5 3) (c5 3)) := HB5.out.slot (show 3 < 8 by omega)
  have z5 : W6.cell? ⟨b5, 5, none⟩ = some (.slice (A5 4) (n5 4) (c5 4)) := HB5.out.slot (show 4 < 8 by omega)
  have z6 : W6.cell? ⟨b5, 6, none⟩ = some (.slice (A5 5) (n5 5) (c5 5)) := HB5.out.slot (show 5 < 8 by omega)
  have z7 : W6.cell? ⟨b5, 7, none⟩ = some (.slice (A5 6) (n5 6) (c5 6)) := HB5.out.slot (show 6 < 8 by omega)
  have z8 : W6.cell? ⟨b5, 8, none⟩ = some (.slice (A5 7) (n5 7) (c5 7)) := HB5.out.slot (show 7 < 8 by omega)
  go_upto_region 8 with (go_at_call 12; refine (cancel_any W6 2 A5 n5 c5 T4 9 HO5.out (by rw [tot_of HO5.out]; decide) wf4).mono ?_; unfold WePost; rw [aw7.1, aw7.2]; rintro e v ⟨A7, n7, c7, rfl, hO, hb⟩; replace HB5 := Lib.hid (HB5.out.below hb); replace HO5 := Lib.hid (HO5.out.below hb); replace HF4 := Lib.hid (HF4.out.below hb); replace HF5 := Lib.hid (HF5.out.below hb); replace HW := Lib.hid (HW.out.trans (hb.mono HW.out.size)); have hO7 := hO; clear hb hO z0 z1 z2 z3 z4 z5 z6 z7 z8)
  have hal : Below v.heap.size v (v.alloc (.cells #[.int .i64 2, .slice (A7 0) (n7 0) (c7 0), .slice (A7 1) (n7 1) (c7 1), .slice (A7 2) (n7 2) (c7 2), .slice (A7 3) (n7 3) (c7 3), .slice (A7 4) (n7 4) (c7 4), .slice (A7 5) (n7 5) (c7 5), .slice (A7 6) (n7 6) (c7 6), .slice (A7 7) (n7 7) (c7 7)] 25)) := (Below.refl _ _).alloc (Nat.le_refl _) _
  have HB7 := Lib.hid (BoxW.alloc v 2 (fun i => .slice (A7 i) (n7 i) (c7 i)))
  have HO7 := Lib.hid (hO7.rd.below hal)
  replace HB5 := Lib.hid (HB5.out.below hal)
  replace HO5 := Lib.hid (HO5.out.below hal)
  replace HF4 := Lib.hid (HF4.out.below hal)
  replace HF5 := Lib.hid (HF5.out.below hal)
  replace HW := Lib.hid (HW.out.trans (hal.mono HW.out.size))
  clear hal hO7
  generalize v.alloc (.cells #[.int .i64 2, .slice (A7 0) (n7 0) (c7 0), .slice (A7 1) (n7 1) (c7 1), .slice (A7 2) (n7 2) (c7 2), .slice (A7 3) (n7 3) (c7 3), .slice (A7 4) (n7 4) (c7 4), .slice (A7 5) (n7 5) (c7 5), .slice (A7 6) (n7 6) (c7 6), .slice (A7 7) (n7 7) (c7 7)] 25) = W7 at *
  generalize v.heap.size = b7 at *
  clear v
  have f0 : f4 = 0 := by have := HF4.out.len; simpa using this.symm
  have f1 : f5 = 1 := by have := HF5.out.len; simpa using this.symm
  subst f0; subst f1
  obtain ⟨bf, of, rfl, hbf, hcf⟩ := HF5.out.get (by omega)
  have y0 : W7.cell? ⟨bf, of, none⟩ = some (.int .i64 7) := hcf 0 0 7 _ rfl rfl
  have h2 : n7 2 = 0 := by have := HO7.out.len 2 (by omega); simpa [T5, upd_at] using this.symm
  have x0 := HB7.out.now
  have x1 : W7.cell? ⟨b7, 3, none⟩ = some (.slice (A7 2) (n7 2) (c7 2)) := HB7.out.slot (show 2 < 8 by omega)
  rw [h2] at x1
  clear h2 hcf
  have z0 : W7.cell? ⟨b5, 0, none⟩ = some (.int .i64 2) := HB5.out.now
  have z1 : W7.cell? ⟨b5, 1, none⟩ = some (.slice (A5 0) (n5 0) (c5 0)) := HB5.out.slot (show 0 < 8 by omega)
  have z2 : W7.cell? ⟨b5, 2, none⟩ = some (.slice (A5 1) (n5 1) (c5 1)) := HB5.out.slot (show 1 < 8 by omega)
  have z3 : W7.cell? ⟨b5, 3, none⟩ = some (.slice (A5 2) (n5 2) (c5 2)) := HB5.out.slot (show 2 < 8 by omega)
  have z4 : W7.cell? ⟨b5, 4, none⟩ = some (.slice (A5 3) (n5 3) (c5 3)) := HB5.out.slot (show 3 < 8 by omega)
  have z5 : W7.cell? ⟨b5, 5, none⟩ = some (.slice (A5 4) (n5 4) (c5 4)) := HB5.out.slot (show 4 < 8 by omega)
  have z6 : W7.cell? ⟨b5, 6, none⟩ = some (.slice (A5 5) (n5 5) (c5 5)) := HB5.out.slot (show 5 < 8 by omega)
  have z7 : W7.cell? ⟨b5, 7, none⟩ = some (.slice (A5 6) (n5 6) (c5 6)) := HB5.out.slot (show 6 < 8 by omega)
  have z8 : W7.cell? ⟨b5, 8, none⟩ = some (.slice (A5 7) (n5 7) (c5 7)) := HB5.out.slot (show 7 < 8 by omega)
  have R1 := Lib.hid (right_any W7 2 A5 n5 c5 T4 HO5.out (by rw [tot_of HO5.out]; decide) wf4)
  go_wp2_with (first
    | (go_at_call 14; (with_reducible show Calls Try.prog 14 #[.agg #[.int .i64 2, _, _, _, _, _, _, _, _]] _ _); refine R1.out.mono ?_; rw [aw8]; rintro e w8 ⟨rfl, hb8⟩; have HW8 := Lib.hid (HW.out.trans (hb8.mono HW.out.size)); clear hb8)
    | (go_at_call 14; refine (right_any w8 (-1) (fun _ => none) (fun _ => 0) (fun _ => 0) e0 (fun i hi => RdE.nil _ _ _) (by decide) (by simp [e0])).mono ?_; rw [aw9]; rintro e w9 ⟨rfl, hb9⟩))
  go_ret
  exact ⟨by simp, HW8.out.trans (hb9.mono HW8.out.size)⟩
end Go.Proofs.Ytnlgmfkgpaampaa
