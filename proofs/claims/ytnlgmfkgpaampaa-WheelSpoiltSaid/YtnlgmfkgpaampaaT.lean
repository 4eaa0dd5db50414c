/- wheel.Cancel. -/
import Derived.Test.YtnlgmfkgpaampaaR
set_option linter.unusedVariables false
set_option linter.unusedSimpArgs false
namespace Go.Proofs.Ytnlgmfkgpaampaa
open Go.RowKit
open Go.Proofs.YtnlgmfkgpaampaaW.PrintWords

theorem BoxW.congr {w : World} {bx : Nat} {nw : Int} {S S' : Nat → Value} (h : BoxW w bx nw S) (he : ∀ i, i < 8 → S i = S' i) : BoxW w bx nw S' := by
  obtain ⟨cur, hc, hs, h0, h1⟩ := h
  exact ⟨cur, hc, hs, h0, fun i hi => by rw [h1 i hi, he i hi]⟩
theorem St2.start {w w2 : World} {nw : Int} {S : Nat → Value} {A : Nat → Option Addr} {n c : Nat → Nat} {ts : Nat → List Tm} (hb : BoxW w2 w.heap.size nw S) (hx : w2.heap[w.heap.size + 1]? = some (.cells #[.int .i64 0, .slice none 0 0, .slice none 0 0, .slice none 0 0, .slice none 0 0, .slice none 0 0, .slice none 0 0, .slice none 0 0, .slice none 0 0] 25 (0, 0))) (hO : WhO w2 w.heap.size A n c ts) (hw : Below w.heap.size w w2) :
    St2 w (((((((((w2.setCell ⟨w.heap.size, 0, none⟩ (.int .i64 nw)).setCell ⟨w.heap.size, 1, none⟩ (.slice (A 0) (n 0) (c 0))).setCell ⟨w.heap.size, 2, none⟩ (.slice (A 1) (n 1) (c 1))).setCell ⟨w.heap.size, 3, none⟩ (.slice (A 2) (n 2) (c 2))).setCell ⟨w.heap.size, 4, none⟩ (.slice (A 3) (n 3) (c 3))).setCell ⟨w.heap.size, 5, none⟩ (.slice (A 4) (n 4) (c 4))).setCell ⟨w.heap.size, 6, none⟩ (.slice (A 5) (n 5) (c 5))).setCell ⟨w.heap.size, 7, none⟩ (.slice (A 6) (n 6) (c 6))).setCell ⟨w.heap.size, 8, none⟩ (.slice (A 7) (n 7) (c 7))) nw A n c ts := by
  have nb : ∀ i, i < 8 → ∀ k, (Value.slice (A i) (n i) (c i)).ownBlock = some k → k ≠ w.heap.size := by
    intro i hi k hk
    rintro rfl
    exact hb.ne (hO.o i hi) hk.symm
  refine ⟨?_, ?_, ⟨fun i hi => ?_, hO.ne⟩, ?_⟩
  · rw [Below.heap_setCell _ _ _ _ (by simp), Below.heap_setCell _ _ _ _ (by simp), Below.heap_setCell _ _ _ _ (by simp), Below.heap_setCell _ _ _ _ (by simp), Below.heap_setCell _ _ _ _ (by simp), Below.heap_setCell _ _ _ _ (by simp), Below.heap_setCell _ _ _ _ (by simp), Below.heap_setCell _ _ _ _ (by simp), Below.heap_setCell _ _ _ _ (by simp)]
    exact hx
  · have h9 := (((((((((hb.setNow nw).set (show 0 < 8 by omega) (.slice (A 0) (n 0) (c 0))).set (show 1 < 8 by omega) (.slice (A 1) (n 1) (c 1))).set (show 2 < 8 by omega) (.slice (A 2) (n 2) (c 2))).set (show 3 < 8 by omega) (.slice (A 3) (n 3) (c 3))).set (show 4 < 8 by omega) (.slice (A 4) (n 4) (c 4))).set (show 5 < 8 by omega) (.slice (A 5) (n 5) (c 5))).set (show 6 < 8 by omega) (.slice (A 6) (n 6) (c 6))).set (show 7 < 8 by omega) (.slice (A 7) (n 7) (c 7)))
    refine h9.congr fun i hi => ?_
    obtain rfl | rfl | rfl | rfl | rfl | rfl | rfl | rfl : i = 0 ∨ i = 1 ∨ i = 2 ∨ i = 3 ∨ i = 4 ∨ i = 5 ∨ i = 6 ∨ i = 7 := by omega
    all_goals simp
  · exact (((((((((hO.o i hi).far (nb i hi) _).far (nb i hi) _).far (nb i hi) _).far (nb i hi) _).far (nb i hi) _).far (nb i hi) _).far (nb i hi) _).far (nb i hi) _).far (nb i hi) _
  · exact ((((((((hw.setCell (by simp) _).setCell (by simp) _).setCell (by simp) _).setCell (by simp) _).setCell (by simp) _).setCell (by simp) _).setCell (by simp) _).setCell (by simp) _).setCell (by simp) _

set_option maxHeartbeats 16000000 in
theorem cancel_any (w : World) (nw : Int) (A0 : Nat → Option Addr) (n0 c0 : Nat → Nat) (ts : Nat → List Tm) (id : Int) (hr : WhR w A0 n0 c0 ts) (ht : tot n0 8 ≤ 1000) (hwf : ∀ i, i < 8 → ∀ t ∈ ts i, t.id ≤ 9223372036854775807) :
    Calls Try.prog 12 #[.agg #[.int .i64 nw, .slice (A0 0) (n0 0) (c0 0), .slice (A0 1) (n0 1) (c0 1), .slice (A0 2) (n0 2) (c0 2), .slice (A0 3) (n0 3) (c0 3), .slice (A0 4) (n0 4) (c0 4), .slice (A0 5) (n0 5) (c0 5), .slice (A0 6) (n0 6) (c0 6), .slice (A0 7) (n0 7) (c0 7)], .int .i64 id] w (WePost w nw (canT nw ts id) (canE nw ts id)) := by
  have hln := hr.len
  have hal1 : Below w.heap.size w (w.alloc (.cells #[.int .i64 nw, .slice (A0 0) (n0 0) (c0 0), .slice (A0 1) (n0 1) (c0 1), .slice (A0 2) (n0 2) (c0 2), .slice (A0 3) (n0 3) (c0 3), .slice (A0 4) (n0 4) (c0 4), .slice (A0 5) (n0 5) (c0 5), .slice (A0 6) (n0 6) (c0 6), .slice (A0 7) (n0 7) (c0 7)] 25)) := (Below.refl _ _).alloc (Nat.le_refl _) _
  have hb1 := BoxW.alloc w nw (fun i => .slice (A0 i) (n0 i) (c0 i))
  generalize hV1 : w.alloc (.cells #[.int .i64 nw, .slice (A0 0) (n0 0) (c0 0), .slice (A0 1) (n0 1) (c0 1), .slice (A0 2) (n0 2) (c0 2), .slice (A0 3) (n0 3) (c0 3), .slice (A0 4) (n0 4) (c0 4), .slice (A0 5) (n0 5) (c0 5), .slice (A0 6) (n0 6) (c0 6), .slice (A0 7) (n0 7) (c0 7)] 25) = V1 at hal1 hb1
  have s1 : V1.heap.size = w.heap.size + 1 := by rw [← hV1]; simp
  have hal2 : Below V1.heap.size V1 (V1.alloc (.cells #[.int .i64 0, .slice none 0 0, .slice none 0 0, .slice none 0 0, .slice none 0 0, .slice none 0 0, .slice none 0 0, .slice none 0 0, .slice none 0 0] 25)) := (Below.refl _ _).alloc (Nat.le_refl _) _
  have s2 : (V1.alloc (.cells #[.int .i64 0, .slice none 0 0, .slice none 0 0, .slice none 0 0, .slice none 0 0, .slice none 0 0, .slice none 0 0, .slice none 0 0, .slice none 0 0] 25)).heap.size = w.heap.size + 2 := by simp [s1]
  have x2 := heap_alloc_new V1 (.cells #[.int .i64 0, .slice none 0 0, .slice none 0 0, .slice none 0 0, .slice none 0 0, .slice none 0 0, .slice none 0 0, .slice none 0 0, .slice none 0 0] 25)
  rw [s1] at x2
  have HW := Lib.hid (hal1.trans (hal2.mono hal1.size))
  have HBX := Lib.hid (hb1.below hal2)
  have HX2 := Lib.hid x2
  have HSZ := Lib.hid s2
  have HR0 := Lib.hid hr
  have hl1000 : ∀ i, i < 8 → n0 i ≤ 1000 := fun i hi => by
    have : tot n0 i + n0 i ≤ tot n0 8 := tot_mono n0 (show i + 1 ≤ 8 by omega)
    omega
  clear hal1 hb1 hal2 x2 hr s1 s2
  rw [← hV1] at HW HBX HX2 HSZ
  clear hV1
  go_enter Try.func12, Try.ntmps12
  go_upto_region 1 with fail
  generalize ((w.alloc (.cells #[.int .i64 nw, .slice (A0 0) (n0 0) (c0 0), .slice (A0 1) (n0 1) (c0 1), .slice (A0 2) (n0 2) (c0 2), .slice (A0 3) (n0 3) (c0 3), .slice (A0 4) (n0 4) (c0 4), .slice (A0 5) (n0 5) (c0 5), .slice (A0 6) (n0 6) (c0 6), .slice (A0 7) (n0 7) (c0 7)] 25)).alloc (.cells #[.int .i64 0, .slice none 0 0, .slice none 0 0, .slice none 0 0, .slice none 0 0, .slice none 0 0, .slice none 0 0, .slice none 0 0, .slice none 0 0] 25)) = V at *
  have z0 : V.cell? ⟨w.heap.size, 0, none⟩ = some (.int .i64 nw) := HBX.out.now
  have z1 : V.cell? ⟨w.heap.size, 1, none⟩ = some (.slice (A0 0) (n0 0) (c0 0)) := HBX.out.slot (show 0 < 8 by omega)
  have z2 : V.cell? ⟨w.heap.size, 2, none⟩ = some (.slice (A0 1) (n0 1) (c0 1)) := HBX.out.slot (show 1 < 8 by omega)
  have z3 : V.cell? ⟨w.heap.size, 3, none⟩ = some (.slice (A0 2) (n0 2) (c0 2)) := HBX.out.slot (show 2 < 8 by omega)
  have z4 : V.cell? ⟨w.heap.size, 4, none⟩ = some (.slice (A0 3) (n0 3) (c0 3)) := HBX.out.slot (show 3 < 8 by omega)
  have z5 : V.cell? ⟨w.heap.size, 5, none⟩ = some (.slice (A0 4) (n0 4) (c0 4)) := HBX.out.slot (show 4 < 8 by omega)
  have z6 : V.cell? ⟨w.heap.size, 6, none⟩ = some (.slice (A0 5) (n0 5) (c0 5)) := HBX.out.slot (show 5 < 8 by omega)
  have z7 : V.cell? ⟨w.heap.size, 7, none⟩ = some (.slice (A0 6) (n0 6) (c0 6)) := HBX.out.slot (show 6 < 8 by omega)
  have z8 : V.cell? ⟨w.heap.size, 8, none⟩ = some (.slice (A0 7) (n0 7) (c0 7)) := HBX.out.slot (show 7 < 8 by omega)
  have zf := HBX.out.free
  go_upto_region 2 with (go_at_call 21; refine (own_any V nw A0 n0 c0 ts (HR0.out.below HW.out) hl1000).mono ?_; rintro e w2 ⟨A, n, c, rfl, hO2, hb2⟩; have HB2 := Lib.hid (HBX.out.below hb2); clear z0 z1 z2 z3 z4 z5 z6 z7 z8 zf; have z0 := HB2.out.now; have z1 := HB2.out.slot (show 0 < 8 by omega); have z2 := HB2.out.slot (show 1 < 8 by omega); have z3 := HB2.out.slot (show 2 < 8 by omega); have z4 := HB2.out.slot (show 3 < 8 by omega); have z5 := HB2.out.slot (show 4 < 8 by omega); have z6 := HB2.out.slot (show 5 < 8 by omega); have z7 := HB2.out.slot (show 6 < 8 by omega); have z8 := HB2.out.slot (show 7 < 8 by omega); have zf := HB2.out.free)
  clear z0 z1 z2 z3 z4 z5 z6 z7 z8 zf
  have HS := Lib.hid (St2.start HB2.out (keep hb2 HX2.out) (hO2.lower HW.out.size) (HW.out.trans (hb2.mono HW.out.size)))
  clear hO2 hb2 HB2 HBX HX2 HW HSZ
  generalize (((((((((w2.setCell ⟨w.heap.size, 0, none⟩ (.int .i64 nw)).setCell ⟨w.heap.size, 1, none⟩ (.slice (A 0) (n 0) (c 0))).setCell ⟨w.heap.size, 2, none⟩ (.slice (A 1) (n 1) (c 1))).setCell ⟨w.heap.size, 3, none⟩ (.slice (A 2) (n 2) (c 2))).setCell ⟨w.heap.size, 4, none⟩ (.slice (A 3) (n 3) (c 3))).setCell ⟨w.heap.size, 5, none⟩ (.slice (A 4) (n 4) (c 4))).setCell ⟨w.heap.size, 6, none⟩ (.slice (A 5) (n 5) (c 5))).setCell ⟨w.heap.size, 7, none⟩ (.slice (A 6) (n 6) (c 6))).setCell ⟨w.heap.size, 8, none⟩ (.slice (A 7) (n 7) (c 7))) = U at *
  have hlA : ∀ i, i < 8 → n i = n0 i := fun i hi => by
    have h1 := (HS.out.o.o i hi).rd.len
    have h2 := hln i hi
    omega
  have htot : ∀ k, k ≤ 8 → tot n k = tot n0 k := by
    intro k hk
    induction k with
    | zero => rfl
    | succ k ih => simp only [tot]; rw [ih (by omega), hlA k (by omega)]
  have hts : tot n 8 ≤ 1000 := by rw [htot 8 (Nat.le_refl _)]; exact ht
  clear hlA htot hln
  obtain ⟨rb, hrb⟩ : ∃ b, rightB nw ts = b := ⟨_, rfl⟩
  have HRB := Lib.hid hrb
  clear hrb
  have ARM := Lib.hid (right_any U nw A n c ts HS.out.o.rd (by omega) hwf)
  have HS3 := HS
  have z0 : U.cell? ⟨w.heap.size, 0, none⟩ = some (.int .i64 nw) := HS.out.x3.now
  have z1 : U.cell? ⟨w.heap.size, 1, none⟩ = some (.slice (A 0) (n 0) (c 0)) := HS.out.x3.slot (show 0 < 8 by omega)
  have z2 : U.cell? ⟨w.heap.size, 2, none⟩ = some (.slice (A 1) (n 1) (c 1)) := HS.out.x3.slot (show 1 < 8 by omega)
  have z3 : U.cell? ⟨w.heap.size, 3, none⟩ = some (.slice (A 2) (n 2) (c 2)) := HS.out.x3.slot (show 2 < 8 by omega)
  have z4 : U.cell? ⟨w.heap.size, 4, none⟩ = some (.slice (A 3) (n 3) (c 3)) := HS.out.x3.slot (show 3 < 8 by omega)
  have z5 : U.cell? ⟨w.heap.size, 5, none⟩ = some (.slice (A 4) (n 4) (c 4)) := HS.out.x3.slot (show 4 < 8 by omega)
  have z6 : U.cell? ⟨w.heap.size, 6, none⟩ = some (.slice (A 5) (n 5) (c 5)) := HS.out.x3.slot (show 5 < 8 by omega)
  have z7 : U.cell? ⟨w.heap.size, 7, none⟩ = some (.slice (A 6) (n 6) (c 6)) := HS.out.x3.slot (show 6 < 8 by omega)
  have z8 : U.cell? ⟨w.heap.size, 8, none⟩ = some (.slice (A 7) (n 7) (c 7)) := HS.out.x3.slot (show 7 < 8 by omega)
  cases rb with
  | false =>
    have HE := Lib.hid (canE_arg (nw := nw) (ts := ts) (id := id) (fun h => by have := rightB_yes h; rw [HRB.out] at this; cases this))
    go_upto_region 3 with (go_at_call 14; refine ARM.out.mono ?_; rw [HRB.out]; rintro e w4 ⟨rfl, hb4⟩; have HS := Lib.hid (HS3.out.below hb4); clear hb4 z0 z1 z2 z3 z4 z5 z6 z7 z8)
    have z0 : w4.cell? ⟨w.heap.size, 0, none⟩ = some (.int .i64 nw) := HS.out.x3.now
    have z1 : w4.cell? ⟨w.heap.size, 1, none⟩ = some (.slice (A 0) (n 0) (c 0)) := HS.out.x3.slot (show 0 < 8 by omega)
    have z2 : w4.cell? ⟨w.heap.size, 2, none⟩ = some (.slice (A 1) (n 1) (c 1)) := HS.out.x3.slot (show 1 < 8 by omega)
    have z3 : w4.cell? ⟨w.heap.size, 3, none⟩ = some (.slice (A 2) (n 2) (c 2)) := HS.out.x3.slot (show 2 < 8 by omega)
    have z4 : w4.cell? ⟨w.heap.size, 4, none⟩ = some (.slice (A 3) (n 3) (c 3)) := HS.out.x3.slot (show 3 < 8 by omega)
    have z5 : w4.cell? ⟨w.heap.size, 5, none⟩ = some (.slice (A 4) (n 4) (c 4)) := HS.out.x3.slot (show 4 < 8 by omega)
    have z6 : w4.cell? ⟨w.heap.size, 6, none⟩ = some (.slice (A 5) (n 5) (c 5)) := HS.out.x3.slot (show 5 < 8 by omega)
    have z7 : w4.cell? ⟨w.heap.size, 7, none⟩ = some (.slice (A 6) (n 6) (c 6)) := HS.out.x3.slot (show 6 < 8 by omega)
    have z8 : w4.cell? ⟨w.heap.size, 8, none⟩ = some (.slice (A 7) (n 7) (c 7)) := HS.out.x3.slot (show 7 < 8 by omega)
    have r0 := box_at HS.out.x2 0 _ rfl
    have r1 := box_at HS.out.x2 1 _ rfl
    have r2 := box_at HS.out.x2 2 _ rfl
    have r3 := box_at HS.out.x2 3 _ rfl
    have r4 := box_at HS.out.x2 4 _ rfl
    have r5 := box_at HS.out.x2 5 _ rfl
    have r6 := box_at HS.out.x2 6 _ rfl
    have r7 := box_at HS.out.x2 7 _ rfl
    have r8 := box_at HS.out.x2 8 _ rfl
    have rf := box_free HS.out.x2
    go_wp2_with fail
    refine bodyPost_ret (v := .tuple #[.agg #[.int .i64 nw, .slice (A 0) (n 0) (c 0), .slice (A 1) (n 1) (c 1), .slice (A 2) (n 2) (c 2), .slice (A 3) (n 3) (c 3), .slice (A 4) (n 4) (c 4), .slice (A 5) (n 5) (c 5), .slice (A 6) (n 6) (c 6), .slice (A 7) (n 7) (c 7)], .int .i64 1]) (by simp [results, Try.results12, go_sem, r0, r1, r2, r3, r4, r5, r6, r7, r8]) rfl ?_
    obtain ⟨he1, he2⟩ := HE.out
    rw [he1, he2]
    exact ⟨A, n, c, rfl, HS.out.fin⟩
  | true =>
    have HRW := Lib.hid (rightB_iff.1 HRB.out)
    go_upto_region 4 with (go_at_call 14; refine ARM.out.mono ?_; rw [HRB.out]; rintro e w4 ⟨rfl, hb4⟩; have HS := Lib.hid (HS3.out.below hb4); clear hb4 z0 z1 z2 z3 z4 z5 z6 z7 z8)
    clear HS3 ARM HRB
    have z0 : w4.cell? ⟨w.heap.size, 0, none⟩ = some (.int .i64 nw) := HS.out.x3.now
    have z1 : w4.cell? ⟨w.heap.size, 1, none⟩ = some (.slice (A 0) (n 0) (c 0)) := HS.out.x3.slot (show 0 < 8 by omega)
    have z2 : w4.cell? ⟨w.heap.size, 2, none⟩ = some (.slice (A 1) (n 1) (c 1)) := HS.out.x3.slot (show 1 < 8 by omega)
    have z3 : w4.cell? ⟨w.heap.size, 3, none⟩ = some (.slice (A 2) (n 2) (c 2)) := HS.out.x3.slot (show 2 < 8 by omega)
    have z4 : w4.cell? ⟨w.heap.size, 4, none⟩ = some (.slice (A 3) (n 3) (c 3)) := HS.out.x3.slot (show 3 < 8 by omega)
    have z5 : w4.cell? ⟨w.heap.size, 5, none⟩ = some (.slice (A 4) (n 4) (c 4)) := HS.out.x3.slot (show 4 < 8 by omega)
    have z6 : w4.cell? ⟨w.heap.size, 6, none⟩ = some (.slice (A 5) (n 5) (c 5)) := HS.out.x3.slot (show 5 < 8 by omega)
    have z7 : w4.cell? ⟨w.heap.size, 7, none⟩ = some (.slice (A 6) (n 6) (c 6)) := HS.out.x3.slot (show 6 < 8 by omega)
    have z8 : w4.cell? ⟨w.heap.size, 8, none⟩ = some (.slice (A 7) (n 7) (c 7)) := HS.out.x3.slot (show 7 < 8 by omega)
    go_wp2_with fail
    clear z0 z1 z2 z3 z4 z5 z6 z7 z8
    go_loopg [17] 8 (fun gg s17 wr => ∃ kk : Nat, kk ≤ 8 ∧ 8 - kk ≤ gg ∧ s17 = .int .i64 kk ∧ Aside (St2 w wr nw A n c ts ∧ ∀ i', i' < kk → ∀ t ∈ ts i', t.id ≠ id))
    case atStart =>
      refine ⟨0, by omega, by omega, rfl, ?_⟩
      show Aside _
      exact ⟨HS.out, fun i' h => absurd h (by omega)⟩
    case round =>
      clear HS
      obtain ⟨kk, hkk, hg, rfl, HA⟩ := hrel
      have HS := Lib.hid HA.out.1
      have HN := Lib.hid HA.out.2
      clear HA
      by_cases hlt : kk < 8
      · have hlt1 : (kk : Int) < 8 := by omega
        have hidx := idx8 A n c hlt wr
        go_upto_region 7 with fail
        clear hidx
        go_upto_region 8 with (first | (go_at_call 25; refine (is_any wr id).mono ?_; rintro e w5 ⟨rfl, hx5, hb5⟩; have HS5 := Lib.hid (HS.out.below hb5); have HP5 := Lib.hid (pred_is w5 wr.heap.size id hx5); clear hx5 hb5) | (go_at_call 24; refine (indexFunc_tms 33 _ eg33 (fun t => t.id == id) w5 _ (ts kk) (HS5.out.o.rd kk hlt) HP5.out).mono ?_; rintro e w6 ⟨r, rfl, hri, hb6⟩; have HS6 := Lib.hid (HS5.out.below hb6); have HRI := Lib.hid hri; clear hb6 hri))
        clear HS HS5 HP5
        rcases HRI.out with ⟨hr1, hall⟩ | ⟨kj, y, hr1, hat, hpy, hbef⟩
        · have hr2 : r = -1 := hr1
          subst hr2
          have HALL := Lib.hid hall
          clear hr1 hall HRI
          go_wp2_with fail
          go_roundg (8 - (kk + 1))
          case measure => omega
          case rel =>
            refine ⟨kk + 1, by omega, by omega, by simp, ?_⟩
            show Aside _
            refine ⟨HS6.out, fun i' hi' t ht' => ?_⟩
            rcases Nat.lt_or_ge i' kk with h | h
            · exact HN.out i' h t ht'
            · obtain rfl : i' = kk := by omega
              obtain ⟨j, hj⟩ := List.getElem?_of_mem ht'
              have := HALL.out j t hj
              simpa using this
        · subst hr1
          have hkl : kj < (ts kk).length := (List.getElem?_eq_some_iff.1 hat).1
          have hid : y.id = id := by simpa using hpy
          have HF := Lib.hid (show FindIs ts id kk kj from .inr ⟨kk, kj, y, rfl, rfl, hlt, hat, hid, fun j x hj hx => by have := hbef j x hj hx; simpa using this, HN.out⟩)
          have HE := Lib.hid (canE_ok HRW.out HF.out)
          clear hat hid hpy hbef HRI
          have hnk := (HS6.out.o.o kk hlt).rd.len
          obtain ⟨b, off, hA, _, _, hnc, _, _⟩ := (HS6.out.o.o kk hlt).form (by omega)
          have hOk := HS6.out.o.o kk hlt
          rw [hA] at hOk
          have htk : tot n kk + n kk ≤ tot n 8 := tot_mono n (show kk + 1 ≤ 8 by omega)
          have HD := Lib.hid (delete_any w6 w.heap.size b off (n kk) (c kk) (ts kk) kj hOk (by omega) (by omega))
          have hgr := Lib.hid (show (Value.slice (A kk) (n kk) (c kk)).ownBlock = some b by rw [hA]; rfl)
          have hkj0 : (0 : Int) ≤ (kj : Int) := by omega
          have hkw : IntKind.i64.wrap ((kj : Int) + 1) = (kj : Int) + 1 := by rw [IntKind.wrap_i64]; omega
          clear hOk hnc
          have zk := HS6.out.x3.slot hlt
          have zf := HS6.out.x3.free
          rw [hA] at zk
          go_upto_region 10 with (go_at_call 26; rw [hA]; refine HD.out.mono ?_; rintro e w7 ⟨rfl, hO7, hg7⟩; have HO7 := Lib.hid hO7; have HG7 := Lib.hid hg7; have zk7 := (HS6.out.x3.grown hg7 (by rw [← hgr.out]; exact HS6.out.x3.ne (HS6.out.o.o kk hlt))).slot hlt; have zf7 := (HS6.out.x3.grown hg7 (by rw [← hgr.out]; exact HS6.out.x3.ne (HS6.out.o.o kk hlt))).free; clear hO7 hg7 zk zf)
          have HS := Lib.hid (HS6.out.put hlt (by rw [hgr.out]; exact HG7.out) HO7.out (.inl (by rw [hgr.out]; rfl)))
          clear HS6 zk7 zf7 HO7 HG7 HD
          generalize w7.setCell ⟨w.heap.size, 1 + kk, none⟩ (.slice (some ⟨b, off, none⟩) (n kk - 1) (c kk)) = W9 at *
          generalize upd A kk (some ⟨b, off, none⟩) = A9 at *
          generalize upd n kk (n kk - 1) = n9 at *
          generalize upd c kk (c kk) = c9 at *
          have z0 : W9.cell? ⟨w.heap.size, 0, none⟩ = some (.int .i64 nw) := HS.out.x3.now
          have z1 : W9.cell? ⟨w.heap.size, 1, none⟩ = some (.slice (A9 0) (n9 0) (c9 0)) := HS.out.x3.slot (show 0 < 8 by omega)
          have z2 : W9.cell? ⟨w.heap.size, 2, none⟩ = some (.slice (A9 1) (n9 1) (c9 1)) := HS.out.x3.slot (show 1 < 8 by omega)
          have z3 : W9.cell? ⟨w.heap.size, 3, none⟩ = some (.slice (A9 2) (n9 2) (c9 2)) := HS.out.x3.slot (show 2 < 8 by omega)
          have z4 : W9.cell? ⟨w.heap.size, 4, none⟩ = some (.slice (A9 3) (n9 3) (c9 3)) := HS.out.x3.slot (show 3 < 8 by omega)
          have z5 : W9.cell? ⟨w.heap.size, 5, none⟩ = some (.slice (A9 4) (n9 4) (c9 4)) := HS.out.x3.slot (show 4 < 8 by omega)
          have z6 : W9.cell? ⟨w.heap.size, 6, none⟩ = some (.slice (A9 5) (n9 5) (c9 5)) := HS.out.x3.slot (show 5 < 8 by omega)
          have z7 : W9.cell? ⟨w.heap.size, 7, none⟩ = some (.slice (A9 6) (n9 6) (c9 6)) := HS.out.x3.slot (show 6 < 8 by omega)
          have z8 : W9.cell? ⟨w.heap.size, 8, none⟩ = some (.slice (A9 7) (n9 7) (c9 7)) := HS.out.x3.slot (show 7 < 8 by omega)
          have r0 := box_at HS.out.x2 0 _ rfl
          have r1 := box_at HS.out.x2 1 _ rfl
          have r2 := box_at HS.out.x2 2 _ rfl
          have r3 := box_at HS.out.x2 3 _ rfl
          have r4 := box_at HS.out.x2 4 _ rfl
          have r5 := box_at HS.out.x2 5 _ rfl
          have r6 := box_at HS.out.x2 6 _ rfl
          have r7 := box_at HS.out.x2 7 _ rfl
          have r8 := box_at HS.out.x2 8 _ rfl
          have rf := box_free HS.out.x2
          go_wp2_with fail
          refine bodyPost_ret (v := .tuple #[.agg #[.int .i64 nw, .slice (A9 0) (n9 0) (c9 0), .slice (A9 1) (n9 1) (c9 1), .slice (A9 2) (n9 2) (c9 2), .slice (A9 3) (n9 3) (c9 3), .slice (A9 4) (n9 4) (c9 4), .slice (A9 5) (n9 5) (c9 5), .slice (A9 6) (n9 6) (c9 6), .slice (A9 7) (n9 7) (c9 7)], .int .i64 0]) (by simp [results, Try.results12, go_sem, r0, r1, r2, r3, r4, r5, r6, r7, r8]) rfl ?_
          obtain ⟨he1, he2⟩ := HE.out
          rw [he1, he2]
          exact ⟨A9, n9, c9, rfl, HS.out.fin⟩
      · obtain rfl : kk = 8 := by omega
        have HE := Lib.hid (canE_none (r := -1) (s := -1) HRW.out (.inl ⟨rfl, rfl, HN.out⟩) (by omega))
        go_upto_region 12 with fail
        have z0 : wr.cell? ⟨w.heap.size, 0, none⟩ = some (.int .i64 nw) := HS.out.x3.now
        have z1 : wr.cell? ⟨w.heap.size, 1, none⟩ = some (.slice (A 0) (n 0) (c 0)) := HS.out.x3.slot (show 0 < 8 by omega)
        have z2 : wr.cell? ⟨w.heap.size, 2, none⟩ = some (.slice (A 1) (n 1) (c 1)) := HS.out.x3.slot (show 1 < 8 by omega)
        have z3 : wr.cell? ⟨w.heap.size, 3, none⟩ = some (.slice (A 2) (n 2) (c 2)) := HS.out.x3.slot (show 2 < 8 by omega)
        have z4 : wr.cell? ⟨w.heap.size, 4, none⟩ = some (.slice (A 3) (n 3) (c 3)) := HS.out.x3.slot (show 3 < 8 by omega)
        have z5 : wr.cell? ⟨w.heap.size, 5, none⟩ = some (.slice (A 4) (n 4) (c 4)) := HS.out.x3.slot (show 4 < 8 by omega)
        have z6 : wr.cell? ⟨w.heap.size, 6, none⟩ = some (.slice (A 5) (n 5) (c 5)) := HS.out.x3.slot (show 5 < 8 by omega)
        have z7 : wr.cell? ⟨w.heap.size, 7, none⟩ = some (.slice (A 6) (n 6) (c 6)) := HS.out.x3.slot (show 6 < 8 by omega)
        have z8 : wr.cell? ⟨w.heap.size, 8, none⟩ = some (.slice (A 7) (n 7) (c 7)) := HS.out.x3.slot (show 7 < 8 by omega)
        have r0 := box_at HS.out.x2 0 _ rfl
        have r1 := box_at HS.out.x2 1 _ rfl
        have r2 := box_at HS.out.x2 2 _ rfl
        have r3 := box_at HS.out.x2 3 _ rfl
        have r4 := box_at HS.out.x2 4 _ rfl
        have r5 := box_at HS.out.x2 5 _ rfl
        have r6 := box_at HS.out.x2 6 _ rfl
        have r7 := box_at HS.out.x2 7 _ rfl
        have r8 := box_at HS.out.x2 8 _ rfl
        have rf := box_free HS.out.x2
        go_wp2_with fail
        refine bodyPost_ret (v := .tuple #[.agg #[.int .i64 nw, .slice (A 0) (n 0) (c 0), .slice (A 1) (n 1) (c 1), .slice (A 2) (n 2) (c 2), .slice (A 3) (n 3) (c 3), .slice (A 4) (n 4) (c 4), .slice (A 5) (n 5) (c 5), .slice (A 6) (n 6) (c 6), .slice (A 7) (n 7) (c 7)], .int .i64 5]) (by simp [results, Try.results12, go_sem, r0, r1, r2, r3, r4, r5, r6, r7, r8]) rfl ?_
        obtain ⟨he1, he2⟩ := HE.out
        rw [he1, he2]
        exact ⟨A, n, c, rfl, HS.out.fin⟩
end Go.Proofs.Ytnlgmfkgpaampaa
