/- wheel.Set. -/
import Derived.Test.YtnlgmfkgpaampaaJ
set_option linter.unusedVariables false
set_option linter.unusedSimpArgs false
namespace Go.Proofs.Ytnlgmfkgpaampaa
open Go.RowKit
open Go.Proofs.YtnlgmfkgpaampaaW.PrintWords

set_option maxHeartbeats 16000000 in
theorem set_any (w : World) (nw : Int) (A0 : Nat → Option Addr) (n0 c0 : Nat → Nat) (ts : Nat → List Tm) (id a : Int) (hr : WhR w A0 n0 c0 ts) (ht : tot n0 8 ≤ 1000) (hwf : ∀ i, i < 8 → ∀ t ∈ ts i, t.id ≤ 9223372036854775807) :
    Calls Try.prog 13 #[.agg #[.int .i64 nw, .slice (A0 0) (n0 0) (c0 0), .slice (A0 1) (n0 1) (c0 1), .slice (A0 2) (n0 2) (c0 2), .slice (A0 3) (n0 3) (c0 3), .slice (A0 4) (n0 4) (c0 4), .slice (A0 5) (n0 5) (c0 5), .slice (A0 6) (n0 6) (c0 6), .slice (A0 7) (n0 7) (c0 7)], .int .i64 id, .int .i64 a] w (WePost w nw (setT nw ts id a) (setE nw ts id a)) := by
  have hln := allT_len hr.len 8 (Nat.le_refl _)
  have HLN := Lib.hid hln
  clear hln
  have hal1 : Below w.heap.size w (w.alloc (.cells #[.int .i64 nw, .slice (A0 0) (n0 0) (c0 0), .slice (A0 1) (n0 1) (c0 1), .slice (A0 2) (n0 2) (c0 2), .slice (A0 3) (n0 3) (c0 3), .slice (A0 4) (n0 4) (c0 4), .slice (A0 5) (n0 5) (c0 5), .slice (A0 6) (n0 6) (c0 6), .slice (A0 7) (n0 7) (c0 7)] 25)) := (Below.refl _ _).alloc (Nat.le_refl _) _
  have hb1 := BoxW.alloc w nw (fun i => .slice (A0 i) (n0 i) (c0 i))
  generalize hV1 : w.alloc (.cells #[.int .i64 nw, .slice (A0 0) (n0 0) (c0 0), .slice (A0 1) (n0 1) (c0 1), .slice (A0 2) (n0 2) (c0 2), .slice (A0 3) (n0 3) (c0 3), .slice (A0 4) (n0 4) (c0 4), .slice (A0 5) (n0 5) (c0 5), .slice (A0 6) (n0 6) (c0 6), .slice (A0 7) (n0 7) (c0 7)] 25) = V1 at hal1 hb1
  have s1 : V1.heap.size = w.heap.size + 1 := by rw [← hV1]; simp
  have hal2 : Below V1.heap.size V1 (V1.alloc (.cells #[.int .i64 0, .slice none 0 0, .slice none 0 0, .slice none 0 0, .slice none 0 0, .slice none 0 0, .slice none 0 0, .slice none 0 0, .slice none 0 0] 25)) := (Below.refl _ _).alloc (Nat.le_refl _) _
  have s2 : (V1.alloc (.cells #[.int .i64 0, .slice none 0 0, .slice none 0 0, .slice none 0 0, .slice none 0 0, .slice none 0 0, .slice none 0 0, .slice none 0 0, .slice none 0 0] 25)).heap.size = w.heap.size + 2 := by simp [s1]
  have x2 := heap_alloc_new V1 (.cells #[.int .i64 0, .slice none 0 0, .slice none 0 0, .slice none 0 0, .slice none 0 0, .slice none 0 0, .slice none 0 0, .slice none 0 0, .slice none 0 0] 25)
  rw [s1] at x2
  have HW := Lib.hid (hal1.trans (hal2.mono hal1.size))
  have HBX := Lib.hid (hb1.below hal2)
  have HX2 := Lib.hid x2
  have HSZ := Lib.hid s2
  have HR0 := Lib.hid hr
  have hl1000 : ∀ i, i < 8 → n0 i ≤ 1000 := fun i hi => by
    have : tot n0 i + n0 i ≤ tot n0 8 := tot_mono n0 (show i + 1 ≤ 8 by omega)
    omega
  clear hal1 hb1 hal2 x2 hr s1 s2
  rw [← hV1] at HW HBX HX2 HSZ
  clear hV1
  go_enter Try.func13, Try.ntmps13
  go_upto_region 1 with fail
  generalize ((w.alloc (.cells #[.int .i64 nw, .slice (A0 0) (n0 0) (c0 0), .slice (A0 1) (n0 1) (c0 1), .slice (A0 2) (n0 2) (c0 2), .slice (A0 3) (n0 3) (c0 3), .slice (A0 4) (n0 4) (c0 4), .slice (A0 5) (n0 5) (c0 5), .slice (A0 6) (n0 6) (c0 6), .slice (A0 7) (n0 7) (c0 7)] 25)).alloc (.cells #[.int .i64 0, .slice none 0 0, .slice none 0 0, .slice none 0 0, .slice none 0 0, .slice none 0 0, .slice none 0 0, .slice none 0 0, .slice none 0 0] 25)) = V at *
  have z0 : V.cell? ⟨w.heap.size, 0, none⟩ = some (.int .i64 nw) := HBX.out.now
  have z1 : V.cell? ⟨w.heap.size, 1, none⟩ = some (.slice (A0 0) (n0 0) (c0 0)) := HBX.out.slot (show 0 < 8 by omega)
  have z2 : V.cell? ⟨w.heap.size, 2, none⟩ = some (.slice (A0 1) (n0 1) (c0 1)) := HBX.out.slot (show 1 < 8 by omega)
  have z3 : V.cell? ⟨w.heap.size, 3, none⟩ = some (.slice (A0 2) (n0 2) (c0 2)) := HBX.out.slot (show 2 < 8 by omega)
  have z4 : V.cell? ⟨w.heap.size, 4, none⟩ = some (.slice (A0 3) (n0 3) (c0 3)) := HBX.out.slot (show 3 < 8 by omega)
  have z5 : V.cell? ⟨w.heap.size, 5, none⟩ = some (.slice (A0 4) (n0 4) (c0 4)) := HBX.out.slot (show 4 < 8 by omega)
  have z6 : V.cell? ⟨w.heap.size, 6, none⟩ = some (.slice (A0 5) (n0 5) (c0 5)) := HBX.out.slot (show 5 < 8 by omega)
  have z7 : V.cell? ⟨w.heap.size, 7, none⟩ = some (.slice (A0 6) (n0 6) (c0 6)) := HBX.out.slot (show 6 < 8 by omega)
  have z8 : V.cell? ⟨w.heap.size, 8, none⟩ = some (.slice (A0 7) (n0 7) (c0 7)) := HBX.out.slot (show 7 < 8 by omega)
  go_upto_region 2 with (go_at_call 21; refine (own_any V nw A0 n0 c0 ts (HR0.out.below HW.out) hl1000).mono ?_; rintro e w2 ⟨A, n, c, rfl, hO2, hb2⟩)
  clear z0 z1 z2 z3 z4 z5 z6 z7 z8
  have hal : Below w2.heap.size w2 (w2.alloc (.cells #[.int .i64 nw, .slice (A 0) (n 0) (c 0), .slice (A 1) (n 1) (c 1), .slice (A 2) (n 2) (c 2), .slice (A 3) (n 3) (c 3), .slice (A 4) (n 4) (c 4), .slice (A 5) (n 5) (c 5), .slice (A 6) (n 6) (c 6), .slice (A 7) (n 7) (c 7)] 25)) := (Below.refl _ _).alloc (Nat.le_refl _) _
  have hb3 := BoxW.alloc w2 nw (fun i => .slice (A i) (n i) (c i))
  have hs2 := hb2.size
  have hsz := HSZ.out
  have HS := Lib.hid (show St w (w2.alloc (.cells #[.int .i64 nw, .slice (A 0) (n 0) (c 0), .slice (A 1) (n 1) (c 1), .slice (A 2) (n 2) (c 2), .slice (A 3) (n 3) (c 3), .slice (A 4) (n 4) (c 4), .slice (A 5) (n 5) (c 5), .slice (A 6) (n 6) (c 6), .slice (A 7) (n 7) (c 7)] 25)) w2.heap.size nw (fun i => .slice (A0 i) (n0 i) (c0 i)) nw A n c ts from
    ⟨(HBX.out.below hb2).below hal, keep hal (keep hb2 HX2.out), hb3, (hO2.lower HW.out.size).below hal, (HW.out.trans (hb2.mono HW.out.size)).trans (hal.mono (by have := HW.out.size; omega)), by omega⟩)
  clear hal hb3 hO2 hb2 HBX HX2 HW HSZ hs2 hsz
  generalize w2.alloc (.cells #[.int .i64 nw, .slice (A 0) (n 0) (c 0), .slice (A 1) (n 1) (c 1), .slice (A 2) (n 2) (c 2), .slice (A 3) (n 3) (c 3), .slice (A 4) (n 4) (c 4), .slice (A 5) (n 5) (c 5), .slice (A 6) (n 6) (c 6), .slice (A 7) (n 7) (c 7)] 25) = U at *
  generalize w2.heap.size = b3 at *
  have z0 : U.cell? ⟨w.heap.size, 0, none⟩ = some (.int .i64 nw) := HS.out.x1.now
  have z1 : U.cell? ⟨w.heap.size, 1, none⟩ = some (.slice (A0 0) (n0 0) (c0 0)) := HS.out.x1.slot (show 0 < 8 by omega)
  have z2 : U.cell? ⟨w.heap.size, 2, none⟩ = some (.slice (A0 1) (n0 1) (c0 1)) := HS.out.x1.slot (show 1 < 8 by omega)
  have z3 : U.cell? ⟨w.heap.size, 3, none⟩ = some (.slice (A0 2) (n0 2) (c0 2)) := HS.out.x1.slot (show 2 < 8 by omega)
  have z4 : U.cell? ⟨w.heap.size, 4, none⟩ = some (.slice (A0 3) (n0 3) (c0 3)) := HS.out.x1.slot (show 3 < 8 by omega)
  have z5 : U.cell? ⟨w.heap.size, 5, none⟩ = some (.slice (A0 4) (n0 4) (c0 4)) := HS.out.x1.slot (show 4 < 8 by omega)
  have z6 : U.cell? ⟨w.heap.size, 6, none⟩ = some (.slice (A0 5) (n0 5) (c0 5)) := HS.out.x1.slot (show 5 < 8 by omega)
  have z7 : U.cell? ⟨w.heap.size, 7, none⟩ = some (.slice (A0 6) (n0 6) (c0 6)) := HS.out.x1.slot (show 6 < 8 by omega)
  have z8 : U.cell? ⟨w.heap.size, 8, none⟩ = some (.slice (A0 7) (n0 7) (c0 7)) := HS.out.x1.slot (show 7 < 8 by omega)
  go_upto_region 3 with (go_at_call 27; refine (all_any U nw A0 n0 c0 ts (HR0.out.below HS.out.bw) (by omega)).mono ?_; rintro e w3 ⟨B, d, rfl, hL, hb3⟩; have HS3 := Lib.hid (HS.out.below hb3); have HL := Lib.hid hL.rd; have HB3 := Lib.hid hb3; clear hL hb3 z0 z1 z2 z3 z4 z5 z6 z7 z8)
  clear HS HB3
  have z0 : w3.cell? ⟨w.heap.size, 0, none⟩ = some (.int .i64 nw) := HS3.out.x1.now
  have z1 : w3.cell? ⟨w.heap.size, 1, none⟩ = some (.slice (A0 0) (n0 0) (c0 0)) := HS3.out.x1.slot (show 0 < 8 by omega)
  have z2 : w3.cell? ⟨w.heap.size, 2, none⟩ = some (.slice (A0 1) (n0 1) (c0 1)) := HS3.out.x1.slot (show 1 < 8 by omega)
  have z3 : w3.cell? ⟨w.heap.size, 3, none⟩ = some (.slice (A0 2) (n0 2) (c0 2)) := HS3.out.x1.slot (show 2 < 8 by omega)
  have z4 : w3.cell? ⟨w.heap.size, 4, none⟩ = some (.slice (A0 3) (n0 3) (c0 3)) := HS3.out.x1.slot (show 3 < 8 by omega)
  have z5 : w3.cell? ⟨w.heap.size, 5, none⟩ = some (.slice (A0 4) (n0 4) (c0 4)) := HS3.out.x1.slot (show 4 < 8 by omega)
  have z6 : w3.cell? ⟨w.heap.size, 6, none⟩ = some (.slice (A0 5) (n0 5) (c0 5)) := HS3.out.x1.slot (show 5 < 8 by omega)
  have z7 : w3.cell? ⟨w.heap.size, 7, none⟩ = some (.slice (A0 6) (n0 6) (c0 6)) := HS3.out.x1.slot (show 6 < 8 by omega)
  have z8 : w3.cell? ⟨w.heap.size, 8, none⟩ = some (.slice (A0 7) (n0 7) (c0 7)) := HS3.out.x1.slot (show 7 < 8 by omega)
  obtain ⟨rb, hrb⟩ : ∃ b, rightB nw ts = b := ⟨_, rfl⟩
  have HRB := Lib.hid hrb
  clear hrb
  have ARM := Lib.hid (right_any w3 nw A0 n0 c0 ts (HR0.out.below HS3.out.bw) (by omega) hwf)
  have ARG : ∀ (P : Prop), ¬ P → (¬ (RightW nw ts ∧ 0 ≤ id ∧ nw < a ∧ a ≤ 9007199254740992) → P) → RightW nw ts ∧ 0 ≤ id ∧ nw < a ∧ a ≤ 9007199254740992 := fun P hn h => Classical.byContradiction fun hc => hn (h hc)
  clear ARG
  cases rb with
  | false =>
    have HE := Lib.hid (setE_arg (nw := nw) (ts := ts) (id := id) (a := a) (fun h => by have := rightB_yes h.1; rw [HRB.out] at this; cases this))
    go_upto_region 7 with (go_at_call 14; refine ARM.out.mono ?_; rw [HRB.out]; rintro e w4 ⟨rfl, hb4⟩; have HS := Lib.hid (HS3.out.below hb4); have HL4 := Lib.hid (HL.out.below hb4); have zn : w4.cell? ⟨w.heap.size, 0, none⟩ = some (.int .i64 nw) := HS.out.x1.now; clear hb4 z0 z1 z2 z3 z4 z5 z6 z7 z8)
    have z0 : w4.cell? ⟨b3, 0, none⟩ = some (.int .i64 nw) := HS.out.x3.now
    have z1 : w4.cell? ⟨b3, 1, none⟩ = some (.slice (A 0) (n 0) (c 0)) := HS.out.x3.slot (show 0 < 8 by omega)
    have z2 : w4.cell? ⟨b3, 2, none⟩ = some (.slice (A 1) (n 1) (c 1)) := HS.out.x3.slot (show 1 < 8 by omega)
    have z3 : w4.cell? ⟨b3, 3, none⟩ = some (.slice (A 2) (n 2) (c 2)) := HS.out.x3.slot (show 2 < 8 by omega)
    have z4 : w4.cell? ⟨b3, 4, none⟩ = some (.slice (A 3) (n 3) (c 3)) := HS.out.x3.slot (show 3 < 8 by omega)
    have z5 : w4.cell? ⟨b3, 5, none⟩ = some (.slice (A 4) (n 4) (c 4)) := HS.out.x3.slot (show 4 < 8 by omega)
    have z6 : w4.cell? ⟨b3, 6, none⟩ = some (.slice (A 5) (n 5) (c 5)) := HS.out.x3.slot (show 5 < 8 by omega)
    have z7 : w4.cell? ⟨b3, 7, none⟩ = some (.slice (A 6) (n 6) (c 6)) := HS.out.x3.slot (show 6 < 8 by omega)
    have z8 : w4.cell? ⟨b3, 8, none⟩ = some (.slice (A 7) (n 7) (c 7)) := HS.out.x3.slot (show 7 < 8 by omega)
    have r0 := box_at HS.out.x2 0 _ rfl
    have r1 := box_at HS.out.x2 1 _ rfl
    have r2 := box_at HS.out.x2 2 _ rfl
    have r3 := box_at HS.out.x2 3 _ rfl
    have r4 := box_at HS.out.x2 4 _ rfl
    have r5 := box_at HS.out.x2 5 _ rfl
    have r6 := box_at HS.out.x2 6 _ rfl
    have r7 := box_at HS.out.x2 7 _ rfl
    have r8 := box_at HS.out.x2 8 _ rfl
    have rf := box_free HS.out.x2
    go_wp2_with fail
    refine bodyPost_ret (v := .tuple #[.agg #[.int .i64 nw, .slice (A 0) (n 0) (c 0), .slice (A 1) (n 1) (c 1), .slice (A 2) (n 2) (c 2), .slice (A 3) (n 3) (c 3), .slice (A 4) (n 4) (c 4), .slice (A 5) (n 5) (c 5), .slice (A 6) (n 6) (c 6), .slice (A 7) (n 7) (c 7)], .int .i64 1]) (by simp [results, Try.results13, go_sem, r0, r1, r2, r3, r4, r5, r6, r7, r8]) rfl ?_
    obtain ⟨he1, he2⟩ := HE.out
    rw [he1, he2]
    exact ⟨A, n, c, rfl, HS.out.fin⟩
  | true =>
    by_cases e0 : id < 0
    · have HE := Lib.hid (setE_arg (nw := nw) (ts := ts) (id := id) (a := a) (fun h => by omega))
      go_upto_region 7 with (go_at_call 14; refine ARM.out.mono ?_; rw [HRB.out]; rintro e w4 ⟨rfl, hb4⟩; have HS := Lib.hid (HS3.out.below hb4); have HL4 := Lib.hid (HL.out.below hb4); have zn : w4.cell? ⟨w.heap.size, 0, none⟩ = some (.int .i64 nw) := HS.out.x1.now; clear hb4 z0 z1 z2 z3 z4 z5 z6 z7 z8)
      have z0 : w4.cell? ⟨b3, 0, none⟩ = some (.int .i64 nw) := HS.out.x3.now
      have z1 : w4.cell? ⟨b3, 1, none⟩ = some (.slice (A 0) (n 0) (c 0)) := HS.out.x3.slot (show 0 < 8 by omega)
      have z2 : w4.cell? ⟨b3, 2, none⟩ = some (.slice (A 1) (n 1) (c 1)) := HS.out.x3.slot (show 1 < 8 by omega)
      have z3 : w4.cell? ⟨b3, 3, none⟩ = some (.slice (A 2) (n 2) (c 2)) := HS.out.x3.slot (show 2 < 8 by omega)
      have z4 : w4.cell? ⟨b3, 4, none⟩ = some (.slice (A 3) (n 3) (c 3)) := HS.out.x3.slot (show 3 < 8 by omega)
      have z5 : w4.cell? ⟨b3, 5, none⟩ = some (.slice (A 4) (n 4) (c 4)) := HS.out.x3.slot (show 4 < 8 by omega)
      have z6 : w4.cell? ⟨b3, 6, none⟩ = some (.slice (A 5) (n 5) (c 5)) := HS.out.x3.slot (show 5 < 8 by omega)
      have z7 : w4.cell? ⟨b3, 7, none⟩ = some (.slice (A 6) (n 6) (c 6)) := HS.out.x3.slot (show 6 < 8 by omega)
      have z8 : w4.cell? ⟨b3, 8, none⟩ = some (.slice (A 7) (n 7) (c 7)) := HS.out.x3.slot (show 7 < 8 by omega)
      have r0 := box_at HS.out.x2 0 _ rfl
      have r1 := box_at HS.out.x2 1 _ rfl
      have r2 := box_at HS.out.x2 2 _ rfl
      have r3 := box_at HS.out.x2 3 _ rfl
      have r4 := box_at HS.out.x2 4 _ rfl
      have r5 := box_at HS.out.x2 5 _ rfl
      have r6 := box_at HS.out.x2 6 _ rfl
      have r7 := box_at HS.out.x2 7 _ rfl
      have r8 := box_at HS.out.x2 8 _ rfl
      have rf := box_free HS.out.x2
      go_wp2_with fail
      refine bodyPost_ret (v := .tuple #[.agg #[.int .i64 nw, .slice (A 0) (n 0) (c 0), .slice (A 1) (n 1) (c 1), .slice (A 2) (n 2) (c 2), .slice (A 3) (n 3) (c 3), .slice (A 4) (n 4) (c 4), .slice (A 5) (n 5) (c 5), .slice (A 6) (n 6) (c 6), .slice (A 7) (n 7) (c 7)], .int .i64 1]) (by simp [results, Try.results13, go_sem, r0, r1, r2, r3, r4, r5, r6, r7, r8]) rfl ?_
      obtain ⟨he1, he2⟩ := HE.out
      rw [he1, he2]
      exact ⟨A, n, c, rfl, HS.out.fin⟩
    by_cases e1 : a ≤ nw
    · have HE := Lib.hid (setE_arg (nw := nw) (ts := ts) (id := id) (a := a) (fun h => by omega))
      go_upto_region 7 with (go_at_call 14; refine ARM.out.mono ?_; rw [HRB.out]; rintro e w4 ⟨rfl, hb4⟩; have HS := Lib.hid (HS3.out.below hb4); have HL4 := Lib.hid (HL.out.below hb4); have zn : w4.cell? ⟨w.heap.size, 0, none⟩ = some (.int .i64 nw) := HS.out.x1.now; clear hb4 z0 z1 z2 z3 z4 z5 z6 z7 z8)
      have z0 : w4.cell? ⟨b3, 0, none⟩ = some (.int .i64 nw) := HS.out.x3.now
      have z1 : w4.cell? ⟨b3, 1, none⟩ = some (.slice (A 0) (n 0) (c 0)) := HS.out.x3.slot (show 0 < 8 by omega)
      have z2 : w4.cell? ⟨b3, 2, none⟩ = some (.slice (A 1) (n 1) (c 1)) := HS.out.x3.slot (show 1 < 8 by omega)
      have z3 : w4.cell? ⟨b3, 3, none⟩ = some (.slice (A 2) (n 2) (c 2)) := HS.out.x3.slot (show 2 < 8 by omega)
      have z4 : w4.cell? ⟨b3, 4, none⟩ = some (.slice (A 3) (n 3) (c 3)) := HS.out.x3.slot (show 3 < 8 by omega)
      have z5 : w4.cell? ⟨b3, 5, none⟩ = some (.slice (A 4) (n 4) (c 4)) := HS.out.x3.slot (show 4 < 8 by omega)
      have z6 : w4.cell? ⟨b3, 6, none⟩ = some (.slice (A 5) (n 5) (c 5)) := HS.out.x3.slot (show 5 < 8 by omega)
      have z7 : w4.cell? ⟨b3, 7, none⟩ = some (.slice (A 6) (n 6) (c 6)) := HS.out.x3.slot (show 6 < 8 by omega)
      have z8 : w4.cell? ⟨b3, 8, none⟩ = some (.slice (A 7) (n 7) (c 7)) := HS.out.x3.slot (show 7 < 8 by omega)
      have r0 := box_at HS.out.x2 0 _ rfl
      have r1 := box_at HS.out.x2 1 _ rfl
      have r2 := box_at HS.out.x2 2 _ rfl
      have r3 := box_at HS.out.x2 3 _ rfl
      have r4 := box_at HS.out.x2 4 _ rfl
      have r5 := box_at HS.out.x2 5 _ rfl
      have r6 := box_at HS.out.x2 6 _ rfl
      have r7 := box_at HS.out.x2 7 _ rfl
      have r8 := box_at HS.out.x2 8 _ rfl
      have rf := box_free HS.out.x2
      go_wp2_with fail
      refine bodyPost_ret (v := .tuple #[.agg #[.int .i64 nw, .slice (A 0) (n 0) (c 0), .slice (A 1) (n 1) (c 1), .slice (A 2) (n 2) (c 2), .slice (A 3) (n 3) (c 3), .slice (A 4) (n 4) (c 4), .slice (A 5) (n 5) (c 5), .slice (A 6) (n 6) (c 6), .slice (A 7) (n 7) (c 7)], .int .i64 1]) (by simp [results, Try.results13, go_sem, r0, r1, r2, r3, r4, r5, r6, r7, r8]) rfl ?_
      obtain ⟨he1, he2⟩ := HE.out
      rw [he1, he2]
      exact ⟨A, n, c, rfl, HS.out.fin⟩
    by_cases e2 : 9007199254740992 < a
    · have HE := Lib.hid (setE_arg (nw := nw) (ts := ts) (id := id) (a := a) (fun h => by omega))
      go_upto_region 7 with (go_at_call 14; refine ARM.out.mono ?_; rw [HRB.out]; rintro e w4 ⟨rfl, hb4⟩; have HS := Lib.hid (HS3.out.below hb4); have HL4 := Lib.hid (HL.out.below hb4); have zn : w4.cell? ⟨w.heap.size, 0, none⟩ = some (.int .i64 nw) := HS.out.x1.now; clear hb4 z0 z1 z2 z3 z4 z5 z6 z7 z8)
      have z0 : w4.cell? ⟨b3, 0, none⟩ = some (.int .i64 nw) := HS.out.x3.now
      have z1 : w4.cell? ⟨b3, 1, none⟩ = some (.slice (A 0) (n 0) (c 0)) := HS.out.x3.slot (show 0 < 8 by omega)
      have z2 : w4.cell? ⟨b3, 2, none⟩ = some (.slice (A 1) (n 1) (c 1)) := HS.out.x3.slot (show 1 < 8 by omega)
      have z3 : w4.cell? ⟨b3, 3, none⟩ = some (.slice (A 2) (n 2) (c 2)) := HS.out.x3.slot (show 2 < 8 by omega)
      have z4 : w4.cell? ⟨b3, 4, none⟩ = some (.slice (A 3) (n 3) (c 3)) := HS.out.x3.slot (show 3 < 8 by omega)
      have z5 : w4.cell? ⟨b3, 5, none⟩ = some (.slice (A 4) (n 4) (c 4)) := HS.out.x3.slot (show 4 < 8 by omega)
      have z6 : w4.cell? ⟨b3, 6, none⟩ = some (.slice (A 5) (n 5) (c 5)) := HS.out.x3.slot (show 5 < 8 by omega)
      have z7 : w4.cell? ⟨b3, 7, none⟩ = some (.slice (A 6) (n 6) (c 6)) := HS.out.x3.slot (show 6 < 8 by omega)
      have z8 : w4.cell? ⟨b3, 8, none⟩ = some (.slice (A 7) (n 7) (c 7)) := HS.out.x3.slot (show 7 < 8 by omega)
      have r0 := box_at HS.out.x2 0 _ rfl
      have r1 := box_at HS.out.x2 1 _ rfl
      have r2 := box_at HS.out.x2 2 _ rfl
      have r3 := box_at HS.out.x2 3 _ rfl
      have r4 := box_at HS.out.x2 4 _ rfl
      have r5 := box_at HS.out.x2 5 _ rfl
      have r6 := box_at HS.out.x2 6 _ rfl
      have r7 := box_at HS.out.x2 7 _ rfl
      have r8 := box_at HS.out.x2 8 _ rfl
      have rf := box_free HS.out.x2
      go_wp2_with fail
      refine bodyPost_ret (v := .tuple #[.agg #[.int .i64 nw, .slice (A 0) (n 0) (c 0), .slice (A 1) (n 1) (c 1), .slice (A 2) (n 2) (c 2), .slice (A 3) (n 3) (c 3), .slice (A 4) (n 4) (c 4), .slice (A 5) (n 5) (c 5), .slice (A 6) (n 6) (c 6), .slice (A 7) (n 7) (c 7)], .int .i64 1]) (by simp [results, Try.results13, go_sem, r0, r1, r2, r3, r4, r5, r6, r7, r8]) rfl ?_
      obtain ⟨he1, he2⟩ := HE.out
      rw [he1, he2]
      exact ⟨A, n, c, rfl, HS.out.fin⟩
    have hOK : RightW nw ts ∧ 0 ≤ id ∧ nw < a ∧ a ≤ 9007199254740992 := ⟨rightB_iff.1 HRB.out, by omega, by omega, by omega⟩
    have HOK := Lib.hid hOK
    have hnw : 0 ≤ nw := hOK.1.1.1
    clear hOK
    obtain ⟨ib, hib⟩ : ∃ b, (allT ts 8).any (fun t => t.id == id) = b := ⟨_, rfl⟩
    have HIB := Lib.hid hib
    clear hib
    go_upto_region 8 with (go_at_call 14; refine ARM.out.mono ?_; rw [HRB.out]; rintro e w4 ⟨rfl, hb4⟩; have HS := Lib.hid (HS3.out.below hb4); have HL4 := Lib.hid (HL.out.below hb4); have zn : w4.cell? ⟨w.heap.size, 0, none⟩ = some (.int .i64 nw) := HS.out.x1.now; clear hb4 z0 z1 z2 z3 z4 z5 z6 z7 z8)
    cases ib with
    | true =>
      have HE := Lib.hid (setE_busy HOK.out (by have h := HIB.out; simpa using h))
      go_upto_region 9 with (first | (go_at_call 25; refine (is_any w4 id).mono ?_; rintro e w5 ⟨rfl, hx5, hb5⟩; have HS5 := Lib.hid (HS.out.below hb5); have HP5 := Lib.hid (pred_is w5 w4.heap.size id hx5); have HL5 := Lib.hid (HL4.out.below hb5); clear hx5 hb5) | (go_at_call 28; refine (containsFunc_tms 33 _ eg33 (fun t => t.id == id) w5 _ (allT ts 8) HL5.out HP5.out).mono ?_; rw [HIB.out]; rintro e w6 ⟨rfl, hb6⟩; replace HS := Lib.hid (HS5.out.below hb6); clear hb6))
      have z0 : w6.cell? ⟨b3, 0, none⟩ = some (.int .i64 nw) := HS.out.x3.now
      have z1 : w6.cell? ⟨b3, 1, none⟩ = some (.slice (A 0) (n 0) (c 0)) := HS.out.x3.slot (show 0 < 8 by omega)
      have z2 : w6.cell? ⟨b3, 2, none⟩ = some (.slice (A 1) (n 1) (c 1)) := HS.out.x3.slot (show 1 < 8 by omega)
      have z3 : w6.cell? ⟨b3, 3, none⟩ = some (.slice (A 2) (n 2) (c 2)) := HS.out.x3.slot (show 2 < 8 by omega)
      have z4 : w6.cell? ⟨b3, 4, none⟩ = some (.slice (A 3) (n 3) (c 3)) := HS.out.x3.slot (show 3 < 8 by omega)
      have z5 : w6.cell? ⟨b3, 5, none⟩ = some (.slice (A 4) (n 4) (c 4)) := HS.out.x3.slot (show 4 < 8 by omega)
      have z6 : w6.cell? ⟨b3, 6, none⟩ = some (.slice (A 5) (n 5) (c 5)) := HS.out.x3.slot (show 5 < 8 by omega)
      have z7 : w6.cell? ⟨b3, 7, none⟩ = some (.slice (A 6) (n 6) (c 6)) := HS.out.x3.slot (show 6 < 8 by omega)
      have z8 : w6.cell? ⟨b3, 8, none⟩ = some (.slice (A 7) (n 7) (c 7)) := HS.out.x3.slot (show 7 < 8 by omega)
      have r0 := box_at HS.out.x2 0 _ rfl
      have r1 := box_at HS.out.x2 1 _ rfl
      have r2 := box_at HS.out.x2 2 _ rfl
      have r3 := box_at HS.out.x2 3 _ rfl
      have r4 := box_at HS.out.x2 4 _ rfl
      have r5 := box_at HS.out.x2 5 _ rfl
      have r6 := box_at HS.out.x2 6 _ rfl
      have r7 := box_at HS.out.x2 7 _ rfl
      have r8 := box_at HS.out.x2 8 _ rfl
      have rf := box_free HS.out.x2
      go_wp2_with fail
      refine bodyPost_ret (v := .tuple #[.agg #[.int .i64 nw, .slice (A 0) (n 0) (c 0), .slice (A 1) (n 1) (c 1), .slice (A 2) (n 2) (c 2), .slice (A 3) (n 3) (c 3), .slice (A 4) (n 4) (c 4), .slice (A 5) (n 5) (c 5), .slice (A 6) (n 6) (c 6), .slice (A 7) (n 7) (c 7)], .int .i64 6]) (by simp [results, Try.results13, go_sem, r0, r1, r2, r3, r4, r5, r6, r7, r8]) rfl ?_
      obtain ⟨he1, he2⟩ := HE.out
      rw [he1, he2]
      exact ⟨A, n, c, rfl, HS.out.fin⟩
    | false =>
      have hno : ¬ ∃ t ∈ allT ts 8, t.id = id := by have h := HIB.out; simpa using h
      have HNO := Lib.hid hno
      clear hno
      by_cases e3 : 64 ≤ tot n0 8
      · have e3' : (64 : Int) ≤ ((tot n0 8 : Nat) : Int) := by omega
        have HE := Lib.hid (setE_full HOK.out HNO.out (by rw [HLN.out]; exact e3))
        clear e3
        go_upto_region 11 with (first | (go_at_call 25; refine (is_any w4 id).mono ?_; rintro e w5 ⟨rfl, hx5, hb5⟩; have HS5 := Lib.hid (HS.out.below hb5); have HP5 := Lib.hid (pred_is w5 w4.heap.size id hx5); have HL5 := Lib.hid (HL4.out.below hb5); clear hx5 hb5) | (go_at_call 28; refine (containsFunc_tms 33 _ eg33 (fun t => t.id == id) w5 _ (allT ts 8) HL5.out HP5.out).mono ?_; rw [HIB.out]; rintro e w6 ⟨rfl, hb6⟩; replace HS := Lib.hid (HS5.out.below hb6); clear hb6))
        have z0 : w6.cell? ⟨b3, 0, none⟩ = some (.int .i64 nw) := HS.out.x3.now
        have z1 : w6.cell? ⟨b3, 1, none⟩ = some (.slice (A 0) (n 0) (c 0)) := HS.out.x3.slot (show 0 < 8 by omega)
        have z2 : w6.cell? ⟨b3, 2, none⟩ = some (.slice (A 1) (n 1) (c 1)) := HS.out.x3.slot (show 1 < 8 by omega)
        have z3 : w6.cell? ⟨b3, 3, none⟩ = some (.slice (A 2) (n 2) (c 2)) := HS.out.x3.slot (show 2 < 8 by omega)
        have z4 : w6.cell? ⟨b3, 4, none⟩ = some (.slice (A 3) (n 3) (c 3)) := HS.out.x3.slot (show 3 < 8 by omega)
        have z5 : w6.cell? ⟨b3, 5, none⟩ = some (.slice (A 4) (n 4) (c 4)) := HS.out.x3.slot (show 4 < 8 by omega)
        have z6 : w6.cell? ⟨b3, 6, none⟩ = some (.slice (A 5) (n 5) (c 5)) := HS.out.x3.slot (show 5 < 8 by omega)
        have z7 : w6.cell? ⟨b3, 7, none⟩ = some (.slice (A 6) (n 6) (c 6)) := HS.out.x3.slot (show 6 < 8 by omega)
        have z8 : w6.cell? ⟨b3, 8, none⟩ = some (.slice (A 7) (n 7) (c 7)) := HS.out.x3.slot (show 7 < 8 by omega)
        have r0 := box_at HS.out.x2 0 _ rfl
        have r1 := box_at HS.out.x2 1 _ rfl
        have r2 := box_at HS.out.x2 2 _ rfl
        have r3 := box_at HS.out.x2 3 _ rfl
        have r4 := box_at HS.out.x2 4 _ rfl
        have r5 := box_at HS.out.x2 5 _ rfl
        have r6 := box_at HS.out.x2 6 _ rfl
        have r7 := box_at HS.out.x2 7 _ rfl
        have r8 := box_at HS.out.x2 8 _ rfl
        have rf := box_free HS.out.x2
        go_wp2_with fail
        refine bodyPost_ret (v := .tuple #[.agg #[.int .i64 nw, .slice (A 0) (n 0) (c 0), .slice (A 1) (n 1) (c 1), .slice (A 2) (n 2) (c 2), .slice (A 3) (n 3) (c 3), .slice (A 4) (n 4) (c 4), .slice (A 5) (n 5) (c 5), .slice (A 6) (n 6) (c 6), .slice (A 7) (n 7) (c 7)], .int .i64 4]) (by simp [results, Try.results13, go_sem, r0, r1, r2, r3, r4, r5, r6, r7, r8]) rfl ?_
        obtain ⟨he1, he2⟩ := HE.out
        rw [he1, he2]
        exact ⟨A, n, c, rfl, HS.out.fin⟩
      · have e3' : ¬ (64 : Int) ≤ ((tot n0 8 : Nat) : Int) := by omega
        have HE := Lib.hid (setE_ok HOK.out HNO.out (by rw [HLN.out]; exact e3))
        clear e3
        obtain ⟨am, ham⟩ : ∃ m : Nat, a = m := ⟨a.toNat, by omega⟩
        subst ham
        rw [Int.toNat_natCast] at HE
        obtain ⟨k, hk⟩ : ∃ k, am % 8 = k := ⟨_, rfl⟩
        rw [hk] at HE
        have hq : (am : Int) % 8 = (k : Int) := by omega
        have hk8 : k < 8 := by rw [← hk]; exact Nat.mod_lt _ (by omega)
        have hk8' : (k : Int) < 8 := by omega
        clear hk
        go_upto_region 13 with (first | (go_at_call 25; refine (is_any w4 id).mono ?_; rintro e w5 ⟨rfl, hx5, hb5⟩; have HS5 := Lib.hid (HS.out.below hb5); have HP5 := Lib.hid (pred_is w5 w4.heap.size id hx5); have HL5 := Lib.hid (HL4.out.below hb5); clear hx5 hb5) | (go_at_call 28; refine (containsFunc_tms 33 _ eg33 (fun t => t.id == id) w5 _ (allT ts 8) HL5.out HP5.out).mono ?_; rw [HIB.out]; rintro e w6 ⟨rfl, hb6⟩; replace HS := Lib.hid (HS5.out.below hb6); clear hb6))
        simp only [hq]
        clear hq
        have zk := HS.out.x3.slot hk8
        have zf := HS.out.x3.free
        have hok := Lib.hid (HS.out.o.o k hk8)
        have hlk := hok.out.rd.len
        have hlt := hok.out.rd.max
        have hlen9 : (ts k).length ≤ 1000 := by
          have h1 := allT_sub ts (show k + 1 ≤ 8 by omega)
          have h2 := h1.length_le
          rw [HLN.out, allT_succ, List.length_append] at h2
          omega
        go_wp2_with (at_builtin; refine wp_appE w.heap.size rfl _ _ 22 34 (.agg #[.int .i64 0, .int .i64 0]) 16 rfl Try.underlying22 Try.info34 rfl (by omega) (by omega) (.slice (A k) (n k) (c k)) (.slice (some ⟨w6.heap.size, 0, none⟩) 1 1) (ts k) [(⟨id, am⟩ : Tm)] rfl rfl ?c1 ?c2 tenc1 ?c3 ?c4 ?c5)
        case c1 => exact hok.out.below ((Below.refl _ _).alloc (Nat.le_refl _) _)
        case c2 => exact rd_boxE w6 (⟨id, am⟩ : Tm) 34
        case c3 => simp; omega
        case c4 => have := HS.out.bw.size; simp; omega
        case c5 =>
          intro v1 w7 hv1 hg1 hat1
          obtain ⟨B7, n7, c7, rfl⟩ := hv1.slice'
          have hS7 := HS.out.app hk8 hg1 hv1 (by simpa using hat1)
          have hn7 := HS.out.x3
          have z7 : w7.cell? ⟨b3, 1 + k, none⟩ = some (.slice (A k) (n k) (c k)) := by
            have hal : Below w6.heap.size w6 (w6.alloc (.cells #[.int .i64 id, .int .i64 am] 34)) := (Below.refl _ _).alloc (Nat.le_refl _) _
            exact ((HS.out.x3.below hal).grown hg1 ((HS.out.x3.below hal).ne (hok.out.below hal))).slot hk8
          have f7 : ∀ j, w7.frozen? ⟨b3, j, none⟩ = false := by
            have hal : Below w6.heap.size w6 (w6.alloc (.cells #[.int .i64 id, .int .i64 am] 34)) := (Below.refl _ _).alloc (Nat.le_refl _) _
            exact ((HS.out.x3.below hal).grown hg1 ((HS.out.x3.below hal).ne (hok.out.below hal))).free
          replace HS := Lib.hid hS7
          clear hS7 hn7 hv1 hg1 hat1 zk zf
          go_upto_region 14 with fail
          generalize w7.setCell ⟨b3, 1 + k, none⟩ (.slice B7 n7 c7) = W9 at *
          generalize upd A k B7 = A9 at *
          generalize upd n k n7 = n9 at *
          generalize upd c k c7 = c9 at *
          clear z7 f7
          have z0 : W9.cell? ⟨b3, 0, none⟩ = some (.int .i64 nw) := HS.out.x3.now
          have z1 : W9.cell? ⟨b3, 1, none⟩ = some (.slice (A9 0) (n9 0) (c9 0)) := HS.out.x3.slot (show 0 < 8 by omega)
          have z2 : W9.cell? ⟨b3, 2, none⟩ = some (.slice (A9 1) (n9 1) (c9 1)) := HS.out.x3.slot (show 1 < 8 by omega)
          have z3 : W9.cell? ⟨b3, 3, none⟩ = some (.slice (A9 2) (n9 2) (c9 2)) := HS.out.x3.slot (show 2 < 8 by omega)
          have z4 : W9.cell? ⟨b3, 4, none⟩ = some (.slice (A9 3) (n9 3) (c9 3)) := HS.out.x3.slot (show 3 < 8 by omega)
          have z5 : W9.cell? ⟨b3, 5, none⟩ = some (.slice (A9 4) (n9 4) (c9 4)) := HS.out.x3.slot (show 4 < 8 by omega)
          have z6 : W9.cell? ⟨b3, 6, none⟩ = some (.slice (A9 5) (n9 5) (c9 5)) := HS.out.x3.slot (show 5 < 8 by omega)
          have z7 : W9.cell? ⟨b3, 7, none⟩ = some (.slice (A9 6) (n9 6) (c9 6)) := HS.out.x3.slot (show 6 < 8 by omega)
          have z8 : W9.cell? ⟨b3, 8, none⟩ = some (.slice (A9 7) (n9 7) (c9 7)) := HS.out.x3.slot (show 7 < 8 by omega)
          have r0 := box_at HS.out.x2 0 _ rfl
          have r1 := box_at HS.out.x2 1 _ rfl
          have r2 := box_at HS.out.x2 2 _ rfl
          have r3 := box_at HS.out.x2 3 _ rfl
          have r4 := box_at HS.out.x2 4 _ rfl
          have r5 := box_at HS.out.x2 5 _ rfl
          have r6 := box_at HS.out.x2 6 _ rfl
          have r7 := box_at HS.out.x2 7 _ rfl
          have r8 := box_at HS.out.x2 8 _ rfl
          have rf := box_free HS.out.x2
          go_wp2_with fail
          refine bodyPost_ret (v := .tuple #[.agg #[.int .i64 nw, .slice (A9 0) (n9 0) (c9 0), .slice (A9 1) (n9 1) (c9 1), .slice (A9 2) (n9 2) (c9 2), .slice (A9 3) (n9 3) (c9 3), .slice (A9 4) (n9 4) (c9 4), .slice (A9 5) (n9 5) (c9 5), .slice (A9 6) (n9 6) (c9 6), .slice (A9 7) (n9 7) (c9 7)], .int .i64 0]) (by simp [results, Try.results13, go_sem, r0, r1, r2, r3, r4, r5, r6, r7, r8]) rfl ?_
          obtain ⟨he1, he2⟩ := HE.out
          rw [he1, he2]
          exact ⟨A9, n9, c9, rfl, HS.out.fin⟩
end Go.Proofs.Ytnlgmfkgpaampaa
