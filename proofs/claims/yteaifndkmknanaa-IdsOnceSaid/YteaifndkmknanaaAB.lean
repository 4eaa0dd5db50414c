/- Contract of lockagelaw02.told. -/
import Derived.Test.YteaifndkmknanaaAA
set_option linter.unusedVariables false
namespace Go.Proofs.Yteaifndkmknanaa
open Go.RowKit
open Go.Proofs.YteaifndkmknanaaW.PrintWords

theorem keepc {w1 w2 : World} {p : Addr} {v : Value} (hb : Below w1.heap.size w1 w2) (h : w1.cell? p = some v) : w2.cell? p = some v := (hb.cell (World.block_lt_of_cell? w1 p h)).trans h
def C15 (W w' : World) (p0 p1 p2 p3 p4 p5 p6 p7 p8 p9 p10 p11 p12 p13 p14 : Addr) (v0 v1 v2 v3 v4 v5 v6 v7 v8 v9 v10 v11 v12 v13 v14 : Value) : Prop := w'.cell? p0 = some v0 ∧ w'.cell? p1 = some v1 ∧ w'.cell? p2 = some v2 ∧ w'.cell? p3 = some v3 ∧ w'.cell? p4 = some v4 ∧ w'.cell? p5 = some v5 ∧ w'.cell? p6 = some v6 ∧ w'.cell? p7 = some v7 ∧ w'.cell? p8 = some v8 ∧ w'.cell? p9 = some v9 ∧ w'.cell? p10 = some v10 ∧ w'.cell? p11 = some v11 ∧ w'.cell? p12 = some v12 ∧ w'.cell? p13 = some v13 ∧ w'.cell? p14 = some v14 ∧ Below W.heap.size W w'
theorem C15.below {W w1 w2 : World} {p0 p1 p2 p3 p4 p5 p6 p7 p8 p9 p10 p11 p12 p13 p14 : Addr} {v0 v1 v2 v3 v4 v5 v6 v7 v8 v9 v10 v11 v12 v13 v14 : Value} (hb : Below w1.heap.size w1 w2) (h : C15 W w1 p0 p1 p2 p3 p4 p5 p6 p7 p8 p9 p10 p11 p12 p13 p14 v0 v1 v2 v3 v4 v5 v6 v7 v8 v9 v10 v11 v12 v13 v14) : C15 W w2 p0 p1 p2 p3 p4 p5 p6 p7 p8 p9 p10 p11 p12 p13 p14 v0 v1 v2 v3 v4 v5 v6 v7 v8 v9 v10 v11 v12 v13 v14 := by
  obtain ⟨h0, h1, h2, h3, h4, h5, h6, h7, h8, h9, h10, h11, h12, h13, h14, hB⟩ := h
  exact ⟨keepc hb h0, keepc hb h1, keepc hb h2, keepc hb h3, keepc hb h4, keepc hb h5, keepc hb h6, keepc hb h7, keepc hb h8, keepc hb h9, keepc hb h10, keepc hb h11, keepc hb h12, keepc hb h13, keepc hb h14, hB.trans (hb.mono hB.size)⟩

theorem C15.b {W w1 : World} {p0 p1 p2 p3 p4 p5 p6 p7 p8 p9 p10 p11 p12 p13 p14 : Addr} {v0 v1 v2 v3 v4 v5 v6 v7 v8 v9 v10 v11 v12 v13 v14 : Value} (h : C15 W w1 p0 p1 p2 p3 p4 p5 p6 p7 p8 p9 p10 p11 p12 p13 p14 v0 v1 v2 v3 v4 v5 v6 v7 v8 v9 v10 v11 v12 v13 v14) : Below W.heap.size W w1 := h.2.2.2.2.2.2.2.2.2.2.2.2.2.2.2

set_option maxHeartbeats 4000000 in
theorem told_any (w : World) (Ag : Option Addr) (ng cg : Nat) (Ab : Option Addr) (nb cb : Nat) (Af : Option Addr) (nf cf : Nat) (t : Tab) (id : Int) (ht : TabR w (.slice Ag ng cg) (.slice Ab nb cb) (.slice Af nf cf) t) (hs : t.small) (hid : id ≤ 9223372036854775807) :
    Calls Try.prog 8 #[.agg #[.slice Ag ng cg, .slice Ab nb cb, .slice Af nf cf], .int .i64 id] w fun e w' => e = .returned (.bool true) ∧ Below w.heap.size w w' := by
  have HT := Lib.hid ht
  clear ht
  generalize hts : takeS t = ts
  generalize hgs : giveS t id = gs
  have HTS := Lib.hid hts
  have HGS := Lib.hid hgs
  clear hts hgs
  go_enter Try.func8, Try.ntmps8
  go_wp2_with (first
    | (go_at_call 13
       refine (take_any _ Ag ng cg Ab nb cb Af nf cf t (HT.out.below ((Below.refl _ _).alloc (Nat.le_refl _) _)) hs).mono ?_
       rw [HTS.out]
       rintro e w1 ⟨A1, n1, c1, A2, n2, c2, A3, n3, c3, rfl, hR1, hb1, _⟩
       obtain ⟨hB1, X0⟩ := alloc1 hb1
       have R1 := Lib.hid hR1
       clear hb1 hR1
       have y0 := box_at X0 0 _ rfl
       have y1 := box_at X0 1 _ rfl
       have y2 := box_at X0 2 _ rfl
       have l1 := (Array.getElem?_eq_some_iff.1 X0).1
       have XX := Lib.hid X0
       clear X0
       have X0 := XX
       clear XX)
    | (go_at_call 17
       refine (rtake_any _ Ag ng cg Ab nb cb Af nf cf t (HT.out.below (hB1.alloc hB1.size _)) hs).mono ?_
       rw [HTS.out]
       rintro e w2 ⟨B1, m1, d1, B2, m2, d2, B3, m3, d3, rfl, hR2, hb2⟩
       obtain ⟨hb2', X1⟩ := alloc1 hb2
       have hB2 := hB1.trans (hb2'.mono hB1.size)
       have X0' := keep hb2' X0.out
       have R1 := Lib.hid (R1.out.below hb2')
       have R2 := Lib.hid hR2.r
       clear hb2 hb2' hR2 y0 y1 y2 X0
       have y0 := box_at X0' 0 _ rfl
       have y1 := box_at X0' 1 _ rfl
       have y2 := box_at X0' 2 _ rfl
       have l2 := (Array.getElem?_eq_some_iff.1 X0').1
       have X0 := Lib.hid X0'
       have XX := Lib.hid X1
       clear X0' X1
       have X1 := XX
       clear XX)
    | (go_at_call 14
       refine (give_any _ Ag ng cg Ab nb cb Af nf cf t id (HT.out.below (hB2.alloc hB2.size _)) hs).mono ?_
       rw [HGS.out]
       rintro e w3 ⟨E1, p1, f1, E2, p2, f2, E3, p3, f3, rfl, hR3, hb3, _⟩
       obtain ⟨hb3', X2⟩ := alloc1 hb3
       have hB3 := hB2.trans (hb3'.mono hB2.size)
       have X0' := keep hb3' X0.out
       have X1' := keep hb3' X1.out
       have R1 := Lib.hid (R1.out.below hb3')
       have R2 := Lib.hid (R2.out.below hb3')
       have R3 := Lib.hid hR3
       clear hb3 hb3' hR3 y0 y1 y2 X0 X1
       have y0 := box_at X0' 0 _ rfl
       have y1 := box_at X0' 1 _ rfl
       have y2 := box_at X0' 2 _ rfl
       have X0 := Lib.hid X0'
       have X1 := Lib.hid X1'
       have l3 := (Array.getElem?_eq_some_iff.1 X0').1
       have XX := Lib.hid X2
       clear X0' X1' X2
       have X2 := XX
       clear XX)
    | (go_at_call 18
       refine (rgive_any _ Ag ng cg Ab nb cb Af nf cf t id (HT.out.below (hB3.alloc hB3.size _)) hs hid).mono ?_
       rw [HGS.out]
       rintro e w4 ⟨F1, q1, g1, F2, q2, g2, F3, q3, g3, rfl, hR4, hb4⟩
       obtain ⟨hb4', X3⟩ := alloc1 hb4
       have hB4 := hB3.trans (hb4'.mono hB3.size)
       have X0' := keep hb4' X0.out
       have X1' := keep hb4' X1.out
       have X2' := keep hb4' X2.out
       have R1 := Lib.hid (R1.out.below hb4')
       have R2 := Lib.hid (R2.out.below hb4')
       have R3 := Lib.hid (R3.out.below hb4')
       have R4 := Lib.hid hR4.r
       clear hb4 hb4' hR4 y0 y1 y2 X0 X1 X2
       have X0 := Lib.hid X0'
       have X1 := Lib.hid X1'
       have X2 := Lib.hid X2'
       have XX := Lib.hid X3
       clear X0' X1' X2' X3
       have X3 := XX
       clear XX))
  have al : Below w4.heap.size w4 (w4.alloc (.cells #[.slice F1 q1 g1, .slice F2 q2 g2, .slice F3 q3 g3] 25)) := (Below.refl _ _).alloc (Nat.le_refl _) _
  have x0 := keep al X0.out
  have x1 := keep al X1.out
  have x2 := keep al X2.out
  have x3 := keep al X3.out
  have x4 : (w4.alloc (.cells #[.slice F1 q1 g1, .slice F2 q2 g2, .slice F3 q3 g3] 25)).heap[w4.heap.size]? = some (.cells #[.slice F1 q1 g1, .slice F2 q2 g2, .slice F3 q3 g3] 25 (0, 0)) := heap_alloc_new _ _
  have hB5 := hB4.trans (al.mono hB4.size)
  have R1 := Lib.hid (R1.out.below al)
  have R2 := Lib.hid (R2.out.below al)
  have R3 := Lib.hid (R3.out.below al)
  have R4 := Lib.hid (R4.out.below al)
  clear al X0 X1 X2 X3 l1 l2 l3
  generalize (w4.alloc (.cells #[.slice F1 q1 g1, .slice F2 q2 g2, .slice F3 q3 g3] 25)) = W at *
  have hS : C15 W W ⟨w.heap.size, 0, none⟩ ⟨w.heap.size, 1, none⟩ ⟨w.heap.size, 2, none⟩ ⟨w1.heap.size, 0, none⟩ ⟨w1.heap.size, 1, none⟩ ⟨w1.heap.size, 2, none⟩ ⟨w2.heap.size, 0, none⟩ ⟨w2.heap.size, 1, none⟩ ⟨w2.heap.size, 2, none⟩ ⟨w3.heap.size, 0, none⟩ ⟨w3.heap.size, 1, none⟩ ⟨w3.heap.size, 2, none⟩ ⟨w4.heap.size, 0, none⟩ ⟨w4.heap.size, 1, none⟩ ⟨w4.heap.size, 2, none⟩ (.slice Ag ng cg) (.slice Ab nb cb) (.slice Af nf cf) (.slice A1 n1 c1) (.slice A2 n2 c2) (.slice A3 n3 c3) (.slice B1 m1 d1) (.slice B2 m2 d2) (.slice B3 m3 d3) (.slice E1 p1 f1) (.slice E2 p2 f2) (.slice E3 p3 f3) (.slice F1 q1 g1) (.slice F2 q2 g2) (.slice F3 q3 g3) := ⟨box_at x0 0 _ rfl, box_at x0 1 _ rfl, box_at x0 2 _ rfl, box_at x1 0 _ rfl, box_at x1 1 _ rfl, box_at x1 2 _ rfl, box_at x2 0 _ rfl, box_at x2 1 _ rfl, box_at x2 2 _ rfl, box_at x3 0 _ rfl, box_at x3 1 _ rfl, box_at x3 2 _ rfl, box_at x4 0 _ rfl, box_at x4 1 _ rfl, box_at x4 2 _ rfl, Below.refl _ _⟩
  have HS := Lib.hid hS
  clear hS x0 x1 x2 x3 x4
  generalize hrb : rightB t = rb
  generalize hhb : hasB t id = hb
  have HRB := Lib.hid hrb
  have HHB := Lib.hid hhb
  clear hrb hhb
  go_region_held3 (fun w' => w'.cell? ⟨w.heap.size, 0, none⟩ = some (.slice Ag ng cg) ∧ w'.cell? ⟨w.heap.size, 1, none⟩ = some (.slice Ab nb cb) ∧ w'.cell? ⟨w.heap.size, 2, none⟩ = some (.slice Af nf cf) ∧ w'.cell? ⟨w1.heap.size, 0, none⟩ = some (.slice A1 n1 c1) ∧ w'.cell? ⟨w1.heap.size, 1, none⟩ = some (.slice A2 n2 c2) ∧ w'.cell? ⟨w1.heap.size, 2, none⟩ = some (.slice A3 n3 c3) ∧ w'.cell? ⟨w2.heap.size, 0, none⟩ = some (.slice B1 m1 d1) ∧ w'.cell? ⟨w2.heap.size, 1, none⟩ = some (.slice B2 m2 d2) ∧ w'.cell? ⟨w2.heap.size, 2, none⟩ = some (.slice B3 m3 d3) ∧ w'.cell? ⟨w3.heap.size, 0, none⟩ = some (.slice E1 p1 f1) ∧ w'.cell? ⟨w3.heap.size, 1, none⟩ = some (.slice E2 p2 f2) ∧ w'.cell? ⟨w3.heap.size, 2, none⟩ = some (.slice E3 p3 f3) ∧ w'.cell? ⟨w4.heap.size, 0, none⟩ = some (.slice F1 q1 g1) ∧ w'.cell? ⟨w4.heap.size, 1, none⟩ = some (.slice F2 q2 g2) ∧ w'.cell? ⟨w4.heap.size, 2, none⟩ = some (.slice F3 q3 g3) ∧ Below W.heap.size W w')
    (first | exact HS.out.below (below_drew (Below.refl _ _)) | (refine C15.below ?_ ‹_›; assumption))
    (first
     | (go_at_call 16
        refine (right_any _ Ag ng cg Ab nb cb Af nf cf t (HT.out.below (hB5.trans ((‹C15 W _ _ _ _ _ _ _ _ _ _ _ _ _ _ _ _ _ _ _ _ _ _ _ _ _ _ _ _ _ _ _›).b.mono hB5.size))) hs).mono ?_
        rw [HRB.out]
        rintro e w5 ⟨rfl, hb5⟩)
     | (go_at_call 19
        refine (rright_any _ Ag ng cg Ab nb cb Af nf cf t (HT.out.below (hB5.trans ((‹C15 W _ _ _ _ _ _ _ _ _ _ _ _ _ _ _ _ _ _ _ _ _ _ _ _ _ _ _ _ _ _ _›).b.mono hB5.size))) hs).mono ?_
        rw [HRB.out]
        rintro e w6 ⟨rfl, hb6⟩)
     | (go_at_call 15
        refine (has_any id _ Ag ng cg Ab nb cb Af nf cf t (HT.out.below (hB5.trans ((‹C15 W _ _ _ _ _ _ _ _ _ _ _ _ _ _ _ _ _ _ _ _ _ _ _ _ _ _ _ _ _ _ _›).b.mono hB5.size))) hs).mono ?_
        rw [HHB.out]
        rintro e w7 ⟨rfl, hb7⟩)
     | (go_at_call 20
        refine (rhas_any _ Ag ng cg Ab nb cb Af nf cf t id (HT.out.below (hB5.trans ((‹C15 W _ _ _ _ _ _ _ _ _ _ _ _ _ _ _ _ _ _ _ _ _ _ _ _ _ _ _ _ _ _ _›).b.mono hB5.size))) hs hid).mono ?_
        rw [HHB.out]
        rintro e w8 ⟨rfl, hb8⟩)
     | (go_at_call_of 9 (Value.slice A1 n1 c1)
        refine (same_any _ A1 n1 c1 A2 n2 c2 A3 n3 c3 _ (R1.out.below (‹C15 W _ _ _ _ _ _ _ _ _ _ _ _ _ _ _ _ _ _ _ _ _ _ _ _ _ _ _ _ _ _ _›).b) B1 m1 d1 B2 m2 d2 B3 m3 d3 (R2.out.below (‹C15 W _ _ _ _ _ _ _ _ _ _ _ _ _ _ _ _ _ _ _ _ _ _ _ _ _ _ _ _ _ _ _›).b)).mono ?_
        rintro e w9 ⟨rfl, hb9⟩)
     | (go_at_call_of 9 (Value.slice E1 p1 f1)
        refine (same_any _ E1 p1 f1 E2 p2 f2 E3 p3 f3 _ (R3.out.below (‹C15 W _ _ _ _ _ _ _ _ _ _ _ _ _ _ _ _ _ _ _ _ _ _ _ _ _ _ _ _ _ _ _›).b) F1 q1 g1 F2 q2 g2 F3 q3 g3 (R4.out.below (‹C15 W _ _ _ _ _ _ _ _ _ _ _ _ _ _ _ _ _ _ _ _ _ _ _ _ _ _ _ _ _ _ _›).b)).mono ?_
        rintro e w10 ⟨rfl, hb10⟩))
  have hlast := (‹C15 W _ _ _ _ _ _ _ _ _ _ _ _ _ _ _ _ _ _ _ _ _ _ _ _ _ _ _ _ _ _ _›).b
  go_wp2
  go_ret
  exact ⟨by simp, hB5.trans (hlast.mono hB5.size)⟩
end Go.Proofs.Yteaifndkmknanaa
