/- Contract of lockagelaw02.awake. -/
import Derived.Test.YteaifndkmknanaaAA
set_option linter.unusedVariables false
namespace Go.Proofs.Yteaifndkmknanaa
open Go.RowKit
open Go.Proofs.YteaifndkmknanaaW.PrintWords

theorem rp (g : List Int) (b : List Bool) (f : List Int) (h : (decide (1 ≤ g.length ∧ g.length ≤ 64 ∧ b.length = g.length) && !(g.any oddS) && f.all (freeOk ⟨g, b, f⟩) && decide f.Nodup && (List.range b.length).all (fun i => f.contains (i : Int) != b.getD i false)) = true) : RightP ⟨g, b, f⟩ := by
  simp only [Bool.and_eq_true, decide_eq_true_eq, Bool.not_eq_true', List.all_eq_true, bne_iff_ne, List.mem_range] at h
  obtain ⟨⟨⟨⟨⟨h1, h2, h3⟩, h4⟩, h5⟩, h6⟩, h7⟩ := h
  exact ⟨h1, h2, h3, h4, h5, h6, h7⟩
theorem s0 : newS 2 = ⟨[0, 0], [false, false], [0, 1]⟩ := by simp [newS, made, List.range_succ]
theorem s1 : takeS ⟨[0, 0], [false, false], [0, 1]⟩ = (⟨[0, 0], [true, false], [1]⟩, 0, 0) := by
  unfold takeS; rw [if_pos (rp _ _ _ (by decide))]; rfl
theorem s2 : takeS ⟨[0, 0], [true, false], [1]⟩ = (⟨[0, 0], [true, true], []⟩, 1, 0) := by
  unfold takeS; rw [if_pos (rp _ _ _ (by decide))]; rfl
theorem s3 : takeS ⟨[0, 0], [true, true], []⟩ = (⟨[0, 0], [true, true], []⟩, 0, 4) := by
  unfold takeS; rw [if_pos (rp _ _ _ (by decide))]
theorem s4 : giveS ⟨[0, 0], [true, true], []⟩ 0 = (⟨[1, 0], [false, true], [0]⟩, 0) := by
  unfold giveS; rw [if_pos (rp _ _ _ (by decide)), if_pos (by decide)]; rfl
theorem s5 : takeS ⟨[1, 0], [false, true], [0]⟩ = (⟨[1, 0], [true, true], []⟩, 2, 0) := by
  unfold takeS; rw [if_pos (rp _ _ _ (by decide))]; rfl
theorem s6 : giveS ⟨[1, 0], [true, true], []⟩ 0 = (⟨[1, 0], [true, true], []⟩, 5) := by
  unfold giveS; rw [if_pos (rp _ _ _ (by decide)), if_neg (by decide)]
theorem s7 : hasB ⟨[1, 0], [true, true], []⟩ 2 = true := by
  rw [show hasB ⟨[1, 0], [true, true], []⟩ 2 = placeB ⟨[1, 0], [true, true], []⟩ 2 from by unfold hasB; rw [if_pos (rp _ _ _ (by decide))]]; decide
theorem s8 : hasB ⟨[1, 0], [true, true], []⟩ 0 = false := by
  rw [show hasB ⟨[1, 0], [true, true], []⟩ 0 = placeB ⟨[1, 0], [true, true], []⟩ 0 from by unfold hasB; rw [if_pos (rp _ _ _ (by decide))]]; decide
theorem s9 : rightB ⟨[1, 0], [true, true], []⟩ = true := rightB_yes (rp _ _ _ (by decide))
theorem s10 : rightB ⟨[], [], []⟩ = false := rightB_no fun h => by have := h.h1; simp at this


theorem tsmall (g : List Int) (b : List Bool) (f : List Int) (h1 : g.length ≤ 2) (h2 : b.length ≤ 2) (h3 : f.length ≤ 2) : (⟨g, b, f⟩ : Tab).small := ⟨by show g.length ≤ 1000; omega, by show b.length ≤ 1000; omega, by show f.length ≤ 1000; omega⟩
theorem take_at {w : World} {A1 : Option Addr} {n1 c1 : Nat} {A2 : Option Addr} {n2 c2 : Nat} {A3 : Option Addr} {n3 c3 : Nat} {t : Tab} {r : Tab × Int × Int} (h : takeS t = r) (hs : t.small) (ht : TabR w (.slice A1 n1 c1) (.slice A2 n2 c2) (.slice A3 n3 c3) t) :
    Calls Try.prog 13 #[.agg #[.slice A1 n1 c1, .slice A2 n2 c2, .slice A3 n3 c3]] w (TabPost w r.1 [.int .i64 r.2.1, .int .i64 r.2.2]) := h ▸ take_any w A1 n1 c1 A2 n2 c2 A3 n3 c3 t ht hs
theorem give_at {w : World} {A1 : Option Addr} {n1 c1 : Nat} {A2 : Option Addr} {n2 c2 : Nat} {A3 : Option Addr} {n3 c3 : Nat} {t : Tab} {id : Int} {r : Tab × Int} (h : giveS t id = r) (hs : t.small) (ht : TabR w (.slice A1 n1 c1) (.slice A2 n2 c2) (.slice A3 n3 c3) t) :
    Calls Try.prog 14 #[.agg #[.slice A1 n1 c1, .slice A2 n2 c2, .slice A3 n3 c3], .int .i64 id] w (TabPost w r.1 [.int .i64 r.2]) := h ▸ give_any w A1 n1 c1 A2 n2 c2 A3 n3 c3 t id ht hs

/-- a struct of three cells stored into its box -/
theorem box_set3 {w : World} {b : Nat} {x y z x' y' z' : Value} {T : TypeId} (h : w.heap[b]? = some (.cells #[x, y, z] T (0, 0))) :
    (((w.setCell ⟨b, 0, none⟩ x').setCell ⟨b, 1, none⟩ y').setCell ⟨b, 2, none⟩ z').heap[b]? = some (.cells #[x', y', z'] T (0, 0)) := by
  rw [heap_set (heap_set (heap_set h x' (o := 0)) y' (o := 1)) z' (o := 2)]
  rfl
/-- .. by a call's answer: the box, and the table that is told now -/
theorem tab_set3 {w0 W w : World} {b : Nat} {x y z vg vb vf : Value} {t : Tab} {T : TypeId} (hW : Below w0.heap.size w0 W) (hb : Below W.heap.size W w) (h0 : w0.heap.size ≤ b) (hx : W.heap[b]? = some (.cells #[x, y, z] T (0, 0))) (hR : TabR w vg vb vf t) (hf : FreshT W.heap.size vg vb vf) :
    Below w0.heap.size w0 (((w.setCell ⟨b, 0, none⟩ vg).setCell ⟨b, 1, none⟩ vb).setCell ⟨b, 2, none⟩ vf) ∧ (((w.setCell ⟨b, 0, none⟩ vg).setCell ⟨b, 1, none⟩ vb).setCell ⟨b, 2, none⟩ vf).heap[b]? = some (.cells #[vg, vb, vf] T (0, 0)) ∧
    TabR (((w.setCell ⟨b, 0, none⟩ vg).setCell ⟨b, 1, none⟩ vb).setCell ⟨b, 2, none⟩ vf) vg vb vf t := by
  have hlt := (Array.getElem?_eq_some_iff.1 hx).1
  exact ⟨(((hW.trans (hb.mono hW.size)).setCell h0 _).setCell h0 _).setCell h0 _, box_set3 (keep hb hx), ((hR.far hf hlt _).far hf hlt _).far hf hlt _⟩

set_option maxHeartbeats 4000000 in
theorem awake_any (w : World) : Calls Try.prog 7 #[] w fun e w' => e = .returned (.bool true) ∧ Below w.heap.size w w' := by
  go_enter Try.func7, Try.ntmps7
  go_wp2_with fail
  refine (new_any _ 2).mono ?_
  rw [s0]
  rintro e w1 ⟨A1, n1, c1, A2, n2, c2, A3, n3, c3, rfl, hO1, hb1⟩
  have R1 := Lib.hid hO1.r
  clear hO1
  go_wp2_with fail
  refine (take_at s1 (tsmall _ _ _ (by decide) (by decide) (by decide)) R1.out).mono ?_
  rintro e w2 ⟨B1, m1, d1, B2, m2, d2, B3, m3, d3, rfl, hR2, hb2, hf2⟩
  have hB2 := hb1.trans (hb2.mono hb1.size)
  have R2 := Lib.hid hR2
  clear hb1 hb2 R1 hR2 hf2
  go_wp2_with fail
  refine (take_at s2 (tsmall _ _ _ (by decide) (by decide) (by decide)) (R2.out.below ((Below.refl _ _).alloc (Nat.le_refl _) _))).mono ?_
  rintro e w3 ⟨E1, p1, f1, E2, p2, f2, E3, p3, f3, rfl, hR3, hb3, hf3⟩
  have X := box_at (keep hb3 (heap_alloc_new w2 (.cells #[.slice B1 m1 d1, .slice B2 m2 d2, .slice B3 m3 d3] 25)))
  have z0 := X 0 _ rfl
  have z1 := X 1 _ rfl
  have z2 := X 2 _ rfl
  have zf := box_free (keep hb3 (heap_alloc_new w2 (.cells #[.slice B1 m1 d1, .slice B2 m2 d2, .slice B3 m3 d3] 25)))
  obtain ⟨hV, hX, hR⟩ := tab_set3 (hB2.alloc hB2.size _) hb3 hB2.size (heap_alloc_new w2 (.cells #[.slice B1 m1 d1, .slice B2 m2 d2, .slice B3 m3 d3] 25)) hR3 hf3
  have hV := Lib.hid hV
  have hX := Lib.hid hX
  have hR := Lib.hid hR
  clear R2 hb3 hR3 X hf3
  go_wp2_with fail
  generalize (((w3.setCell ⟨w2.heap.size, 0, none⟩ (.slice E1 p1 f1)).setCell ⟨w2.heap.size, 1, none⟩ (.slice E2 p2 f2)).setCell ⟨w2.heap.size, 2, none⟩ (.slice E3 p3 f3)) = V at *
  have hb0 := hB2.size
  generalize w2.heap.size = bt at *
  clear z0 z1 z2 zf hB2
  refine (take_at s3 (tsmall _ _ _ (by decide) (by decide) (by decide)) hR.out).mono ?_
  rintro e w4 ⟨G1, q1, g1, G2, q2, g2, G3, q3, g3, rfl, hR4, hb4, _⟩
  have X4 := keep hb4 hX.out
  have hB4 := hV.out.trans (hb4.mono hV.out.size)
  have RT := Lib.hid (hR.out.below hb4)
  have l4 := (Array.getElem?_eq_some_iff.1 X4).1
  have z0 := box_at X4 0 _ rfl
  have z1 := box_at X4 1 _ rfl
  have z2 := box_at X4 2 _ rfl
  clear hb4 hR4 hR hX hV X4
  go_wp2_with fail
  refine (give_at s4 (tsmall _ _ _ (by decide) (by decide) (by decide)) (RT.out.below ((Below.refl _ _).alloc (Nat.le_refl _) _))).mono ?_
  rintro e w5 ⟨H1, r1, h1, H2, r2, h2, H3, r3, h3, rfl, hR5, hb5, _⟩
  obtain ⟨hb5', _⟩ := alloc1 hb5
  have hB5 := hB4.trans (hb5'.mono hB4.size)
  have R5 := Lib.hid hR5
  clear z0 z1 z2 hb5 hb5' hR5 RT l4
  go_wp2_with fail
  refine (take_at s5 (tsmall _ _ _ (by decide) (by decide) (by decide)) (R5.out.below ((Below.refl _ _).alloc (Nat.le_refl _) _))).mono ?_
  rintro e w6 ⟨I1, i1, j1, I2, i2, j2, I3, i3, j3, rfl, hR6, hb6, hf6⟩
  have X := box_at (keep hb6 (heap_alloc_new w5 (.cells #[.slice H1 r1 h1, .slice H2 r2 h2, .slice H3 r3 h3] 25)))
  have z0 := X 0 _ rfl
  have z1 := X 1 _ rfl
  have z2 := X 2 _ rfl
  have zf := box_free (keep hb6 (heap_alloc_new w5 (.cells #[.slice H1 r1 h1, .slice H2 r2 h2, .slice H3 r3 h3] 25)))
  obtain ⟨hV, hX, hR⟩ := tab_set3 (hB5.alloc hB5.size _) hb6 hB5.size (heap_alloc_new w5 (.cells #[.slice H1 r1 h1, .slice H2 r2 h2, .slice H3 r3 h3] 25)) hR6 hf6
  have hV := Lib.hid hV
  have hX := Lib.hid hX
  have hR := Lib.hid hR
  clear R5 hb6 hR6 X hf6
  go_wp2_with fail
  generalize (((w6.setCell ⟨w5.heap.size, 0, none⟩ (.slice I1 i1 j1)).setCell ⟨w5.heap.size, 1, none⟩ (.slice I2 i2 j2)).setCell ⟨w5.heap.size, 2, none⟩ (.slice I3 i3 j3)) = U at *
  have hb0' := hB5.size
  generalize w5.heap.size = bu at *
  clear z0 z1 z2 zf hB5
  refine (give_at s6 (tsmall _ _ _ (by decide) (by decide) (by decide)) hR.out).mono ?_
  rintro e w7 ⟨J1, k1, x1, J2, k2, x2, J3, k3, x3, rfl, hR7, hb7, _⟩
  have X7 := keep hb7 hX.out
  have hB7 := hV.out.trans (hb7.mono hV.out.size)
  have RU := Lib.hid (hR.out.below hb7)
  have l7 := (Array.getElem?_eq_some_iff.1 X7).1
  have z0 := box_at X7 0 _ rfl
  have z1 := box_at X7 1 _ rfl
  have z2 := box_at X7 2 _ rfl
  clear hb7 hR7 hR hX hV
  go_wp2_with fail
  refine (has_any 2 _ I1 i1 j1 I2 i2 j2 I3 i3 j3 _ (RU.out.below ((Below.refl _ _).alloc (Nat.le_refl _) _)) (tsmall _ _ _ (by decide) (by decide) (by decide))).mono ?_
  rw [s7]
  rintro e w8 ⟨rfl, hb8⟩
  obtain ⟨hb8', _⟩ := alloc1 hb8
  have hB8 := hB7.trans (hb8'.mono hB7.size)
  have X8 := keep hb8' X7
  have RU := Lib.hid (RU.out.below hb8')
  clear z0 z1 z2 l7 X7 hb8 hb8'
  have z0 := box_at X8 0 _ rfl
  have z1 := box_at X8 1 _ rfl
  have z2 := box_at X8 2 _ rfl
  go_wp2_with fail
  refine (has_any 0 _ I1 i1 j1 I2 i2 j2 I3 i3 j3 _ RU.out (tsmall _ _ _ (by decide) (by decide) (by decide))).mono ?_
  rw [s8]
  rintro e w9 ⟨rfl, hb9⟩
  have hB9 := hB8.trans (hb9.mono hB8.size)
  have X9 := keep hb9 X8
  have RU := Lib.hid (RU.out.below hb9)
  clear z0 z1 z2 X8 hb9
  have z0 := box_at X9 0 _ rfl
  have z1 := box_at X9 1 _ rfl
  have z2 := box_at X9 2 _ rfl
  go_wp2_with fail
  refine (right_any _ I1 i1 j1 I2 i2 j2 I3 i3 j3 _ RU.out (tsmall _ _ _ (by decide) (by decide) (by decide))).mono ?_
  rw [s9]
  rintro e w10 ⟨rfl, hb10⟩
  have hB10 := hB9.trans (hb10.mono hB9.size)
  clear z0 z1 z2 X9 RU hb10
  go_wp2_with fail
  refine (right_any _ none 0 0 none 0 0 none 0 0 ⟨[], [], []⟩ (TabO.zero w10 0).r (tsmall _ _ _ (by decide) (by decide) (by decide))).mono ?_
  rw [s10]
  rintro e w11 ⟨rfl, hb11⟩
  have hB11 := hB10.trans (hb11.mono hB10.size)
  clear hb11 hB10
  go_wp2_with fail
  go_ret
  exact ⟨by simp, hB11⟩
end Go.Proofs.Yteaifndkmknanaa
