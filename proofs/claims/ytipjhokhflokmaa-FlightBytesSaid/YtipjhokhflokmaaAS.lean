/- lockagelaw18.awake (printed by mkAS.py). -/
import Derived.Test.YtipjhokhflokmaaAR
import Derived.Test.YtipjhokhflokmaaAQ
set_option linter.unusedVariables false
set_option linter.unusedSimpArgs false
namespace Go.Proofs.Ytipjhokhflokmaa
open Go.RowKit Go.Maps
open Go.Proofs.YtipjhokhflokmaaW.PrintWords

set_option maxRecDepth 100000 in
set_option maxHeartbeats 16000000 in
theorem awake_any (w : World) : Calls Try.prog 9 #[] w fun e w' => e = .returned (.bool true) ∧ Below w.heap.size w w' := by
  go_enter Try.func9, Try.ntmps9
  go_upto_region 2 with (go_at_call 10; refine (join_any w 2 0 none 0 0 [] [107] 1 true (RdF.nil _ _ _) sm0 (by decide)).mono ?_; unfold JoinPost OpPost; rw [show fls [] = [] from rfl, aw1]; rintro e v ⟨A1, n1, c1, z1, rfl, hf, hO, hb⟩; have hO2 := hO; have HW := Lib.hid hb; have HO1 := Lib.hid hO2; have HZ1 := Lib.hid hf; clear hO hO2 hb hf)
  have hal := (Below.refl v.heap.size v).alloc (Nat.le_refl _) (.cells #[.int .i64 2, .int .i64 1, .slice A1 n1 c1] 26)
  have hx := heap_alloc_new v (.cells #[.int .i64 2, .int .i64 1, .slice A1 n1 c1] 26)
  have hle : w.heap.size ≤ v.heap.size := HW.out.size
  replace HO1 := Lib.hid (HO1.out.below hal)
  replace HW := Lib.hid (HW.out.trans (hal.mono HW.out.size))
  have HB1 := Lib.hid hx
  clear hal hx
  generalize v.alloc (.cells #[.int .i64 2, .int .i64 1, .slice A1 n1 c1] 26) = V1 at *
  generalize v.heap.size = b1 at *
  clear v
  have y0 : V1.cell? ⟨b1, 0, none⟩ = some (.int .i64 2) := box_at HB1.out 0 _ rfl
  have y1 : V1.cell? ⟨b1, 1, none⟩ = some (.int .i64 1) := box_at HB1.out 1 _ rfl
  have y2 : V1.cell? ⟨b1, 2, none⟩ = some (.slice A1 n1 c1) := box_at HB1.out 2 _ rfl
  go_upto_region 3 with (go_at_call 10; refine (join_any V1 2 1 A1 n1 c1 z1 [107] 2 true HO1.out.rd (by rw [HZ1.out]; exact sX _ (by simp [X1, X2, X3, X4, X7])) (by decide)).mono ?_; unfold JoinPost OpPost; rw [HZ1.out, aw2]; rintro e v ⟨A2, n2, c2, z2, rfl, hf, hO, hb⟩; have hO2 := hO.lower HW.out.size; replace HB1 := Lib.hid (keep hb HB1.out); replace HO1 := Lib.hid (HO1.out.below hb); replace HW := Lib.hid (HW.out.trans (hb.mono HW.out.size)); have HO2 := Lib.hid hO2; have HZ2 := Lib.hid hf; clear hO hO2 hb hf y0 y1 y2; have g0 : v.cell? ⟨b1, 0, none⟩ = some (.int .i64 2) := box_at HB1.out 0 _ rfl; have g1 : v.cell? ⟨b1, 1, none⟩ = some (.int .i64 1) := box_at HB1.out 1 _ rfl; have g2 : v.cell? ⟨b1, 2, none⟩ = some (.slice A1 n1 c1) := box_at HB1.out 2 _ rfl; have gf := box_free HB1.out)
  clear g0 g1 g2 gf
  change Code.wp _ _ _ _ (st3 v b1 (.int .i64 2) (.int .i64 1) (.slice A2 n2 c2))
  replace HO1 := Lib.hid (st3_own (r := .int .i64 2) (x := .int .i64 1) (V := .slice A2 n2 c2) HO1.out HB1.out)
  replace HO2 := Lib.hid (st3_own (r := .int .i64 2) (x := .int .i64 1) (V := .slice A2 n2 c2) HO2.out HB1.out)
  replace HW := Lib.hid (st3_below (r := .int .i64 2) (x := .int .i64 1) (V := .slice A2 n2 c2) HW.out (show w.heap.size ≤ b1 by omega))
  replace HB1 := Lib.hid (st3_box (r := .int .i64 2) (x := .int .i64 1) (V := .slice A2 n2 c2) HB1.out)
  generalize st3 v b1 (.int .i64 2) (.int .i64 1) (.slice A2 n2 c2) = V2 at *
  clear v
  clear HO1 HZ1
  have y0 : V2.cell? ⟨b1, 0, none⟩ = some (.int .i64 2) := box_at HB1.out 0 _ rfl
  have y1 : V2.cell? ⟨b1, 1, none⟩ = some (.int .i64 1) := box_at HB1.out 1 _ rfl
  have y2 : V2.cell? ⟨b1, 2, none⟩ = some (.slice A2 n2 c2) := box_at HB1.out 2 _ rfl
  go_upto_region 4 with (go_at_call 10; refine (join_any V2 2 1 A2 n2 c2 z2 [107] 2 true HO2.out.rd (by rw [HZ2.out]; exact sX _ (by simp [X1, X2, X3, X4, X7])) (by decide)).mono ?_; unfold JoinPost OpPost; rw [HZ2.out, aw3]; rintro e v ⟨A3, n3, c3, z3, rfl, hf, hO, hb⟩; have hO2 := hO.lower HW.out.size; replace HB1 := Lib.hid (keep hb HB1.out); replace HO2 := Lib.hid (HO2.out.below hb); replace HW := Lib.hid (HW.out.trans (hb.mono HW.out.size)); have HO3 := Lib.hid hO2; have HZ3 := Lib.hid hf; clear hO hO2 hb hf y0 y1 y2)
  have hal := (Below.refl v.heap.size v).alloc (Nat.le_refl _) (.cells #[.int .i64 2, .int .i64 1, .slice A3 n3 c3] 26)
  have hx := heap_alloc_new v (.cells #[.int .i64 2, .int .i64 1, .slice A3 n3 c3] 26)
  have hlt18 : b1 < v.heap.size := (Array.getElem?_eq_some_iff.1 HB1.out).1
  replace HB1 := Lib.hid (keep hal HB1.out)
  replace HO2 := Lib.hid (HO2.out.below hal)
  replace HO3 := Lib.hid (HO3.out.below hal)
  replace HW := Lib.hid (HW.out.trans (hal.mono HW.out.size))
  have HB8 := Lib.hid hx
  clear hal hx
  generalize v.alloc (.cells #[.int .i64 2, .int .i64 1, .slice A3 n3 c3] 26) = V3 at *
  generalize v.heap.size = b8 at *
  clear v
  clear HO3 HZ3
  clear HB8
  have y0 : V3.cell? ⟨b1, 0, none⟩ = some (.int .i64 2) := box_at HB1.out 0 _ rfl
  have y1 : V3.cell? ⟨b1, 1, none⟩ = some (.int .i64 1) := box_at HB1.out 1 _ rfl
  have y2 : V3.cell? ⟨b1, 2, none⟩ = some (.slice A2 n2 c2) := box_at HB1.out 2 _ rfl
  go_upto_region 5 with (go_at_call 12; refine (feed_any V3 2 1 A2 n2 c2 z2 0 [97, 98] HO2.out.rd (by rw [HZ2.out]; exact sX _ (by simp [X1, X2, X3, X4, X7])) (by decide)).mono ?_; unfold FeedPost; rw [HZ2.out, aw4]; rintro e v ⟨A4, n4, c4, z4, L4, l4, d4, rfl, hf, hO, hL, hb⟩; have hO2 := hO.lower HW.out.size; have hL2 := hL.lower HW.out.size; replace HB1 := Lib.hid (keep hb HB1.out); replace HO2 := Lib.hid (HO2.out.below hb); replace HW := Lib.hid (HW.out.trans (hb.mono HW.out.size)); have HO4 := Lib.hid hO2; have HL4 := Lib.hid hL2; have HZ4 := Lib.hid hf; clear hO hO2 hb hf hL hL2 y0 y1 y2; have g0 : v.cell? ⟨b1, 0, none⟩ = some (.int .i64 2) := box_at HB1.out 0 _ rfl; have g1 : v.cell? ⟨b1, 1, none⟩ = some (.int .i64 1) := box_at HB1.out 1 _ rfl; have g2 : v.cell? ⟨b1, 2, none⟩ = some (.slice A2 n2 c2) := box_at HB1.out 2 _ rfl; have gf := box_free HB1.out)
  clear g0 g1 g2 gf
  change Code.wp _ _ _ _ (st3 v b1 (.int .i64 2) (.int .i64 1) (.slice A4 n4 c4))
  replace HO2 := Lib.hid (st3_own (r := .int .i64 2) (x := .int .i64 1) (V := .slice A4 n4 c4) HO2.out HB1.out)
  replace HO4 := Lib.hid (st3_own (r := .int .i64 2) (x := .int .i64 1) (V := .slice A4 n4 c4) HO4.out HB1.out)
  replace HL4 := Lib.hid (ints_st3 (r := .int .i64 2) (x := .int .i64 1) (V := .slice A4 n4 c4) HL4.out HB1.out)
  replace HW := Lib.hid (st3_below (r := .int .i64 2) (x := .int .i64 1) (V := .slice A4 n4 c4) HW.out (show w.heap.size ≤ b1 by omega))
  replace HB1 := Lib.hid (st3_box (r := .int .i64 2) (x := .int .i64 1) (V := .slice A4 n4 c4) HB1.out)
  generalize st3 v b1 (.int .i64 2) (.int .i64 1) (.slice A4 n4 c4) = V4 at *
  clear v
  clear HO2 HZ2
  clear HL4
  have y0 : V4.cell? ⟨b1, 0, none⟩ = some (.int .i64 2) := box_at HB1.out 0 _ rfl
  have y1 : V4.cell? ⟨b1, 1, none⟩ = some (.int .i64 1) := box_at HB1.out 1 _ rfl
  have y2 : V4.cell? ⟨b1, 2, none⟩ = some (.slice A4 n4 c4) := box_at HB1.out 2 _ rfl
  go_upto_region 6 with (go_at_call 11; refine (take_any V4 2 1 A4 n4 c4 z4 1 5 HO4.out.rd (by rw [HZ4.out]; exact sX _ (by simp [X1, X2, X3, X4, X7]))).mono ?_; unfold OpPost; rw [HZ4.out, aw5]; rintro e v ⟨A5, n5, c5, z5, rfl, hf, hO, hb⟩; have hO2 := hO.lower HW.out.size; replace HB1 := Lib.hid (keep hb HB1.out); replace HO4 := Lib.hid (HO4.out.below hb); replace HW := Lib.hid (HW.out.trans (hb.mono HW.out.size)); have HO5 := Lib.hid hO2; have HZ5 := Lib.hid hf; clear hO hO2 hb hf y0 y1 y2; have g0 : v.cell? ⟨b1, 0, none⟩ = some (.int .i64 2) := box_at HB1.out 0 _ rfl; have g1 : v.cell? ⟨b1, 1, none⟩ = some (.int .i64 1) := box_at HB1.out 1 _ rfl; have g2 : v.cell? ⟨b1, 2, none⟩ = some (.slice A4 n4 c4) := box_at HB1.out 2 _ rfl; have gf := box_free HB1.out)
  clear g0 g1 g2 gf
  change Code.wp _ _ _ _ (st3 v b1 (.int .i64 2) (.int .i64 1) (.slice A5 n5 c5))
  replace HO4 := Lib.hid (st3_own (r := .int .i64 2) (x := .int .i64 1) (V := .slice A5 n5 c5) HO4.out HB1.out)
  replace HO5 := Lib.hid (st3_own (r := .int .i64 2) (x := .int .i64 1) (V := .slice A5 n5 c5) HO5.out HB1.out)
  replace HW := Lib.hid (st3_below (r := .int .i64 2) (x := .int .i64 1) (V := .slice A5 n5 c5) HW.out (show w.heap.size ≤ b1 by omega))
  replace HB1 := Lib.hid (st3_box (r := .int .i64 2) (x := .int .i64 1) (V := .slice A5 n5 c5) HB1.out)
  generalize st3 v b1 (.int .i64 2) (.int .i64 1) (.slice A5 n5 c5) = V5 at *
  clear v
  clear HO4 HZ4
  have y0 : V5.cell? ⟨b1, 0, none⟩ = some (.int .i64 2) := box_at HB1.out 0 _ rfl
  have y1 : V5.cell? ⟨b1, 1, none⟩ = some (.int .i64 1) := box_at HB1.out 1 _ rfl
  have y2 : V5.cell? ⟨b1, 2, none⟩ = some (.slice A5 n5 c5) := box_at HB1.out 2 _ rfl
  go_upto_region 7 with (go_at_call 12; refine (feed_any V5 2 1 A5 n5 c5 z5 0 [99] HO5.out.rd (by rw [HZ5.out]; exact sX _ (by simp [X1, X2, X3, X4, X7])) (by decide)).mono ?_; unfold FeedPost; rw [HZ5.out, aw6]; rintro e v ⟨A6, n6, c6, z6, L6, l6, d6, rfl, hf, hO, hL, hb⟩; have hO2 := hO.lower HW.out.size; have hL2 := hL.lower HW.out.size; replace HB1 := Lib.hid (keep hb HB1.out); replace HO5 := Lib.hid (HO5.out.below hb); replace HW := Lib.hid (HW.out.trans (hb.mono HW.out.size)); have HO6 := Lib.hid hO2; have HL6 := Lib.hid hL2; have HZ6 := Lib.hid hf; clear hO hO2 hb hf hL hL2 y0 y1 y2; have g0 : v.cell? ⟨b1, 0, none⟩ = some (.int .i64 2) := box_at HB1.out 0 _ rfl; have g1 : v.cell? ⟨b1, 1, none⟩ = some (.int .i64 1) := box_at HB1.out 1 _ rfl; have g2 : v.cell? ⟨b1, 2, none⟩ = some (.slice A5 n5 c5) := box_at HB1.out 2 _ rfl; have gf := box_free HB1.out)
  clear g0 g1 g2 gf
  change Code.wp _ _ _ _ (st3 v b1 (.int .i64 2) (.int .i64 1) (.slice A6 n6 c6))
  replace HO5 := Lib.hid (st3_own (r := .int .i64 2) (x := .int .i64 1) (V := .slice A6 n6 c6) HO5.out HB1.out)
  replace HO6 := Lib.hid (st3_own (r := .int .i64 2) (x := .int .i64 1) (V := .slice A6 n6 c6) HO6.out HB1.out)
  replace HL6 := Lib.hid (ints_st3 (r := .int .i64 2) (x := .int .i64 1) (V := .slice A6 n6 c6) HL6.out HB1.out)
  replace HW := Lib.hid (st3_below (r := .int .i64 2) (x := .int .i64 1) (V := .slice A6 n6 c6) HW.out (show w.heap.size ≤ b1 by omega))
  replace HB1 := Lib.hid (st3_box (r := .int .i64 2) (x := .int .i64 1) (V := .slice A6 n6 c6) HB1.out)
  generalize st3 v b1 (.int .i64 2) (.int .i64 1) (.slice A6 n6 c6) = V6 at *
  clear v
  clear HO5 HZ5
  have y0 : V6.cell? ⟨b1, 0, none⟩ = some (.int .i64 2) := box_at HB1.out 0 _ rfl
  have y1 : V6.cell? ⟨b1, 1, none⟩ = some (.int .i64 1) := box_at HB1.out 1 _ rfl
  have y2 : V6.cell? ⟨b1, 2, none⟩ = some (.slice A6 n6 c6) := box_at HB1.out 2 _ rfl
  go_upto_region 8 with (go_at_call 19; refine (fail_any V6 2 1 A6 n6 c6 z6 0 3 HO6.out.rd (by rw [HZ6.out]; exact sX _ (by simp [X1, X2, X3, X4, X7]))).mono ?_; unfold FailPost; rw [HZ6.out, aw7]; rintro e v ⟨A7, n7, c7, z7, L7, l7, d7, rfl, hf, hO, hL, hb⟩; have hO2 := hO.lower HW.out.size; have hL2 := hL.lower HW.out.size; replace HB1 := Lib.hid (keep hb HB1.out); replace HO6 := Lib.hid (HO6.out.below hb); replace HL6 := Lib.hid (HL6.out.below hb); replace HW := Lib.hid (HW.out.trans (hb.mono HW.out.size)); have HO7 := Lib.hid hO2; have HL7 := Lib.hid hL2; have HZ7 := Lib.hid hf; clear hO hO2 hb hf hL hL2 y0 y1 y2)
  have hal := (Below.refl v.heap.size v).alloc (Nat.le_refl _) (.cells #[.int .i64 2, .int .i64 1, .slice A7 n7 c7] 26)
  have hx := heap_alloc_new v (.cells #[.int .i64 2, .int .i64 1, .slice A7 n7 c7] 26)
  have hlt121 : b1 < v.heap.size := (Array.getElem?_eq_some_iff.1 HB1.out).1
  replace HB1 := Lib.hid (keep hal HB1.out)
  replace HO6 := Lib.hid (HO6.out.below hal)
  replace HO7 := Lib.hid (HO7.out.below hal)
  replace HL6 := Lib.hid (HL6.out.below hal)
  replace HL7 := Lib.hid (HL7.out.below hal)
  replace HW := Lib.hid (HW.out.trans (hal.mono HW.out.size))
  have HB21 := Lib.hid hx
  clear hal hx
  generalize v.alloc (.cells #[.int .i64 2, .int .i64 1, .slice A7 n7 c7] 26) = V7 at *
  generalize v.heap.size = b21 at *
  clear v
  have y0 : V7.cell? ⟨b1, 0, none⟩ = some (.int .i64 2) := box_at HB1.out 0 _ rfl
  have y1 : V7.cell? ⟨b1, 1, none⟩ = some (.int .i64 1) := box_at HB1.out 1 _ rfl
  have y2 : V7.cell? ⟨b1, 2, none⟩ = some (.slice A6 n6 c6) := box_at HB1.out 2 _ rfl
  go_upto_region 9 with (go_at_call 20; refine (leave_any V7 2 1 A6 n6 c6 z6 1 HO6.out.rd (by rw [HZ6.out]; exact sX _ (by simp [X1, X2, X3, X4, X7]))).mono ?_; unfold OpPost; rw [HZ6.out, aw8]; rintro e v ⟨A8, n8, c8, z8, rfl, hf, hO, hb⟩; have hO2 := hO.lower HW.out.size; replace HB1 := Lib.hid (keep hb HB1.out); replace HB21 := Lib.hid (keep hb HB21.out); replace HO6 := Lib.hid (HO6.out.below hb); replace HO7 := Lib.hid (HO7.out.below hb); replace HL6 := Lib.hid (HL6.out.below hb); replace HL7 := Lib.hid (HL7.out.below hb); replace HW := Lib.hid (HW.out.trans (hb.mono HW.out.size)); have HO8 := Lib.hid hO2; have HZ8 := Lib.hid hf; clear hO hO2 hb hf y0 y1 y2)
  have hal := (Below.refl v.heap.size v).alloc (Nat.le_refl _) (.cells #[.int .i64 2, .int .i64 1, .slice A8 n8 c8] 26)
  have hx := heap_alloc_new v (.cells #[.int .i64 2, .int .i64 1, .slice A8 n8 c8] 26)
  have hlt125 : b1 < v.heap.size := (Array.getElem?_eq_some_iff.1 HB1.out).1
  have hlt2125 : b21 < v.heap.size := (Array.getElem?_eq_some_iff.1 HB21.out).1
  replace HB1 := Lib.hid (keep hal HB1.out)
  replace HB21 := Lib.hid (keep hal HB21.out)
  replace HO6 := Lib.hid (HO6.out.below hal)
  replace HO7 := Lib.hid (HO7.out.below hal)
  replace HO8 := Lib.hid (HO8.out.below hal)
  replace HL6 := Lib.hid (HL6.out.below hal)
  replace HL7 := Lib.hid (HL7.out.below hal)
  replace HW := Lib.hid (HW.out.trans (hal.mono HW.out.size))
  have HB25 := Lib.hid hx
  clear hal hx
  generalize v.alloc (.cells #[.int .i64 2, .int .i64 1, .slice A8 n8 c8] 26) = V8 at *
  generalize v.heap.size = b25 at *
  clear v
  clear HO8 HZ8
  clear HB25
  have hn7 : n7 = 0 := by
    have h1 := HO7.out.rd.len
    have h2 : z7.length = 0 := fls_len HZ7.out
    omega
  subst hn7
  have C13 := fun (W : World) (hb : Below V8.heap.size V8 W) => right_any W 2 1 A6 n6 c6 z6 (HO6.out.below hb).rd (SmF.sm (by rw [HZ6.out]; exact sX _ (by simp [X7])) HO6.out.rd.len)
  have D13 := fun (W : World) => right_any W 0 0 none 0 0 [] (RdF.nil _ _ _) (SmF.sm (ys := []) sm0 rfl)
  rw [HZ6.out, aw9] at C13
  rw [show fls [] = [] from rfl, aw10] at D13
  replace C13 := Lib.hid C13
  replace D13 := Lib.hid D13
  have CI := Lib.hid (fun (W : World) (hb : Below V8.heap.size V8 W) (B : Option Addr) (m d : Nat) (h : RdE ienc 1 W (.slice B m d) [2]) => ints_any W L6 B l6 d6 m d [2] (HL6.out.below hb).rd h)
  have CJ := Lib.hid (fun (W : World) (hb : Below V8.heap.size V8 W) (B : Option Addr) (m d : Nat) (h : RdE ienc 1 W (.slice B m d) [1]) => ints_any W L7 B l7 d7 m d [1] (HL7.out.below hb).rd h)
  have ha1 := (Below.refl V8.heap.size V8).alloc (Nat.le_refl _) (.cells #[.int .i64 2] 3)
  have HA1 := Lib.hid ha1
  have HR1 := Lib.hid (show RdE ienc 1 (V8.alloc (.cells #[.int .i64 2] 3)) (.slice (some ⟨V8.heap.size, 0, none⟩) 1 1) [2] from rd_boxE (enc := ienc) V8 2 3)
  clear ha1
  go_wp2_with (first
    | (go_at_call 21; (with_reducible show Calls Try.prog 21 #[.slice L6 l6 d6, _] _ _); refine (CI.out _ HA1.out _ _ _ HR1.out).mono ?_; rintro e v1 ⟨rfl, hb⟩; have HV1 := Lib.hid (HA1.out.trans (hb.mono HA1.out.size)); clear hb; have HA2 := Lib.hid (HV1.out.alloc HV1.out.size (.cells #[.int .i64 1] 3)); have HR2 := Lib.hid (show RdE ienc 1 (v1.alloc (.cells #[.int .i64 1] 3)) (.slice (some ⟨v1.heap.size, 0, none⟩) 1 1) [1] from rd_boxE (enc := ienc) v1 1 3))
    | (go_at_call 21; (with_reducible show Calls Try.prog 21 #[.slice L7 l7 d7, _] _ _); refine (CJ.out _ HA2.out _ _ _ HR2.out).mono ?_; rintro e v2 ⟨rfl, hb⟩; have HV2 := Lib.hid (HA2.out.trans (hb.mono HA2.out.size)); clear hb; have p0 : v2.cell? ⟨b21, 0, none⟩ = some (.int .i64 2) := box_at (keep HV2.out HB21.out) 0 _ rfl; have p1 : v2.cell? ⟨b21, 1, none⟩ = some (.int .i64 1) := box_at (keep HV2.out HB21.out) 1 _ rfl; have p2 : v2.cell? ⟨b21, 2, none⟩ = some (.slice A7 0 c7) := box_at (keep HV2.out HB21.out) 2 _ rfl; have q0 : v2.cell? ⟨b1, 0, none⟩ = some (.int .i64 2) := box_at (keep HV2.out HB1.out) 0 _ rfl; have q1 : v2.cell? ⟨b1, 1, none⟩ = some (.int .i64 1) := box_at (keep HV2.out HB1.out) 1 _ rfl; have q2 : v2.cell? ⟨b1, 2, none⟩ = some (.slice A6 n6 c6) := box_at (keep HV2.out HB1.out) 2 _ rfl)
    | (go_at_call 13; (with_reducible show Calls Try.prog 13 #[.agg #[.int .i64 2, _, _]] _ _); refine (C13.out v2 HV2.out).mono ?_; rintro e v3 ⟨rfl, hb⟩; have HV3 := Lib.hid (HV2.out.trans (hb.mono HV2.out.size)); clear hb)
    | (go_at_call 13; (with_reducible show Calls Try.prog 13 #[.agg #[.int .i64 0, _, _]] _ _); refine (D13.out v3).mono ?_; rintro e v4 ⟨rfl, hb⟩; have HV4 := Lib.hid (HV3.out.trans (hb.mono HV3.out.size)); clear hb))
  go_ret
  exact ⟨by simp, HW.out.trans (HV4.out.mono HW.out.size)⟩
end Go.Proofs.Ytipjhokhflokmaa
