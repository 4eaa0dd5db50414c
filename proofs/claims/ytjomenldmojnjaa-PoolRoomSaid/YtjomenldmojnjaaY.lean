/- Contract of lockagelaw17.awake. -/
import Derived.Test.YtjomenldmojnjaaX
set_option linter.unusedVariables false
set_option linter.unusedSimpArgs false
namespace Go.Proofs.Ytjomenldmojnjaa
open Go.RowKit
open Go.Proofs.YtjomenldmojnjaaW.PrintWords

theorem read_p0 (w : World) : RdE enc 4 (w.alloc (.cells #[.int .i64 0, .int .i64 1, .int .i64 0, .int .i64 0, .int .i64 0, .int .i64 1, .int .i64 0, .int .i64 0] 32)) (.slice (some ⟨w.heap.size, 0, none⟩) 2 2) p0 := by
  refine ⟨_, 2, rfl, Nat.le_refl _, by decide, fun _ => ⟨_, 0, rfl, by simp, fun i j x y hx hy => ?_⟩⟩
  have h := fm_at (enc := enc) encL hx hy
  refine box_at (heap_alloc_new w (.cells #[.int .i64 0, .int .i64 1, .int .i64 0, .int .i64 0, .int .i64 0, .int .i64 1, .int .i64 0, .int .i64 0] 32)) _ y ?_
  rw [Nat.zero_add, ← h, ← List.getElem?_toArray]
  rfl
theorem RdE.box2 {w : World} {es : List Bk} {A : Option Addr} {n c : Nat} {base b : Nat} (h : OwE enc 4 32 w base (.slice A n c) es) (hb : b < base) (x y : Value) :
    RdE enc 4 ((w.setCell ⟨b, 0, none⟩ x).setCell ⟨b, 1, none⟩ y) (.slice A n c) es := ((h.box (p := ⟨b, 0, none⟩) hb x).box (p := ⟨b, 1, none⟩) hb y).rd

set_option maxRecDepth 4000 in
set_option maxHeartbeats 8000000 in
theorem awake_any (w : World) : Calls Try.prog 8 #[] w fun e w' => e = .returned (.bool true) ∧ Below w.heap.size w w' := by
  have hB0 : Below w.heap.size w ((w.alloc (.cells #[.int .i64 0, .int .i64 1, .int .i64 0, .int .i64 0, .int .i64 0, .int .i64 1, .int .i64 0, .int .i64 0] 32)).alloc (.cells #[.slice (some ⟨w.heap.size, 0, none⟩) 2 2, .int .i64 0] 24)) := ((Below.refl _ _).alloc (Nat.le_refl _) _).alloc (by simp) _
  have B0 := Lib.hid hB0
  have R0 := Lib.hid ((read_p0 w).below ((Below.refl _ _).alloc (Nat.le_refl _) (.cells #[.slice (some ⟨w.heap.size, 0, none⟩) 2 2, .int .i64 0] 24)))
  have x1 := heap_alloc_new (w.alloc (.cells #[.int .i64 0, .int .i64 1, .int .i64 0, .int .i64 0, .int .i64 0, .int .i64 1, .int .i64 0, .int .i64 0] 32)) (.cells #[.slice (some ⟨w.heap.size, 0, none⟩) 2 2, .int .i64 0] 24)
  rw [World.size_alloc] at x1
  have X1 := Lib.hid x1
  clear x1 hB0
  go_enter Try.func8, Try.ntmps8
  go_upto_region 2 with fail
  obtain ⟨W0, hW⟩ : ∃ W0, ((w.alloc (.cells #[.int .i64 0, .int .i64 1, .int .i64 0, .int .i64 0, .int .i64 0, .int .i64 1, .int .i64 0, .int .i64 0] 32)).alloc (.cells #[.slice (some ⟨w.heap.size, 0, none⟩) 2 2, .int .i64 0] 24)) = W0 := ⟨_, rfl⟩
  rw [hW] at R0 X1 B0
  simp only [hW]
  clear hW
  have z0 := box_at X1.out 0 _ rfl
  have z1 := box_at X1.out 1 _ rfl
  go_upto_region 3 with (go_at_call 14; refine (open_any _ _ _ _ 0 p0 R0.out (by decide)).mono ?_; rw [aw1]; rintro e v1 ⟨A1, n1, c1, rfl, hO, hb⟩; have HO := Lib.hid hO; have HBB := Lib.hid hb; clear hO hb)
  have al : Below v1.heap.size v1 (v1.alloc (.cells #[.slice A1 n1 c1, .int .i64 1] 24)) := (Below.refl _ _).alloc (Nat.le_refl _) _
  have AL := Lib.hid (HBB.out.trans (al.mono HBB.out.size))
  have X2 := Lib.hid (heap_alloc_new v1 (.cells #[.slice A1 n1 c1, .int .i64 1] 24))
  have R1 := Lib.hid (HO.out.rd.below al)
  obtain ⟨p2b, hp⟩ : ∃ p, v1.heap.size = p := ⟨_, rfl⟩
  obtain ⟨W1, hW⟩ : ∃ W, (v1.alloc (.cells #[.slice A1 n1 c1, .int .i64 1] 24)) = W := ⟨_, rfl⟩
  rw [hp, hW] at X2
  rw [hW] at AL R1
  simp only [hp, hW]
  have hlt1 : w.heap.size + 1 < p2b := by rw [← hp]; exact (Array.getElem?_eq_some_iff.1 (keep HBB.out X1.out)).1
  clear hp hW al HO HBB z0 z1
  have X1 := Lib.hid (keep AL.out X1.out)
  have R0 := Lib.hid (R0.out.below AL.out)
  have B0 := Lib.hid (B0.out.trans (AL.out.mono B0.out.size))
  clear AL
  have z0 := box_at X2.out 0 _ rfl
  have z1 := box_at X2.out 1 _ rfl
  go_upto_region 4 with (go_at_call 14; refine (open_any _ _ _ _ 1 p1 R1.out (by decide)).mono ?_; rw [aw2]; rintro e v2 ⟨A2, n2, c2, rfl, hO, hb⟩; have HO := Lib.hid (hO.lower (base' := p2b + 1) (Array.getElem?_eq_some_iff.1 X2.out).1); have HBB := Lib.hid hb; have y := keep hb X2.out; clear hO hb z0 z1; have z0 := box_at y 0 _ rfl; have z1 := box_at y 1 _ rfl; have zf := box_free y; have hl9 := (Array.getElem?_eq_some_iff.1 y).1; clear y)
  have R2 := Lib.hid (RdE.box2 (b := p2b) HO.out (Nat.lt_succ_self _) (.slice A2 n2 c2) (.int .i64 0))
  have R0 := Lib.hid (((R0.out.below HBB.out).far (p := ⟨p2b, 0, none⟩) (fun q hq => by simp [Value.ownBlock] at hq; simp; omega) (.slice A2 n2 c2)).far (p := ⟨p2b, 1, none⟩) (fun q hq => by simp [Value.ownBlock] at hq; simp; omega) (.int .i64 0))
  have B0 := Lib.hid (((B0.out.trans (HBB.out.mono B0.out.size)).setCell (p := ⟨p2b, 0, none⟩) (by simp; omega) (.slice A2 n2 c2)).setCell (p := ⟨p2b, 1, none⟩) (by simp; omega) (.int .i64 0))
  have X2' := Lib.hid (heap_set (heap_set (keep HBB.out X2.out) (o := 0) (.slice A2 n2 c2)) (o := 1) (.int .i64 0))
  have X1' := Lib.hid (show ((v2.setCell ⟨p2b, 0, none⟩ (.slice A2 n2 c2)).setCell ⟨p2b, 1, none⟩ (.int .i64 0)).heap[w.heap.size + 1]? = some (.cells #[.slice (some ⟨w.heap.size, 0, none⟩) 2 2, .int .i64 0] 24 (0, 0)) by rw [Below.heap_setCell _ _ _ _ (by simp; omega), Below.heap_setCell _ _ _ _ (by simp; omega)]; exact keep HBB.out X1.out)
  obtain ⟨W2, hW⟩ : ∃ W, ((v2.setCell ⟨p2b, 0, none⟩ (.slice A2 n2 c2)).setCell ⟨p2b, 1, none⟩ (.int .i64 0)) = W := ⟨_, rfl⟩
  rw [hW] at R2 R0 B0 X2' X1'
  simp only [hW]
  clear hW HO HBB z0 z1 zf hl9 X2 X1
  have X2 := X2'
  clear X2'
  have X1 := X1'
  clear X1'
  have z0 := box_at X2.out 0 _ rfl
  have z1 := box_at X2.out 1 _ rfl
  go_upto_region 5 with (go_at_call 13; refine (pick_any _ _ _ _ 0 p2 R2.out).mono ?_; rw [aw3]; rintro e W3 ⟨rfl, hb⟩; have HBB := Lib.hid hb; clear hb)
  clear z0 z1
  have X1 := Lib.hid (keep HBB.out X1.out)
  have X2 := Lib.hid (keep HBB.out X2.out)
  have R0 := Lib.hid (R0.out.below HBB.out)
  have R2 := Lib.hid (R2.out.below HBB.out)
  have B0 := Lib.hid (B0.out.trans (HBB.out.mono B0.out.size))
  clear HBB
  have z0 := box_at X2.out 0 _ rfl
  have z1 := box_at X2.out 1 _ rfl
  go_upto_region 6 with (go_at_call 15; refine (close_any _ _ _ _ 0 p2 0 true false R2.out (by decide)).mono ?_; rw [aw4]; rintro e v4 ⟨A4, n4, c4, rfl, hO, hb⟩; have HO := Lib.hid hO; have HBB := Lib.hid hb; clear hO hb)
  have al : Below v4.heap.size v4 (v4.alloc (.cells #[.slice A4 n4 c4, .int .i64 0] 24)) := (Below.refl _ _).alloc (Nat.le_refl _) _
  have AL := Lib.hid (HBB.out.trans (al.mono HBB.out.size))
  have X11 := Lib.hid (heap_alloc_new v4 (.cells #[.slice A4 n4 c4, .int .i64 0] 24))
  have R4 := Lib.hid (HO.out.rd.below al)
  obtain ⟨p11, hp⟩ : ∃ p, v4.heap.size = p := ⟨_, rfl⟩
  obtain ⟨W4, hW⟩ : ∃ W, (v4.alloc (.cells #[.slice A4 n4 c4, .int .i64 0] 24)) = W := ⟨_, rfl⟩
  rw [hp, hW] at X11
  rw [hW] at AL R4
  simp only [hp, hW]
  have hlt4 : w.heap.size + 1 < p11 := by rw [← hp]; exact (Array.getElem?_eq_some_iff.1 (keep HBB.out X1.out)).1
  clear hp hW al HO HBB z0 z1
  have X1 := Lib.hid (keep AL.out X1.out)
  have R0 := Lib.hid (R0.out.below AL.out)
  have B0 := Lib.hid (B0.out.trans (AL.out.mono B0.out.size))
  clear AL
  have z0 := box_at X11.out 0 _ rfl
  have z1 := box_at X11.out 1 _ rfl
  go_upto_region 7 with (go_at_call 14; refine (open_any _ _ _ _ 0 p3 R4.out (by decide)).mono ?_; rw [aw5]; rintro e v5 ⟨A5, n5, c5, rfl, hO, hb⟩; have HO := Lib.hid (hO.lower (base' := p11 + 1) (Array.getElem?_eq_some_iff.1 X11.out).1); have HBB := Lib.hid hb; have y := keep hb X11.out; clear hO hb z0 z1; have z0 := box_at y 0 _ rfl; have z1 := box_at y 1 _ rfl; have zf := box_free y; have hl9 := (Array.getElem?_eq_some_iff.1 y).1; clear y)
  have R5 := Lib.hid (RdE.box2 (b := p11) HO.out (Nat.lt_succ_self _) (.slice A5 n5 c5) (.int .i64 1))
  have R0 := Lib.hid (((R0.out.below HBB.out).far (p := ⟨p11, 0, none⟩) (fun q hq => by simp [Value.ownBlock] at hq; simp; omega) (.slice A5 n5 c5)).far (p := ⟨p11, 1, none⟩) (fun q hq => by simp [Value.ownBlock] at hq; simp; omega) (.int .i64 1))
  have B0 := Lib.hid (((B0.out.trans (HBB.out.mono B0.out.size)).setCell (p := ⟨p11, 0, none⟩) (by simp; omega) (.slice A5 n5 c5)).setCell (p := ⟨p11, 1, none⟩) (by simp; omega) (.int .i64 1))
  have X11' := Lib.hid (heap_set (heap_set (keep HBB.out X11.out) (o := 0) (.slice A5 n5 c5)) (o := 1) (.int .i64 1))
  have X1' := Lib.hid (show ((v5.setCell ⟨p11, 0, none⟩ (.slice A5 n5 c5)).setCell ⟨p11, 1, none⟩ (.int .i64 1)).heap[w.heap.size + 1]? = some (.cells #[.slice (some ⟨w.heap.size, 0, none⟩) 2 2, .int .i64 0] 24 (0, 0)) by rw [Below.heap_setCell _ _ _ _ (by simp; omega), Below.heap_setCell _ _ _ _ (by simp; omega)]; exact keep HBB.out X1.out)
  obtain ⟨W5, hW⟩ : ∃ W, ((v5.setCell ⟨p11, 0, none⟩ (.slice A5 n5 c5)).setCell ⟨p11, 1, none⟩ (.int .i64 1)) = W := ⟨_, rfl⟩
  rw [hW] at R5 R0 B0 X11' X1'
  simp only [hW]
  clear hW HO HBB z0 z1 zf hl9 X11 X1
  have X11 := X11'
  clear X11'
  have X1 := X1'
  clear X1'
  have z0 := box_at X11.out 0 _ rfl
  have z1 := box_at X11.out 1 _ rfl
  clear z0 z1
  have z0 := box_at X1.out 0 _ rfl
  have z1 := box_at X1.out 1 _ rfl
  go_upto_region 8 with (go_at_call 15; refine (close_any _ _ _ _ 0 p0 0 false false R0.out (by decide)).mono ?_; rw [aw6]; rintro e v6 ⟨A6, n6, c6, rfl, hO, hb⟩; have HBB := Lib.hid hb; clear hO hb)
  have al : Below v6.heap.size v6 (v6.alloc (.cells #[.slice A6 n6 c6, .int .i64 0] 24)) := (Below.refl _ _).alloc (Nat.le_refl _) _
  have AL := Lib.hid (HBB.out.trans (al.mono HBB.out.size))
  obtain ⟨p16, hp⟩ : ∃ p, v6.heap.size = p := ⟨_, rfl⟩
  obtain ⟨W6, hW⟩ : ∃ W, (v6.alloc (.cells #[.slice A6 n6 c6, .int .i64 0] 24)) = W := ⟨_, rfl⟩
  rw [hW] at AL
  simp only [hp, hW]
  clear hp hW al HBB z0 z1
  have X11 := Lib.hid (keep AL.out X11.out)
  have R5 := Lib.hid (R5.out.below AL.out)
  have B0 := Lib.hid (B0.out.trans (AL.out.mono B0.out.size))
  clear AL
  have z0 := box_at X11.out 0 _ rfl
  have z1 := box_at X11.out 1 _ rfl
  have G1 := Lib.hid (show againB ⟨#[71, 69, 84]⟩ 1 2 false 51 = true by simp [againB, safeB, tailB, ByteArray.toList_eq])
  have G2 := Lib.hid (show againB ⟨#[80, 79, 83, 84]⟩ 1 2 false 51 = false by simp [againB, safeB, tailB, ByteArray.toList_eq])
  go_wp2_with (first
    | (go_at_call_of 16 (Value.slice none 0 0); refine (right_any _ none 0 0 0 [] (RdE.nil _ _ _)).mono ?_; rw [aw8]; rintro e u2 ⟨rfl, hb2⟩)
    | (go_at_call 16; refine (right_any _ _ _ _ 1 p2 R5.out).mono ?_; rw [aw7]; rintro e u1 ⟨rfl, hb1⟩)
    | (go_at_call 11; refine (again_any _ _ _ _ _ _).mono ?_; (first | rw [G1.out] | rw [G2.out]); rintro e w9 ⟨rfl, hw9⟩; subst w9))
  go_ret
  exact ⟨by simp, B0.out.trans ((hb1.trans (hb2.mono hb1.size)).mono B0.out.size)⟩
end Go.Proofs.Ytjomenldmojnjaa
