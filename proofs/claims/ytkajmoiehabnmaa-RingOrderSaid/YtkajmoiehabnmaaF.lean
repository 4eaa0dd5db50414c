/- ring.Find; lockagelaw01.awake. -/
import Derived.Test.YtkajmoiehabnmaaE
import Derived.Deep.RegionWith
set_option linter.unusedVariables false
set_option linter.unusedSimpArgs false
namespace Go.Proofs.Ytkajmoiehabnmaa
open Go.RowKit Go.Lib
open Go.Proofs.YtkajmoiehabnmaaW.PrintWords

set_option maxHeartbeats 1000000 in
theorem find_any (w : World) (mx : Int) (hm0 : w.cell? ⟨0, 0, none⟩ = some (.int .i64 mx)) (A : Option Addr) (n c f m : Nat) (s : ByteArray) (buf : List UInt8) (hr : Rd w (.slice A n c) (byteCells buf)) (hn : 0 < n) (hn4 : n ≤ 4096) (hf : f < n) (hm : m ≤ n) :
    Calls Try.prog 10 #[.agg #[.slice A n c, .int .i64 f, .int .i64 m], .string s] w fun e w' => e = .returned (.int .i64 (index (dataOf buf f m) s.data.toList)) ∧ Below w.heap.size w w' := by
  have hbl : buf.length = n := by have := hr.len; rwa [byteCells_length] at this
  have hal : Below w.heap.size w (w.alloc (.cells #[.slice A n c, .int .i64 f, .int .i64 m] 25)) := (Below.refl _ _).alloc (Nat.le_refl _) _
  have h0 : 0 < w.heap.size := World.block_lt_of_cell? w ⟨0, 0, none⟩ hm0
  have HR := Lib.hid (hr.below hal)
  have HW := Lib.hid hal
  clear hr hal
  go_enter Try.func10, Try.ntmps10
  go_wp2_with (first
    | (go_at_call 9; refine (data_any _ A n c f m buf HR.out hn hn4 hf hm).mono ?_; rintro e w4 ⟨rfl, hb4⟩; have HB4 := Lib.hid (HW.out.trans (hb4.mono HW.out.size)); clear hb4)
    | (go_at_call 15; refine (Try.strings_Index _ _ mx _ ?_ ?_).mono ?_; (have hl := dataOf_len buf f m; simp [ByteArray.size]; omega); exact (HB4.out.cell (p := ⟨0, 0, none⟩) h0).trans hm0; rintro e w5 ⟨rfl, rfl⟩))
  go_ret
  exact ⟨by simp, HB4.out⟩

/-- what lies in a box of one's own -/
structure Bx (w W : World) (bx : Nat) (v : Value) (f m : Nat) (buf : List UInt8) : Prop where
  x : BoxR W bx v f m
  r : Rd W v (byteCells buf)
  bw : Below w.heap.size w W
theorem Bx.below {w W W1 : World} {bx : Nat} {v : Value} {f m : Nat} {buf : List UInt8} (h : Bx w W bx v f m buf) (hb : Below W.heap.size W W1) : Bx w W1 bx v f m buf := ⟨keep hb h.x, h.r.below hb, h.bw.trans (hb.mono h.bw.size)⟩
theorem Bx.new {w W W2 : World} {v : Value} {f m : Nat} {buf : List UInt8} (hb : Below w.heap.size w W) (hO : Ow 5 W2 W.heap.size v (byteCells buf)) (h2 : Below W.heap.size W W2) : Bx w (W2.alloc (.cells #[v, .int .i64 f, .int .i64 m] 25)) W2.heap.size v f m buf := by
  have hal : Below W2.heap.size W2 (W2.alloc (.cells #[v, .int .i64 f, .int .i64 m] 25)) := (Below.refl _ _).alloc (Nat.le_refl _) _
  have h3 := hb.trans (h2.mono hb.size)
  exact ⟨heap_alloc_new _ _, hO.rd.below hal, h3.trans (hal.mono h3.size)⟩

set_option maxHeartbeats 4000000 in
theorem awake_any (w : World) (mx : Int) (hm0 : w.cell? ⟨0, 0, none⟩ = some (.int .i64 mx)) : Calls Try.prog 4 #[] w fun e w' => e = .returned (.bool true) ∧ Below w.heap.size w w' := by
  have h0 : 0 < w.heap.size := World.block_lt_of_cell? w ⟨0, 0, none⟩ hm0
  go_enter Try.func4, Try.ntmps4
  go_upto_region 2 with (first
    | (go_at_call 5; refine (new_any _ 3 (by omega) (by omega)).mono ?_; rintro e w1 ⟨A, c, rfl, hO, hb⟩; have HO := Lib.hid hO; have HB := Lib.hid hb; clear hO hb)
    | (go_at_call 7; refine (push_any w1 A 3 c 0 0 2 0 2 2 [97, 98] (by decide) (by decide) (by decide) (by decide) (by decide) _ HO.out.rd (by decide) (by decide) (by decide) (by decide)).mono ?_; rintro e w2 ⟨A2, c2, rfl, hO2, hb2⟩; have HX := Lib.hid (Bx.new (w := w) (f := 0) (m := 2) HB.out hO2 hb2); clear HO HB hO2 hb2))
  generalize hW : (w2.alloc _) = W1 at *
  generalize w2.heap.size = b1 at *
  clear hW
  have z0 := box_at HX.out.x 0 _ rfl
  have z1 := box_at HX.out.x 1 _ rfl
  have z2 := box_at HX.out.x 2 _ rfl
  go_upto_region 3 with (go_at_call 6; refine (pop_any W1 A2 3 c2 0 2 1 1 1 1 (by decide) (by decide) (by decide) _ HX.out.r (by decide) (by decide) (by decide) (by decide) (by decide)).mono ?_; rintro e w3 ⟨A3, c3, rfl, hO3, hb3⟩; have HX3 := Lib.hid (Bx.new (w := w) (f := 1) (m := 1) HX.out.bw hO3 hb3); clear hO3 hb3 z0 z1 z2)
  clear HX
  generalize hW : (w3.alloc _) = W3 at *
  generalize w3.heap.size = b3 at *
  clear hW
  have z0 := box_at HX3.out.x 0 _ rfl
  have z1 := box_at HX3.out.x 1 _ rfl
  have z2 := box_at HX3.out.x 2 _ rfl
  go_upto_region 4 with (go_at_call 7; refine (push_any W3 A3 3 c3 1 1 2 2 3 1 [99, 100, 101] (by decide) (by decide) (by decide) (by decide) (by decide) _ HX3.out.r (by decide) (by decide) (by decide) (by decide)).mono ?_; rintro e w5 ⟨A5, c5, rfl, hO5, hb5⟩; have HX5 := Lib.hid (Bx.new (w := w) (f := 1) (m := 3) HX3.out.bw hO5 hb5); clear hO5 hb5 z0 z1 z2)
  clear HX3
  generalize hW : (w5.alloc _) = W5 at *
  generalize w5.heap.size = b5 at *
  clear hW
  have hbuf : put (put (put (put [0, 0, 0] 0 [97, 98]) 0 []) 2 [99]) 0 [100] = [100, 98, 99] := by decide
  have z0 := box_at HX5.out.x 0 _ rfl
  have z1 := box_at HX5.out.x 1 _ rfl
  have z2 := box_at HX5.out.x 2 _ rfl
  have HX := Lib.hid (show Bx w W5 b5 (.slice A5 3 c5) 1 3 [100, 98, 99] from HX5.out)
  clear HX5 hbuf
  have hfl : ∀ W : World, Sem.run Try.prog (Instr.field 25 (.agg #[.slice none 0 0, .int .i64 0, .int .i64 0]) 0) W = .ok (.slice none 0 0) W := by intro W; kernel_rfl
  go_wp2_with (first
    | (go_at_call 9; refine (data_any _ A5 3 c5 1 3 [100, 98, 99] HX.out.r (by decide) (by decide) (by decide) (by decide)).mono ?_; rintro e w6 ⟨rfl, hb6⟩; replace HX := Lib.hid (HX.out.below hb6); clear hb6 z0 z1 z2; have z0 := box_at HX.out.x 0 _ rfl; have z1 := box_at HX.out.x 1 _ rfl; have z2 := box_at HX.out.x 2 _ rfl)
    | (go_at_call_of 10 (Value.string ⟨#[99, 100]⟩); refine (find_any _ mx ((HX.out.bw.cell (p := ⟨0, 0, none⟩) h0).trans hm0) A5 3 c5 1 3 _ [100, 98, 99] HX.out.r (by decide) (by decide) (by decide) (by decide)).mono ?_; rintro e w6 ⟨rfl, hb6⟩; replace HX := Lib.hid (HX.out.below hb6); clear hb6 z0 z1 z2; have z0 := box_at HX.out.x 0 _ rfl; have z1 := box_at HX.out.x 1 _ rfl; have z2 := box_at HX.out.x 2 _ rfl)
    | (go_at_call 10; refine (find_any _ mx ((HX.out.bw.cell (p := ⟨0, 0, none⟩) h0).trans hm0) A5 3 c5 1 3 _ [100, 98, 99] HX.out.r (by decide) (by decide) (by decide) (by decide)).mono ?_; rintro e w6 ⟨rfl, hb6⟩; replace HX := Lib.hid (HX.out.below hb6); clear hb6 z0 z1 z2; have z0 := box_at HX.out.x 0 _ rfl; have z1 := box_at HX.out.x 1 _ rfl; have z2 := box_at HX.out.x 2 _ rfl)
    | (go_at_call_of 8 (Value.slice none 0 0); refine (right_no _ none 0 0 0).mono ?_; rintro e w6 ⟨rfl, hb6⟩; replace HX := Lib.hid (HX.out.below hb6); clear hb6 z0 z1 z2; have z0 := box_at HX.out.x 0 _ rfl; have z1 := box_at HX.out.x 1 _ rfl; have z2 := box_at HX.out.x 2 _ rfl)
    | (go_at_call 8; refine (right_yes _ A5 3 c5 1 3 (by decide) (by decide) (by decide) (by decide)).mono ?_; rintro e w6 ⟨rfl, hb6⟩; replace HX := Lib.hid (HX.out.below hb6); clear hb6 z0 z1 z2; have z0 := box_at HX.out.x 0 _ rfl; have z1 := box_at HX.out.x 1 _ rfl; have z2 := box_at HX.out.x 2 _ rfl)
    | (go_at_call 5; refine (new_zero _).mono ?_; rintro e w6 ⟨rfl, hb6⟩; replace HX := Lib.hid (HX.out.below hb6); clear hb6 z0 z1 z2; have z0 := box_at HX.out.x 0 _ rfl; have z1 := box_at HX.out.x 1 _ rfl; have z2 := box_at HX.out.x 2 _ rfl))
  go_ret
  exact ⟨by simp, HX.out.bw⟩
end Go.Proofs.Ytkajmoiehabnmaa
