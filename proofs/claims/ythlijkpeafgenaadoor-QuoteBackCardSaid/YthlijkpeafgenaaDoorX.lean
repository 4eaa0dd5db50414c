/- lockagelaw10.awake. -/
import Derived.Test.YthlijkpeafgenaaDoorV
set_option linter.unusedVariables false
set_option linter.unusedSimpArgs false
namespace Go.Proofs.YthlijkpeafgenaaDoor
open Go.RowKit Go.Lib
open Go.Proofs.YthlijkpeafgenaaDoorW.PrintWords

theorem aw1 : unqS [34, 97, 92, 117, 48, 48, 101, 52, 92, 110, 34, 120] = ([97, 195, 164, 10], 11, true) := by decide +kernel
theorem aw2 : unqS [34, 97, 1, 34] = ([], 2, false) := by decide +kernel
theorem aw3 : validS [195, 164] = true := by decide +kernel
theorem aw4 : validS [192, 128] = false := by decide +kernel
theorem aw5 : validS [255] = false := by decide +kernel
theorem aw6 : qS [97, 34, 10, 1] = [97, 92, 34, 92, 110, 92, 117, 48, 48, 48, 49] := by decide +kernel
theorem aw7 : encS [97, 34, 10, 1] = [97, 34, 10, 1] := by decide +kernel
theorem aw8 : Chars [97, 34, 10, 1] [97, 34, 10, 1] := ⟨by intro r hr; simp at hr; rcases hr with rfl | rfl | rfl | rfl <;> exact .inl (by decide), aw7.symm⟩
/-- the tables that are read -/
structure Tb (w : World) : Prop where
  t : Utf8Tabs 0 1 w
  c : w.cell? ⟨5, 15, none⟩ = some (.int .u8 4)
theorem Tb.below {w W : World} (h : Tb w) (hb : Below w.heap.size w W) : Tb W := ⟨Utf8Tabs_below h.t hb, pw_cell_below hb h.c⟩
theorem aU1 {w W : World} (h : Tb w) (hb : Below w.heap.size w W) : Calls Tryd.prog 9 #[str [34, 97, 92, 117, 48, 48, 101, 52, 92, 110, 34, 120]] W fun e w' => e = .returned (.tuple #[str [97, 195, 164, 10], .int .i64 11, .int .i64 0]) ∧ Below w.heap.size w w' := by
  refine (unq_any _ W (by decide) (h.below hb).t).mono ?_
  rintro e w' ⟨rfl, h1⟩
  rw [aw1]
  exact ⟨rfl, hb.trans (h1.mono hb.size)⟩
theorem aU2 {w W : World} (h : Tb w) (hb : Below w.heap.size w W) : Calls Tryd.prog 9 #[str [34, 97, 1, 34]] W fun e w' => e = .returned (.tuple #[str [], .int .i64 2, .int .i64 30]) ∧ Below w.heap.size w w' := by
  refine (unq_any _ W (by decide) (h.below hb).t).mono ?_
  rintro e w' ⟨rfl, h1⟩
  rw [aw2]
  exact ⟨rfl, hb.trans (h1.mono hb.size)⟩
theorem aQ1 {w W : World} (h : Tb w) (hb : Below w.heap.size w W) : Calls Tryd.prog 7 #[str [97, 34, 10, 1]] W fun e w' => e = .returned (.tuple #[str [34, 97, 92, 34, 92, 110, 92, 117, 48, 48, 48, 49, 34], .int .i64 0]) ∧ Below w.heap.size w w' := by
  refine (quote_ok _ _ aw8 W (by decide) (by rw [aw6]; decide) (h.below hb).t (h.below hb).c).mono ?_
  rintro e w' ⟨rfl, h1⟩
  rw [aw6]
  exact ⟨rfl, hb.trans (h1.mono hb.size)⟩
theorem aQ2 {w W : World} (h : Tb w) (hb : Below w.heap.size w W) : Calls Tryd.prog 7 #[str [255]] W fun e w' => e = .returned (.tuple #[str [], .int .i64 30]) ∧ Below w.heap.size w w' := by
  refine (quote_bad _ aw5 W (by decide) (h.below hb).t).mono ?_
  rintro e w' ⟨rfl, h1⟩
  exact ⟨rfl, hb.trans (h1.mono hb.size)⟩
theorem aV {w W : World} (h : Tb w) (hb : Below w.heap.size w W) (l : List UInt8) (hl : l.length ≤ 1000000000) {v : Bool} (hv : validS l = v) : Calls Tryd.prog 8 #[str l] W fun e w' => e = .returned (.bool v) ∧ Below w.heap.size w w' := by
  refine (valid_any l W hl (h.below hb).t).mono ?_
  rintro e w' ⟨rfl, h1⟩
  rw [hv]
  exact ⟨rfl, hb.trans (h1.mono hb.size)⟩

set_option maxRecDepth 100000 in
set_option maxHeartbeats 4000000 in
theorem awake_any (w : World) (h : Tb w) : Calls Tryd.prog 5 #[] w fun e w' => e = .returned (.bool true) ∧ Below w.heap.size w w' := by
  go_enter Tryd.func5, Tryd.ntmps5
  go_upto_region 3 with first
    | (go_at_call 9; refine (aU1 h (Below.refl _ _)).mono ?_; rintro e w1 ⟨rfl, hb1⟩)
    | (go_at_call 7; refine (aQ1 h hb1).mono ?_; rintro e w2 ⟨rfl, hb2⟩)
  go_upto_region 5 with first
    | (go_at_call 9; refine (aU2 h hb2).mono ?_; rintro e w3 ⟨rfl, hb3⟩)
    | (go_at_call 7; refine (aQ2 h hb3).mono ?_; rintro e w4 ⟨rfl, hb4⟩)
  go_wp2_with first
    | (go_at_call 8; refine (aV h hb5 [192, 128] (by decide) aw4).mono ?_; rintro e w6 ⟨rfl, hb6⟩)
    | (go_at_call 8; refine (aV h hb4 [195, 164] (by decide) aw3).mono ?_; rintro e w5 ⟨rfl, hb5⟩)
  go_ret
  exact ⟨rfl, hb6⟩
end Go.Proofs.YthlijkpeafgenaaDoor
