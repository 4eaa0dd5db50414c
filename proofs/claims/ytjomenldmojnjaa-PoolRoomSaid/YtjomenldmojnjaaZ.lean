/- Contract of lockagelaw17.PoolAny. -/
import Derived.Test.YtjomenldmojnjaaY
set_option linter.unusedVariables false
set_option linter.unusedSimpArgs false
namespace Go.Proofs.Ytjomenldmojnjaa
open Go.RowKit
open Go.Proofs.YtjomenldmojnjaaW.PrintWords

set_option maxHeartbeats 1000000 in
theorem poolAny_any (w : World) (A : Option Addr) (n c : Nat) (nx : Int) (bs : List Bk) (i0 : Int) (stays failed : Bool) (hr : RdE enc 4 w (.slice A n c) bs) :
    Calls Try.prog 3 #[.agg #[.slice A n c, .int .i64 nx], .int .i64 i0, .bool stays, .bool failed] w fun e w' => e = .returned (.bool true) ∧ Below w.heap.size w w' := by
  have hln := hr.len
  have hB0 : Below w.heap.size w (w.alloc (.cells #[.slice A n c, .int .i64 nx] 24)) := (Below.refl _ _).alloc (Nat.le_refl _) _
  have HR := Lib.hid hr
  have HB0 := Lib.hid hB0
  have HX := Lib.hid (heap_alloc_new w (.cells #[.slice A n c, .int .i64 nx] 24))
  have HLN := Lib.hid hln
  clear hr hB0 hln
  by_cases h20 : 20 < n
  · have h1 : (20 : Int) < (n : Int) := by omega
    go_enter Try.func3, Try.ntmps3
    go_wp2_with (go_at_call 8; refine (awake_any _).mono ?_; rintro e w1 ⟨rfl, hb⟩; have X1 := keep hb HX.out; have z0 := box_at X1 0 _ rfl; have z1 := box_at X1 1 _ rfl; have HB1 := Lib.hid (HB0.out.trans (hb.mono (by simp))); clear hb X1)
    go_ret
    exact ⟨by simp, HB1.out⟩
  · have h1 : ¬ (20 : Int) < (n : Int) := by omega
    go_enter Try.func3, Try.ntmps3
    go_wp2_with (first | (go_at_call 8; refine (awake_any _).mono ?_; rintro e w1 ⟨rfl, hb⟩; have X1 := keep hb HX.out; have z0 := box_at X1 0 _ rfl; have z1 := box_at X1 1 _ rfl; have HB1 := Lib.hid (HB0.out.trans (hb.mono (by simp))); clear hb X1) | (go_at_call 9; refine (told_any _ _ _ _ nx bs i0 stays failed (HR.out.below HB1.out) (by have := HLN.out; omega)).mono ?_; rintro e w2 ⟨rfl, hb2⟩))
    go_ret
    exact ⟨by simp, HB1.out.trans (hb2.mono HB1.out.size)⟩
end Go.Proofs.Ytjomenldmojnjaa
