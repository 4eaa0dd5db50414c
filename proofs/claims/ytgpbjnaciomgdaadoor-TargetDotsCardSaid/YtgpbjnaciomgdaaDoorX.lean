/- lockagelaw13.TargetText. -/
import Derived.Test.YtgpbjnaciomgdaaDoorV
set_option linter.unusedVariables false
set_option linter.unusedSimpArgs false
namespace Go.Proofs.YtgpbjnaciomgdaaDoor
open Go.RowKit Go.Lib
open Go.Proofs.YtgpbjnaciomgdaaDoorW.PrintWords

set_option maxRecDepth 100000 in
set_option maxHeartbeats 2000000 in
theorem text_any (S : ByteArray) (w : World) (m : Int) (hm : w.cell? ⟨0, 0, none⟩ = some (.int .i64 m)) : Calls Tryd.prog 3 #[.string S] w fun e w' => e = .returned (.bool true) ∧ Below w.heap.size w w' := by
  obtain ⟨l, rfl⟩ : ∃ l : List UInt8, S = ⟨l.toArray⟩ := ⟨lst S, by apply ByteArray.ext; apply Array.ext'; rfl⟩
  have HM := Lib.hid hm
  clear hm
  by_cases h4 : 400 < l.length
  · have h4' : (400 : Int) < (l.length : Int) := by omega
    go_enter Tryd.func3, Tryd.ntmps3
    go_wp2_with (go_at_call 8; refine (awake_any _ m HM.out).mono ?_; rintro e w1 ⟨rfl, hb1⟩)
    go_ret
    exact ⟨rfl, hb1⟩
  · have h4' : ¬ (400 : Int) < (l.length : Int) := by omega
    have hcat : (⟨#[47]⟩ : ByteArray) ++ ⟨l.toArray⟩ = ⟨(47 :: l).toArray⟩ := bytes_app [47] l
    go_enter Tryd.func3, Tryd.ntmps3
    go_wp2_with first
      | (go_at_call 9; refine (same_any (47 :: l) _ m (pw_cell_below hb12 HM.out) (by simp; omega)).mono ?_; rintro e w3 ⟨rfl, hb3⟩)
      | (go_at_call 9; refine (same_any l _ m (pw_cell_below hb1 HM.out) (by omega)).mono ?_; rintro e w2 ⟨rfl, hb2⟩; have hb12 := hb1.trans (hb2.mono hb1.size))
      | (go_at_call 8; refine (awake_any _ m HM.out).mono ?_; rintro e w1 ⟨rfl, hb1⟩)
    go_ret
    exact ⟨rfl, hb12.trans (hb3.mono hb12.size)⟩
end Go.Proofs.YtgpbjnaciomgdaaDoor
