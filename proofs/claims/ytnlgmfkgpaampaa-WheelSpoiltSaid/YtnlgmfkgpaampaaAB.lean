/- lockagelaw04.few; told, under way. -/
import Derived.Test.YtnlgmfkgpaampaaL
import Derived.Test.YtnlgmfkgpaampaaN
import Derived.Test.YtnlgmfkgpaampaaU
import Derived.Test.YtnlgmfkgpaampaaAA
set_option linter.unusedVariables false
set_option linter.unusedSimpArgs false
namespace Go.Proofs.Ytnlgmfkgpaampaa
open Go.RowKit
open Go.Proofs.YtnlgmfkgpaampaaW.PrintWords

set_option maxHeartbeats 1000000 in
theorem few_any (w : World) (nw : Int) (A : Nat → Option Addr) (n c : Nat → Nat) (ht : tot n 8 ≤ 4611686018427387904) :
    Calls Try.prog 8 #[.agg #[.int .i64 nw, .slice (A 0) (n 0) (c 0), .slice (A 1) (n 1) (c 1), .slice (A 2) (n 2) (c 2), .slice (A 3) (n 3) (c 3), .slice (A 4) (n 4) (c 4), .slice (A 5) (n 5) (c 5), .slice (A 6) (n 6) (c 6), .slice (A 7) (n 7) (c 7)]] w fun e w' => e = .returned (.bool (decide (tot n 8 ≤ 100))) ∧ Below w.heap.size w w' := by
  have HB := Lib.hid (BoxW.alloc w nw (fun i => .slice (A i) (n i) (c i)))
  have HW := Lib.hid (show Below w.heap.size w (w.alloc (.cells #[.int .i64 nw, .slice (A 0) (n 0) (c 0), .slice (A 1) (n 1) (c 1), .slice (A 2) (n 2) (c 2), .slice (A 3) (n 3) (c 3), .slice (A 4) (n 4) (c 4), .slice (A 5) (n 5) (c 5), .slice (A 6) (n 6) (c 6), .slice (A 7) (n 7) (c 7)] 25)) from (Below.refl _ _).alloc (Nat.le_refl _) _)
  go_enter Try.func8, Try.ntmps8
  go_wp2_with fail
  generalize hV : w.alloc (.cells #[.int .i64 nw, .slice (A 0) (n 0) (c 0), .slice (A 1) (n 1) (c 1), .slice (A 2) (n 2) (c 2), .slice (A 3) (n 3) (c 3), .slice (A 4) (n 4) (c 4), .slice (A 5) (n 5) (c 5), .slice (A 6) (n 6) (c 6), .slice (A 7) (n 7) (c 7)] 25) = V at *
  clear hV
  go_loopg [3, 4] 8 (fun gg s3 s4 wr => ∃ kk : Nat, kk ≤ 8 ∧ 8 - kk ≤ gg ∧ s4 = .int .i64 kk ∧ s3 = .int .i64 (tot n kk : Nat) ∧ wr = V)
  case atStart => exact ⟨0, by omega, by omega, rfl, rfl, rfl⟩
  case round =>
    obtain ⟨kk, hkk, hg, rfl, rfl, hwr⟩ := hrel
    subst hwr
    by_cases hlt : kk < 8
    · have hlt1 : (kk : Int) < 8 := by omega
      have z := HB.out.slot hlt
      have hm : tot n kk + n kk ≤ tot n 8 := tot_mono n (show kk + 1 ≤ 8 by omega)
      have hw : IntKind.i64.wrap ((tot n kk : Nat) + (n kk : Nat) : Int) = (tot n (kk + 1) : Nat) := by
        show _ = ((tot n kk + n kk : Nat) : Int)
        rw [IntKind.wrap_i64]
        omega
      go_wp2_with fail
      go_roundg (8 - (kk + 1))
      case measure => omega
      case rel => exact ⟨kk + 1, by omega, by omega, by simp, rfl, rfl⟩
    · obtain rfl : kk = 8 := by omega
      by_cases h100 : tot n 8 ≤ 100
      · have h1 : ((tot n 8 : Nat) : Int) ≤ 100 := by omega
        have h2 := Lib.hid (show Value.bool true = .bool (decide (tot n 8 ≤ 100)) from by rw [decide_eq_true h100])
        clear h100
        go_wp2_with fail
        go_ret
        exact ⟨by rw [← h2.out]; simp, HW.out⟩
      · have h1 : ¬ ((tot n 8 : Nat) : Int) ≤ 100 := by omega
        have h2 := Lib.hid (show Value.bool false = .bool (decide (tot n 8 ≤ 100)) from by rw [decide_eq_false h100])
        clear h100
        go_wp2_with fail
        go_ret
        exact ⟨by rw [← h2.out]; simp, HW.out⟩

end Go.Proofs.Ytnlgmfkgpaampaa
