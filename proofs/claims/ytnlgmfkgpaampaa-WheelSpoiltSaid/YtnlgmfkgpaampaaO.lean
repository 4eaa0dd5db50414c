/- slices.Delete at timers: one element. -/
import Derived.Test.YtnlgmfkgpaampaaJ
import Derived.Test.YtnlgmfkgpaampaaCL
import Derived.StillTailTactics
import Derived.Lib.BufferOwn
set_option linter.unusedVariables false
set_option linter.unusedSimpArgs false
namespace Go.Proofs.Ytnlgmfkgpaampaa
open Go.RowKit
open Go.Proofs.YtnlgmfkgpaampaaW.PrintWords

theorem zero34 (w : World) : (zeroValue 34).run Try.prog w = .ok (.agg #[.int .i64 0, .int .i64 0]) w := by kernel_rfl

set_option maxHeartbeats 4000000 in
theorem delete_any (w : World) (base b off n c : Nat) (xs : List Tm) (k : Nat) (hown : OwE tenc 2 34 w base (.slice (some ⟨b, off, none⟩) n c) xs) (hk : k < n) (hn : n ≤ 1000) :
    Calls Try.prog 26 #[.slice (some ⟨b, off, none⟩) n c, .int .i64 k, .int .i64 ((k : Int) + 1)] w fun e w' => e = .returned (.slice (some ⟨b, off, none⟩) (n - 1) c) ∧ OwE tenc 2 34 w' base (.slice (some ⟨b, off, none⟩) (n - 1) c) (xs.take k ++ xs.drop (k + 1)) ∧ w.grownBy w' (some b) := by
  have hl := hown.rd.len
  obtain ⟨_, _, hA, _, _, hnc, _, _⟩ := hown.form (by omega)
  clear hA
  have k1 : (k : Int) + 1 ≤ (n : Int) := by omega
  have k2 : (n : Int) ≤ (c : Int) := by omega
  have k3 : ¬ (k : Int) = (k : Int) + 1 := by omega
  have k4 : (k : Int) ≤ (k : Int) + 1 := by omega
  have k5 : (k : Int) ≤ (c : Int) := by omega
  have k6 : ((k : Int) == (k : Int) + 1) = false := by rw [beq_eq_false_iff_ne]; omega
  have HO := Lib.hid hown
  clear hown
  go_enter Try.func26, Try.ntmps26
  go_upto_region 5 with fail
  have hi' := Try.info34
  obtain ⟨i0, hi⟩ : ∃ i, Try.prog.info? 34 = some i := by
    cases h : Try.prog.info? 34 with
    | none => rw [h] at hi'; simp at hi'
    | some i => exact ⟨i, rfl⟩
  rw [hi] at hi'
  simp only [Option.map_some, Option.some.injEq, Prod.mk.injEq] at hi'
  obtain ⟨_, hsz, _⟩ := hi'
  have hsl := cut_from (P := Try.prog) 22 34 .i64 Try.underlying22 hi 2 hsz (some ⟨b, off, none⟩) n c ((k : Int) + 1) (by omega) (by omega)
  rw [show ((k : Int) + 1).toNat = k + 1 by omega] at hsl
  have htk := HO.out.take k (by omega)
  have hdr := (HO.out.drop (k + 1) (by omega)).rd
  generalize (if c = k + 1 then (some (⟨b, off, none⟩ : Addr)) else (some (⟨b, off, none⟩ : Addr)).map (fun x => x.add ((k + 1) * 2))) = A6 at hsl hdr
  have HTK := Lib.hid htk
  have HDR := Lib.hid hdr
  have hdl := hdr.len
  clear hi hsz htk hdr
  go_still_tail 6, (by kernel_rfl)
  have hd : Below w.heap.size w w.drew := below_drew (Below.refl _ _)
  change wpList _ _ _ _ _ w.drew
  go_wp2_with (at_builtin; refine wp_appE_room base rfl _ _ 22 34 (.agg #[.int .i64 0, .int .i64 0]) 16 rfl Try.underlying22 Try.info34 (by omega) (.slice A6 (n - (k + 1)) (c - (k + 1))) (xs.take k) (xs.drop (k + 1)) rfl rfl (HTK.out.below hd) (HDR.out.below hd) tenc1 ?c1 ?c3)
  case c1 => omega
  case c3 =>
    intro w2 hO2 hg2
    rw [show k + (n - (k + 1)) = n - 1 by omega] at hO2 ⊢
    have q1 : ((n - 1 : Nat) : Int) ≤ (n : Int) := by omega
    have q2 : ¬ c = n - 1 := by omega
    have q3 : n - (n - 1) = 1 := by omega
    have q4 : ((n - 1 : Nat) : Int) ≤ (c : Int) := by omega
    have HO2 := Lib.hid hO2
    have HG2 := Lib.hid hg2
    clear hO2 hg2 hsl
    go_wp2_with (refine wp_clearE (n := n - 1) (q := 1) (d := c - (n - 1)) base rfl _ 22 34 (.agg #[.int .i64 0, .int .i64 0]) rfl Try.underlying22 zero34 rfl (by intro u hu; simp [Value.cells] at hu; rw [hu]; rfl) HO2.out (by omega) rfl ?c4)
    case c4 =>
      intro w3 hO3 hg3
      have HO3 := Lib.hid hO3
      have HG3 := Lib.hid hg3
      clear hO3 hg3
      go_wp2_with fail
      go_ret
      refine ⟨rfl, HO3.out, ?_⟩
      have g1 : w.grownBy w2 (some b) := ⟨HG2.out.os, HG2.out.tape, HG2.out.output, HG2.out.size, HG2.out.block⟩
      exact Lib.grownBy_trans g1 HG3.out
end Go.Proofs.Ytnlgmfkgpaampaa
