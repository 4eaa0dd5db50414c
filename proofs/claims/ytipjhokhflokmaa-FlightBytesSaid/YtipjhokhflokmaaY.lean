/- slices.Delete at waiters and flights: one element. -/
import Derived.Test.YtipjhokhflokmaaX
import Derived.Test.YtipjhokhflokmaaCL
import Derived.StillTailTactics
import Derived.Lib.BufferOwn
set_option linter.unusedVariables false
set_option linter.unusedSimpArgs false
namespace Go.Proofs.Ytipjhokhflokmaa
open Go.RowKit
open Go.Proofs.YtipjhokhflokmaaW.PrintWords

theorem zero47 (w : World) : (zeroValue 47).run Try.prog w = .ok (.agg #[.int .i64 0, .int .i64 0]) w := by kernel_rfl

set_option maxHeartbeats 4000000 in
theorem deleteW_any (w : World) (base b off n c : Nat) (xs : List Tm) (k : Nat) (hown : OwE tenc 2 47 w base (.slice (some ⟨b, off, none⟩) n c) xs) (hk : k < n) (hn : n ≤ 1000) :
    Calls Try.prog 43 #[.slice (some ⟨b, off, none⟩) n c, .int .i64 k, .int .i64 ((k : Int) + 1)] w fun e w' => e = .returned (.slice (some ⟨b, off, none⟩) (n - 1) c) ∧ OwE tenc 2 47 w' base (.slice (some ⟨b, off, none⟩) (n - 1) c) (xs.take k ++ xs.drop (k + 1)) ∧ w.grownBy w' (some b) := by
  have hl := hown.rd.len
  obtain ⟨_, _, hA, _, _, hnc, _, _⟩ := hown.form (by omega)
  clear hA
  have k1 : (k : Int) + 1 ≤ (n : Int) := by omega
  have k2 : (n : Int) ≤ (c : Int) := by omega
  have k3 : ¬ (k : Int) = (k : Int) + 1 := by omega
  have k4 : (k : Int) ≤ (k : Int) + 1 := by omega
  have k5 : (k : Int) ≤ (c : Int) := by omega
  have k6 : ((k : Int) == (k : Int) + 1) = false := by rw [beq_eq_false_iff_ne]; omega
  have HO := Lib.hid hown
  clear hown
  go_enter Try.func43, Try.ntmps43
  go_upto_region 5 with fail
  have hi' := Try.info47
  obtain ⟨i0, hi⟩ : ∃ i, Try.prog.info? 47 = some i := by
    cases h : Try.prog.info? 47 with
    | none => rw [h] at hi'; simp at hi'
    | some i => exact ⟨i, rfl⟩
  rw [hi] at hi'
  simp only [Option.map_some, Option.some.injEq, Prod.mk.injEq] at hi'
  obtain ⟨_, hsz, _⟩ := hi'
  have hsl := cut_from (P := Try.prog) 43 47 .i64 Try.underlying43 hi 2 hsz (some ⟨b, off, none⟩) n c ((k : Int) + 1) (by omega) (by omega)
  rw [show ((k : Int) + 1).toNat = k + 1 by omega] at hsl
  have htk := HO.out.take k (by omega)
  have hdr := (HO.out.drop (k + 1) (by omega)).rd
  generalize (if c = k + 1 then (some (⟨b, off, none⟩ : Addr)) else (some (⟨b, off, none⟩ : Addr)).map (fun x => x.add ((k + 1) * 2))) = A6 at hsl hdr
  have HTK := Lib.hid htk
  have HDR := Lib.hid hdr
  have hdl := hdr.len
  clear hi hsz htk hdr
  go_still_tail 6, (by kernel_rfl)
  have hd : Below w.heap.size w w.drew := below_drew (Below.refl _ _)
  change wpList _ _ _ _ _ w.drew
  go_wp2_with (at_builtin; refine wp_appE_room base rfl _ _ 43 47 (.agg #[.int .i64 0, .int .i64 0]) 16 rfl Try.underlying43 Try.info47 (by omega) (.slice A6 (n - (k + 1)) (c - (k + 1))) (xs.take k) (xs.drop (k + 1)) rfl rfl (HTK.out.below hd) (HDR.out.below hd) tenc1 ?c1 ?c3)
  case c1 => omega
  case c3 =>
    intro w2 hO2 hg2
    rw [show k + (n - (k + 1)) = n - 1 by omega] at hO2 ⊢
    have q1 : ((n - 1 : Nat) : Int) ≤ (n : Int) := by omega
    have q2 : ¬ c = n - 1 := by omega
    have q3 : n - (n - 1) = 1 := by omega
    have q4 : ((n - 1 : Nat) : Int) ≤ (c : Int) := by omega
    have HO2 := Lib.hid hO2
    have HG2 := Lib.hid hg2
    clear hO2 hg2 hsl
    go_wp2_with (refine wp_clearE (n := n - 1) (q := 1) (d := c - (n - 1)) base rfl _ 43 47 (.agg #[.int .i64 0, .int .i64 0]) rfl Try.underlying43 zero47 rfl (by intro u hu; simp [Value.cells] at hu; rw [hu]; rfl) HO2.out (by omega) rfl ?c4)
    case c4 =>
      intro w3 hO3 hg3
      have HO3 := Lib.hid hO3
      have HG3 := Lib.hid hg3
      clear hO3 hg3
      go_wp2_with fail
      go_ret
      refine ⟨rfl, HO3.out, ?_⟩
      have g1 : w.grownBy w2 (some b) := ⟨HG2.out.os, HG2.out.tape, HG2.out.output, HG2.out.size, HG2.out.block⟩
      exact Lib.grownBy_trans g1 HG3.out
theorem z45_cells : ∀ u ∈ (Value.agg #[.string ⟨#[]⟩, .bool false, .int .i64 0, .int .i64 0, .string ⟨#[]⟩, .int .i64 0, .bool false, .slice none 0 0]).cells.toList, u.oneCell' = true := by
  intro u hu
  simp [Value.cells] at hu
  rcases hu with rfl | rfl | rfl | rfl | rfl | rfl | rfl | rfl <;> rfl
theorem zero45 (w : World) : (zeroValue 45).run Try.prog w = .ok (.agg #[.string ⟨#[]⟩, .bool false, .int .i64 0, .int .i64 0, .string ⟨#[]⟩, .int .i64 0, .bool false, .slice none 0 0]) w := by kernel_rfl

set_option maxHeartbeats 4000000 in
theorem deleteF_any (w : World) (base b off n c : Nat) (xs : List FV) (k : Nat) (hown : OwE fenc 8 45 w base (.slice (some ⟨b, off, none⟩) n c) xs) (hk : k < n) (hn : n ≤ 1000) :
    Calls Try.prog 42 #[.slice (some ⟨b, off, none⟩) n c, .int .i64 k, .int .i64 ((k : Int) + 1)] w fun e w' => e = .returned (.slice (some ⟨b, off, none⟩) (n - 1) c) ∧ OwE fenc 8 45 w' base (.slice (some ⟨b, off, none⟩) (n - 1) c) (xs.take k ++ xs.drop (k + 1)) ∧ w.grownBy w' (some b) := by
  have hl := hown.rd.len
  obtain ⟨_, _, hA, _, _, hnc, _, _⟩ := hown.form (by omega)
  clear hA
  have k1 : (k : Int) + 1 ≤ (n : Int) := by omega
  have k2 : (n : Int) ≤ (c : Int) := by omega
  have k3 : ¬ (k : Int) = (k : Int) + 1 := by omega
  have k4 : (k : Int) ≤ (k : Int) + 1 := by omega
  have k5 : (k : Int) ≤ (c : Int) := by omega
  have k6 : ((k : Int) == (k : Int) + 1) = false := by rw [beq_eq_false_iff_ne]; omega
  have HO := Lib.hid hown
  clear hown
  go_enter Try.func42, Try.ntmps42
  go_upto_region 5 with fail
  have hi' := Try.info45
  obtain ⟨i0, hi⟩ : ∃ i, Try.prog.info? 45 = some i := by
    cases h : Try.prog.info? 45 with
    | none => rw [h] at hi'; simp at hi'
    | some i => exact ⟨i, rfl⟩
  rw [hi] at hi'
  simp only [Option.map_some, Option.some.injEq, Prod.mk.injEq] at hi'
  obtain ⟨_, hsz, _⟩ := hi'
  have hsl := cut_from (P := Try.prog) 24 45 .i64 Try.underlying24 hi 8 hsz (some ⟨b, off, none⟩) n c ((k : Int) + 1) (by omega) (by omega)
  rw [show ((k : Int) + 1).toNat = k + 1 by omega] at hsl
  have htk := HO.out.take k (by omega)
  have hdr := (HO.out.drop (k + 1) (by omega)).rd
  generalize (if c = k + 1 then (some (⟨b, off, none⟩ : Addr)) else (some (⟨b, off, none⟩ : Addr)).map (fun x => x.add ((k + 1) * 8))) = A6 at hsl hdr
  have HTK := Lib.hid htk
  have HDR := Lib.hid hdr
  have hdl := hdr.len
  clear hi hsz htk hdr
  go_still_tail 6, (by kernel_rfl)
  have hd : Below w.heap.size w w.drew := below_drew (Below.refl _ _)
  change wpList _ _ _ _ _ w.drew
  go_wp2_with (at_builtin; refine wp_appE_room base rfl _ _ 24 45 (.agg #[.string ⟨#[]⟩, .bool false, .int .i64 0, .int .i64 0, .string ⟨#[]⟩, .int .i64 0, .bool false, .slice none 0 0]) 96 rfl Try.underlying24 Try.info45 (by omega) (.slice A6 (n - (k + 1)) (c - (k + 1))) (xs.take k) (xs.drop (k + 1)) rfl rfl (HTK.out.below hd) (HDR.out.below hd) fenc1 ?c1 ?c3)
  case c1 => omega
  case c3 =>
    intro w2 hO2 hg2
    rw [show k + (n - (k + 1)) = n - 1 by omega] at hO2 ⊢
    have q1 : ((n - 1 : Nat) : Int) ≤ (n : Int) := by omega
    have q2 : ¬ c = n - 1 := by omega
    have q3 : n - (n - 1) = 1 := by omega
    have q4 : ((n - 1 : Nat) : Int) ≤ (c : Int) := by omega
    have HO2 := Lib.hid hO2
    have HG2 := Lib.hid hg2
    clear hO2 hg2 hsl
    go_wp2_with (refine wp_clearE (n := n - 1) (q := 1) (d := c - (n - 1)) base rfl _ 24 45 (.agg #[.string ⟨#[]⟩, .bool false, .int .i64 0, .int .i64 0, .string ⟨#[]⟩, .int .i64 0, .bool false, .slice none 0 0]) rfl Try.underlying24 zero45 rfl z45_cells HO2.out (by omega) rfl ?c4)
    case c4 =>
      intro w3 hO3 hg3
      have HO3 := Lib.hid hO3
      have HG3 := Lib.hid hg3
      clear hO3 hg3
      go_wp2_with fail
      go_ret
      refine ⟨rfl, HO3.out, ?_⟩
      have g1 : w.grownBy w2 (some b) := ⟨HG2.out.os, HG2.out.tape, HG2.out.output, HG2.out.size, HG2.out.block⟩
      exact Lib.grownBy_trans g1 HG3.out
end Go.Proofs.Ytipjhokhflokmaa
