/- slices.Grow, slices.Concat at timers; wheel.all. -/
import Derived.Test.YtnlgmfkgpaampaaD
import Derived.Lib.AppendZeros
set_option linter.unusedVariables false
set_option linter.unusedSimpArgs false
namespace Go.Proofs.Ytnlgmfkgpaampaa
open Go.RowKit
open Go.Proofs.YtnlgmfkgpaampaaW.PrintWords

set_option maxHeartbeats 1000000 in
theorem grow_any (w : World) (m : Nat) (hm : m ≤ 9000) : Calls Try.prog 35 #[.slice none 0 0, .int .i64 m] w fun e w' => ∃ A c, e = .returned (.slice A 0 c) ∧ OwE tenc 2 34 w' w.heap.size (.slice A 0 c) [] ∧ Below w.heap.size w w' := by
  have h0 : ¬ (m : Int) < 0 := by omega
  by_cases hp : 0 < m
  · have hp1 : (0 : Int) < (m : Int) := by omega
    have hw0 : IntKind.i64.wrap (m : Int) = m := by rw [IntKind.wrap_i64]; omega
    have hi' := Try.info34
    obtain ⟨i0, hi⟩ : ∃ i, Try.prog.info? 34 = some i := by
      cases h : Try.prog.info? 34 with
      | none => rw [h] at hi'; simp at hi'
      | some i => exact ⟨i, rfl⟩
    rw [hi] at hi'
    simp only [Option.map_some, Option.some.injEq, Prod.mk.injEq] at hi'
    obtain ⟨hz, hsz, hby⟩ := hi'
    have HI := Lib.hid hi
    have HZ := Lib.hid hz
    have HS := Lib.hid hsz
    have HY := Lib.hid hby
    clear hi hz hsz hby
    go_enter Try.func35, Try.ntmps35
    go_wp2_with (at_builtin; refine Lib.wpList_append_run _ rfl _ _ 22 3 rfl (.slice none 0 0) (.int .i64 m) rfl rfl _ _ (Lib.run_append_nil_zeros _ 22 3 _ 34 i0 (.agg #[.int .i64 0, .int .i64 0]) .i64 .i64 Try.underlying22 Try.underlying3 HI.out HZ.out m hp (by rw [HS.out]; omega) (by omega) (by rw [HY.out]; omega)) ?_)
    go_ret
    have hgl := grownCap_le_maxLen w m 0 34 (by simp only [maxLen]; omega)
    have hgg := grownCap_ge w m 0 34
    refine ⟨some ⟨w.heap.size, 0, none⟩, grownCap w m 0 34, rfl, ⟨tencL, by simp, .inr ⟨w.heap.size, 0, grownCap w m 0 34, _, by simp, Nat.le_refl _, heap_alloc_new w _, Nat.zero_le _, by omega, ?_, by simp⟩⟩, below_drew ((Below.refl _ _).alloc (Nat.le_refl _) _)⟩
    simp only [Array.size_append, size_zeroCells, Nat.zero_add]
    show m * 2 + (grownCap w m 0 34 - m) * 2 = grownCap w m 0 34 * 2
    omega
  · obtain rfl : m = 0 := by omega
    go_enter Try.func35, Try.ntmps35
    go_wp2_with fail
    go_ret
    exact ⟨none, 0, rfl, OwE.nil tencL _ _ _, Below.refl _ _⟩

def allT (ts : Nat → List Tm) (k : Nat) : List Tm := (List.range k).flatMap ts
theorem allT_succ (ts : Nat → List Tm) (k : Nat) : allT ts (k + 1) = allT ts k ++ ts k := by simp [allT, List.range_succ]
theorem allT_len {ts : Nat → List Tm} {n : Nat → Nat} (h : ∀ i, i < 8 → (ts i).length = n i) : ∀ k, k ≤ 8 → (allT ts k).length = tot n k
  | 0, _ => rfl
  | k + 1, hk => by
    rw [allT_succ, List.length_append, allT_len h k (by omega), h k (by omega)]
    rfl
theorem WhR.len {w : World} {A : Nat → Option Addr} {n c : Nat → Nat} {ts : Nat → List Tm} (h : WhR w A n c ts) : ∀ i, i < 8 → (ts i).length = n i := fun i hi => (h i hi).len

set_option maxHeartbeats 4000000 in
theorem concat_any (w : World) (bx : Nat) (nw : Int) (A : Nat → Option Addr) (n c : Nat → Nat) (ts : Nat → List Tm) (hb : BoxW w bx nw (fun i => .slice (A i) (n i) (c i))) (hr : WhR w A n c ts) (ht : tot n 8 ≤ 9000) :
    Calls Try.prog 34 #[.slice (some ⟨bx, 1, none⟩) 8 8] w fun e w' => ∃ B d, e = .returned (.slice B (tot n 8) d) ∧ OwE tenc 2 34 w' w.heap.size (.slice B (tot n 8) d) (allT ts 8) ∧ Below w.heap.size w w' := by
  have hln := hr.len
  have HB := Lib.hid hb
  have HR := Lib.hid hr
  clear hb hr
  go_enter Try.func34, Try.ntmps34
  go_wp2_with fail
  go_loopg [3, 11] 8 (fun gg s3 s11 wr => ∃ kk : Nat, kk ≤ 8 ∧ 8 - kk ≤ gg ∧ s11 = .int .i64 kk ∧ s3 = .int .i64 (tot n kk : Nat) ∧ wr = w)
  case atStart => exact ⟨0, by omega, by omega, rfl, rfl, rfl⟩
  case round =>
    obtain ⟨kk, hkk, hg, rfl, rfl, hwr⟩ := hrel
    have hwr' := hwr.symm
    subst hwr'
    by_cases hlt : kk < 8
    · have hlt1 : (kk : Int) < 8 := by omega
      have z := HB.out.slot hlt
      have hm : tot n kk + n kk ≤ tot n 8 := tot_mono n (show kk + 1 ≤ 8 by omega)
      have hw : IntKind.i64.wrap ((tot n kk : Nat) + (n kk : Nat) : Int) = (tot n (kk + 1) : Nat) := by
        show _ = ((tot n kk + n kk : Nat) : Int)
        rw [IntKind.wrap_i64]
        omega
      have hneg : ¬ ((tot n (kk + 1) : Nat) : Int) < 0 := by omega
      go_wp2_with fail
      go_roundg (8 - (kk + 1))
      case measure => omega
      case rel => exact ⟨kk + 1, by omega, by omega, by simp, rfl, rfl⟩
    · obtain rfl : kk = 8 := by omega
      go_wp2_with (go_at_call 35; refine (grow_any w (tot n 8) ht).mono ?_; rintro e w2 ⟨G, g, rfl, hG, hb2⟩)
      go_loopg [6, 27] 8 (fun gg s6 s27 wx => ∃ kk : Nat, kk ≤ 8 ∧ 8 - kk ≤ gg ∧ s27 = .int .i64 kk ∧ Below w.heap.size w wx ∧ ∃ B m d, s6 = .slice B m d ∧ Aside (OwE tenc 2 34 wx w.heap.size (.slice B m d) (allT ts kk)))
      case atStart =>
        refine ⟨0, by omega, by omega, rfl, hb2, G, 0, g, rfl, ?_⟩
        exact hG
      case round =>
        clear hb2 hG
        obtain ⟨kk, hkk, hg2, rfl, hBx, B, m, d, rfl, HO⟩ := hrel
        have HO := Lib.hid HO.out
        by_cases hlt : kk < 8
        · have hlt1 : (kk : Int) < 8 := by omega
          have HBX := Lib.hid hBx
          have z := (HB.out.below hBx).slot hlt
          have HRK := Lib.hid ((HR.out kk hlt).below hBx)
          have hm : tot n kk + n kk ≤ tot n 8 := tot_mono n (show kk + 1 ≤ 8 by omega)
          have hl1 := allT_len hln kk (by omega)
          have hl2 := hln kk hlt
          clear hBx
          go_wp2_with (at_builtin; refine wp_appE w.heap.size rfl _ _ 22 34 (.agg #[.int .i64 0, .int .i64 0]) 16 rfl Try.underlying22 Try.info34 rfl (by omega) (by omega) (.slice B m d) (.slice (A kk) (n kk) (c kk)) (allT ts kk) (ts kk) rfl rfl ?c1 ?c2 tenc1 ?c3 ?c4 ?c5)
          case c1 => exact HO.out
          case c2 => exact HRK.out
          case c3 => omega
          case c4 => exact HBX.out.size
          case c5 =>
            intro v1 w4 hv1 hg1 hat1
            obtain ⟨B1, m1, d1, rfl⟩ := hv1.slice'
            have HB1 := Lib.hid (HBX.out.grown hg1 HBX.out.size (fun k hk => HO.out.lo k hk))
            have HV := Lib.hid hv1
            clear hv1 hg1 hat1 z
            go_wp2_with fail
            go_roundg (8 - (kk + 1))
            case measure => omega
            case rel =>
              refine ⟨kk + 1, by omega, by omega, by simp, HB1.out, B1, m1, d1, rfl, ?_⟩
              show Aside _
              rw [allT_succ]
              exact HV.out
        · obtain rfl : kk = 8 := by omega
          have hl1 := allT_len hln 8 (Nat.le_refl _)
          have hl2 := HO.out.rd.len
          obtain rfl : m = tot n 8 := by omega
          go_wp2_with fail
          go_ret
          exact ⟨B, d, rfl, HO.out, hBx⟩

set_option maxHeartbeats 1000000 in
theorem all_any (w : World) (nw : Int) (A : Nat → Option Addr) (n c : Nat → Nat) (ts : Nat → List Tm) (hr : WhR w A n c ts) (ht : tot n 8 ≤ 9000) :
    Calls Try.prog 27 #[.agg #[.int .i64 nw, .slice (A 0) (n 0) (c 0), .slice (A 1) (n 1) (c 1), .slice (A 2) (n 2) (c 2), .slice (A 3) (n 3) (c 3), .slice (A 4) (n 4) (c 4), .slice (A 5) (n 5) (c 5), .slice (A 6) (n 6) (c 6), .slice (A 7) (n 7) (c 7)]] w fun e w' => ∃ B d, e = .returned (.slice B (tot n 8) d) ∧ OwE tenc 2 34 w' w.heap.size (.slice B (tot n 8) d) (allT ts 8) ∧ Below w.heap.size w w' := by
  have HB := Lib.hid (BoxW.alloc w nw (fun i => .slice (A i) (n i) (c i)))
  have hal : Below w.heap.size w (w.alloc (.cells #[.int .i64 nw, .slice (A 0) (n 0) (c 0), .slice (A 1) (n 1) (c 1), .slice (A 2) (n 2) (c 2), .slice (A 3) (n 3) (c 3), .slice (A 4) (n 4) (c 4), .slice (A 5) (n 5) (c 5), .slice (A 6) (n 6) (c 6), .slice (A 7) (n 7) (c 7)] 25)) := (Below.refl _ _).alloc (Nat.le_refl _) _
  have HW := Lib.hid hal
  have HR := Lib.hid (hr.below hal)
  clear hr hal
  go_enter Try.func27, Try.ntmps27
  go_wp2_with (go_at_call 34; refine (concat_any _ w.heap.size nw A n c ts HB.out HR.out ht).mono ?_; rintro e w2 ⟨B, d, rfl, hO, hb⟩)
  go_ret
  exact ⟨B, d, rfl, hO.lower HW.out.size, HW.out.trans (hb.mono HW.out.size)⟩
end Go.Proofs.Ytnlgmfkgpaampaa
