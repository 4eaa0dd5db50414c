/- lockagelaw18.FlightAny. -/
import Derived.Test.YtipjhokhflokmaaAS
set_option linter.unusedVariables false
set_option linter.unusedSimpArgs false
namespace Go.Proofs.Ytipjhokhflokmaa
open Go.RowKit Go.Maps
open Go.Proofs.YtipjhokhflokmaaW.PrintWords

theorem few_sm {fs : List Fl} (h : totF fs ≤ 600) (hok : ∀ x ∈ fs, ∀ t ∈ x.ws, okI t.id) : SmK 900 fs := by
  unfold totF at h
  refine ⟨by omega, fun x hx => ⟨?_, hok x hx⟩⟩
  have h1 := szF_le hx
  have h2 : x.ws.length ≤ szF x := by unfold szF; omega
  omega
set_option maxRecDepth 100000 in
set_option maxHeartbeats 8000000 in
theorem flightAny_any (w : World) (room next : Int) (A : Option Addr) (n c : Nat) (ys : List FV) (key : List UInt8) (id wt cnt : Int) (s : List UInt8) (hr : RdF w (.slice A n c) ys) (hb1 : n ≤ 1000000000000000) (hb2 : ∀ x ∈ fls ys, szF x ≤ 4611686018427387904) (hok : ∀ x ∈ fls ys, ∀ t ∈ x.ws, okI t.id) (hwt : okI wt) :
    Calls Try.prog 4 #[fv room next (.slice A n c), str key, .int .i64 id, .int .i64 wt, .int .i64 cnt, str s] w fun e w' => e = .returned (.bool true) ∧ Below w.heap.size w w' := by
  have hal : Below w.heap.size w (w.alloc (.cells #[.int .i64 room, .int .i64 next, .slice A n c] 26)) := (Below.refl _ _).alloc (Nat.le_refl _) _
  have hx := heap_alloc_new w (.cells #[.int .i64 room, .int .i64 next, .slice A n c] 26)
  have HW := Lib.hid hal
  have HX := Lib.hid hx
  have HR := Lib.hid hr
  have HB2 := Lib.hid hb2
  have HOK := Lib.hid hok
  have HWT := Lib.hid hwt
  obtain ⟨bf, hbf⟩ : ∃ b, decide (totF (fls ys) ≤ 600) = b := ⟨_, rfl⟩
  have HF := Lib.hid hbf
  clear hal hx hr hb2 hok hwt hbf
  go_enter Try.func4, Try.ntmps4
  go_upto_region 1 with fail
  generalize w.alloc (.cells #[.int .i64 room, .int .i64 next, .slice A n c] 26) = W0 at *
  have C9 := Lib.hid (awake_any W0)
  have C14 := Lib.hid (fun (W : World) (hb : Below w.heap.size w W) => few_any W room next A n c ys (HR.out.below hb) hb1 HB2.out)
  rw [HF.out] at C14
  clear HB2 hb1
  cases bf with
  | false =>
    go_wp2_with (first
      | (go_at_call 9; refine C9.out.mono ?_; rintro e w1 ⟨rfl, hb⟩; have HW1 := Lib.hid (HW.out.trans (hb.mono HW.out.size)); have HX1 := Lib.hid (keep hb HX.out); clear hb; have y0 : w1.cell? ⟨w.heap.size, 0, none⟩ = some (.int .i64 room) := box_at HX1.out 0 _ rfl; have y1 : w1.cell? ⟨w.heap.size, 1, none⟩ = some (.int .i64 next) := box_at HX1.out 1 _ rfl; have y2 : w1.cell? ⟨w.heap.size, 2, none⟩ = some (.slice A n c) := box_at HX1.out 2 _ rfl)
      | (go_at_call 14; refine (C14.out w1 HW1.out).mono ?_; rintro e w2 ⟨rfl, hb⟩; have HW2 := Lib.hid (HW1.out.trans (hb.mono HW1.out.size)); clear hb))
    all_goals go_ret
    all_goals exact ⟨by simp, HW2.out⟩
  | true =>
    have hk := few_sm (of_decide_eq_true HF.out) HOK.out
    have hks : key.length ≤ 600 ∨ True := .inr trivial
    have HK := Lib.hid hk
    clear hk hks
    by_cases h1 : 200 < (key.length : Int)
    · go_wp2_with (first
        | (go_at_call 9; refine C9.out.mono ?_; rintro e w1 ⟨rfl, hb⟩; have HW1 := Lib.hid (HW.out.trans (hb.mono HW.out.size)); have HX1 := Lib.hid (keep hb HX.out); clear hb; have y0 : w1.cell? ⟨w.heap.size, 0, none⟩ = some (.int .i64 room) := box_at HX1.out 0 _ rfl; have y1 : w1.cell? ⟨w.heap.size, 1, none⟩ = some (.int .i64 next) := box_at HX1.out 1 _ rfl; have y2 : w1.cell? ⟨w.heap.size, 2, none⟩ = some (.slice A n c) := box_at HX1.out 2 _ rfl)
        | (go_at_call 14; refine (C14.out w1 HW1.out).mono ?_; rintro e w2 ⟨rfl, hb⟩; have HW2 := Lib.hid (HW1.out.trans (hb.mono HW1.out.size)); clear hb))
      all_goals go_ret
      all_goals exact ⟨by simp, HW2.out⟩
    · by_cases h2 : 200 < (s.length : Int)
      · go_wp2_with (first
          | (go_at_call 9; refine C9.out.mono ?_; rintro e w1 ⟨rfl, hb⟩; have HW1 := Lib.hid (HW.out.trans (hb.mono HW.out.size)); have HX1 := Lib.hid (keep hb HX.out); clear hb; have y0 : w1.cell? ⟨w.heap.size, 0, none⟩ = some (.int .i64 room) := box_at HX1.out 0 _ rfl; have y1 : w1.cell? ⟨w.heap.size, 1, none⟩ = some (.int .i64 next) := box_at HX1.out 1 _ rfl; have y2 : w1.cell? ⟨w.heap.size, 2, none⟩ = some (.slice A n c) := box_at HX1.out 2 _ rfl)
          | (go_at_call 14; refine (C14.out w1 HW1.out).mono ?_; rintro e w2 ⟨rfl, hb⟩; have HW2 := Lib.hid (HW1.out.trans (hb.mono HW1.out.size)); clear hb))
        all_goals go_ret
        all_goals exact ⟨by simp, HW2.out⟩
      · have C15 := Lib.hid (fun (W : World) (hb : Below w.heap.size w W) => told_any W room next A n c ys key id wt cnt s (HR.out.below hb) HK.out (by omega) (by omega) HWT.out)
        go_wp2_with (first
          | (go_at_call 9; refine C9.out.mono ?_; rintro e w1 ⟨rfl, hb⟩; have HW1 := Lib.hid (HW.out.trans (hb.mono HW.out.size)); have HX1 := Lib.hid (keep hb HX.out); clear hb; have y0 : w1.cell? ⟨w.heap.size, 0, none⟩ = some (.int .i64 room) := box_at HX1.out 0 _ rfl; have y1 : w1.cell? ⟨w.heap.size, 1, none⟩ = some (.int .i64 next) := box_at HX1.out 1 _ rfl; have y2 : w1.cell? ⟨w.heap.size, 2, none⟩ = some (.slice A n c) := box_at HX1.out 2 _ rfl)
          | (go_at_call 14; refine (C14.out w1 HW1.out).mono ?_; rintro e w2 ⟨rfl, hb⟩; have HW2 := Lib.hid (HW1.out.trans (hb.mono HW1.out.size)); have HX2 := Lib.hid (keep hb HX1.out); clear hb y0 y1 y2; have y0 : w2.cell? ⟨w.heap.size, 0, none⟩ = some (.int .i64 room) := box_at HX2.out 0 _ rfl; have y1 : w2.cell? ⟨w.heap.size, 1, none⟩ = some (.int .i64 next) := box_at HX2.out 1 _ rfl; have y2 : w2.cell? ⟨w.heap.size, 2, none⟩ = some (.slice A n c) := box_at HX2.out 2 _ rfl)
          | (go_at_call 15; refine (C15.out w2 HW2.out).mono ?_; rintro e w3 ⟨rfl, hb⟩; have HW3 := Lib.hid (HW2.out.trans (hb.mono HW2.out.size)); clear hb))
        all_goals go_ret
        all_goals exact ⟨by simp, HW3.out⟩
end Go.Proofs.Ytipjhokhflokmaa
