/- One flight: end, least, right, joins (printed by mkJ.py). -/
import Derived.Test.YtipjhokhflokmaaI
set_option linter.unusedVariables false
set_option linter.unusedSimpArgs false
namespace Go.Proofs.Ytipjhokhflokmaa
open Go.RowKit
open Go.Proofs.YtipjhokhflokmaaW.PrintWords

abbrev ptr (b o : Nat) : Value := .agg #[.pointer (some ⟨b, o, none⟩)]
/-- how many bytes came -/
def endS (x : Fl) : Int := x.base + x.data.length
/-- a flight whose numbers are small -/
def okN (x : Fl) : Prop := 0 ≤ x.base ∧ x.base ≤ 9007199254740992 ∧ x.data.length ≤ 1000000
set_option maxHeartbeats 800000 in
theorem end_any (w : World) (b o : Nat) (y : FV) (h : FlAt w b o y) (hk : okN y.1) :
    Calls Try.prog 25 #[ptr b o] w fun e w' => e = .returned (.int .i64 (endS y.1)) ∧ Below w.heap.size w w' := by
  obtain ⟨⟨fk, fs, fi, fb, fd, ft, fo, ws⟩, ⟨A, n, c⟩⟩ := y
  obtain ⟨h0, h1, h2⟩ := hk
  simp only at h0 h1 h2
  have hal : Below w.heap.size w (w.alloc (.cells #[.pointer (some ⟨b, o, none⟩)] 61)) := (Below.refl _ _).alloc (Nat.le_refl _) _
  have x0 := box_at (heap_alloc_new w (.cells #[.pointer (some ⟨b, o, none⟩)] 61)) 0 _ rfl
  have hF := h.below hal
  have c3 : (w.alloc (.cells #[.pointer (some ⟨b, o, none⟩)] 61)).cell? ⟨b, o + 3, none⟩ = some (.int .i64 fb) := hF.c3
  have c4 : (w.alloc (.cells #[.pointer (some ⟨b, o, none⟩)] 61)).cell? ⟨b, o + 4, none⟩ = some (str fd) := hF.c4
  have hw : wrap64 (fb + (fd.length : Int)) = fb + (fd.length : Int) := w64 (by omega) (by omega)
  have he : endS ⟨fk, fs, fi, fb, fd, ft, fo, ws⟩ = fb + fd.length := rfl
  rw [he]
  have HAL := Lib.hid hal
  clear hF h hal he
  go_enter Try.func25, Try.ntmps25
  go_upto_region 1 with fail
  generalize w.alloc (.cells #[.pointer (some ⟨b, o, none⟩)] 61) = U at *
  go_quiet (fail)
  go_wp2_with fail
  go_ret
  exact ⟨rfl, pw_below_drewN HAL.out _⟩

def leastF (n : Int) (ws : List Tm) : Int := ws.foldl (fun n t => min n t.at') n
theorem leastF_snoc (n : Int) (ws : List Tm) (t : Tm) : leastF n (ws ++ [t]) = min (leastF n ws) t.at' := by simp [leastF]
theorem leastF_le (n : Int) (ws : List Tm) : leastF n ws ≤ n := by
  induction ws generalizing n with
  | nil => exact Int.le_refl _
  | cons t r ih =>
    have := ih (min n t.at')
    show leastF (min n t.at') r ≤ n
    omega
/-- the least that one has had -/
def leastS (x : Fl) : Int := leastF (endS x) x.ws
set_option maxHeartbeats 1600000 in
theorem least_any (w : World) (b o : Nat) (y : FV) (h : FlAt w b o y) (hk : okN y.1) (hl : y.1.ws.length ≤ 1000) :
    Calls Try.prog 48 #[ptr b o] w fun e w' => e = .returned (.int .i64 (leastS y.1)) ∧ Below w.heap.size w w' := by
  have hE := Lib.hid (fun W (hb : Below w.heap.size w W) => end_any W b o y (h.below hb) hk)
  obtain ⟨⟨fk, fs, fi, fb, fd, ft, fo, ws⟩, ⟨A, n, c⟩⟩ := y
  obtain ⟨E, hEE⟩ : ∃ E, endS ⟨fk, fs, fi, fb, fd, ft, fo, ws⟩ = E := ⟨_, rfl⟩
  have hls : leastS ⟨fk, fs, fi, fb, fd, ft, fo, ws⟩ = leastF E ws := by unfold leastS; rw [hEE]
  rw [hls]
  simp only at hE hl
  rw [hEE] at hE
  have hr : RdE tenc 2 w (.slice A n c) ws := h.r
  have hn : ws.length = n := hr.len
  have HR := Lib.hid hr
  have hal : Below w.heap.size w (w.alloc (.cells #[.pointer (some ⟨b, o, none⟩)] 61)) := (Below.refl _ _).alloc (Nat.le_refl _) _
  have x0 := box_at (heap_alloc_new w (.cells #[.pointer (some ⟨b, o, none⟩)] 61)) 0 _ rfl
  have hx := heap_alloc_new w (.cells #[.pointer (some ⟨b, o, none⟩)] 61)
  have HAL := Lib.hid hal
  have HH := Lib.hid h
  clear hr hal h hEE hls hk
  go_enter Try.func48, Try.ntmps48
  go_upto_region 1 with fail
  generalize w.alloc (.cells #[.pointer (some ⟨b, o, none⟩)] 61) = U at *
  go_upto_region 2 with (go_at_call 25; refine (hE.out _ HAL.out).mono ?_; rintro e w1 ⟨rfl, hb1⟩; have x1 := box_at (keep hb1 hx) 0 _ rfl; have c7 : w1.cell? ⟨b, o + 7, none⟩ = some (.slice A n c) := (HH.out.below (HAL.out.trans (hb1.mono HAL.out.size))).c7)
  clear x0
  go_wp2_with fail
  clear x1 c7 hx hE
  have HB1 := Lib.hid (HAL.out.trans (hb1.mono HAL.out.size))
  clear hb1
  go_loopg [3, 14] n (fun gg s3 s14 wr => ∃ kk : Nat, kk ≤ n ∧ n - kk ≤ gg ∧ s3 = .int .i64 (leastF E (ws.take kk)) ∧ s14 = .int .i64 kk ∧ Below w.heap.size w wr)
  case atStart => exact ⟨0, Nat.zero_le _, by omega, rfl, rfl, HB1.out⟩
  case round =>
    obtain ⟨kk, hkk, hg, rfl, rfl, hB⟩ := hrel
    by_cases hlt : kk < n
    · have h1 : (kk : Int) < (n : Int) := by omega
      have ht : ws[kk]? = some (ws[kk]'(by omega)) := List.getElem?_eq_getElem _
      have hte : ws.take (kk + 1) = ws.take kk ++ [ws[kk]'(by omega)] := List.take_succ_eq_append_getElem (by omega)
      generalize ws[kk]'(by omega) = t at ht hte
      obtain ⟨b2, o2, rfl, _, j0, j1⟩ := (HR.out.below hB).tm ht
      obtain ⟨ti, ta⟩ := t
      obtain ⟨L, hL⟩ : ∃ L, leastF E (ws.take kk) = L := ⟨_, rfl⟩
      have hL2 : leastF E (ws.take (kk + 1)) = min L ta := by rw [hte, leastF_snoc, hL]
      rw [hL]
      have HL2 := Lib.hid hL2
      have HB := Lib.hid hB
      clear ht hte hL hL2 hB
      go_upto_region 5 with fail
      have hal : Below wr.heap.size wr (wr.alloc (.cells #[.int .i64 ti, .int .i64 ta] 47)) := (Below.refl _ _).alloc (Nat.le_refl _) _
      have t1 := box_at (heap_alloc_new wr (.cells #[.int .i64 ti, .int .i64 ta] 47)) 1 _ rfl
      have HU := Lib.hid (HB.out.trans (hal.mono HB.out.size))
      clear hal j0 j1
      generalize wr.alloc (.cells #[.int .i64 ti, .int .i64 ta] 47) = U2 at *
      go_wp2_with fail
      all_goals
        go_roundg (n - (kk + 1))
        case measure => omega
        case rel =>
          refine ⟨kk + 1, by omega, by omega, ?_, by go_num, HU.out⟩
          rw [HL2.out]
          first
            | (congr 1; omega)
            | rfl
    · have h1 : ¬ (kk : Int) < (n : Int) := by omega
      go_wp2_with fail
      go_ret
      rw [List.take_of_length_le (by omega)]
      exact ⟨rfl, hB⟩

/-- is a waiter wrong? -/
def oddB (x : Fl) (t : Tm) : Bool := decide (t.id < 0) || decide (t.at' < x.base) || decide (endS x < t.at')
set_option maxRecDepth 100000 in
set_option maxHeartbeats 4000000 in
theorem odd_any (w : World) (bx b o : Nat) (y : FV) (hb : w.heap[bx]? = some (.cells #[.pointer (some ⟨b, o, none⟩)] 61 (0, 0))) (h : FlAt w b o y) (hk : okN y.1) : PredB Try.prog 51 #[.pointer (some ⟨bx, 0, none⟩)] Tm.v (oddB y.1) w := by
  intro W t hB
  have hlt := (Array.getElem?_eq_some_iff.1 hb).1
  have hE := Lib.hid (fun W2 (hb2 : Below W.heap.size W W2) => end_any W2 b o y ((h.below hB).below hb2) hk)
  have hF := h.below hB
  obtain ⟨⟨fk, fs, fi, fb, fd, ft, fo, ws⟩, ⟨A, n, c⟩⟩ := y
  obtain ⟨ti, ta⟩ := t
  obtain ⟨E, hEE⟩ : ∃ E, endS ⟨fk, fs, fi, fb, fd, ft, fo, ws⟩ = E := ⟨_, rfl⟩
  have ho : oddB ⟨fk, fs, fi, fb, fd, ft, fo, ws⟩ ⟨ti, ta⟩ = (decide (ti < 0) || decide (ta < fb) || decide (E < ta)) := by unfold oddB; rw [hEE]
  rw [hEE] at hE
  have hal : Below W.heap.size W (W.alloc (.cells #[.int .i64 ti, .int .i64 ta] 47)) := (Below.refl _ _).alloc (Nat.le_refl _) _
  have q0 : (W.alloc (.cells #[.int .i64 ti, .int .i64 ta] 47)).cell? ⟨W.heap.size, 0, none⟩ = some (.int .i64 ti) := box_at (heap_alloc_new W _) 0 _ rfl
  have q1 : (W.alloc (.cells #[.int .i64 ti, .int .i64 ta] 47)).cell? ⟨W.heap.size, 1, none⟩ = some (.int .i64 ta) := box_at (heap_alloc_new W (.cells #[.int .i64 ti, .int .i64 ta] 47)) 1 _ rfl
  have q2 : (W.alloc (.cells #[.int .i64 ti, .int .i64 ta] 47)).cell? ⟨bx, 0, none⟩ = some (.pointer (some ⟨b, o, none⟩)) := box_at (keep hal (keep hB hb)) 0 _ rfl
  have q3 : (W.alloc (.cells #[.int .i64 ti, .int .i64 ta] 47)).cell? ⟨b, o + 3, none⟩ = some (.int .i64 fb) := (hF.below hal).c3
  have HAL := Lib.hid hal
  clear hal hF h hb hEE hB
  show Calls Try.prog 51 #[.agg #[.int .i64 ti, .int .i64 ta], .pointer (some ⟨bx, 0, none⟩)] W _
  go_enter Try.func51, Try.ntmps51
  go_upto_region 1 with fail
  generalize W.alloc (.cells #[.int .i64 ti, .int .i64 ta] 47) = U at *
  have HQ0 := Lib.hid q0
  have HQ1 := Lib.hid q1
  have HQ2 := Lib.hid q2
  have HQ3 := Lib.hid q3
  have HO := Lib.hid ho
  clear q0 q1 q2 q3 ho
  by_cases h1 : ti < 0
  · rw [decide_eq_true h1, Bool.true_or, Bool.true_or] at HO
    refine wp_region_held_drew (S := fun W' => W'.cell? ⟨W.heap.size, 0, none⟩ = some (.int .i64 ti) ∧ W'.cell? ⟨W.heap.size, 1, none⟩ = some (.int .i64 ta) ∧ W'.cell? ⟨bx, 0, none⟩ = some (.pointer (some ⟨b, o, none⟩)) ∧ W'.cell? ⟨b, o + 3, none⟩ = some (.int .i64 fb)) (by kernel_rfl) (⟨by simpa using HQ0.out, by simpa using HQ1.out, by simpa using HQ2.out, by simpa using HQ3.out⟩) (fun hHeld => ?_)
    refine wpAnyH_take (i := 0) (oi := _) (v := ?v0c) rfl (by kernel_rfl) (by kernel_rfl) (by kernel_rfl) (fun _ _ _ h => h) (Or.inl ⟨by kernel_rfl, ?y0c⟩) (by assumption) ?r0c
    case y0c => (intro w hSw; (try dsimp only at hSw); go_simp; try (with_reducible rfl))
    case r0c =>
      simp only [List.getElem_toArray, List.getElem_cons_succ, List.getElem_cons_zero, Act.put, List.setIfInBounds_toArray, List.set_cons_zero, List.set_cons_succ]
      refine wpAnyH_take (i := 1) (oi := _) (v := ?v1c) rfl (by kernel_rfl) (by kernel_rfl) (by kernel_rfl) (fun _ _ _ h => h) (Or.inl ⟨by kernel_rfl, ?y1c⟩) (by assumption) ?r1c
      case y1c => (intro w hSw; (try dsimp only at hSw); go_simp; try (with_reducible rfl))
      case r1c =>
        simp only [List.getElem_toArray, List.getElem_cons_succ, List.getElem_cons_zero, Act.put, List.setIfInBounds_toArray, List.set_cons_zero, List.set_cons_succ]
        refine wpAnyH_take (i := 2) (oi := _) (v := ?v2c) rfl (by kernel_rfl) (by kernel_rfl) (by kernel_rfl) (fun _ _ _ h => h) (Or.inl ⟨by kernel_rfl, ?y2c⟩) (by assumption) ?r2c
        case y2c => (intro w hSw; (try dsimp only at hSw); go_simp; try (with_reducible rfl))
        case r2c =>
          simp only [List.getElem_toArray, List.getElem_cons_succ, List.getElem_cons_zero, Act.put, List.setIfInBounds_toArray, List.set_cons_zero, List.set_cons_succ]
          refine wpAnyH_take (i := 3) (oi := _) (v := ?v3c) rfl (by kernel_rfl) (by kernel_rfl) (by kernel_rfl) (fun _ _ _ h => h) (Or.inl ⟨by kernel_rfl, ?y3c⟩) (by assumption) ?r3c
          case y3c => (intro w hSw; (try dsimp only at hSw); go_simp; try (with_reducible rfl))
          case r3c =>
            simp only [List.getElem_toArray, List.getElem_cons_succ, List.getElem_cons_zero, Act.put, List.setIfInBounds_toArray, List.set_cons_zero, List.set_cons_succ]
            refine wpAnyH_take (i := 4) (oi := _) (v := undef) rfl (by kernel_rfl) (by kernel_rfl) (by kernel_rfl) (fun _ _ _ h => h) (Or.inr ⟨by kernel_rfl, rfl⟩) (by assumption) ?_
            simp only [List.getElem_toArray, List.getElem_cons_succ, List.getElem_cons_zero, Act.put, List.setIfInBounds_toArray, List.set_cons_zero, List.set_cons_succ]
            refine wpAnyH_take (i := 5) (oi := _) (v := undef) rfl (by kernel_rfl) (by kernel_rfl) (by kernel_rfl) (fun _ _ _ h => h) (Or.inr ⟨by kernel_rfl, rfl⟩) (by assumption) ?_
            simp only [List.getElem_toArray, List.getElem_cons_succ, List.getElem_cons_zero, Act.put, List.setIfInBounds_toArray, List.set_cons_zero, List.set_cons_succ]
            refine wpAnyH_take (i := 6) (oi := _) (v := undef) rfl (by kernel_rfl) (by kernel_rfl) (by kernel_rfl) (fun _ _ _ h => h) (Or.inr ⟨by kernel_rfl, rfl⟩) (by assumption) ?_
            simp only [List.getElem_toArray, List.getElem_cons_succ, List.getElem_cons_zero, Act.put, List.setIfInBounds_toArray, List.set_cons_zero, List.set_cons_succ]
            refine wpAnyH_take (i := 7) (oi := _) (v := undef) rfl (by kernel_rfl) (by kernel_rfl) (by kernel_rfl) (fun _ _ _ h => h) (Or.inr ⟨by kernel_rfl, rfl⟩) (by assumption) ?_
            simp only [List.getElem_toArray, List.getElem_cons_succ, List.getElem_cons_zero, Act.put, List.setIfInBounds_toArray, List.set_cons_zero, List.set_cons_succ]
            refine wpAnyH_take (i := 8) (oi := _) (v := undef) rfl (by kernel_rfl) (by kernel_rfl) (by kernel_rfl) (fun _ _ _ h => h) (Or.inr ⟨by kernel_rfl, rfl⟩) (by assumption) ?_
            simp only [List.getElem_toArray, List.getElem_cons_succ, List.getElem_cons_zero, Act.put, List.setIfInBounds_toArray, List.set_cons_zero, List.set_cons_succ]
            refine wpAnyH_take (i := 9) (oi := _) (v := undef) rfl (by kernel_rfl) (by kernel_rfl) (by kernel_rfl) (fun _ _ _ h => h) (Or.inr ⟨by kernel_rfl, rfl⟩) (by assumption) ?_
            simp only [List.getElem_toArray, List.getElem_cons_succ, List.getElem_cons_zero, Act.put, List.setIfInBounds_toArray, List.set_cons_zero, List.set_cons_succ]
            refine wpAnyH_take (i := 10) (oi := _) (v := undef) rfl (by kernel_rfl) (by kernel_rfl) (by kernel_rfl) (fun _ _ _ h => h) (Or.inr ⟨by kernel_rfl, rfl⟩) (by assumption) ?_
            simp only [List.getElem_toArray, List.getElem_cons_succ, List.getElem_cons_zero, Act.put, List.setIfInBounds_toArray, List.set_cons_zero, List.set_cons_succ]
            refine wpAnyH_take (i := 11) (oi := _) (v := undef) rfl (by kernel_rfl) (by kernel_rfl) (by kernel_rfl) (fun _ _ _ h => h) (Or.inr ⟨by kernel_rfl, rfl⟩) (by assumption) ?_
            simp only [List.getElem_toArray, List.getElem_cons_succ, List.getElem_cons_zero, Act.put, List.setIfInBounds_toArray, List.set_cons_zero, List.set_cons_succ]
            refine wpAnyH_take (i := 12) (oi := _) (v := ?v12c) rfl (by kernel_rfl) (by kernel_rfl) (by kernel_rfl) (fun _ _ _ h => h) (Or.inl ⟨by kernel_rfl, ?y12c⟩) (by assumption) ?r12c
            case y12c => (intro w hSw; (try dsimp only at hSw); go_simp; try (with_reducible rfl))
            case r12c =>
              simp only [List.getElem_toArray, List.getElem_cons_succ, List.getElem_cons_zero, Act.put, List.setIfInBounds_toArray, List.set_cons_zero, List.set_cons_succ]
              refine wpAnyH_take (i := 13) (oi := _) (v := ?v13c) rfl (by kernel_rfl) (by kernel_rfl) (by kernel_rfl) (fun _ _ _ h => h) (Or.inl ⟨by kernel_rfl, ?y13c⟩) (by assumption) ?r13c
              case y13c => (intro w hSw; (try dsimp only at hSw); go_simp; try (with_reducible rfl))
              case r13c =>
                simp only [List.getElem_toArray, List.getElem_cons_succ, List.getElem_cons_zero, Act.put, List.setIfInBounds_toArray, List.set_cons_zero, List.set_cons_succ]
                refine wpAnyH_take (i := 14) (oi := _) (v := undef) rfl (by kernel_rfl) (by kernel_rfl) (by kernel_rfl) (fun _ _ _ h => h) (Or.inr ⟨by kernel_rfl, rfl⟩) (by assumption) ?_
                simp only [List.getElem_toArray, List.getElem_cons_succ, List.getElem_cons_zero, Act.put, List.setIfInBounds_toArray, List.set_cons_zero, List.set_cons_succ]
                refine wpAnyH_take (i := 15) (oi := _) (v := undef) rfl (by kernel_rfl) (by kernel_rfl) (by kernel_rfl) (fun _ _ _ h => h) (Or.inr ⟨by kernel_rfl, rfl⟩) (by assumption) ?_
                simp only [List.getElem_toArray, List.getElem_cons_succ, List.getElem_cons_zero, Act.put, List.setIfInBounds_toArray, List.set_cons_zero, List.set_cons_succ]
                refine wpAnyH_take (i := 16) (oi := _) (v := undef) rfl (by kernel_rfl) (by kernel_rfl) (by kernel_rfl) (fun _ _ _ h => h) (Or.inr ⟨by kernel_rfl, rfl⟩) (by assumption) ?_
                simp only [List.getElem_toArray, List.getElem_cons_succ, List.getElem_cons_zero, Act.put, List.setIfInBounds_toArray, List.set_cons_zero, List.set_cons_succ]
                refine wpAnyH_take (i := 17) (oi := _) (v := undef) rfl (by kernel_rfl) (by kernel_rfl) (by kernel_rfl) (fun _ _ _ h => h) (Or.inr ⟨by kernel_rfl, rfl⟩) (by assumption) ?_
                simp only [List.getElem_toArray, List.getElem_cons_succ, List.getElem_cons_zero, Act.put, List.setIfInBounds_toArray, List.set_cons_zero, List.set_cons_succ]
                refine wpAnyH_take (i := 18) (oi := _) (v := undef) rfl (by kernel_rfl) (by kernel_rfl) (by kernel_rfl) (fun _ _ _ h => h) (Or.inr ⟨by kernel_rfl, rfl⟩) (by assumption) ?_
                simp only [List.getElem_toArray, List.getElem_cons_succ, List.getElem_cons_zero, Act.put, List.setIfInBounds_toArray, List.set_cons_zero, List.set_cons_succ]
                refine wpAnyH_take (i := 19) (oi := _) (v := ?v19c) rfl (by kernel_rfl) (by kernel_rfl) (by kernel_rfl) (fun _ _ _ h => h) (Or.inl ⟨by kernel_rfl, ?y19c⟩) (by assumption) ?r19c
                case y19c => (intro w hSw; (try dsimp only at hSw); go_simp; try (with_reducible rfl))
                case r19c =>
                  simp only [List.getElem_toArray, List.getElem_cons_succ, List.getElem_cons_zero, Act.put, List.setIfInBounds_toArray, List.set_cons_zero, List.set_cons_succ]
                  refine wpAnyH_take (i := 20) (oi := _) (v := ?v20c) rfl (by kernel_rfl) (by kernel_rfl) (by kernel_rfl) (fun _ _ _ h => h) (Or.inl ⟨by kernel_rfl, ?y20c⟩) (by assumption) ?r20c
                  case y20c => (intro w hSw; (try dsimp only at hSw); go_simp; try (with_reducible rfl))
                  case r20c =>
                    simp only [List.getElem_toArray, List.getElem_cons_succ, List.getElem_cons_zero, Act.put, List.setIfInBounds_toArray, List.set_cons_zero, List.set_cons_succ]
                    refine wpAnyH_done (by kernel_rfl) ?_ _
                    clear hHeld
                    go_wp2_with fail
                    go_ret
                    exact ⟨by rw [HO.out]; rfl, below_drew HAL.out⟩
    
  · rw [decide_eq_false h1, Bool.false_or] at HO
    by_cases h2 : ta < fb
    · rw [decide_eq_true h2, Bool.true_or] at HO
      refine wp_region_held_drew (S := fun W' => W'.cell? ⟨W.heap.size, 0, none⟩ = some (.int .i64 ti) ∧ W'.cell? ⟨W.heap.size, 1, none⟩ = some (.int .i64 ta) ∧ W'.cell? ⟨bx, 0, none⟩ = some (.pointer (some ⟨b, o, none⟩)) ∧ W'.cell? ⟨b, o + 3, none⟩ = some (.int .i64 fb)) (by kernel_rfl) (⟨by simpa using HQ0.out, by simpa using HQ1.out, by simpa using HQ2.out, by simpa using HQ3.out⟩) (fun hHeld => ?_)
      refine wpAnyH_take (i := 0) (oi := _) (v := ?v0b) rfl (by kernel_rfl) (by kernel_rfl) (by kernel_rfl) (fun _ _ _ h => h) (Or.inl ⟨by kernel_rfl, ?y0b⟩) (by assumption) ?r0b
      case y0b => (intro w hSw; (try dsimp only at hSw); go_simp; try (with_reducible rfl))
      case r0b =>
        simp only [List.getElem_toArray, List.getElem_cons_succ, List.getElem_cons_zero, Act.put, List.setIfInBounds_toArray, List.set_cons_zero, List.set_cons_succ]
        refine wpAnyH_take (i := 1) (oi := _) (v := ?v1b) rfl (by kernel_rfl) (by kernel_rfl) (by kernel_rfl) (fun _ _ _ h => h) (Or.inl ⟨by kernel_rfl, ?y1b⟩) (by assumption) ?r1b
        case y1b => (intro w hSw; (try dsimp only at hSw); go_simp; try (with_reducible rfl))
        case r1b =>
          simp only [List.getElem_toArray, List.getElem_cons_succ, List.getElem_cons_zero, Act.put, List.setIfInBounds_toArray, List.set_cons_zero, List.set_cons_succ]
          refine wpAnyH_take (i := 2) (oi := _) (v := ?v2b) rfl (by kernel_rfl) (by kernel_rfl) (by kernel_rfl) (fun _ _ _ h => h) (Or.inl ⟨by kernel_rfl, ?y2b⟩) (by assumption) ?r2b
          case y2b => (intro w hSw; (try dsimp only at hSw); go_simp; try (with_reducible rfl))
          case r2b =>
            simp only [List.getElem_toArray, List.getElem_cons_succ, List.getElem_cons_zero, Act.put, List.setIfInBounds_toArray, List.set_cons_zero, List.set_cons_succ]
            refine wpAnyH_take (i := 3) (oi := _) (v := ?v3b) rfl (by kernel_rfl) (by kernel_rfl) (by kernel_rfl) (fun _ _ _ h => h) (Or.inl ⟨by kernel_rfl, ?y3b⟩) (by assumption) ?r3b
            case y3b => (intro w hSw; (try dsimp only at hSw); go_simp; try (with_reducible rfl))
            case r3b =>
              simp only [List.getElem_toArray, List.getElem_cons_succ, List.getElem_cons_zero, Act.put, List.setIfInBounds_toArray, List.set_cons_zero, List.set_cons_succ]
              refine wpAnyH_take (i := 4) (oi := _) (v := ?v4b) rfl (by kernel_rfl) (by kernel_rfl) (by kernel_rfl) (fun _ _ _ h => h) (Or.inl ⟨by kernel_rfl, ?y4b⟩) (by assumption) ?r4b
              case y4b => (intro w hSw; (try dsimp only at hSw); go_simp; try (with_reducible rfl))
              case r4b =>
                simp only [List.getElem_toArray, List.getElem_cons_succ, List.getElem_cons_zero, Act.put, List.setIfInBounds_toArray, List.set_cons_zero, List.set_cons_succ]
                refine wpAnyH_take (i := 5) (oi := _) (v := ?v5b) rfl (by kernel_rfl) (by kernel_rfl) (by kernel_rfl) (fun _ _ _ h => h) (Or.inl ⟨by kernel_rfl, ?y5b⟩) (by assumption) ?r5b
                case y5b => (intro w hSw; (try dsimp only at hSw); go_simp; try (with_reducible rfl))
                case r5b =>
                  simp only [List.getElem_toArray, List.getElem_cons_succ, List.getElem_cons_zero, Act.put, List.setIfInBounds_toArray, List.set_cons_zero, List.set_cons_succ]
                  refine wpAnyH_take (i := 6) (oi := _) (v := ?v6b) rfl (by kernel_rfl) (by kernel_rfl) (by kernel_rfl) (fun _ _ _ h => h) (Or.inl ⟨by kernel_rfl, ?y6b⟩) (by assumption) ?r6b
                  case y6b => (intro w hSw; (try dsimp only at hSw); go_simp; try (with_reducible rfl))
                  case r6b =>
                    simp only [List.getElem_toArray, List.getElem_cons_succ, List.getElem_cons_zero, Act.put, List.setIfInBounds_toArray, List.set_cons_zero, List.set_cons_succ]
                    refine wpAnyH_take (i := 7) (oi := _) (v := ?v7b) rfl (by kernel_rfl) (by kernel_rfl) (by kernel_rfl) (fun _ _ _ h => h) (Or.inl ⟨by kernel_rfl, ?y7b⟩) (by assumption) ?r7b
                    case y7b => (intro w hSw; (try dsimp only at hSw); go_simp; try (with_reducible rfl))
                    case r7b =>
                      simp only [List.getElem_toArray, List.getElem_cons_succ, List.getElem_cons_zero, Act.put, List.setIfInBounds_toArray, List.set_cons_zero, List.set_cons_succ]
                      refine wpAnyH_take (i := 8) (oi := _) (v := ?v8b) rfl (by kernel_rfl) (by kernel_rfl) (by kernel_rfl) (fun _ _ _ h => h) (Or.inl ⟨by kernel_rfl, ?y8b⟩) (by assumption) ?r8b
                      case y8b => (intro w hSw; (try dsimp only at hSw); go_simp; try (with_reducible rfl))
                      case r8b =>
                        simp only [List.getElem_toArray, List.getElem_cons_succ, List.getElem_cons_zero, Act.put, List.setIfInBounds_toArray, List.set_cons_zero, List.set_cons_succ]
                        refine wpAnyH_take (i := 9) (oi := _) (v := ?v9b) rfl (by kernel_rfl) (by kernel_rfl) (by kernel_rfl) (fun _ _ _ h => h) (Or.inl ⟨by kernel_rfl, ?y9b⟩) (by assumption) ?r9b
                        case y9b => (intro w hSw; (try dsimp only at hSw); go_simp; try (with_reducible rfl))
                        case r9b =>
                          simp only [List.getElem_toArray, List.getElem_cons_succ, List.getElem_cons_zero, Act.put, List.setIfInBounds_toArray, List.set_cons_zero, List.set_cons_succ]
                          refine wpAnyH_take (i := 10) (oi := _) (v := ?v10b) rfl (by kernel_rfl) (by kernel_rfl) (by kernel_rfl) (fun _ _ _ h => h) (Or.inl ⟨by kernel_rfl, ?y10b⟩) (by assumption) ?r10b
                          case y10b => (intro w hSw; (try dsimp only at hSw); go_simp; try (with_reducible rfl))
                          case r10b =>
                            simp only [List.getElem_toArray, List.getElem_cons_succ, List.getElem_cons_zero, Act.put, List.setIfInBounds_toArray, List.set_cons_zero, List.set_cons_succ]
                            refine wpAnyH_take (i := 11) (oi := _) (v := ?v11b) rfl (by kernel_rfl) (by kernel_rfl) (by kernel_rfl) (fun _ _ _ h => h) (Or.inl ⟨by kernel_rfl, ?y11b⟩) (by assumption) ?r11b
                            case y11b => (intro w hSw; (try dsimp only at hSw); go_simp; try (with_reducible rfl))
                            case r11b =>
                              simp only [List.getElem_toArray, List.getElem_cons_succ, List.getElem_cons_zero, Act.put, List.setIfInBounds_toArray, List.set_cons_zero, List.set_cons_succ]
                              refine wpAnyH_take (i := 12) (oi := _) (v := ?v12b) rfl (by kernel_rfl) (by kernel_rfl) (by kernel_rfl) (fun _ _ _ h => h) (Or.inl ⟨by kernel_rfl, ?y12b⟩) (by assumption) ?r12b
                              case y12b => (intro w hSw; (try dsimp only at hSw); go_simp; try (with_reducible rfl))
                              case r12b =>
                                simp only [List.getElem_toArray, List.getElem_cons_succ, List.getElem_cons_zero, Act.put, List.setIfInBounds_toArray, List.set_cons_zero, List.set_cons_succ]
                                refine wpAnyH_take (i := 13) (oi := _) (v := ?v13b) rfl (by kernel_rfl) (by kernel_rfl) (by kernel_rfl) (fun _ _ _ h => h) (Or.inl ⟨by kernel_rfl, ?y13b⟩) (by assumption) ?r13b
                                case y13b => (intro w hSw; (try dsimp only at hSw); go_simp; try (with_reducible rfl))
                                case r13b =>
                                  simp only [List.getElem_toArray, List.getElem_cons_succ, List.getElem_cons_zero, Act.put, List.setIfInBounds_toArray, List.set_cons_zero, List.set_cons_succ]
                                  refine wpAnyH_take (i := 14) (oi := _) (v := undef) rfl (by kernel_rfl) (by kernel_rfl) (by kernel_rfl) (fun _ _ _ h => h) (Or.inr ⟨by kernel_rfl, rfl⟩) (by assumption) ?_
                                  simp only [List.getElem_toArray, List.getElem_cons_succ, List.getElem_cons_zero, Act.put, List.setIfInBounds_toArray, List.set_cons_zero, List.set_cons_succ]
                                  refine wpAnyH_take (i := 15) (oi := _) (v := undef) rfl (by kernel_rfl) (by kernel_rfl) (by kernel_rfl) (fun _ _ _ h => h) (Or.inr ⟨by kernel_rfl, rfl⟩) (by assumption) ?_
                                  simp only [List.getElem_toArray, List.getElem_cons_succ, List.getElem_cons_zero, Act.put, List.setIfInBounds_toArray, List.set_cons_zero, List.set_cons_succ]
                                  refine wpAnyH_take (i := 16) (oi := _) (v := undef) rfl (by kernel_rfl) (by kernel_rfl) (by kernel_rfl) (fun _ _ _ h => h) (Or.inr ⟨by kernel_rfl, rfl⟩) (by assumption) ?_
                                  simp only [List.getElem_toArray, List.getElem_cons_succ, List.getElem_cons_zero, Act.put, List.setIfInBounds_toArray, List.set_cons_zero, List.set_cons_succ]
                                  refine wpAnyH_take (i := 17) (oi := _) (v := undef) rfl (by kernel_rfl) (by kernel_rfl) (by kernel_rfl) (fun _ _ _ h => h) (Or.inr ⟨by kernel_rfl, rfl⟩) (by assumption) ?_
                                  simp only [List.getElem_toArray, List.getElem_cons_succ, List.getElem_cons_zero, Act.put, List.setIfInBounds_toArray, List.set_cons_zero, List.set_cons_succ]
                                  refine wpAnyH_take (i := 18) (oi := _) (v := undef) rfl (by kernel_rfl) (by kernel_rfl) (by kernel_rfl) (fun _ _ _ h => h) (Or.inr ⟨by kernel_rfl, rfl⟩) (by assumption) ?_
                                  simp only [List.getElem_toArray, List.getElem_cons_succ, List.getElem_cons_zero, Act.put, List.setIfInBounds_toArray, List.set_cons_zero, List.set_cons_succ]
                                  refine wpAnyH_take (i := 19) (oi := _) (v := ?v19b) rfl (by kernel_rfl) (by kernel_rfl) (by kernel_rfl) (fun _ _ _ h => h) (Or.inl ⟨by kernel_rfl, ?y19b⟩) (by assumption) ?r19b
                                  case y19b => (intro w hSw; (try dsimp only at hSw); go_simp; try (with_reducible rfl))
                                  case r19b =>
                                    simp only [List.getElem_toArray, List.getElem_cons_succ, List.getElem_cons_zero, Act.put, List.setIfInBounds_toArray, List.set_cons_zero, List.set_cons_succ]
                                    refine wpAnyH_take (i := 20) (oi := _) (v := ?v20b) rfl (by kernel_rfl) (by kernel_rfl) (by kernel_rfl) (fun _ _ _ h => h) (Or.inl ⟨by kernel_rfl, ?y20b⟩) (by assumption) ?r20b
                                    case y20b => (intro w hSw; (try dsimp only at hSw); go_simp; try (with_reducible rfl))
                                    case r20b =>
                                      simp only [List.getElem_toArray, List.getElem_cons_succ, List.getElem_cons_zero, Act.put, List.setIfInBounds_toArray, List.set_cons_zero, List.set_cons_succ]
                                      refine wpAnyH_done (by kernel_rfl) ?_ _
                                      clear hHeld
                                      go_wp2_with fail
                                      go_ret
                                      exact ⟨by rw [HO.out]; rfl, below_drew HAL.out⟩
      
    · rw [decide_eq_false h2, Bool.false_or] at HO
      refine wp_region_held_drew (S := fun W' => W'.cell? ⟨W.heap.size, 0, none⟩ = some (.int .i64 ti) ∧ W'.cell? ⟨W.heap.size, 1, none⟩ = some (.int .i64 ta) ∧ W'.cell? ⟨bx, 0, none⟩ = some (.pointer (some ⟨b, o, none⟩)) ∧ W'.cell? ⟨b, o + 3, none⟩ = some (.int .i64 fb)) (by kernel_rfl) (⟨by simpa using HQ0.out, by simpa using HQ1.out, by simpa using HQ2.out, by simpa using HQ3.out⟩) (fun hHeld => ?_)
      refine wpAnyH_take (i := 0) (oi := _) (v := ?v0a) rfl (by kernel_rfl) (by kernel_rfl) (by kernel_rfl) (fun _ _ _ h => h) (Or.inl ⟨by kernel_rfl, ?y0a⟩) (by assumption) ?r0a
      case y0a => (intro w hSw; (try dsimp only at hSw); go_simp; try (with_reducible rfl))
      case r0a =>
        simp only [List.getElem_toArray, List.getElem_cons_succ, List.getElem_cons_zero, Act.put, List.setIfInBounds_toArray, List.set_cons_zero, List.set_cons_succ]
        refine wpAnyH_take (i := 1) (oi := _) (v := ?v1a) rfl (by kernel_rfl) (by kernel_rfl) (by kernel_rfl) (fun _ _ _ h => h) (Or.inl ⟨by kernel_rfl, ?y1a⟩) (by assumption) ?r1a
        case y1a => (intro w hSw; (try dsimp only at hSw); go_simp; try (with_reducible rfl))
        case r1a =>
          simp only [List.getElem_toArray, List.getElem_cons_succ, List.getElem_cons_zero, Act.put, List.setIfInBounds_toArray, List.set_cons_zero, List.set_cons_succ]
          refine wpAnyH_take (i := 2) (oi := _) (v := ?v2a) rfl (by kernel_rfl) (by kernel_rfl) (by kernel_rfl) (fun _ _ _ h => h) (Or.inl ⟨by kernel_rfl, ?y2a⟩) (by assumption) ?r2a
          case y2a => (intro w hSw; (try dsimp only at hSw); go_simp; try (with_reducible rfl))
          case r2a =>
            simp only [List.getElem_toArray, List.getElem_cons_succ, List.getElem_cons_zero, Act.put, List.setIfInBounds_toArray, List.set_cons_zero, List.set_cons_succ]
            refine wpAnyH_take (i := 3) (oi := _) (v := ?v3a) rfl (by kernel_rfl) (by kernel_rfl) (by kernel_rfl) (fun _ _ _ h => h) (Or.inl ⟨by kernel_rfl, ?y3a⟩) (by assumption) ?r3a
            case y3a => (intro w hSw; (try dsimp only at hSw); go_simp; try (with_reducible rfl))
            case r3a =>
              simp only [List.getElem_toArray, List.getElem_cons_succ, List.getElem_cons_zero, Act.put, List.setIfInBounds_toArray, List.set_cons_zero, List.set_cons_succ]
              refine wpAnyH_take (i := 4) (oi := _) (v := ?v4a) rfl (by kernel_rfl) (by kernel_rfl) (by kernel_rfl) (fun _ _ _ h => h) (Or.inl ⟨by kernel_rfl, ?y4a⟩) (by assumption) ?r4a
              case y4a => (intro w hSw; (try dsimp only at hSw); go_simp; try (with_reducible rfl))
              case r4a =>
                simp only [List.getElem_toArray, List.getElem_cons_succ, List.getElem_cons_zero, Act.put, List.setIfInBounds_toArray, List.set_cons_zero, List.set_cons_succ]
                refine wpAnyH_take (i := 5) (oi := _) (v := ?v5a) rfl (by kernel_rfl) (by kernel_rfl) (by kernel_rfl) (fun _ _ _ h => h) (Or.inl ⟨by kernel_rfl, ?y5a⟩) (by assumption) ?r5a
                case y5a => (intro w hSw; (try dsimp only at hSw); go_simp; try (with_reducible rfl))
                case r5a =>
                  simp only [List.getElem_toArray, List.getElem_cons_succ, List.getElem_cons_zero, Act.put, List.setIfInBounds_toArray, List.set_cons_zero, List.set_cons_succ]
                  refine wpAnyH_take (i := 6) (oi := _) (v := ?v6a) rfl (by kernel_rfl) (by kernel_rfl) (by kernel_rfl) (fun _ _ _ h => h) (Or.inl ⟨by kernel_rfl, ?y6a⟩) (by assumption) ?r6a
                  case y6a => (intro w hSw; (try dsimp only at hSw); go_simp; try (with_reducible rfl))
                  case r6a =>
                    simp only [List.getElem_toArray, List.getElem_cons_succ, List.getElem_cons_zero, Act.put, List.setIfInBounds_toArray, List.set_cons_zero, List.set_cons_succ]
                    refine wpAnyH_take (i := 7) (oi := _) (v := ?v7a) rfl (by kernel_rfl) (by kernel_rfl) (by kernel_rfl) (fun _ _ _ h => h) (Or.inl ⟨by kernel_rfl, ?y7a⟩) (by assumption) ?r7a
                    case y7a => (intro w hSw; (try dsimp only at hSw); go_simp; try (with_reducible rfl))
                    case r7a =>
                      simp only [List.getElem_toArray, List.getElem_cons_succ, List.getElem_cons_zero, Act.put, List.setIfInBounds_toArray, List.set_cons_zero, List.set_cons_succ]
                      refine wpAnyH_take (i := 8) (oi := _) (v := ?v8a) rfl (by kernel_rfl) (by kernel_rfl) (by kernel_rfl) (fun _ _ _ h => h) (Or.inl ⟨by kernel_rfl, ?y8a⟩) (by assumption) ?r8a
                      case y8a => (intro w hSw; (try dsimp only at hSw); go_simp; try (with_reducible rfl))
                      case r8a =>
                        simp only [List.getElem_toArray, List.getElem_cons_succ, List.getElem_cons_zero, Act.put, List.setIfInBounds_toArray, List.set_cons_zero, List.set_cons_succ]
                        refine wpAnyH_take (i := 9) (oi := _) (v := ?v9a) rfl (by kernel_rfl) (by kernel_rfl) (by kernel_rfl) (fun _ _ _ h => h) (Or.inl ⟨by kernel_rfl, ?y9a⟩) (by assumption) ?r9a
                        case y9a => (intro w hSw; (try dsimp only at hSw); go_simp; try (with_reducible rfl))
                        case r9a =>
                          simp only [List.getElem_toArray, List.getElem_cons_succ, List.getElem_cons_zero, Act.put, List.setIfInBounds_toArray, List.set_cons_zero, List.set_cons_succ]
                          refine wpAnyH_take (i := 10) (oi := _) (v := ?v10a) rfl (by kernel_rfl) (by kernel_rfl) (by kernel_rfl) (fun _ _ _ h => h) (Or.inl ⟨by kernel_rfl, ?y10a⟩) (by assumption) ?r10a
                          case y10a => (intro w hSw; (try dsimp only at hSw); go_simp; try (with_reducible rfl))
                          case r10a =>
                            simp only [List.getElem_toArray, List.getElem_cons_succ, List.getElem_cons_zero, Act.put, List.setIfInBounds_toArray, List.set_cons_zero, List.set_cons_succ]
                            refine wpAnyH_take (i := 11) (oi := _) (v := ?v11a) rfl (by kernel_rfl) (by kernel_rfl) (by kernel_rfl) (fun _ _ _ h => h) (Or.inl ⟨by kernel_rfl, ?y11a⟩) (by assumption) ?r11a
                            case y11a => (intro w hSw; (try dsimp only at hSw); go_simp; try (with_reducible rfl))
                            case r11a =>
                              simp only [List.getElem_toArray, List.getElem_cons_succ, List.getElem_cons_zero, Act.put, List.setIfInBounds_toArray, List.set_cons_zero, List.set_cons_succ]
                              refine wpAnyH_take (i := 12) (oi := _) (v := ?v12a) rfl (by kernel_rfl) (by kernel_rfl) (by kernel_rfl) (fun _ _ _ h => h) (Or.inl ⟨by kernel_rfl, ?y12a⟩) (by assumption) ?r12a
                              case y12a => (intro w hSw; (try dsimp only at hSw); go_simp; try (with_reducible rfl))
                              case r12a =>
                                simp only [List.getElem_toArray, List.getElem_cons_succ, List.getElem_cons_zero, Act.put, List.setIfInBounds_toArray, List.set_cons_zero, List.set_cons_succ]
                                refine wpAnyH_take (i := 13) (oi := _) (v := ?v13a) rfl (by kernel_rfl) (by kernel_rfl) (by kernel_rfl) (fun _ _ _ h => h) (Or.inl ⟨by kernel_rfl, ?y13a⟩) (by assumption) ?r13a
                                case y13a => (intro w hSw; (try dsimp only at hSw); go_simp; try (with_reducible rfl))
                                case r13a =>
                                  simp only [List.getElem_toArray, List.getElem_cons_succ, List.getElem_cons_zero, Act.put, List.setIfInBounds_toArray, List.set_cons_zero, List.set_cons_succ]
                                  refine wpAnyH_take (i := 14) (oi := _) (v := ?v14a) rfl (by kernel_rfl) (by kernel_rfl) (by kernel_rfl) (fun _ _ _ h => h) (Or.inl ⟨by kernel_rfl, ?y14a⟩) (by assumption) ?r14a
                                  case y14a => (intro w hSw; (try dsimp only at hSw); go_simp; try (with_reducible rfl))
                                  case r14a =>
                                    simp only [List.getElem_toArray, List.getElem_cons_succ, List.getElem_cons_zero, Act.put, List.setIfInBounds_toArray, List.set_cons_zero, List.set_cons_succ]
                                    refine wpAnyH_take (i := 15) (oi := _) (v := ?v15a) rfl (by kernel_rfl) (by kernel_rfl) (by kernel_rfl) (fun _ _ _ h => h) (Or.inl ⟨by kernel_rfl, ?y15a⟩) (by assumption) ?r15a
                                    case y15a => (intro w hSw; (try dsimp only at hSw); go_simp; try (with_reducible rfl))
                                    case r15a =>
                                      simp only [List.getElem_toArray, List.getElem_cons_succ, List.getElem_cons_zero, Act.put, List.setIfInBounds_toArray, List.set_cons_zero, List.set_cons_succ]
                                      refine wpAnyH_take (i := 16) (oi := _) (v := ?v16a) rfl (by kernel_rfl) (by kernel_rfl) (by kernel_rfl) (fun _ _ _ h => h) (Or.inl ⟨by kernel_rfl, ?y16a⟩) (by assumption) ?r16a
                                      case y16a => (intro w hSw; (try dsimp only at hSw); go_simp; try (with_reducible rfl))
                                      case r16a =>
                                        simp only [List.getElem_toArray, List.getElem_cons_succ, List.getElem_cons_zero, Act.put, List.setIfInBounds_toArray, List.set_cons_zero, List.set_cons_succ]
                                        refine wpAnyH_ready (rs := [17]) (by kernel_rfl) (by simp) ?_
                                        refine AllReadyH.cons (o := _) rfl (fun K hK => ?_) AllReadyH.nil
                                        go_simp
                                        (go_at_call 25; refine (hE.out _ (below_drew HAL.out)).mono ?_; rintro e w5 ⟨rfl, hb5⟩)
                                        go_wp2_with fail
                                        refine hK.out _ _ (⟨pw_cell_below hb5 hHeld.1, pw_cell_below hb5 hHeld.2.1, pw_cell_below hb5 hHeld.2.2.1, pw_cell_below hb5 hHeld.2.2.2⟩) (fun hHeld => ?_)
                                        clear hK K
                                        try simp only [List.getElem_toArray, List.getElem_cons_succ, List.getElem_cons_zero, Act.put, List.setIfInBounds_toArray, List.set_cons_zero, List.set_cons_succ]
                                        refine wpAnyH_take (i := 18) (oi := _) (v := ?v18a) rfl (by kernel_rfl) (by kernel_rfl) (by kernel_rfl) (fun _ _ _ h => h) (Or.inl ⟨by kernel_rfl, ?y18a⟩) (by assumption) ?r18a
                                        case y18a => (intro w hSw; (try dsimp only at hSw); go_simp; try (with_reducible rfl))
                                        case r18a =>
                                          simp only [List.getElem_toArray, List.getElem_cons_succ, List.getElem_cons_zero, Act.put, List.setIfInBounds_toArray, List.set_cons_zero, List.set_cons_succ]
                                          refine wpAnyH_take (i := 19) (oi := _) (v := ?v19a) rfl (by kernel_rfl) (by kernel_rfl) (by kernel_rfl) (fun _ _ _ h => h) (Or.inl ⟨by kernel_rfl, ?y19a⟩) (by assumption) ?r19a
                                          case y19a => (intro w hSw; (try dsimp only at hSw); go_simp; try (with_reducible rfl))
                                          case r19a =>
                                            simp only [List.getElem_toArray, List.getElem_cons_succ, List.getElem_cons_zero, Act.put, List.setIfInBounds_toArray, List.set_cons_zero, List.set_cons_succ]
                                            refine wpAnyH_take (i := 20) (oi := _) (v := ?v20a) rfl (by kernel_rfl) (by kernel_rfl) (by kernel_rfl) (fun _ _ _ h => h) (Or.inl ⟨by kernel_rfl, ?y20a⟩) (by assumption) ?r20a
                                            case y20a => (intro w hSw; (try dsimp only at hSw); go_simp; try (with_reducible rfl))
                                            case r20a =>
                                              simp only [List.getElem_toArray, List.getElem_cons_succ, List.getElem_cons_zero, Act.put, List.setIfInBounds_toArray, List.set_cons_zero, List.set_cons_succ]
                                              refine wpAnyH_done (by kernel_rfl) ?_ _
                                              clear hHeld
                                              go_wp2_with fail
                                              go_ret
                                              exact ⟨by rw [HO.out]; rfl, (below_drew HAL.out).trans (hb5.mono (below_drew HAL.out).size)⟩
      
/-- what is wrong with a flight's numbers -/
def badF (room next : Int) (x : Fl) : Prop := x.id < 0 ∨ next ≤ x.id ∨ 2000 < (x.key.length : Int) ∨ room < (x.data.length : Int) ∨ x.base < 0 ∨ 9007199254740992 < x.base ∨ x.tries < 1 ∨ 5 < x.tries ∨ (x.ws.length : Int) < 1 ∨ 8 < (x.ws.length : Int)
instance (room next : Int) (x : Fl) : Decidable (badF room next x) := by unfold badF; infer_instance
/-- may a flight be? -/
def rightF (room next : Int) (x : Fl) : Bool := !(decide (badF room next x)) && !(x.ws.any (oddB x))
theorem rightF_bad {room next : Int} {x : Fl} (h : badF room next x) : rightF room next x = false := by unfold rightF; rw [decide_eq_true h]; rfl
theorem rightF_ok {room next : Int} {x : Fl} (h : ¬ badF room next x) : rightF room next x = !(x.ws.any (oddB x)) := by unfold rightF; rw [decide_eq_false h]; rfl
set_option maxRecDepth 100000 in
set_option maxHeartbeats 8000000 in
theorem right1_any (w : World) (b o : Nat) (y : FV) (room next : Int) (h : FlAt w b o y) (hr : room ≤ 4096) :
    Calls Try.prog 28 #[ptr b o, .int .i64 room, .int .i64 next] w fun e w' => e = .returned (.bool (rightF room next y.1)) ∧ Below w.heap.size w w' := by
  have HH := Lib.hid h
  obtain ⟨⟨fk, fs, fi, fb, fd, ft, fo, ws⟩, ⟨A, n, c⟩⟩ := y
  obtain ⟨R, hR⟩ : ∃ R, rightF room next ⟨fk, fs, fi, fb, fd, ft, fo, ws⟩ = R := ⟨_, rfl⟩
  show Calls Try.prog 28 #[ptr b o, .int .i64 room, .int .i64 next] w fun e w' => e = .returned (.bool (rightF room next ⟨fk, fs, fi, fb, fd, ft, fo, ws⟩)) ∧ Below w.heap.size w w'
  rw [hR]
  have hn : ws.length = n := h.r.len
  have hbad : badF room next ⟨fk, fs, fi, fb, fd, ft, fo, ws⟩ → false = R := fun hb => by rw [← hR]; exact (rightF_bad hb).symm
  have hgood : ¬ badF room next ⟨fk, fs, fi, fb, fd, ft, fo, ws⟩ → (!(ws.any (oddB ⟨fk, fs, fi, fb, fd, ft, fo, ws⟩))) = R := fun hb => by rw [← hR]; exact (rightF_ok hb).symm
  unfold badF at hbad hgood
  simp only at hbad hgood
  have HBAD := Lib.hid hbad
  have HGOOD := Lib.hid hgood
  have hal : Below w.heap.size w (w.alloc (.cells #[ptr b o] 61)) := (Below.refl _ _).alloc (Nat.le_refl _) _
  have hal : Below w.heap.size w (w.alloc (.cells #[.pointer (some ⟨b, o, none⟩)] 61)) := (Below.refl _ _).alloc (Nat.le_refl _) _
  have hx := heap_alloc_new w (.cells #[.pointer (some ⟨b, o, none⟩)] 61)
  have x0 := box_at hx 0 _ rfl
  have hF := h.below hal
  have c0 : (w.alloc (.cells #[.pointer (some ⟨b, o, none⟩)] 61)).cell? ⟨b, o, none⟩ = some (str fk) := hF.c0
  have c2 : (w.alloc (.cells #[.pointer (some ⟨b, o, none⟩)] 61)).cell? ⟨b, o + 2, none⟩ = some (.int .i64 fi) := hF.c2
  have c3 : (w.alloc (.cells #[.pointer (some ⟨b, o, none⟩)] 61)).cell? ⟨b, o + 3, none⟩ = some (.int .i64 fb) := hF.c3
  have c4 : (w.alloc (.cells #[.pointer (some ⟨b, o, none⟩)] 61)).cell? ⟨b, o + 4, none⟩ = some (str fd) := hF.c4
  have c5 : (w.alloc (.cells #[.pointer (some ⟨b, o, none⟩)] 61)).cell? ⟨b, o + 5, none⟩ = some (.int .i64 ft) := hF.c5
  have c7 : (w.alloc (.cells #[.pointer (some ⟨b, o, none⟩)] 61)).cell? ⟨b, o + 7, none⟩ = some (.slice A n c) := hF.c7
  have HX := Lib.hid hx
  have HAL := Lib.hid hal
  clear hF h hx hal hR hbad hgood
  go_enter Try.func28, Try.ntmps28
  go_upto_region 2 with fail
  generalize w.alloc (.cells #[.pointer (some ⟨b, o, none⟩)] 61) = U at *
  by_cases h0 : fi < 0
  · go_wp2_with fail
    go_ret
    exact ⟨ret_bool (HBAD.out (by omega)), HAL.out⟩
  · skip
    by_cases h1 : next ≤ fi
    · go_wp2_with fail
      go_ret
      exact ⟨ret_bool (HBAD.out (by omega)), HAL.out⟩
    · skip
      by_cases h2 : 2000 < (fk.length : Int)
      · go_wp2_with fail
        go_ret
        exact ⟨ret_bool (HBAD.out (by omega)), HAL.out⟩
      · skip
        by_cases h3 : room < (fd.length : Int)
        · go_wp2_with fail
          go_ret
          exact ⟨ret_bool (HBAD.out (by omega)), HAL.out⟩
        · skip
          by_cases h4 : fb < 0
          · go_wp2_with fail
            go_ret
            exact ⟨ret_bool (HBAD.out (by omega)), HAL.out⟩
          · skip
            by_cases h5 : 9007199254740992 < fb
            · go_wp2_with fail
              go_ret
              exact ⟨ret_bool (HBAD.out (by omega)), HAL.out⟩
            · skip
              by_cases h6 : ft < 1
              · go_wp2_with fail
                go_ret
                exact ⟨ret_bool (HBAD.out (by omega)), HAL.out⟩
              · skip
                by_cases h7 : 5 < ft
                · go_wp2_with fail
                  go_ret
                  exact ⟨ret_bool (HBAD.out (by omega)), HAL.out⟩
                · skip
                  by_cases h8 : (n : Int) < 1
                  · go_wp2_with fail
                    go_ret
                    exact ⟨ret_bool (HBAD.out (by omega)), HAL.out⟩
                  · skip
                    by_cases h9 : 8 < (n : Int)
                    · go_wp2_with fail
                      go_ret
                      exact ⟨ret_bool (HBAD.out (by omega)), HAL.out⟩
                    · skip
                      clear HBAD
                      have hg := HGOOD.out (by omega)
                      have eg : ∀ args w, (callFunc 51 args).run Try.prog w = .ok (.enter 51 args) w := enters_of Try.func51 (by kernel_rfl) rfl
                      have hok : okN ⟨fk, fs, fi, fb, fd, ft, fo, ws⟩ := ⟨by simp only; omega, by simp only; omega, by simp only; omega⟩
                      go_wp2_with (go_at_call 40; refine (containsFunc_tms 51 _ eg _ U _ ws (HH.out.below HAL.out).r (odd_any U _ b o _ HX.out (HH.out.below HAL.out) hok)).mono ?_; rintro e w' ⟨rfl, hb⟩)
                      go_ret
                      exact ⟨by first | rfl | exact ret_bool hg, HAL.out.trans (hb.mono HAL.out.size)⟩
end Go.Proofs.Ytipjhokhflokmaa
