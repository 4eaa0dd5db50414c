/- lockageref18.flight, joins (printed by mkK2.py). -/
import Derived.Test.YtipjhokhflokmaaJ
set_option linter.unusedVariables false
set_option linter.unusedSimpArgs false
namespace Go.Proofs.Ytipjhokhflokmaa
open Go.RowKit
open Go.Proofs.YtipjhokhflokmaaW.PrintWords

set_option maxRecDepth 100000 in
set_option maxHeartbeats 8000000 in
theorem rright1_any (w : World) (y : FV) (room next : Int) (h : RdE tenc 2 w y.2.v y.1.ws) (hr : room ≤ 4096) :
    Calls Try.prog 55 #[FV.v y, .int .i64 room, .int .i64 next] w fun e w' => e = .returned (.bool (rightF room next y.1)) ∧ Below w.heap.size w w' := by
  obtain ⟨⟨fk, fs, fi, fb, fd, ft, fo, ws⟩, ⟨A, n, c⟩⟩ := y
  obtain ⟨R, hR⟩ : ∃ R, rightF room next ⟨fk, fs, fi, fb, fd, ft, fo, ws⟩ = R := ⟨_, rfl⟩
  show Calls Try.prog 55 #[.agg #[str fk, .bool fs, .int .i64 fi, .int .i64 fb, str fd, .int .i64 ft, .bool fo, .slice A n c], .int .i64 room, .int .i64 next] w fun e w' => e = .returned (.bool (rightF room next ⟨fk, fs, fi, fb, fd, ft, fo, ws⟩)) ∧ Below w.heap.size w w'
  rw [hR]
  have hW : RdE tenc 2 w (.slice A n c) ws := h
  have hn : ws.length = n := hW.len
  have hbad : badF room next ⟨fk, fs, fi, fb, fd, ft, fo, ws⟩ → false = R := fun hb => by rw [← hR]; exact (rightF_bad hb).symm
  have hgood : ¬ badF room next ⟨fk, fs, fi, fb, fd, ft, fo, ws⟩ → (!(ws.any (oddB ⟨fk, fs, fi, fb, fd, ft, fo, ws⟩))) = R := fun hb => by rw [← hR]; exact (rightF_ok hb).symm
  unfold badF at hbad hgood
  simp only at hbad hgood
  have HBAD := Lib.hid hbad
  have HGOOD := Lib.hid hgood
  have hal : Below w.heap.size w (w.alloc (.cells #[str fk, .bool fs, .int .i64 fi, .int .i64 fb, str fd, .int .i64 ft, .bool fo, .slice A n c] 45)) := (Below.refl _ _).alloc (Nat.le_refl _) _
  have hx := heap_alloc_new w (.cells #[str fk, .bool fs, .int .i64 fi, .int .i64 fb, str fd, .int .i64 ft, .bool fo, .slice A n c] 45)
  have HW := Lib.hid (hW.below hal)
  have HX := Lib.hid hx
  have HAL := Lib.hid hal
  clear h hx hal hR hbad hgood hW
  go_enter Try.func55, Try.ntmps55
  go_upto_region 1 with fail
  generalize w.alloc (.cells #[str fk, .bool fs, .int .i64 fi, .int .i64 fb, str fd, .int .i64 ft, .bool fo, .slice A n c] 45) = U at *
  have c0 : U.cell? ⟨w.heap.size, 0, none⟩ = some (str fk) := box_at HX.out 0 _ rfl
  have c2 : U.cell? ⟨w.heap.size, 2, none⟩ = some (.int .i64 fi) := box_at HX.out 2 _ rfl
  have c3 : U.cell? ⟨w.heap.size, 3, none⟩ = some (.int .i64 fb) := box_at HX.out 3 _ rfl
  have c4 : U.cell? ⟨w.heap.size, 4, none⟩ = some (str fd) := box_at HX.out 4 _ rfl
  have c5 : U.cell? ⟨w.heap.size, 5, none⟩ = some (.int .i64 ft) := box_at HX.out 5 _ rfl
  have c7 : U.cell? ⟨w.heap.size, 7, none⟩ = some (.slice A n c) := box_at HX.out 7 _ rfl
  by_cases h0 : fi < 0
  · go_wp2_with fail
    go_ret
    exact ⟨ret_bool (HBAD.out (by omega)), HAL.out⟩
  · skip
    by_cases h1 : next ≤ fi
    · go_wp2_with fail
      go_ret
      exact ⟨ret_bool (HBAD.out (by omega)), HAL.out⟩
    · skip
      by_cases h2 : 2000 < (fk.length : Int)
      · go_wp2_with fail
        go_ret
        exact ⟨ret_bool (HBAD.out (by omega)), HAL.out⟩
      · skip
        by_cases h3 : fb < 0
        · go_wp2_with fail
          go_ret
          exact ⟨ret_bool (HBAD.out (by omega)), HAL.out⟩
        · skip
          by_cases h4 : 9007199254740992 < fb
          · go_wp2_with fail
            go_ret
            exact ⟨ret_bool (HBAD.out (by omega)), HAL.out⟩
          · skip
            by_cases h5 : room < (fd.length : Int)
            · go_wp2_with fail
              go_ret
              exact ⟨ret_bool (HBAD.out (by omega)), HAL.out⟩
            · skip
              by_cases h6 : ft < 1
              · go_wp2_with fail
                go_ret
                exact ⟨ret_bool (HBAD.out (by omega)), HAL.out⟩
              · skip
                by_cases h7 : 5 < ft
                · go_wp2_with fail
                  go_ret
                  exact ⟨ret_bool (HBAD.out (by omega)), HAL.out⟩
                · skip
                  by_cases h8 : (n : Int) < 1
                  · go_wp2_with fail
                    go_ret
                    exact ⟨ret_bool (HBAD.out (by omega)), HAL.out⟩
                  · skip
                    by_cases h9 : 8 < (n : Int)
                    · go_wp2_with fail
                      go_ret
                      exact ⟨ret_bool (HBAD.out (by omega)), HAL.out⟩
                    · skip
                      clear HBAD
                      have hg := HGOOD.out (by omega)
                      have hE : endS ⟨fk, fs, fi, fb, fd, ft, fo, ws⟩ = fb + fd.length := rfl
                      have hwr : wrap64 (fb + (fd.length : Int)) = fb + (fd.length : Int) := w64 (by omega) (by omega)
                      have HE := Lib.hid hE
                      have HG := Lib.hid hg
                      clear hE hg HGOOD
                      go_wp2_with fail
                      clear c0 c2 c5
                      go_loopg [7] n (fun gg s7 wr => ∃ kk : Nat, kk ≤ n ∧ n - kk ≤ gg ∧ s7 = .int .i64 kk ∧ Below U.heap.size U wr ∧ Aside (∀ (j : Nat) (t : Tm), j < kk → ws[j]? = some t → oddB ⟨fk, fs, fi, fb, fd, ft, fo, ws⟩ t = false))
                      case atStart => exact ⟨0, Nat.zero_le _, by omega, rfl, Below.refl _ _, by show Aside _; exact fun j x hj => absurd hj (Nat.not_lt_zero _)⟩
                      case round =>
                        obtain ⟨kk, hkk, hg, rfl, hB, HA⟩ := hrel
                        have d3 : wr.cell? ⟨w.heap.size, 3, none⟩ = some (.int .i64 fb) := box_at (keep hB HX.out) 3 _ rfl
                        have d4 : wr.cell? ⟨w.heap.size, 4, none⟩ = some (str fd) := box_at (keep hB HX.out) 4 _ rfl
                        have d7 : wr.cell? ⟨w.heap.size, 7, none⟩ = some (.slice A n c) := box_at (keep hB HX.out) 7 _ rfl
                        have HB := Lib.hid hB
                        clear hB
                        by_cases hlt : kk < n
                        · have hk1 : (kk : Int) < (n : Int) := by omega
                          have ht : ws[kk]? = some (ws[kk]'(by omega)) := List.getElem?_eq_getElem _
                          generalize ws[kk]'(by omega) = t at ht
                          obtain ⟨b2, o2, rfl, _, j0, j1⟩ := (HW.out.below HB.out).tm ht
                          obtain ⟨ti, ta⟩ := t
                          have hodd : oddB ⟨fk, fs, fi, fb, fd, ft, fo, ws⟩ ⟨ti, ta⟩ = (decide (ti < 0) || decide (ta < fb) || decide (fb + fd.length < ta)) := by unfold oddB; rw [HE.out]
                          have HOD := Lib.hid hodd
                          have HT := Lib.hid ht
                          clear ht hodd
                          go_upto_region 7 with fail
                          have hal : Below wr.heap.size wr (wr.alloc (.cells #[.int .i64 ti, .int .i64 ta] 47)) := (Below.refl _ _).alloc (Nat.le_refl _) _
                          have e3 := pw_cell_below hal d3
                          have e4 := pw_cell_below hal d4
                          have t0 : (wr.alloc (.cells #[.int .i64 ti, .int .i64 ta] 47)).cell? ⟨wr.heap.size, 0, none⟩ = some (.int .i64 ti) := box_at (heap_alloc_new wr (.cells #[.int .i64 ti, .int .i64 ta] 47)) 0 _ rfl
                          have t1 : (wr.alloc (.cells #[.int .i64 ti, .int .i64 ta] 47)).cell? ⟨wr.heap.size, 1, none⟩ = some (.int .i64 ta) := box_at (heap_alloc_new wr (.cells #[.int .i64 ti, .int .i64 ta] 47)) 1 _ rfl
                          have HU := Lib.hid (HB.out.trans (hal.mono HB.out.size))
                          clear hal j0 j1 d3 d4 d7
                          generalize wr.alloc (.cells #[.int .i64 ti, .int .i64 ta] 47) = U2 at *
                          by_cases g1 : ti < 0
                          · rw [decide_eq_true g1, Bool.true_or, Bool.true_or] at HOD
                            go_wp2_with fail
                            go_ret
                            refine ⟨ret_bool ?_, HAL.out.trans (HU.out.mono HAL.out.size)⟩
                            rw [← HG.out, List.any_eq_true.2 ⟨_, List.mem_of_getElem? HT.out, HOD.out⟩]
                            rfl
                          · rw [decide_eq_false g1, Bool.false_or] at HOD
                            by_cases g2 : ta < fb
                            · rw [decide_eq_true g2, Bool.true_or] at HOD
                              go_wp2_with fail
                              go_ret
                              refine ⟨ret_bool ?_, HAL.out.trans (HU.out.mono HAL.out.size)⟩
                              rw [← HG.out, List.any_eq_true.2 ⟨_, List.mem_of_getElem? HT.out, HOD.out⟩]
                              rfl
                            · rw [decide_eq_false g2, Bool.false_or] at HOD
                              by_cases g3 : fb + (fd.length : Int) < ta
                              · rw [decide_eq_true g3] at HOD
                                go_wp2_with fail
                                go_ret
                                refine ⟨ret_bool ?_, HAL.out.trans (HU.out.mono HAL.out.size)⟩
                                rw [← HG.out, List.any_eq_true.2 ⟨_, List.mem_of_getElem? HT.out, HOD.out⟩]
                                rfl
                              · rw [decide_eq_false g3] at HOD
                                go_wp2_with fail
                                go_roundg (n - (kk + 1))
                                case measure => omega
                                case rel =>
                                  refine ⟨kk + 1, by omega, by omega, by go_num, HU.out, (show Aside _ from fun j z hj hz => ?_)⟩
                                  rcases Nat.lt_or_ge j kk with h | h
                                  · exact HA.out j z h hz
                                  · obtain rfl : j = kk := by omega
                                    rw [HT.out] at hz
                                    injection hz with hz
                                    subst hz
                                    exact HOD.out
                        · have hk1 : ¬ (kk : Int) < (n : Int) := by omega
                          go_wp2_with fail
                          go_ret
                          refine ⟨ret_bool ?_, HAL.out.trans (HB.out.mono HAL.out.size)⟩
                          rw [← HG.out, List.any_eq_false.2 (fun x hx => by
                            obtain ⟨j, hj⟩ := List.getElem?_of_mem hx
                            rw [HA.out j x (by have := (List.getElem?_eq_some_iff.1 hj).1; omega) hj]
                            simp)]
                          rfl

/-- may one join it? -/
def joinsF (key : List UInt8) (x : Fl) : Bool := x.sh && decide (x.key = key) && decide (x.base = 0) && !x.done && decide (x.ws.length < 8)
set_option maxRecDepth 100000 in
set_option maxHeartbeats 8000000 in
theorem joins_any (w : World) (b o : Nat) (y : FV) (key : List UInt8) (h : FlAt w b o y) :
    Calls Try.prog 24 #[ptr b o, str key] w fun e w' => e = .returned (.bool (joinsF key y.1)) ∧ Below w.heap.size w w' := by
  obtain ⟨⟨fk, fs, fi, fb, fd, ft, fo, ws⟩, ⟨A, n, c⟩⟩ := y
  show Calls Try.prog 24 #[ptr b o, str key] w fun e w' => e = .returned (.bool (fs && decide (fk = key) && decide (fb = 0) && !fo && decide (ws.length < 8))) ∧ Below w.heap.size w w'
  have hn : ws.length = n := h.r.len
  have hal : Below w.heap.size w (w.alloc (.cells #[.pointer (some ⟨b, o, none⟩)] 61)) := (Below.refl _ _).alloc (Nat.le_refl _) _
  have x0 := box_at (heap_alloc_new w (.cells #[.pointer (some ⟨b, o, none⟩)] 61)) 0 _ rfl
  have hF := h.below hal
  have c0 : (w.alloc (.cells #[.pointer (some ⟨b, o, none⟩)] 61)).cell? ⟨b, o, none⟩ = some (str fk) := hF.c0
  have c1 : (w.alloc (.cells #[.pointer (some ⟨b, o, none⟩)] 61)).cell? ⟨b, o + 1, none⟩ = some (.bool fs) := hF.c1
  have c3 : (w.alloc (.cells #[.pointer (some ⟨b, o, none⟩)] 61)).cell? ⟨b, o + 3, none⟩ = some (.int .i64 fb) := hF.c3
  have c6 : (w.alloc (.cells #[.pointer (some ⟨b, o, none⟩)] 61)).cell? ⟨b, o + 6, none⟩ = some (.bool fo) := hF.c6
  have c7 : (w.alloc (.cells #[.pointer (some ⟨b, o, none⟩)] 61)).cell? ⟨b, o + 7, none⟩ = some (.slice A n c) := hF.c7
  have HAL := Lib.hid hal
  clear hF h hal
  go_enter Try.func24, Try.ntmps24
  go_upto_region 1 with fail
  generalize w.alloc (.cells #[.pointer (some ⟨b, o, none⟩)] 61) = U at *
  cases fs with
  | false =>
    go_wp2_with fail
    go_ret
    exact ⟨rfl, HAL.out⟩
  | true =>
    by_cases h1 : fk = key
    · subst h1
      by_cases h2 : fb = 0
      · subst h2
        cases fo with
        | true =>
          go_wp2_with fail
          go_ret
          exact ⟨ret_bool (by simp), HAL.out⟩
        | false =>
          by_cases h3 : (n : Int) < 8
          · go_wp2_with fail
            go_ret
            exact ⟨ret_bool (by simp; omega), HAL.out⟩
          · go_wp2_with fail
            go_ret
            exact ⟨ret_bool (by simp; omega), HAL.out⟩
      · have h2b : (fb == 0) = false := by simpa using h2
        go_wp2_with fail
        go_ret
        exact ⟨ret_bool (by simp [h2]), HAL.out⟩
    · have h1b : (fk == key) = false := by simpa using h1
      go_wp2_with fail
      go_ret
      exact ⟨ret_bool (by simp [h1]), HAL.out⟩

set_option maxHeartbeats 1600000 in
theorem begun_any (w : World) : PredB Try.prog 39 #[] Tm.v (fun t => decide (0 < t.at')) w := by
  intro W t hB
  obtain ⟨ti, ta⟩ := t
  show Calls Try.prog 39 #[.agg #[.int .i64 ti, .int .i64 ta]] W _
  have hal : Below W.heap.size W (W.alloc (.cells #[.int .i64 ti, .int .i64 ta] 47)) := (Below.refl _ _).alloc (Nat.le_refl _) _
  have q1 := box_at (heap_alloc_new W (.cells #[.int .i64 ti, .int .i64 ta] 47)) 1 _ rfl
  go_enter Try.func39, Try.ntmps39
  go_wp2_with fail
  go_ret
  exact ⟨ret_bool rfl, hal⟩

set_option maxRecDepth 100000 in
set_option maxHeartbeats 1600000 in
theorem late_any (w : World) (bx b o : Nat) (y : FV) (hb : w.heap[bx]? = some (.cells #[.pointer (some ⟨b, o, none⟩)] 61 (0, 0))) (h : FlAt w b o y) : PredB Try.prog 49 #[.pointer (some ⟨bx, 0, none⟩)] Tm.v (fun t => t.at' == y.1.base) w := by
  intro W t hB
  have hF := h.below hB
  obtain ⟨⟨fk, fs, fi, fb, fd, ft, fo, ws⟩, ⟨A, n, c⟩⟩ := y
  obtain ⟨ti, ta⟩ := t
  have hal : Below W.heap.size W (W.alloc (.cells #[.int .i64 ti, .int .i64 ta] 47)) := (Below.refl _ _).alloc (Nat.le_refl _) _
  have q1 : (W.alloc (.cells #[.int .i64 ti, .int .i64 ta] 47)).cell? ⟨W.heap.size, 1, none⟩ = some (.int .i64 ta) := box_at (heap_alloc_new W (.cells #[.int .i64 ti, .int .i64 ta] 47)) 1 _ rfl
  have q2 : (W.alloc (.cells #[.int .i64 ti, .int .i64 ta] 47)).cell? ⟨bx, 0, none⟩ = some (.pointer (some ⟨b, o, none⟩)) := box_at (keep hal (keep hB hb)) 0 _ rfl
  have q3 : (W.alloc (.cells #[.int .i64 ti, .int .i64 ta] 47)).cell? ⟨b, o + 3, none⟩ = some (.int .i64 fb) := (hF.below hal).c3
  have HAL := Lib.hid hal
  clear hal hF h hb hB
  show Calls Try.prog 49 #[.agg #[.int .i64 ti, .int .i64 ta], .pointer (some ⟨bx, 0, none⟩)] W _
  go_enter Try.func49, Try.ntmps49
  go_upto_region 1 with fail
  generalize W.alloc (.cells #[.int .i64 ti, .int .i64 ta] 47) = U at *
  go_quiet (fail)
  go_wp2_with fail
  go_ret
  exact ⟨ret_bool (by first | rfl | simp), pw_below_drewN HAL.out _⟩
end Go.Proofs.Ytipjhokhflokmaa
