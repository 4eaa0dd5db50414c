/- lockageref18.Fail (printed by mkAC.py). -/
import Derived.Test.YtipjhokhflokmaaAB
set_option linter.unusedVariables false
set_option linter.unusedSimpArgs false
namespace Go.Proofs.Ytipjhokhflokmaa
open Go.RowKit Go.Maps
open Go.Proofs.YtipjhokhflokmaaW.PrintWords

theorem RdE.at1 {w : World} {b o n c k : Nat} {xs : List Tm} (h : RdE tenc 2 w (.slice (some ⟨b, o, none⟩) n c) xs) {ti ta : Int} (ht : xs.take (k + 1) = xs.take k ++ [(⟨ti, ta⟩ : Tm)]) (hk : k < xs.length) : w.cell? ⟨b, o + k * 2 + 1, none⟩ = some (.int .i64 ta) := by
  have hx : xs[k]? = some (⟨ti, ta⟩ : Tm) := by
    have h1 := congrArg (fun l => l[k]?) ht
    simp only [List.getElem?_take] at h1
    rw [if_pos (Nat.lt_succ_self k), List.getElem?_append_right (by rw [List.length_take]; omega)] at h1
    rw [h1, List.length_take, Nat.min_eq_left (Nat.le_of_lt hk)]
    simp
  obtain ⟨b', o', hA, _, _, h2⟩ := h.tm hx
  injection hA with hA
  injection hA with e1 e2
  subst e1; subst e2
  exact h2
def zeroB (ws : List Tm) : Bool := ws.all (fun t => t.at' == 0)
theorem zeroB_snoc (ws : List Tm) (t : Tm) : zeroB (ws ++ [t]) = (zeroB ws && (t.at' == 0)) := by simp [zeroB]
theorem freshB_zero {room next most : Int} {x : Fl} (h : rightF room next x = true) : freshB most x = (((x.base == 0) && zeroB x.ws) && (!x.done && decide (x.tries < min most 5))) := by
  by_cases h0 : x.base = 0
  · have hz : zeroB x.ws = !(x.ws.any (fun t => decide (0 < t.at'))) := by
      rw [Bool.eq_iff_iff]
      unfold zeroB
      rw [List.all_eq_true, Bool.not_eq_true', List.any_eq_false]
      constructor
      · intro h2 t ht
        have := h2 t ht
        simp at this ⊢
        omega
      · intro h2 t ht
        obtain ⟨k, hk⟩ := List.getElem?_of_mem ht
        obtain ⟨_, g, _⟩ := right_t h hk
        have := h2 t ht
        simp at this ⊢
        omega
    unfold freshB
    rw [hz, decide_eq_true h0, beq_iff_eq.2 h0]
    simp only [Bool.true_and]
    cases x.ws.any (fun t => decide (0 < t.at')) <;> cases x.done <;> simp
  · unfold freshB
    have hb : (x.base == 0) = false := by simpa using h0
    rw [decide_eq_false h0, hb]
    simp

set_option maxRecDepth 100000 in
set_option maxHeartbeats 8000000 in
theorem rfail_any (w : World) (room next : Int) (A : Option Addr) (n c : Nat) (ys : List FV) (id most : Int) (hr : RdF w (.slice A n c) ys) (hs : SmF (fls ys)) :
    Calls Try.prog 35 #[fv room next (.slice A n c), .int .i64 id, .int .i64 most] w (FailPost w room next (failOp room next (fls ys) id most)) := by
  have hl : ys.length = n := hr.len
  have hn : n ≤ 1000 := by have := hs.n; rw [← hl]; simpa [fls] using this
  have hal1 : Below w.heap.size w (w.alloc (.cells #[.int .i64 room, .int .i64 next, .slice A n c] 26)) := (Below.refl _ _).alloc (Nat.le_refl _) _
  have hal2 : Below w.heap.size w ((w.alloc (.cells #[.int .i64 room, .int .i64 next, .slice A n c] 26)).alloc (.cells #[.int .i64 0, .int .i64 0, .slice none 0 0] 26)) := hal1.alloc (by simp) _
  have x1 : ((w.alloc (.cells #[.int .i64 room, .int .i64 next, .slice A n c] 26)).alloc (.cells #[.int .i64 0, .int .i64 0, .slice none 0 0] 26)).heap[w.heap.size]? = some (.cells #[.int .i64 room, .int .i64 next, .slice A n c] 26 (0, 0)) := keep ((Below.refl _ _).alloc (Nat.le_refl _) _) (heap_alloc_new w _)
  have x2 : ((w.alloc (.cells #[.int .i64 room, .int .i64 next, .slice A n c] 26)).alloc (.cells #[.int .i64 0, .int .i64 0, .slice none 0 0] 26)).heap[w.heap.size + 1]? = some (.cells #[.int .i64 0, .int .i64 0, .slice none 0 0] 26 (0, 0)) := by
    have := heap_alloc_new (w.alloc (.cells #[.int .i64 room, .int .i64 next, .slice A n c] 26)) (.cells #[.int .i64 0, .int .i64 0, .slice none 0 0] 26)
    rwa [show (w.alloc (.cells #[.int .i64 room, .int .i64 next, .slice A n c] 26)).heap.size = w.heap.size + 1 by simp] at this
  have HR0 := Lib.hid hr
  have HR := Lib.hid (hr.below hal2)
  have HS := Lib.hid hs
  clear hal1 hr hs
  go_enter Try.func35, Try.ntmps35
  go_upto_region 1 with fail
  generalize (w.alloc (.cells #[.int .i64 room, .int .i64 next, .slice A n c] 26)).alloc (.cells #[.int .i64 0, .int .i64 0, .slice none 0 0] 26) = U at *
  have HX1 := Lib.hid x1
  have HX2 := Lib.hid x2
  have HAL := Lib.hid hal2
  clear x1 x2 hal2
  have z0 : U.cell? ⟨w.heap.size, 0, none⟩ = some (.int .i64 room) := box_at HX1.out 0 _ rfl
  have z1 : U.cell? ⟨w.heap.size, 1, none⟩ = some (.int .i64 next) := box_at HX1.out 1 _ rfl
  have z2 : U.cell? ⟨w.heap.size, 2, none⟩ = some (.slice A n c) := box_at HX1.out 2 _ rfl
  have c37 := Lib.hid (rown_any U room next A n c ys HR.out hn HS.out.w')
  go_upto_region 2 with (go_at_call 37; refine c37.out.mono ?_; rintro e w2 ⟨A2, n2, c2, zs, rfl, hfz, hO2, hb2⟩)
  have hS := rf_setup HAL.out HX1.out HX2.out hO2 hb2
  clear z0 z1 z2 hO2 hb2 HX1 HX2 HAL HR c37
  generalize w2.alloc (.cells #[.int .i64 room, .int .i64 next, .slice A2 n2 c2] 26) = W3 at *
  generalize w2.heap.size = t6 at *
  have HSS := Lib.hid hS
  have HFZ := Lib.hid hfz
  clear hS hfz
  have y0 : W3.cell? ⟨w.heap.size, 0, none⟩ = some (.int .i64 room) := box_at HSS.out.bx 0 _ rfl
  have y1 : W3.cell? ⟨w.heap.size, 1, none⟩ = some (.int .i64 next) := box_at HSS.out.bx 1 _ rfl
  have y2 : W3.cell? ⟨w.heap.size, 2, none⟩ = some (.slice A n c) := box_at HSS.out.bx 2 _ rfl
  have C36 := Lib.hid (rright_any W3 room next A n c ys (HR0.out.below HSS.out.bw) hn)
  cases hq : rightS room next (fls ys) with
  | false =>
    have HE := Lib.hid (failOp1 hq id most)
    have HQ := Lib.hid hq; clear hq
    go_upto_region 3 with (go_at_call 36; refine C36.out.mono ?_; rw [HQ.out]; rintro e w4 ⟨rfl, hb4⟩; have HS4 := Lib.hid (HSS.out.below hb4); clear hb4)
    clear y0 y1 y2 C36
    have y0 : w4.cell? ⟨t6, 0, none⟩ = some (.int .i64 room) := box_at HS4.out.tp 0 _ rfl
    have y1 : w4.cell? ⟨t6, 1, none⟩ = some (.int .i64 next) := box_at HS4.out.tp 1 _ rfl
    have y2 : w4.cell? ⟨t6, 2, none⟩ = some (.slice A2 n2 c2) := box_at HS4.out.tp 2 _ rfl
    have s0 : w4.cell? ⟨w.heap.size + 1, 0, none⟩ = some (.int .i64 0) := box_at HS4.out.bz 0 _ rfl
    have s1 : w4.cell? ⟨w.heap.size + 1, 1, none⟩ = some (.int .i64 0) := box_at HS4.out.bz 1 _ rfl
    have s2 : w4.cell? ⟨w.heap.size + 1, 2, none⟩ = some (.slice none 0 0) := box_at HS4.out.bz 2 _ rfl
    have sf := box_free HS4.out.bz
    go_wp2_with fail
    have hfin := ret_own (room := room) (next := next) HS4.out.ow HS4.out.bw HS4.out.bz (Nat.le_succ _)
    refine bodyPost_ret (v := .tuple #[fv room next (.slice A2 n2 c2), .slice none 0 0, .bool false, .int .i64 1]) (by simp [results, Try.results35, go_sem, s0, s1, s2]) rfl ?_
    rw [HE.out]
    exact ⟨A2, n2, c2, zs, none, 0, 0, rfl, HFZ.out, hfin.1, OwE.nil iencL _ _ _, hfin.2⟩
  | true =>
    have HQ := Lib.hid hq
    have C52 := Lib.hid (fun W (hb : Below w.heap.size w W) => rfind_any W room next A n c ys id (HR0.out.below hb) (by omega))
    go_upto_region 4 with (go_at_call 36; refine C36.out.mono ?_; rw [HQ.out]; rintro e w4 ⟨rfl, hb4⟩; have HS4 := Lib.hid (HSS.out.below hb4); clear hb4)
    clear y0 y1 y2 C36
    have y0 : w4.cell? ⟨w.heap.size, 0, none⟩ = some (.int .i64 room) := box_at HS4.out.bx 0 _ rfl
    have y1 : w4.cell? ⟨w.heap.size, 1, none⟩ = some (.int .i64 next) := box_at HS4.out.bx 1 _ rfl
    have y2 : w4.cell? ⟨w.heap.size, 2, none⟩ = some (.slice A n c) := box_at HS4.out.bx 2 _ rfl
    by_cases hf : findF (fls ys) id < 0
    · have HE := Lib.hid (failOp5 hq hf most)
      have hf' : findG (fun x => x.id == id) (fls ys) < 0 := hf
      clear hq
      go_upto_region 6 with (go_at_call 52; refine (C52.out w4 HS4.out.bw).mono ?_; rintro e w5 ⟨rfl, hb5⟩; have HS5 := Lib.hid (HS4.out.below hb5); clear hb5)
      clear y0 y1 y2 C52
      have y0 : w5.cell? ⟨t6, 0, none⟩ = some (.int .i64 room) := box_at HS5.out.tp 0 _ rfl
      have y1 : w5.cell? ⟨t6, 1, none⟩ = some (.int .i64 next) := box_at HS5.out.tp 1 _ rfl
      have y2 : w5.cell? ⟨t6, 2, none⟩ = some (.slice A2 n2 c2) := box_at HS5.out.tp 2 _ rfl
      have s0 : w5.cell? ⟨w.heap.size + 1, 0, none⟩ = some (.int .i64 0) := box_at HS5.out.bz 0 _ rfl
      have s1 : w5.cell? ⟨w.heap.size + 1, 1, none⟩ = some (.int .i64 0) := box_at HS5.out.bz 1 _ rfl
      have s2 : w5.cell? ⟨w.heap.size + 1, 2, none⟩ = some (.slice none 0 0) := box_at HS5.out.bz 2 _ rfl
      have sf := box_free HS5.out.bz
      go_wp2_with fail
      have hfin := ret_own (room := room) (next := next) HS5.out.ow HS5.out.bw HS5.out.bz (Nat.le_succ _)
      refine bodyPost_ret (v := .tuple #[fv room next (.slice A2 n2 c2), .slice none 0 0, .bool false, .int .i64 5]) (by simp [results, Try.results35, go_sem, s0, s1, s2]) rfl ?_
      rw [HE.out]
      exact ⟨A2, n2, c2, zs, none, 0, 0, rfl, HFZ.out, hfin.1, OwE.nil iencL _ _ _, hfin.2⟩
    · obtain ⟨k, x, hk, hx, hp⟩ := findG_at hf
      have HE := Lib.hid (failOp0 hq hk hx most)
      have hrx := right_x hq hx
      have HFB := Lib.hid (freshB_zero (most := most) hrx)
      have hxw : x.ws.length ≤ 1000 := HS.out.w x (List.mem_of_getElem? hx)
      have hrn := rightF_num hrx
      unfold badF at hrn
      have hxt : x.tries ≤ 5 := by omega
      have hxt1 : 1 ≤ x.tries := by omega
      have hk' : findG (fun x => x.id == id) (fls ys) = (k : Int) := hk
      have HK' := Lib.hid hk'
      have hk0 : ¬ (k : Int) < 0 := by omega
      have HX := Lib.hid hx
      clear hf hp hq hk hk' hrx hrn hx
      go_upto_region 5 with (go_at_call 52; refine (C52.out w4 HS4.out.bw).mono ?_; rw [HK'.out]; rintro e w5 ⟨rfl, hb5⟩; have HS5 := Lib.hid (HS4.out.below hb5); clear hb5)
      clear y0 y1 y2 C52 HS4 HSS
      obtain ⟨S, hzk⟩ := fls_get HFZ.out HX.out
      obtain ⟨b, off, hA2, hlob, hF⟩ := HS5.out.ow.at_ hzk
      subst hA2
      obtain ⟨B, m, d⟩ := S
      have hzl0 : zs.length = n2 := HS5.out.ow.rd.len
      have hkn : k < n2 := by have := (List.getElem?_eq_some_iff.1 hzk).1; omega
      have hn2 : n2 ≤ 1000 := by have := HS.out.n; have h2 := fls_len HFZ.out; omega
      have hwl : x.ws.length = m := hF.r.len
      obtain ⟨cu1, hcu1⟩ := HS5.out.ow.o.typed b rfl
      obtain ⟨_, _, hAg, _, _, hnc2, _, _⟩ := HS5.out.ow.o.form (by omega)
      clear hAg
      have hk1 : (k : Int) < (n2 : Int) := by omega
      have hk9 : (k : Int) + 1 ≤ 1000 := by omega
      have NB0 := Lib.hid (show ¬ w.heap.size = b from blocks_ne (show (26 : TypeId) ≠ 45 by decide) HS5.out.bx hcu1)
      have NB1 := Lib.hid (show ¬ w.heap.size + 1 = b from blocks_ne (show (26 : TypeId) ≠ 45 by decide) HS5.out.bz hcu1)
      have NB6 := Lib.hid (show ¬ t6 = b from blocks_ne (show (26 : TypeId) ≠ 45 by decide) HS5.out.tp hcu1)
      have HLOB := Lib.hid hlob
      have HZK := Lib.hid hzk
      have HF5 := Lib.hid hF
      have HWR : Hid (RdE tenc 2 w5 (.slice B m d) x.ws) := Lib.hid hF.r
      have y2 : w5.cell? ⟨t6, 2, none⟩ = some (.slice (some ⟨b, off, none⟩) n2 c2) := box_at HS5.out.tp 2 _ rfl
      have k3 : w5.cell? ⟨b, off + k * 8 + 3, none⟩ = some (.int .i64 x.base) := hF.c3
      clear hzk hF hcu1 hlob
      obtain ⟨bz, hbz⟩ : ∃ bz, (x.base == 0) = bz := ⟨_, rfl⟩
      rw [hbz] at HFB
      go_upto_region 10 with fail
      clear y2 k3 hbz
      go_wp2_with fail
      go_loopg [13, 14, 15] m (fun gg s13 s14 s15 wr => ∃ (kk : Nat) (L : Option Addr) (l dl : Nat), kk ≤ m ∧ m - kk ≤ gg ∧ s13 = .slice L l dl ∧ s14 = .bool (bz && zeroB (x.ws.take kk)) ∧ s15 = .int .i64 kk ∧ Aside (Below w5.heap.size w5 wr ∧ OwE ienc 1 3 wr w5.heap.size (.slice L l dl) ((x.ws.take kk).map Tm.id)))
      case atStart => exact ⟨0, none, 0, 0, Nat.zero_le _, by omega, rfl, by simp [zeroB], rfl, (show Aside _ from ⟨Below.refl _ _, OwE.nil iencL _ _ _⟩)⟩
      case round =>
        obtain ⟨kk, L, l, dl, hkk, hg, rfl, rfl, rfl, HA⟩ := hrel
        obtain ⟨hB, hL⟩ := HA.out
        have HB := Lib.hid hB
        have HL := Lib.hid hL
        have hll := hL.rd.len
        rw [List.length_map, List.length_take] at hll
        have k7 : wr.cell? ⟨b, off + k * 8 + 7, none⟩ = some (.slice B m d) := (HF5.out.below hB).c7
        clear hB hL HA
        by_cases hlt : kk < m
        · have h1 : (kk : Int) < (m : Int) := by omega
          have ht : x.ws[kk]? = some (x.ws[kk]'(by omega)) := List.getElem?_eq_getElem _
          have hte : x.ws.take (kk + 1) = x.ws.take kk ++ [x.ws[kk]'(by omega)] := List.take_succ_eq_append_getElem (by omega)
          generalize x.ws[kk]'(by omega) = t at ht hte
          obtain ⟨b2, o2, rfl, _, j0, j1⟩ := (HWR.out.below HB.out).tm ht
          obtain ⟨ti, ta⟩ := t
          have HTE := Lib.hid hte
          clear ht hte
          have hal : Below wr.heap.size wr (wr.alloc (.cells #[.int .i64 ti] 3)) := (Below.refl _ _).alloc (Nat.le_refl _) _
          have HO := Lib.hid (HL.out.below hal)
          have HBU := Lib.hid (HB.out.trans (hal.mono HB.out.size))
          go_upto_region 14 with (at_builtin; refine wp_appE w5.heap.size rfl _ _ 34 3 (.int .i64 0) 8 rfl Try.underlying34 Try.info3 rfl (by omega) (by omega) (.slice L l dl) (.slice (some ⟨wr.heap.size, 0, none⟩) 1 1) _ [ti] rfl rfl HO.out (rd_boxE (enc := ienc) wr ti 3) ienc1 (by rw [List.length_map, List.length_take]; simp; omega) (by have := HBU.out.size; simpa using this) ?_; intro v1 w7 hv1 hg1 _; obtain ⟨F1, f1, g1, rfl⟩ := hv1.slice'; have hb7 : Below w5.heap.size w5 w7 := HBU.out.grown hg1 (by have := HBU.out.size; omega) (fun q hq => HO.out.lo q hq); have HV := Lib.hid hv1; have HB7 := Lib.hid hb7; have k7 : w7.cell? ⟨b, off + k * 8 + 7, none⟩ = some (.slice (some ⟨b2, o2, none⟩) m d) := (HF5.out.below hb7).c7; have j1 : w7.cell? ⟨b2, o2 + kk * 2 + 1, none⟩ = some (.int .i64 ta) := (RdE.at1 (HWR.out.below hb7) HTE.out (by omega)); clear hv1 hg1 hb7)
          clear hal
          cases hz : (bz && zeroB (x.ws.take kk)) with
          | false =>
            have HZ := Lib.hid hz
            clear hz
            go_wp2_with fail
            go_roundg (m - (kk + 1))
            case measure => omega
            case rel =>
              refine ⟨kk + 1, F1, f1, g1, by omega, by omega, rfl, ?_, by go_num, (show Aside _ from ⟨HB7.out, ?_⟩)⟩
              · rw [HTE.out, zeroB_snoc, ← Bool.and_assoc, HZ.out]
                rfl
              · rw [HTE.out, List.map_append]
                have hv := HV.out
                exact hv
          | true =>
            have HZ := Lib.hid hz
            clear hz
            go_wp2_with fail
            go_roundg (m - (kk + 1))
            case measure => omega
            case rel =>
              refine ⟨kk + 1, F1, f1, g1, by omega, by omega, rfl, ?_, by go_num, (show Aside _ from ⟨HB7.out, ?_⟩)⟩
              · rw [HTE.out, zeroB_snoc, ← Bool.and_assoc, HZ.out]
                rfl
              · rw [HTE.out, List.map_append]
                have hv := HV.out
                exact hv
        · have h1 : ¬ (kk : Int) < (m : Int) := by omega
          have htk : x.ws.take kk = x.ws := List.take_of_length_le (by omega)
          rw [htk] at HL ⊢
          obtain ⟨F, hF⟩ : ∃ F, (bz && zeroB x.ws) = F := ⟨_, rfl⟩
          rw [hF] at HFB ⊢
          have HS6 := Lib.hid (HS5.out.below HB.out)
          have HZ6 := Lib.hid (HF5.out.below HB.out)
          clear htk hF
          go_upto_region 15 with fail
          clear k7 h1
          have k5 : wr.cell? ⟨b, off + k * 8 + 5, none⟩ = some (.int .i64 x.tries) := HZ6.out.c5
          have k6 : wr.cell? ⟨b, off + k * 8 + 6, none⟩ = some (.bool x.done) := HZ6.out.c6
          go_cut [85] from 69 to 85 (fun s85 wx => s85 = .bool (freshB most x) ∧ wx = wr)
          case first =>
            cases F with
            | false =>
              have hv := Lib.hid (show freshB most x = false by rw [HFB.out]; rfl)
              go_wp2_with fail
              go_meet
              exact ⟨by rw [hv.out], rfl⟩
            | true =>
              cases e2 : x.done with
              | true =>
                have hv := Lib.hid (show freshB most x = false by rw [HFB.out, e2]; simp)
                rw [e2] at k6
                clear e2
                go_wp2_with fail
                go_meet
                exact ⟨by rw [hv.out], rfl⟩
              | false =>
                rw [e2] at k6
                by_cases e3 : x.tries < min most 5
                · have hv := Lib.hid (show freshB most x = true by rw [HFB.out, e2, decide_eq_true e3]; rfl)
                  have e3a : x.tries < most := by omega
                  have e3c : x.tries < 5 := by omega
                  clear e2 e3
                  go_wp2_with fail
                  all_goals go_meet
                  all_goals exact ⟨by rw [hv.out], rfl⟩
                · have hv := Lib.hid (show freshB most x = false by rw [HFB.out, e2, decide_eq_false e3]; rfl)
                  clear e2
                  by_cases e5 : most ≤ 5
                  · have e6 : ¬ x.tries < most := by omega
                    clear e3
                    go_wp2_with fail
                    all_goals go_meet
                    all_goals exact ⟨by rw [hv.out], rfl⟩
                  · have e6 : ¬ x.tries < 5 := by omega
                    clear e3
                    go_wp2_with fail
                    all_goals go_meet
                    all_goals (refine ⟨?_, rfl⟩; rw [hv.out]; try exact congrArg Value.bool (decide_eq_false (by omega)))
          case rest =>
            obtain ⟨rfl, rfl⟩ := hcut
            clear k6
            cases hfr : freshB most x with
            | true =>
              have HE2 := Lib.hid (HE.out.trans (if_pos hfr))
              have k4 := HS6.out.ow.cell HZK.out (j := 4) (v := str x.data) rfl
              have f4 := k4.2
              replace k4 := k4.1
              clear hfr k5
              go_upto_region 17 with fail
              have HS7 := Lib.hid (HS6.out.put rfl (HS6.out.ow.put1 (x' := { x with data := [] }) HZK.out 4 (by decide) (v := str []) rfl rfl))
              have hzk5 : (zs.set k ({ x with data := [] }, (⟨B, m, d⟩ : Sl)))[k]? = some ({ x with data := [] }, (⟨B, m, d⟩ : Sl)) := List.getElem?_set_self (by omega)
              have HZK5 := Lib.hid hzk5
              clear k4 f4 hzk5
              change Code.wp _ _ _ _ (wc.setCell ⟨b, off + k * 8 + 4, none⟩ (str []))
              generalize wc.setCell ⟨b, off + k * 8 + 4, none⟩ (str []) = W7 at *
              have k5 := HS7.out.ow.cell HZK5.out (j := 5) (v := .int .i64 x.tries) rfl
              have f5 := k5.2
              replace k5 := k5.1
              go_upto_region 18 with fail
              have HS8 := Lib.hid (HS7.out.put rfl (HS7.out.ow.put1 (x' := { x with data := [], tries := x.tries + 1 }) HZK5.out 5 (by decide) (v := .int .i64 (x.tries + 1)) rfl rfl))
              have hfs : fls ((zs.set k ({ x with data := [] }, (⟨B, m, d⟩ : Sl))).set k ({ x with data := [], tries := x.tries + 1 }, (⟨B, m, d⟩ : Sl))) = (fls ys).set k { x with data := [], tries := x.tries + 1 } := by
                rw [fls_set (fls_set HFZ.out k _ _), List.set_set]
              have HFS := Lib.hid hfs
              clear k5 f5 hfs
              generalize W7.setCell ⟨b, off + k * 8 + 5, none⟩ (.int .i64 (x.tries + 1)) = W8 at *
              have y0 : W8.cell? ⟨t6, 0, none⟩ = some (.int .i64 room) := box_at HS8.out.tp 0 _ rfl
              have y1 : W8.cell? ⟨t6, 1, none⟩ = some (.int .i64 next) := box_at HS8.out.tp 1 _ rfl
              have y2 : W8.cell? ⟨t6, 2, none⟩ = some (.slice (some ⟨b, off, none⟩) n2 c2) := box_at HS8.out.tp 2 _ rfl
              have s0 : W8.cell? ⟨w.heap.size + 1, 0, none⟩ = some (.int .i64 0) := box_at HS8.out.bz 0 _ rfl
              have s1 : W8.cell? ⟨w.heap.size + 1, 1, none⟩ = some (.int .i64 0) := box_at HS8.out.bz 1 _ rfl
              have s2 : W8.cell? ⟨w.heap.size + 1, 2, none⟩ = some (.slice none 0 0) := box_at HS8.out.bz 2 _ rfl
              have sf := box_free HS8.out.bz
              go_wp2_with fail
              have hfin := ret_own (room := room) (next := next) HS8.out.ow HS8.out.bw HS8.out.bz (Nat.le_succ _)
              refine bodyPost_ret (v := .tuple #[fv room next (.slice (some ⟨b, off, none⟩) n2 c2), .slice none 0 0, .bool true, .int .i64 0]) (by simp [results, Try.results35, go_sem, s0, s1, s2]) rfl ?_
              rw [HE2.out]
              exact ⟨_, n2, c2, _, none, 0, 0, rfl, HFS.out, hfin.1, OwE.nil iencL _ _ _, hfin.2⟩
            | false =>
              have HE2 := Lib.hid (HE.out.trans (if_neg (by rw [hfr]; decide)))
              clear hfr k5
              have y2 : wc.cell? ⟨t6, 2, none⟩ = some (.slice (some ⟨b, off, none⟩) n2 c2) := box_at HS6.out.tp 2 _ rfl
              have q4 : (k : Int) + 1 ≤ (n2 : Int) := by omega
              have q5 : (n2 : Int) ≤ (c2 : Int) := by omega
              have q6 : (k : Int) ≤ (c2 : Int) := by omega
              obtain ⟨i45, hi45⟩ : ∃ i, Try.prog.info? 45 = some i := by
                cases h : Try.prog.info? 45 with
                | none => have := Try.info45; rw [h] at this; simp at this
                | some i => exact ⟨i, rfl⟩
              have hsz45 : i45.size = 8 := by have := Try.info45; rw [hi45] at this; simp only [Option.map_some, Option.some.injEq, Prod.mk.injEq] at this; exact this.2.1
              have hsl := cut_from (P := Try.prog) 24 45 .i64 Try.underlying24 hi45 8 hsz45 (some ⟨b, off, none⟩) n2 c2 ((k : Int) + 1) (by omega) (by omega)
              rw [show ((k : Int) + 1).toNat = k + 1 by omega] at hsl
              have htk := HS6.out.ow.o.take k (by omega)
              have hdr := (HS6.out.ow.o.drop (k + 1) (by omega)).rd
              generalize (if c2 = k + 1 then (some (⟨b, off, none⟩ : Addr)) else (some (⟨b, off, none⟩ : Addr)).map (fun x => x.add ((k + 1) * 8))) = A7 at hsl hdr
              have HTK2 := Lib.hid htk
              have HDR2 := Lib.hid hdr
              have hdl2 := hdr.len
              clear hi45 hsz45 htk hdr
              go_upto_region 19 with fail
              have hd2 : Below wc.heap.size wc wc.drew := below_drew (Below.refl _ _)
              have hiw : IntKind.i64.wrap ((k : Int) + 1) = (k : Int) + 1 := by rw [IntKind.wrap_i64]; omega
              go_region_law (refine wp_app_stepE_room w.heap.size rfl _ _ 24 45 (.agg #[.string ⟨#[]⟩, .bool false, .int .i64 0, .int .i64 0, .string ⟨#[]⟩, .int .i64 0, .bool false, .slice none 0 0]) 96 rfl Try.underlying24 Try.info45 (by omega) (b := b) (off := off) (n := k) (c := c2) (.slice A7 (n2 - (k + 1)) (c2 - (k + 1))) _ _ (by rfl) (by rfl) (HTK2.out.below hd2) (HDR2.out.below hd2) fenc1 (by omega) ?_; intro w9 hO9 hg9; rw [hdl2, show k + (n2 - (k + 1)) = n2 - 1 by omega] at hO9; rw [hdl2, show k + (n2 - (k + 1)) = n2 - 1 by omega]; have HO9 := Lib.hid hO9; have HG9 := Lib.hid (show wc.grownBy w9 (some b) from ⟨hg9.os, hg9.tape, hg9.output, hg9.size, hg9.block⟩); have hx9 : w9.heap[t6]? = some (.cells #[.int .i64 room, .int .i64 next, .slice (some ⟨b, off, none⟩) n2 c2] 26 (0, 0)) := (HG9.out.block _ (Array.getElem?_eq_some_iff.1 HS6.out.tp).1 (fun he => NB6.out (Option.some.inj he))).trans HS6.out.tp; have z9 : w9.cell? ⟨t6, 2, none⟩ = some (.slice (some ⟨b, off, none⟩) n2 c2) := box_at hx9 2 _ rfl; have f9 : w9.frozen? ⟨t6, 2, none⟩ = false := box_free hx9 2; have HX9 := Lib.hid hx9; clear hO9 hg9 hx9 y2)
              all_goals
                clear hsl hd2 hiw
                go_upto_region 20 with fail
                have hown := HS6.out.ow.del k HO9.out HG9.out
                have hbz9 : w9.heap[w.heap.size + 1]? = _ := (HG9.out.block _ (Array.getElem?_eq_some_iff.1 HS6.out.bz).1 (fun he => NB1.out (Option.some.inj he))).trans HS6.out.bz
                have hbx9 : w9.heap[w.heap.size]? = _ := (HG9.out.block _ (Array.getElem?_eq_some_iff.1 HS6.out.bx).1 (fun he => NB0.out (Option.some.inj he))).trans HS6.out.bx
                have ht6 := HS6.out.t6
                have hS9 : RfS w (w9.setCell ⟨t6, 2, none⟩ (.slice (some ⟨b, off, none⟩) (n2 - 1) c2)) t6 room next (.slice A n c) (.slice (some ⟨b, off, none⟩) (n2 - 1) c2) _ :=
                  ⟨(Below.heap_setCell _ _ _ _ (by simp; omega)).trans hbx9, (Below.heap_setCell _ _ _ _ (by simp; omega)).trans hbz9, bx_set HX9.out, OwF.far hown HX9.out (by decide) (by decide) _ _, (HS6.out.bw.grown HG9.out HS6.out.bw.size (fun q hq => by cases hq; exact HLOB.out)).setCell (by simp; omega) _, ht6⟩
                obtain ⟨cu6, hcu6⟩ := HS6.out.ow.o.typed b rfl
                have hL8 : OwE ienc 1 3 w9 w.heap.size (.slice L l dl) (x.ws.map Tm.id) := (HL.out.lower HS5.out.bw.size).grown HG9.out (fun q hq he => by
                  cases he
                  obtain ⟨cs, hcs⟩ := HL.out.typed _ hq
                  exact blocks_ne (show (3 : TypeId) ≠ 45 by decide) hcs hcu6 rfl)
                have HL9 := Lib.hid (ints_far hL8 HX9.out (by decide) 2 (.slice (some ⟨b, off, none⟩) (n2 - 1) c2))
                have HS9 := Lib.hid hS9
                have hfz9 : fls (cutAt zs k) = cutAt (fls ys) k := by
                  unfold fls
                  rw [cutAt_map]
                  have := HFZ.out
                  unfold fls at this
                  rw [this]
                have HF9 := Lib.hid hfz9
                clear hown hbz9 hbx9 hS9 z9 f9 hfz9 hL8 hcu6
                generalize w9.setCell ⟨t6, 2, none⟩ (.slice (some ⟨b, off, none⟩) (n2 - 1) c2) = W9 at *
                have y0 : W9.cell? ⟨t6, 0, none⟩ = some (.int .i64 room) := box_at HS9.out.tp 0 _ rfl
                have y1 : W9.cell? ⟨t6, 1, none⟩ = some (.int .i64 next) := box_at HS9.out.tp 1 _ rfl
                have y2 : W9.cell? ⟨t6, 2, none⟩ = some (.slice (some ⟨b, off, none⟩) (n2 - 1) c2) := box_at HS9.out.tp 2 _ rfl
                have s0 : W9.cell? ⟨w.heap.size + 1, 0, none⟩ = some (.int .i64 0) := box_at HS9.out.bz 0 _ rfl
                have s1 : W9.cell? ⟨w.heap.size + 1, 1, none⟩ = some (.int .i64 0) := box_at HS9.out.bz 1 _ rfl
                have s2 : W9.cell? ⟨w.heap.size + 1, 2, none⟩ = some (.slice none 0 0) := box_at HS9.out.bz 2 _ rfl
                have sf := box_free HS9.out.bz
                go_wp2_with fail
                have hfin := ret_own (room := room) (next := next) HS9.out.ow HS9.out.bw HS9.out.bz (Nat.le_succ _)
                refine bodyPost_ret (v := .tuple #[fv room next (.slice (some ⟨b, off, none⟩) (n2 - 1) c2), .slice L l dl, .bool false, .int .i64 0]) (by simp [results, Try.results35, go_sem, s0, s1, s2]) rfl ?_
                rw [HE2.out]
                exact ⟨_, n2 - 1, c2, _, L, l, dl, rfl, HF9.out, hfin.1, (ints_st3 HL9.out HS9.out.bz), hfin.2⟩
end Go.Proofs.Ytipjhokhflokmaa
