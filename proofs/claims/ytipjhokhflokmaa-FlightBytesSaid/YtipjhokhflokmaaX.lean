/- lockageref18.Take (printed by mkX.py). -/
import Derived.Test.YtipjhokhflokmaaV
set_option linter.unusedVariables false
set_option linter.unusedSimpArgs false
namespace Go.Proofs.Ytipjhokhflokmaa
open Go.RowKit Go.Maps
open Go.Proofs.YtipjhokhflokmaaW.PrintWords

set_option maxRecDepth 100000 in
set_option maxHeartbeats 16000000 in
theorem rtake_any (w : World) (room next : Int) (A : Option Addr) (n c : Nat) (ys : List FV) (wt cnt : Int) (hr : RdF w (.slice A n c) ys) (hs : SmF (fls ys)) :
    Calls Try.prog 32 #[fv room next (.slice A n c), .int .i64 wt, .int .i64 cnt] w (OpPost w room next (takeOp room next (fls ys) wt cnt).1 [str (takeOp room next (fls ys) wt cnt).2.1, .bool (takeOp room next (fls ys) wt cnt).2.2.1, .int .i64 (takeOp room next (fls ys) wt cnt).2.2.2]) := by
  have hl : ys.length = n := hr.len
  have hn : n ≤ 1000 := by have := hs.n; rw [← hl]; simpa [fls] using this
  have hal1 : Below w.heap.size w (w.alloc (.cells #[.int .i64 room, .int .i64 next, .slice A n c] 26)) := (Below.refl _ _).alloc (Nat.le_refl _) _
  have hal2 : Below w.heap.size w ((w.alloc (.cells #[.int .i64 room, .int .i64 next, .slice A n c] 26)).alloc (.cells #[.int .i64 0, .int .i64 0, .slice none 0 0] 26)) := hal1.alloc (by simp) _
  have x1 : ((w.alloc (.cells #[.int .i64 room, .int .i64 next, .slice A n c] 26)).alloc (.cells #[.int .i64 0, .int .i64 0, .slice none 0 0] 26)).heap[w.heap.size]? = some (.cells #[.int .i64 room, .int .i64 next, .slice A n c] 26 (0, 0)) := keep ((Below.refl _ _).alloc (Nat.le_refl _) _) (heap_alloc_new w _)
  have x2 : ((w.alloc (.cells #[.int .i64 room, .int .i64 next, .slice A n c] 26)).alloc (.cells #[.int .i64 0, .int .i64 0, .slice none 0 0] 26)).heap[w.heap.size + 1]? = some (.cells #[.int .i64 0, .int .i64 0, .slice none 0 0] 26 (0, 0)) := by
    have := heap_alloc_new (w.alloc (.cells #[.int .i64 room, .int .i64 next, .slice A n c] 26)) (.cells #[.int .i64 0, .int .i64 0, .slice none 0 0] 26)
    rwa [show (w.alloc (.cells #[.int .i64 room, .int .i64 next, .slice A n c] 26)).heap.size = w.heap.size + 1 by simp] at this
  have HR0 := Lib.hid hr
  have HR := Lib.hid (hr.below hal2)
  have HS := Lib.hid hs
  clear hal1 hr hs
  go_enter Try.func32, Try.ntmps32
  go_upto_region 1 with fail
  generalize (w.alloc (.cells #[.int .i64 room, .int .i64 next, .slice A n c] 26)).alloc (.cells #[.int .i64 0, .int .i64 0, .slice none 0 0] 26) = U at *
  have HX1 := Lib.hid x1
  have HX2 := Lib.hid x2
  have HAL := Lib.hid hal2
  clear x1 x2 hal2
  have z0 : U.cell? ⟨w.heap.size, 0, none⟩ = some (.int .i64 room) := box_at HX1.out 0 _ rfl
  have z1 : U.cell? ⟨w.heap.size, 1, none⟩ = some (.int .i64 next) := box_at HX1.out 1 _ rfl
  have z2 : U.cell? ⟨w.heap.size, 2, none⟩ = some (.slice A n c) := box_at HX1.out 2 _ rfl
  have c37 := Lib.hid (rown_any U room next A n c ys HR.out hn HS.out.w')
  go_upto_region 2 with (go_at_call 37; refine c37.out.mono ?_; rintro e w2 ⟨A2, n2, c2, zs, rfl, hfz, hO2, hb2⟩)
  have hS := rf_setup HAL.out HX1.out HX2.out hO2 hb2
  clear z0 z1 z2 hO2 hb2 HX1 HX2 HAL HR c37
  generalize w2.alloc (.cells #[.int .i64 room, .int .i64 next, .slice A2 n2 c2] 26) = W3 at *
  generalize w2.heap.size = t6 at *
  have HSS := Lib.hid hS
  have HFZ := Lib.hid hfz
  clear hS hfz
  have y0 : W3.cell? ⟨w.heap.size, 0, none⟩ = some (.int .i64 room) := box_at HSS.out.bx 0 _ rfl
  have y1 : W3.cell? ⟨w.heap.size, 1, none⟩ = some (.int .i64 next) := box_at HSS.out.bx 1 _ rfl
  have y2 : W3.cell? ⟨w.heap.size, 2, none⟩ = some (.slice A n c) := box_at HSS.out.bx 2 _ rfl
  have C36 := Lib.hid (rright_any W3 room next A n c ys (HR0.out.below HSS.out.bw) hn)
  by_cases hbad : rightS room next (fls ys) = false ∨ cnt < 0
  · have HE := Lib.hid (takeOp1 hbad wt)
    cases hq : rightS room next (fls ys) with
    | false =>
      have HQ := Lib.hid hq; clear hq hbad
      go_upto_region 3 with (go_at_call 36; refine C36.out.mono ?_; rw [HQ.out]; rintro e w4 ⟨rfl, hb4⟩; have HS4 := Lib.hid (HSS.out.below hb4); clear hb4)
      clear y0 y1 y2 C36
      have y0 : w4.cell? ⟨t6, 0, none⟩ = some (.int .i64 room) := box_at HS4.out.tp 0 _ rfl
      have y1 : w4.cell? ⟨t6, 1, none⟩ = some (.int .i64 next) := box_at HS4.out.tp 1 _ rfl
      have y2 : w4.cell? ⟨t6, 2, none⟩ = some (.slice A2 n2 c2) := box_at HS4.out.tp 2 _ rfl
      have s0 : w4.cell? ⟨w.heap.size + 1, 0, none⟩ = some (.int .i64 0) := box_at HS4.out.bz 0 _ rfl
      have s1 : w4.cell? ⟨w.heap.size + 1, 1, none⟩ = some (.int .i64 0) := box_at HS4.out.bz 1 _ rfl
      have s2 : w4.cell? ⟨w.heap.size + 1, 2, none⟩ = some (.slice none 0 0) := box_at HS4.out.bz 2 _ rfl
      have sf := box_free HS4.out.bz
      go_wp2_with fail
      have hfin := ret_own (room := room) (next := next) HS4.out.ow HS4.out.bw HS4.out.bz (Nat.le_succ _)
      refine bodyPost_ret (v := .tuple #[fv room next (.slice A2 n2 c2), str [], .bool false, .int .i64 1]) (by simp [results, Try.results32, go_sem, s0, s1, s2]) rfl ?_
      rw [HE.out]
      exact ⟨A2, n2, c2, zs, rfl, HFZ.out, hfin.1, hfin.2⟩
    | true =>
      have HQ := Lib.hid hq
      have hc0 : cnt < 0 := by
        rcases hbad with h | h
        · rw [h] at hq; cases hq
        · exact h
      clear hq hbad
      go_upto_region 3 with (go_at_call 36; refine C36.out.mono ?_; rw [HQ.out]; rintro e w4 ⟨rfl, hb4⟩; have HS4 := Lib.hid (HSS.out.below hb4); clear hb4)
      clear y0 y1 y2 C36
      have y0 : w4.cell? ⟨t6, 0, none⟩ = some (.int .i64 room) := box_at HS4.out.tp 0 _ rfl
      have y1 : w4.cell? ⟨t6, 1, none⟩ = some (.int .i64 next) := box_at HS4.out.tp 1 _ rfl
      have y2 : w4.cell? ⟨t6, 2, none⟩ = some (.slice A2 n2 c2) := box_at HS4.out.tp 2 _ rfl
      have s0 : w4.cell? ⟨w.heap.size + 1, 0, none⟩ = some (.int .i64 0) := box_at HS4.out.bz 0 _ rfl
      have s1 : w4.cell? ⟨w.heap.size + 1, 1, none⟩ = some (.int .i64 0) := box_at HS4.out.bz 1 _ rfl
      have s2 : w4.cell? ⟨w.heap.size + 1, 2, none⟩ = some (.slice none 0 0) := box_at HS4.out.bz 2 _ rfl
      have sf := box_free HS4.out.bz
      go_wp2_with fail
      have hfin := ret_own (room := room) (next := next) HS4.out.ow HS4.out.bw HS4.out.bz (Nat.le_succ _)
      refine bodyPost_ret (v := .tuple #[fv room next (.slice A2 n2 c2), str [], .bool false, .int .i64 1]) (by simp [results, Try.results32, go_sem, s0, s1, s2]) rfl ?_
      rw [HE.out]
      exact ⟨A2, n2, c2, zs, rfl, HFZ.out, hfin.1, hfin.2⟩
  · have hq : rightS room next (fls ys) = true := by
      cases h : rightS room next (fls ys) with
      | false => exact absurd (.inl h) hbad
      | true => rfl
    have hc0 : ¬ cnt < 0 := fun h => hbad (.inr h)
    have HQ := Lib.hid hq
    have C38 := Lib.hid (fun W (hb : Below w.heap.size w W) => rwaits_any W room next A n c ys wt (HR0.out.below hb) hn HS.out.w')
    have HBAD := Lib.hid hbad
    clear hq hbad
    go_upto_region 4 with (go_at_call 36; refine C36.out.mono ?_; rw [HQ.out]; rintro e w4 ⟨rfl, hb4⟩; have HS4 := Lib.hid (HSS.out.below hb4); clear hb4)
    clear y0 y1 y2 C36
    have y0 : w4.cell? ⟨w.heap.size, 0, none⟩ = some (.int .i64 room) := box_at HS4.out.bx 0 _ rfl
    have y1 : w4.cell? ⟨w.heap.size, 1, none⟩ = some (.int .i64 next) := box_at HS4.out.bx 1 _ rfl
    have y2 : w4.cell? ⟨w.heap.size, 2, none⟩ = some (.slice A n c) := box_at HS4.out.bx 2 _ rfl
    by_cases hwt : (waitsS (fls ys) wt).1 < 0
    · have HE := Lib.hid (takeOp5 HBAD.out hwt)
      obtain ⟨i1, hi1⟩ : ∃ i1, (waitsS (fls ys) wt).1 = i1 := ⟨_, rfl⟩
      rw [hi1] at hwt
      have HI1 := Lib.hid hi1
      clear hi1
      go_upto_region 6 with (go_at_call 38; refine (C38.out w4 HS4.out.bw).mono ?_; rw [HI1.out]; rintro e w5 ⟨rfl, hb5⟩; have HS5 := Lib.hid (HS4.out.below hb5); clear hb5)
      clear y0 y1 y2 C38
      have y0 : w5.cell? ⟨t6, 0, none⟩ = some (.int .i64 room) := box_at HS5.out.tp 0 _ rfl
      have y1 : w5.cell? ⟨t6, 1, none⟩ = some (.int .i64 next) := box_at HS5.out.tp 1 _ rfl
      have y2 : w5.cell? ⟨t6, 2, none⟩ = some (.slice A2 n2 c2) := box_at HS5.out.tp 2 _ rfl
      have s0 : w5.cell? ⟨w.heap.size + 1, 0, none⟩ = some (.int .i64 0) := box_at HS5.out.bz 0 _ rfl
      have s1 : w5.cell? ⟨w.heap.size + 1, 1, none⟩ = some (.int .i64 0) := box_at HS5.out.bz 1 _ rfl
      have s2 : w5.cell? ⟨w.heap.size + 1, 2, none⟩ = some (.slice none 0 0) := box_at HS5.out.bz 2 _ rfl
      have sf := box_free HS5.out.bz
      go_wp2_with fail
      have hfin := ret_own (room := room) (next := next) HS5.out.ow HS5.out.bw HS5.out.bz (Nat.le_succ _)
      refine bodyPost_ret (v := .tuple #[fv room next (.slice A2 n2 c2), str [], .bool false, .int .i64 5]) (by simp [results, Try.results32, go_sem, s0, s1, s2]) rfl ?_
      rw [HE.out]
      exact ⟨A2, n2, c2, zs, rfl, HFZ.out, hfin.1, hfin.2⟩
    · obtain ⟨i, k, x, t, hw1, hx, ht, hti⟩ := waitsS_at hwt
      have HE := Lib.hid (takeOp0 HBAD.out hw1 hx ht)
      have hrx := right_x HQ.out hx
      obtain ⟨_, g1, g2⟩ := right_t hrx ht
      obtain ⟨hok0, hok1, hok2⟩ := right_ok HQ.out hrx
      have HW1 := Lib.hid hw1
      have HX := Lib.hid hx
      have HT := Lib.hid ht
      clear hwt hw1 hx ht hti hrx
      go_upto_region 5 with (go_at_call 38; refine (C38.out w4 HS4.out.bw).mono ?_; rw [HW1.out]; rintro e w5 ⟨rfl, hb5⟩; have HS5 := Lib.hid (HS4.out.below hb5); clear hb5)
      clear y0 y1 y2 C38 HS4 HSS
      obtain ⟨S0, hyk⟩ := fls_get (fs := fls ys) rfl HX.out
      obtain ⟨b0, off0, hA0, hF0⟩ := HR0.out.at_ hyk
      subst hA0
      obtain ⟨B0, m0, d0⟩ := S0
      have hF5 := hF0.below HS5.out.bw
      have hin0 : i < n := by have := (List.getElem?_eq_some_iff.1 hyk).1; omega
      have hwl0 : x.ws.length = m0 := hF0.r.len
      have hkm0 : k < m0 := by have := (List.getElem?_eq_some_iff.1 HT.out).1; omega
      have hi0 : ¬ (i : Int) < 0 := by omega
      have hi1 : (i : Int) < (n : Int) := by omega
      have hk0 : (k : Int) < (m0 : Int) := by omega
      have k0 : w5.cell? ⟨b0, off0 + i * 8, none⟩ = some (str x.key) := hF5.c0
      have k1 : w5.cell? ⟨b0, off0 + i * 8 + 1, none⟩ = some (.bool x.sh) := hF5.c1
      have k2 : w5.cell? ⟨b0, off0 + i * 8 + 2, none⟩ = some (.int .i64 x.id) := hF5.c2
      have k3 : w5.cell? ⟨b0, off0 + i * 8 + 3, none⟩ = some (.int .i64 x.base) := hF5.c3
      have k4 : w5.cell? ⟨b0, off0 + i * 8 + 4, none⟩ = some (str x.data) := hF5.c4
      have k5 : w5.cell? ⟨b0, off0 + i * 8 + 5, none⟩ = some (.int .i64 x.tries) := hF5.c5
      have k6 : w5.cell? ⟨b0, off0 + i * 8 + 6, none⟩ = some (.bool x.done) := hF5.c6
      have k7 : w5.cell? ⟨b0, off0 + i * 8 + 7, none⟩ = some (.slice B0 m0 d0) := hF5.c7
      have y2 : w5.cell? ⟨w.heap.size, 2, none⟩ = some (.slice (some ⟨b0, off0, none⟩) n c) := box_at HS5.out.bx 2 _ rfl
      have hW0 : RdE tenc 2 w (.slice B0 m0 d0) x.ws := hF0.r
      have HW0 := Lib.hid hW0
      clear hF0 hF5 hyk hW0
      go_upto_region 8 with fail
      have hal6 : Below w5.heap.size w5 (w5.alloc (.cells #[str x.key, .bool x.sh, .int .i64 x.id, .int .i64 x.base, str x.data, .int .i64 x.tries, .bool x.done, .slice B0 m0 d0] 45)) := (Below.refl _ _).alloc (Nat.le_refl _) _
      have x6 := heap_alloc_new w5 (.cells #[str x.key, .bool x.sh, .int .i64 x.id, .int .i64 x.base, str x.data, .int .i64 x.tries, .bool x.done, .slice B0 m0 d0] 45)
      have HS6 := Lib.hid (HS5.out.below hal6)
      have HX6 := Lib.hid x6
      have nT1 : ¬ w5.heap.size = w.heap.size + 1 := by have := (Array.getElem?_eq_some_iff.1 HS5.out.bz).1; omega
      have hT5 : ∀ (k : Nat) o, w5.heap[k]? = some o → k < w5.heap.size := fun k o h => (Array.getElem?_eq_some_iff.1 h).1
      clear hal6 x6 y2 k0 k1 k2 k3 k4 k5 k6 k7
      generalize w5.alloc (.cells #[str x.key, .bool x.sh, .int .i64 x.id, .int .i64 x.base, str x.data, .int .i64 x.tries, .bool x.done, .slice B0 m0 d0] 45) = W6 at *
      obtain ⟨S, hzk⟩ := fls_get HFZ.out HX.out
      obtain ⟨b, off, hA2, hlob, hF⟩ := HS5.out.ow.at_ hzk
      subst hA2
      obtain ⟨B, m, d⟩ := S
      have hzl : zs.length = n2 := HS5.out.ow.rd.len
      have hin : i < n2 := by have := (List.getElem?_eq_some_iff.1 hzk).1; omega
      have hi2 : (i : Int) < (n2 : Int) := by omega
      have hwl : x.ws.length = m := hF.r.len
      have hkm : k < m := by omega
      have hk1 : (k : Int) < (m : Int) := by omega
      obtain ⟨b2, o2, hB, _, _, _⟩ := hF.r.tm HT.out
      subst hB
      have hO2 : OwE tenc 2 47 w5 w.heap.size (.slice (some ⟨b2, o2, none⟩) m d) x.ws := HS5.out.ow.r i _ hzk
      have hlo2 := hO2.lo b2 rfl
      obtain ⟨cu2, hcu2⟩ := hO2.typed b2 rfl
      have nTb : ¬ w5.heap.size = b2 := by have := hT5 b2 _ hcu2; omega
      have nb2 : ¬ b2 = w.heap.size + 1 := blocks_ne (show (47 : TypeId) ≠ 26 by decide) hcu2 HS5.out.bz
      have hwlm : m = m0 := by omega
      obtain ⟨dd, hdd⟩ := Int.eq_ofNat_of_zero_le (show 0 ≤ t.at' - x.base by omega)
      have hge : endS x = x.base + x.data.length := rfl
      have hddl : dd ≤ x.data.length := by omega
      have hwd : wrap64 (t.at' - x.base) = (dd : Int) := by rw [hdd]; exact w64 (by omega) (by omega)
      have hd0 : (0 : Int) ≤ (dd : Int) := by omega
      have hddi : (dd : Int) ≤ (x.data.length : Int) := by omega
      obtain ⟨r, hr⟩ : ∃ r, x.data.drop dd = r := ⟨_, rfl⟩
      have hex2 : (⟨x.data.toArray⟩ : ByteArray).extract (t.at' - x.base).toNat x.data.length = ⟨r.toArray⟩ := by rw [hdd, Int.toNat_natCast, ← hr]; exact ext_drop x.data dd x.data.length rfl
      have hrl : r.length ≤ x.data.length := by rw [← hr, List.length_drop]; omega
      have hrl2 : r.length + dd = x.data.length := by rw [← hr, List.length_drop]; omega
      have htx : ∀ mm : Nat, min cnt (r.length : Int) = (mm : Int) → takeX x t cnt = r.take mm := fun mm hm => by
        unfold takeX
        rw [hdd, Int.toNat_natCast, hr, hm, Int.toNat_natCast]
      have HTX := Lib.hid htx
      have HZK := Lib.hid hzk
      obtain ⟨cn, hcn⟩ := Int.eq_ofNat_of_zero_le (show 0 ≤ cnt by omega)
      subst hcn
      have hge1 : endS x ≤ x.base + x.data.length := by omega
      have hge2 : x.base + x.data.length ≤ endS x := by omega
      clear hF hO2 hdd hr htx hge hwlm hT5 HS5
      obtain ⟨b3, o3, hB3, _, _, _⟩ := HW0.out.tm HT.out
      subst hB3
      obtain ⟨b4, o4, hB4, _, _, j4⟩ := (HW0.out.below HS6.out.bw).tm HT.out
      injection hB4 with hB4
      injection hB4 with hB4 hB5
      subst hB4; subst hB5
      have HJ4 := Lib.hid j4
      generalize w5.heap.size = T6 at *
      have p3 : W6.cell? ⟨T6, 3, none⟩ = some (.int .i64 x.base) := box_at HX6.out 3 _ rfl
      have p4 : W6.cell? ⟨T6, 4, none⟩ = some (str x.data) := box_at HX6.out 4 _ rfl
      have p7 : W6.cell? ⟨T6, 7, none⟩ = some (.slice (some ⟨b3, o3, none⟩) m0 d0) := box_at HX6.out 7 _ rfl
      go_quiet (fail)
      have hb67 : Below W6.heap.size W6 (W6.drewN nq) := pw_below_drewN (Below.refl _ _) nq
      have HS7 := Lib.hid (HS6.out.below hb67)
      have HX7 := Lib.hid (keep hb67 HX6.out)
      obtain ⟨cu2', hcu2'⟩ := (HS7.out.ow.r i _ HZK.out).typed b2 rfl
      have HV2 := Lib.hid hcu2'
      have j7 : (W6.drewN nq).cell? ⟨b3, o3 + k * 2 + 1, none⟩ = some (.int .i64 t.at') := pw_cell_below hb67 HJ4.out
      clear hb67 HS6 HX6 p3 p4 p7 j4 hwd hd0 hddi hcu2' hcu2 hzk
      generalize W6.drewN nq = W7 at *
      have p7 : W7.cell? ⟨T6, 7, none⟩ = some (.slice (some ⟨b3, o3, none⟩) m0 d0) := box_at HX7.out 7 _ rfl
      have y2 : W7.cell? ⟨t6, 2, none⟩ = some (.slice (some ⟨b, off, none⟩) n2 c2) := box_at HS7.out.tp 2 _ rfl
      have k7 : W7.cell? ⟨b, off + i * 8 + 7, none⟩ = some (.slice (some ⟨b2, o2, none⟩) m d) := (HS7.out.ow.cell HZK.out (j := 7) rfl).1
      clear hex2
      by_cases hm : (cn : Int) ≤ (r.length : Int)
      · have hm2 : cn ≤ r.length := by omega
        obtain ⟨q, hq⟩ : ∃ q, r.take (cn) = q := ⟨_, rfl⟩
        have hqq : takeX x t (cn : Int) = q := by rw [← hq]; exact HTX.out _ (by omega)
        have hext : (⟨r.toArray⟩ : ByteArray).extract 0 (cn) = ⟨q.toArray⟩ := by rw [ext_take, hq]
        have hql : q.length ≤ r.length := by rw [← hq, List.length_take]; omega
        have HQQ := Lib.hid hqq
        clear hqq hq
        have hwa : wrap64 (t.at' + (q.length : Int)) = t.at' + (q.length : Int) := w64 (by omega) (by omega)
        have hcw := HS7.out.ow.cellW HZK.out HT.out
        have j1 := hcw.1
        have jf := hcw.2
        clear hcw
        go_upto_region 12 with fail
        have hput := HS7.out.ow.putW HZK.out HT.out (t' := { t with at' := t.at' + (q.length : Int) }) 1 (by decide) (v := .int .i64 (t.at' + (q.length : Int))) rfl
        have HS8 := Lib.hid (HS7.out.put2 rfl HV2.out (by decide) hlo2 hput)
        have HFS := Lib.hid (fls_set HFZ.out i { x with ws := x.ws.set k { t with at' := t.at' + (q.length : Int) } } ⟨some ⟨b2, o2, none⟩, m, d⟩)
        have hx8 : (W7.setCell ⟨b2, o2 + k * 2 + 1, none⟩ (.int .i64 (t.at' + (q.length : Int)))).heap[T6]? = _ := (Below.heap_setCell _ _ _ _ nTb).trans HX7.out
        have HX8 := Lib.hid hx8
        clear hput hx8 j1 jf j7 p7 y2 k7
        generalize W7.setCell ⟨b2, o2 + k * 2 + 1, none⟩ (.int .i64 (t.at' + (q.length : Int))) = W8 at *
        have HS8d := Lib.hid (HS8.out.below (below_drew (Below.refl _ _)))
        have hwe : wrap64 (x.base + (x.data.length : Int)) = x.base + (x.data.length : Int) := w64 (by omega) (by omega)
        have hwe2 : IntKind.i64.wrap (x.base + (x.data.length : Int)) = x.base + (x.data.length : Int) := by rw [IntKind.wrap_i64]; omega
        have hd8 : W8.cell? ⟨T6, 6, none⟩ = some (.bool x.done) := box_at HX8.out 6 _ rfl
        have HD8 := Lib.hid hd8
        clear hd8
        cases hdn : x.done with
        | false =>
          have HDN := Lib.hid hdn
          rw [hdn] at HD8
          clear hdn
          have nt6 : ¬ t6 = w.heap.size + 1 := by have := HS8.out.t6; omega
          have s0 : W8.cell? ⟨w.heap.size + 1, 0, none⟩ = some (.int .i64 0) := box_at HS8.out.bz 0 _ rfl
          have s1 : W8.cell? ⟨w.heap.size + 1, 1, none⟩ = some (.int .i64 0) := box_at HS8.out.bz 1 _ rfl
          have s2 : W8.cell? ⟨w.heap.size + 1, 2, none⟩ = some (.slice none 0 0) := box_at HS8.out.bz 2 _ rfl
          have sf := box_free HS8.out.bz
          refine wp_region_held_drew (S := fun W' => W'.cell? ⟨t6, 0, none⟩ = some (.int .i64 room) ∧ W'.cell? ⟨t6, 1, none⟩ = some (.int .i64 next) ∧ W'.cell? ⟨t6, 2, none⟩ = some (.slice (some ⟨b, off, none⟩) n2 c2) ∧ W'.cell? ⟨T6, 6, none⟩ = some (.bool false) ∧ W'.cell? ⟨T6, 3, none⟩ = some (.int .i64 x.base) ∧ W'.cell? ⟨T6, 4, none⟩ = some (str x.data)) (by kernel_rfl) (⟨box_at HS8.out.tp 0 _ rfl, box_at HS8.out.tp 1 _ rfl, box_at HS8.out.tp 2 _ rfl, HD8.out, box_at HX8.out 3 _ rfl, box_at HX8.out 4 _ rfl⟩) (fun hHeld => ?_)
          refine wpAnyH_take (i := 0) (oi := _) (v := ?v0f) rfl (by kernel_rfl) (by kernel_rfl) (by kernel_rfl) (fun _ _ _ h => h) (Or.inl ⟨by kernel_rfl, ?y0f⟩) (by assumption) ?r0f
          case y0f => (intro w hSw; (try dsimp only at hSw); go_simp; try (with_reducible rfl))
          case r0f =>
            simp only [List.getElem_toArray, List.getElem_cons_succ, List.getElem_cons_zero, Act.put, List.setIfInBounds_toArray, List.set_cons_zero, List.set_cons_succ]
            refine wpAnyH_take (i := 1) (oi := _) (v := ?v1f) rfl (by kernel_rfl) (by kernel_rfl) (by kernel_rfl) (fun _ _ _ h => h) (Or.inl ⟨by kernel_rfl, ?y1f⟩) (by assumption) ?r1f
            case y1f => (intro w hSw; (try dsimp only at hSw); go_simp; try (with_reducible rfl))
            case r1f =>
              simp only [List.getElem_toArray, List.getElem_cons_succ, List.getElem_cons_zero, Act.put, List.setIfInBounds_toArray, List.set_cons_zero, List.set_cons_succ]
              refine wpAnyH_take (i := 2) (oi := _) (v := ?v2f) rfl (by kernel_rfl) (by kernel_rfl) (by kernel_rfl) (fun _ _ _ h => h) (Or.inl ⟨by kernel_rfl, ?y2f⟩) (by assumption) ?r2f
              case y2f => (intro w hSw; (try dsimp only at hSw); go_simp; try (with_reducible rfl))
              case r2f =>
                simp only [List.getElem_toArray, List.getElem_cons_succ, List.getElem_cons_zero, Act.put, List.setIfInBounds_toArray, List.set_cons_zero, List.set_cons_succ]
                refine wpAnyH_take (i := 3) (oi := _) (v := ?v3f) rfl (by kernel_rfl) (by kernel_rfl) (by kernel_rfl) (fun _ _ _ h => h) (Or.inl ⟨by kernel_rfl, ?y3f⟩) (by assumption) ?r3f
                case y3f => (intro w hSw; (try dsimp only at hSw); go_simp; try (with_reducible rfl))
                case r3f =>
                  simp only [List.getElem_toArray, List.getElem_cons_succ, List.getElem_cons_zero, Act.put, List.setIfInBounds_toArray, List.set_cons_zero, List.set_cons_succ]
                  refine wpAnyH_take (i := 4) (oi := _) (v := ?v4f) rfl (by kernel_rfl) (by kernel_rfl) (by kernel_rfl) (fun _ _ _ h => h) (Or.inl ⟨by kernel_rfl, ?y4f⟩) (by assumption) ?r4f
                  case y4f => (intro w hSw; (try dsimp only at hSw); go_simp; try (with_reducible rfl))
                  case r4f =>
                    simp only [List.getElem_toArray, List.getElem_cons_succ, List.getElem_cons_zero, Act.put, List.setIfInBounds_toArray, List.set_cons_zero, List.set_cons_succ]
                    refine wpAnyH_take (i := 5) (oi := _) (v := undef) rfl (by kernel_rfl) (by kernel_rfl) (by kernel_rfl) (fun _ _ _ h => h) (Or.inr ⟨by kernel_rfl, rfl⟩) (by assumption) ?_
                    simp only [List.getElem_toArray, List.getElem_cons_succ, List.getElem_cons_zero, Act.put, List.setIfInBounds_toArray, List.set_cons_zero, List.set_cons_succ]
                    refine wpAnyH_take (i := 6) (oi := _) (v := undef) rfl (by kernel_rfl) (by kernel_rfl) (by kernel_rfl) (fun _ _ _ h => h) (Or.inr ⟨by kernel_rfl, rfl⟩) (by assumption) ?_
                    simp only [List.getElem_toArray, List.getElem_cons_succ, List.getElem_cons_zero, Act.put, List.setIfInBounds_toArray, List.set_cons_zero, List.set_cons_succ]
                    refine wpAnyH_take (i := 7) (oi := _) (v := undef) rfl (by kernel_rfl) (by kernel_rfl) (by kernel_rfl) (fun _ _ _ h => h) (Or.inr ⟨by kernel_rfl, rfl⟩) (by assumption) ?_
                    simp only [List.getElem_toArray, List.getElem_cons_succ, List.getElem_cons_zero, Act.put, List.setIfInBounds_toArray, List.set_cons_zero, List.set_cons_succ]
                    refine wpAnyH_take (i := 8) (oi := _) (v := undef) rfl (by kernel_rfl) (by kernel_rfl) (by kernel_rfl) (fun _ _ _ h => h) (Or.inr ⟨by kernel_rfl, rfl⟩) (by assumption) ?_
                    simp only [List.getElem_toArray, List.getElem_cons_succ, List.getElem_cons_zero, Act.put, List.setIfInBounds_toArray, List.set_cons_zero, List.set_cons_succ]
                    refine wpAnyH_take (i := 9) (oi := _) (v := undef) rfl (by kernel_rfl) (by kernel_rfl) (by kernel_rfl) (fun _ _ _ h => h) (Or.inr ⟨by kernel_rfl, rfl⟩) (by assumption) ?_
                    simp only [List.getElem_toArray, List.getElem_cons_succ, List.getElem_cons_zero, Act.put, List.setIfInBounds_toArray, List.set_cons_zero, List.set_cons_succ]
                    refine wpAnyH_take (i := 10) (oi := _) (v := undef) rfl (by kernel_rfl) (by kernel_rfl) (by kernel_rfl) (fun _ _ _ h => h) (Or.inr ⟨by kernel_rfl, rfl⟩) (by assumption) ?_
                    simp only [List.getElem_toArray, List.getElem_cons_succ, List.getElem_cons_zero, Act.put, List.setIfInBounds_toArray, List.set_cons_zero, List.set_cons_succ]
                    refine wpAnyH_take (i := 11) (oi := _) (v := undef) rfl (by kernel_rfl) (by kernel_rfl) (by kernel_rfl) (fun _ _ _ h => h) (Or.inr ⟨by kernel_rfl, rfl⟩) (by assumption) ?_
                    simp only [List.getElem_toArray, List.getElem_cons_succ, List.getElem_cons_zero, Act.put, List.setIfInBounds_toArray, List.set_cons_zero, List.set_cons_succ]
                    refine wpAnyH_take (i := 12) (oi := _) (v := undef) rfl (by kernel_rfl) (by kernel_rfl) (by kernel_rfl) (fun _ _ _ h => h) (Or.inr ⟨by kernel_rfl, rfl⟩) (by assumption) ?_
                    simp only [List.getElem_toArray, List.getElem_cons_succ, List.getElem_cons_zero, Act.put, List.setIfInBounds_toArray, List.set_cons_zero, List.set_cons_succ]
                    refine wpAnyH_take (i := 13) (oi := _) (v := ?v13f) rfl (by kernel_rfl) (by kernel_rfl) (by kernel_rfl) (fun _ _ _ h => h) (Or.inl ⟨by kernel_rfl, ?y13f⟩) (by assumption) ?r13f
                    case y13f => (intro w hSw; (try dsimp only at hSw); go_simp; try (with_reducible rfl))
                    case r13f =>
                      simp only [List.getElem_toArray, List.getElem_cons_succ, List.getElem_cons_zero, Act.put, List.setIfInBounds_toArray, List.set_cons_zero, List.set_cons_succ]
                      refine wpAnyH_ready (rs := [14]) (by kernel_rfl) (by simp) ?_
                      refine AllReadyH.cons (o := _) rfl (fun K hK => ?_) AllReadyH.nil
                      go_simp
                      skip
                      go_wp2_with fail
                      refine hK.out _ _ (by simpa [cell_far, nT1, nt6] using hHeld) (fun hHeld => ?_)
                      clear hK K
                      try simp only [List.getElem_toArray, List.getElem_cons_succ, List.getElem_cons_zero, Act.put, List.setIfInBounds_toArray, List.set_cons_zero, List.set_cons_succ]
                      refine wpAnyH_take (i := 15) (oi := _) (v := ?v15f) rfl (by kernel_rfl) (by kernel_rfl) (by kernel_rfl) (fun _ _ _ h => h) (Or.inl ⟨by kernel_rfl, ?y15f⟩) (by assumption) ?r15f
                      case y15f => (intro w hSw; (try dsimp only at hSw); go_simp; try (with_reducible rfl))
                      case r15f =>
                        simp only [List.getElem_toArray, List.getElem_cons_succ, List.getElem_cons_zero, Act.put, List.setIfInBounds_toArray, List.set_cons_zero, List.set_cons_succ]
                        refine wpAnyH_take (i := 16) (oi := _) (v := ?v16f) rfl (by kernel_rfl) (by kernel_rfl) (by kernel_rfl) (fun _ _ _ h => h) (Or.inl ⟨by kernel_rfl, ?y16f⟩) (by assumption) ?r16f
                        case y16f => (intro w hSw; (try dsimp only at hSw); go_simp; try (with_reducible rfl))
                        case r16f =>
                          simp only [List.getElem_toArray, List.getElem_cons_succ, List.getElem_cons_zero, Act.put, List.setIfInBounds_toArray, List.set_cons_zero, List.set_cons_succ]
                          refine wpAnyH_take (i := 17) (oi := _) (v := ?v17f) rfl (by kernel_rfl) (by kernel_rfl) (by kernel_rfl) (fun _ _ _ h => h) (Or.inl ⟨by kernel_rfl, ?y17f⟩) (by assumption) ?r17f
                          case y17f => (intro w hSw; (try dsimp only at hSw); go_simp; try (with_reducible rfl))
                          case r17f =>
                            simp only [List.getElem_toArray, List.getElem_cons_succ, List.getElem_cons_zero, Act.put, List.setIfInBounds_toArray, List.set_cons_zero, List.set_cons_succ]
                            refine wpAnyH_done (by kernel_rfl) ?_ _
                            clear hHeld
                            go_wp2_with fail
                            have hfin := ret_own (room := room) (next := next) HS8d.out.ow HS8d.out.bw HS8d.out.bz (Nat.le_succ _)
                            refine bodyPost_ret (v := .tuple #[fv room next (.slice (some ⟨b, off, none⟩) n2 c2), str q, .bool (false), .int .i64 0]) (by simp [results, Try.results32, go_sem, s0, s1, s2]) rfl ?_
                            rw [HE.out, HQQ.out]
                            exact ⟨_, n2, c2, _, by rw [HDN.out]; rfl, HFS.out, hfin.1, hfin.2⟩
          
        | true =>
          have HDN := Lib.hid hdn
          rw [hdn] at HD8
          clear hdn
          have nt6 : ¬ t6 = w.heap.size + 1 := by have := HS8.out.t6; omega
          have s0 : W8.cell? ⟨w.heap.size + 1, 0, none⟩ = some (.int .i64 0) := box_at HS8.out.bz 0 _ rfl
          have s1 : W8.cell? ⟨w.heap.size + 1, 1, none⟩ = some (.int .i64 0) := box_at HS8.out.bz 1 _ rfl
          have s2 : W8.cell? ⟨w.heap.size + 1, 2, none⟩ = some (.slice none 0 0) := box_at HS8.out.bz 2 _ rfl
          have sf := box_free HS8.out.bz
          by_cases hee : t.at' + (q.length : Int) = x.base + (x.data.length : Int)
          · have HDE := Lib.hid (show decide (t.at' + (q.length : Int) = endS x) = true from decide_eq_true hee)
            have hbe : ((t.at' + (q.length : Int)) == x.base + (x.data.length : Int)) = true := by simpa using hee
            clear hee
            refine wp_region_held_drew (S := fun W' => W'.cell? ⟨t6, 0, none⟩ = some (.int .i64 room) ∧ W'.cell? ⟨t6, 1, none⟩ = some (.int .i64 next) ∧ W'.cell? ⟨t6, 2, none⟩ = some (.slice (some ⟨b, off, none⟩) n2 c2) ∧ W'.cell? ⟨T6, 6, none⟩ = some (.bool true) ∧ W'.cell? ⟨T6, 3, none⟩ = some (.int .i64 x.base) ∧ W'.cell? ⟨T6, 4, none⟩ = some (str x.data)) (by kernel_rfl) (⟨box_at HS8.out.tp 0 _ rfl, box_at HS8.out.tp 1 _ rfl, box_at HS8.out.tp 2 _ rfl, HD8.out, box_at HX8.out 3 _ rfl, box_at HX8.out 4 _ rfl⟩) (fun hHeld => ?_)
            refine wpAnyH_take (i := 0) (oi := _) (v := ?v0e) rfl (by kernel_rfl) (by kernel_rfl) (by kernel_rfl) (fun _ _ _ h => h) (Or.inl ⟨by kernel_rfl, ?y0e⟩) (by assumption) ?r0e
            case y0e => (intro w hSw; (try dsimp only at hSw); go_simp; try (with_reducible rfl))
            case r0e =>
              simp only [List.getElem_toArray, List.getElem_cons_succ, List.getElem_cons_zero, Act.put, List.setIfInBounds_toArray, List.set_cons_zero, List.set_cons_succ]
              refine wpAnyH_take (i := 1) (oi := _) (v := ?v1e) rfl (by kernel_rfl) (by kernel_rfl) (by kernel_rfl) (fun _ _ _ h => h) (Or.inl ⟨by kernel_rfl, ?y1e⟩) (by assumption) ?r1e
              case y1e => (intro w hSw; (try dsimp only at hSw); go_simp; try (with_reducible rfl))
              case r1e =>
                simp only [List.getElem_toArray, List.getElem_cons_succ, List.getElem_cons_zero, Act.put, List.setIfInBounds_toArray, List.set_cons_zero, List.set_cons_succ]
                refine wpAnyH_take (i := 2) (oi := _) (v := ?v2e) rfl (by kernel_rfl) (by kernel_rfl) (by kernel_rfl) (fun _ _ _ h => h) (Or.inl ⟨by kernel_rfl, ?y2e⟩) (by assumption) ?r2e
                case y2e => (intro w hSw; (try dsimp only at hSw); go_simp; try (with_reducible rfl))
                case r2e =>
                  simp only [List.getElem_toArray, List.getElem_cons_succ, List.getElem_cons_zero, Act.put, List.setIfInBounds_toArray, List.set_cons_zero, List.set_cons_succ]
                  refine wpAnyH_take (i := 3) (oi := _) (v := ?v3e) rfl (by kernel_rfl) (by kernel_rfl) (by kernel_rfl) (fun _ _ _ h => h) (Or.inl ⟨by kernel_rfl, ?y3e⟩) (by assumption) ?r3e
                  case y3e => (intro w hSw; (try dsimp only at hSw); go_simp; try (with_reducible rfl))
                  case r3e =>
                    simp only [List.getElem_toArray, List.getElem_cons_succ, List.getElem_cons_zero, Act.put, List.setIfInBounds_toArray, List.set_cons_zero, List.set_cons_succ]
                    refine wpAnyH_take (i := 4) (oi := _) (v := ?v4e) rfl (by kernel_rfl) (by kernel_rfl) (by kernel_rfl) (fun _ _ _ h => h) (Or.inl ⟨by kernel_rfl, ?y4e⟩) (by assumption) ?r4e
                    case y4e => (intro w hSw; (try dsimp only at hSw); go_simp; try (with_reducible rfl))
                    case r4e =>
                      simp only [List.getElem_toArray, List.getElem_cons_succ, List.getElem_cons_zero, Act.put, List.setIfInBounds_toArray, List.set_cons_zero, List.set_cons_succ]
                      refine wpAnyH_take (i := 5) (oi := _) (v := ?v5e) rfl (by kernel_rfl) (by kernel_rfl) (by kernel_rfl) (fun _ _ _ h => h) (Or.inl ⟨by kernel_rfl, ?y5e⟩) (by assumption) ?r5e
                      case y5e => (intro w hSw; (try dsimp only at hSw); go_simp; try (with_reducible rfl))
                      case r5e =>
                        simp only [List.getElem_toArray, List.getElem_cons_succ, List.getElem_cons_zero, Act.put, List.setIfInBounds_toArray, List.set_cons_zero, List.set_cons_succ]
                        refine wpAnyH_take (i := 6) (oi := _) (v := ?v6e) rfl (by kernel_rfl) (by kernel_rfl) (by kernel_rfl) (fun _ _ _ h => h) (Or.inl ⟨by kernel_rfl, ?y6e⟩) (by assumption) ?r6e
                        case y6e => (intro w hSw; (try dsimp only at hSw); go_simp; try (with_reducible rfl))
                        case r6e =>
                          simp only [List.getElem_toArray, List.getElem_cons_succ, List.getElem_cons_zero, Act.put, List.setIfInBounds_toArray, List.set_cons_zero, List.set_cons_succ]
                          refine wpAnyH_take (i := 7) (oi := _) (v := ?v7e) rfl (by kernel_rfl) (by kernel_rfl) (by kernel_rfl) (fun _ _ _ h => h) (Or.inl ⟨by kernel_rfl, ?y7e⟩) (by assumption) ?r7e
                          case y7e => (intro w hSw; (try dsimp only at hSw); go_simp; try (with_reducible rfl))
                          case r7e =>
                            simp only [List.getElem_toArray, List.getElem_cons_succ, List.getElem_cons_zero, Act.put, List.setIfInBounds_toArray, List.set_cons_zero, List.set_cons_succ]
                            refine wpAnyH_take (i := 8) (oi := _) (v := ?v8e) rfl (by kernel_rfl) (by kernel_rfl) (by kernel_rfl) (fun _ _ _ h => h) (Or.inl ⟨by kernel_rfl, ?y8e⟩) (by assumption) ?r8e
                            case y8e => (intro w hSw; (try dsimp only at hSw); go_simp; try (with_reducible rfl))
                            case r8e =>
                              simp only [List.getElem_toArray, List.getElem_cons_succ, List.getElem_cons_zero, Act.put, List.setIfInBounds_toArray, List.set_cons_zero, List.set_cons_succ]
                              refine wpAnyH_take (i := 9) (oi := _) (v := ?v9e) rfl (by kernel_rfl) (by kernel_rfl) (by kernel_rfl) (fun _ _ _ h => h) (Or.inl ⟨by kernel_rfl, ?y9e⟩) (by assumption) ?r9e
                              case y9e => (intro w hSw; (try dsimp only at hSw); go_simp; try (with_reducible rfl))
                              case r9e =>
                                simp only [List.getElem_toArray, List.getElem_cons_succ, List.getElem_cons_zero, Act.put, List.setIfInBounds_toArray, List.set_cons_zero, List.set_cons_succ]
                                refine wpAnyH_take (i := 10) (oi := _) (v := ?v10e) rfl (by kernel_rfl) (by kernel_rfl) (by kernel_rfl) (fun _ _ _ h => h) (Or.inl ⟨by kernel_rfl, ?y10e⟩) (by assumption) ?r10e
                                case y10e => (intro w hSw; (try dsimp only at hSw); go_simp; try (with_reducible rfl))
                                case r10e =>
                                  simp only [List.getElem_toArray, List.getElem_cons_succ, List.getElem_cons_zero, Act.put, List.setIfInBounds_toArray, List.set_cons_zero, List.set_cons_succ]
                                  refine wpAnyH_take (i := 11) (oi := _) (v := ?v11e) rfl (by kernel_rfl) (by kernel_rfl) (by kernel_rfl) (fun _ _ _ h => h) (Or.inl ⟨by kernel_rfl, ?y11e⟩) (by assumption) ?r11e
                                  case y11e => (intro w hSw; (try dsimp only at hSw); go_simp; try (with_reducible rfl))
                                  case r11e =>
                                    simp only [List.getElem_toArray, List.getElem_cons_succ, List.getElem_cons_zero, Act.put, List.setIfInBounds_toArray, List.set_cons_zero, List.set_cons_succ]
                                    refine wpAnyH_take (i := 12) (oi := _) (v := ?v12e) rfl (by kernel_rfl) (by kernel_rfl) (by kernel_rfl) (fun _ _ _ h => h) (Or.inl ⟨by kernel_rfl, ?y12e⟩) (by assumption) ?r12e
                                    case y12e => (intro w hSw; (try dsimp only at hSw); go_simp; try (with_reducible rfl))
                                    case r12e =>
                                      simp only [List.getElem_toArray, List.getElem_cons_succ, List.getElem_cons_zero, Act.put, List.setIfInBounds_toArray, List.set_cons_zero, List.set_cons_succ]
                                      refine wpAnyH_take (i := 13) (oi := _) (v := ?v13e) rfl (by kernel_rfl) (by kernel_rfl) (by kernel_rfl) (fun _ _ _ h => h) (Or.inl ⟨by kernel_rfl, ?y13e⟩) (by assumption) ?r13e
                                      case y13e => (intro w hSw; (try dsimp only at hSw); go_simp; try (with_reducible rfl))
                                      case r13e =>
                                        simp only [List.getElem_toArray, List.getElem_cons_succ, List.getElem_cons_zero, Act.put, List.setIfInBounds_toArray, List.set_cons_zero, List.set_cons_succ]
                                        refine wpAnyH_ready (rs := [14]) (by kernel_rfl) (by simp) ?_
                                        refine AllReadyH.cons (o := _) rfl (fun K hK => ?_) AllReadyH.nil
                                        go_simp
                                        skip
                                        go_wp2_with fail
                                        refine hK.out _ _ (by simpa [cell_far, nT1, nt6] using hHeld) (fun hHeld => ?_)
                                        clear hK K
                                        try simp only [List.getElem_toArray, List.getElem_cons_succ, List.getElem_cons_zero, Act.put, List.setIfInBounds_toArray, List.set_cons_zero, List.set_cons_succ]
                                        refine wpAnyH_take (i := 15) (oi := _) (v := ?v15e) rfl (by kernel_rfl) (by kernel_rfl) (by kernel_rfl) (fun _ _ _ h => h) (Or.inl ⟨by kernel_rfl, ?y15e⟩) (by assumption) ?r15e
                                        case y15e => (intro w hSw; (try dsimp only at hSw); go_simp; try (with_reducible rfl))
                                        case r15e =>
                                          simp only [List.getElem_toArray, List.getElem_cons_succ, List.getElem_cons_zero, Act.put, List.setIfInBounds_toArray, List.set_cons_zero, List.set_cons_succ]
                                          refine wpAnyH_take (i := 16) (oi := _) (v := ?v16e) rfl (by kernel_rfl) (by kernel_rfl) (by kernel_rfl) (fun _ _ _ h => h) (Or.inl ⟨by kernel_rfl, ?y16e⟩) (by assumption) ?r16e
                                          case y16e => (intro w hSw; (try dsimp only at hSw); go_simp; try (with_reducible rfl))
                                          case r16e =>
                                            simp only [List.getElem_toArray, List.getElem_cons_succ, List.getElem_cons_zero, Act.put, List.setIfInBounds_toArray, List.set_cons_zero, List.set_cons_succ]
                                            refine wpAnyH_take (i := 17) (oi := _) (v := ?v17e) rfl (by kernel_rfl) (by kernel_rfl) (by kernel_rfl) (fun _ _ _ h => h) (Or.inl ⟨by kernel_rfl, ?y17e⟩) (by assumption) ?r17e
                                            case y17e => (intro w hSw; (try dsimp only at hSw); go_simp; try (with_reducible rfl))
                                            case r17e =>
                                              simp only [List.getElem_toArray, List.getElem_cons_succ, List.getElem_cons_zero, Act.put, List.setIfInBounds_toArray, List.set_cons_zero, List.set_cons_succ]
                                              refine wpAnyH_done (by kernel_rfl) ?_ _
                                              clear hHeld
                                              go_wp2_with fail
                                              have hfin := ret_own (room := room) (next := next) HS8d.out.ow HS8d.out.bw HS8d.out.bz (Nat.le_succ _)
                                              refine bodyPost_ret (v := .tuple #[fv room next (.slice (some ⟨b, off, none⟩) n2 c2), str q, .bool (true), .int .i64 0]) (by simp [results, Try.results32, go_sem, s0, s1, s2]) rfl ?_
                                              rw [HE.out, HQQ.out]
                                              exact ⟨_, n2, c2, _, by rw [HDN.out, HDE.out]; rfl, HFS.out, hfin.1, hfin.2⟩
            
          · have HDE := Lib.hid (show decide (t.at' + (q.length : Int) = endS x) = false from decide_eq_false hee)
            have hbe : ((t.at' + (q.length : Int)) == x.base + (x.data.length : Int)) = false := by simpa using hee
            clear hee
            refine wp_region_held_drew (S := fun W' => W'.cell? ⟨t6, 0, none⟩ = some (.int .i64 room) ∧ W'.cell? ⟨t6, 1, none⟩ = some (.int .i64 next) ∧ W'.cell? ⟨t6, 2, none⟩ = some (.slice (some ⟨b, off, none⟩) n2 c2) ∧ W'.cell? ⟨T6, 6, none⟩ = some (.bool true) ∧ W'.cell? ⟨T6, 3, none⟩ = some (.int .i64 x.base) ∧ W'.cell? ⟨T6, 4, none⟩ = some (str x.data)) (by kernel_rfl) (⟨box_at HS8.out.tp 0 _ rfl, box_at HS8.out.tp 1 _ rfl, box_at HS8.out.tp 2 _ rfl, HD8.out, box_at HX8.out 3 _ rfl, box_at HX8.out 4 _ rfl⟩) (fun hHeld => ?_)
            refine wpAnyH_take (i := 0) (oi := _) (v := ?v0d) rfl (by kernel_rfl) (by kernel_rfl) (by kernel_rfl) (fun _ _ _ h => h) (Or.inl ⟨by kernel_rfl, ?y0d⟩) (by assumption) ?r0d
            case y0d => (intro w hSw; (try dsimp only at hSw); go_simp; try (with_reducible rfl))
            case r0d =>
              simp only [List.getElem_toArray, List.getElem_cons_succ, List.getElem_cons_zero, Act.put, List.setIfInBounds_toArray, List.set_cons_zero, List.set_cons_succ]
              refine wpAnyH_take (i := 1) (oi := _) (v := ?v1d) rfl (by kernel_rfl) (by kernel_rfl) (by kernel_rfl) (fun _ _ _ h => h) (Or.inl ⟨by kernel_rfl, ?y1d⟩) (by assumption) ?r1d
              case y1d => (intro w hSw; (try dsimp only at hSw); go_simp; try (with_reducible rfl))
              case r1d =>
                simp only [List.getElem_toArray, List.getElem_cons_succ, List.getElem_cons_zero, Act.put, List.setIfInBounds_toArray, List.set_cons_zero, List.set_cons_succ]
                refine wpAnyH_take (i := 2) (oi := _) (v := ?v2d) rfl (by kernel_rfl) (by kernel_rfl) (by kernel_rfl) (fun _ _ _ h => h) (Or.inl ⟨by kernel_rfl, ?y2d⟩) (by assumption) ?r2d
                case y2d => (intro w hSw; (try dsimp only at hSw); go_simp; try (with_reducible rfl))
                case r2d =>
                  simp only [List.getElem_toArray, List.getElem_cons_succ, List.getElem_cons_zero, Act.put, List.setIfInBounds_toArray, List.set_cons_zero, List.set_cons_succ]
                  refine wpAnyH_take (i := 3) (oi := _) (v := ?v3d) rfl (by kernel_rfl) (by kernel_rfl) (by kernel_rfl) (fun _ _ _ h => h) (Or.inl ⟨by kernel_rfl, ?y3d⟩) (by assumption) ?r3d
                  case y3d => (intro w hSw; (try dsimp only at hSw); go_simp; try (with_reducible rfl))
                  case r3d =>
                    simp only [List.getElem_toArray, List.getElem_cons_succ, List.getElem_cons_zero, Act.put, List.setIfInBounds_toArray, List.set_cons_zero, List.set_cons_succ]
                    refine wpAnyH_take (i := 4) (oi := _) (v := ?v4d) rfl (by kernel_rfl) (by kernel_rfl) (by kernel_rfl) (fun _ _ _ h => h) (Or.inl ⟨by kernel_rfl, ?y4d⟩) (by assumption) ?r4d
                    case y4d => (intro w hSw; (try dsimp only at hSw); go_simp; try (with_reducible rfl))
                    case r4d =>
                      simp only [List.getElem_toArray, List.getElem_cons_succ, List.getElem_cons_zero, Act.put, List.setIfInBounds_toArray, List.set_cons_zero, List.set_cons_succ]
                      refine wpAnyH_take (i := 5) (oi := _) (v := ?v5d) rfl (by kernel_rfl) (by kernel_rfl) (by kernel_rfl) (fun _ _ _ h => h) (Or.inl ⟨by kernel_rfl, ?y5d⟩) (by assumption) ?r5d
                      case y5d => (intro w hSw; (try dsimp only at hSw); go_simp; try (with_reducible rfl))
                      case r5d =>
                        simp only [List.getElem_toArray, List.getElem_cons_succ, List.getElem_cons_zero, Act.put, List.setIfInBounds_toArray, List.set_cons_zero, List.set_cons_succ]
                        refine wpAnyH_take (i := 6) (oi := _) (v := ?v6d) rfl (by kernel_rfl) (by kernel_rfl) (by kernel_rfl) (fun _ _ _ h => h) (Or.inl ⟨by kernel_rfl, ?y6d⟩) (by assumption) ?r6d
                        case y6d => (intro w hSw; (try dsimp only at hSw); go_simp; try (with_reducible rfl))
                        case r6d =>
                          simp only [List.getElem_toArray, List.getElem_cons_succ, List.getElem_cons_zero, Act.put, List.setIfInBounds_toArray, List.set_cons_zero, List.set_cons_succ]
                          refine wpAnyH_take (i := 7) (oi := _) (v := ?v7d) rfl (by kernel_rfl) (by kernel_rfl) (by kernel_rfl) (fun _ _ _ h => h) (Or.inl ⟨by kernel_rfl, ?y7d⟩) (by assumption) ?r7d
                          case y7d => (intro w hSw; (try dsimp only at hSw); go_simp; try (with_reducible rfl))
                          case r7d =>
                            simp only [List.getElem_toArray, List.getElem_cons_succ, List.getElem_cons_zero, Act.put, List.setIfInBounds_toArray, List.set_cons_zero, List.set_cons_succ]
                            refine wpAnyH_take (i := 8) (oi := _) (v := ?v8d) rfl (by kernel_rfl) (by kernel_rfl) (by kernel_rfl) (fun _ _ _ h => h) (Or.inl ⟨by kernel_rfl, ?y8d⟩) (by assumption) ?r8d
                            case y8d => (intro w hSw; (try dsimp only at hSw); go_simp; try (with_reducible rfl))
                            case r8d =>
                              simp only [List.getElem_toArray, List.getElem_cons_succ, List.getElem_cons_zero, Act.put, List.setIfInBounds_toArray, List.set_cons_zero, List.set_cons_succ]
                              refine wpAnyH_take (i := 9) (oi := _) (v := ?v9d) rfl (by kernel_rfl) (by kernel_rfl) (by kernel_rfl) (fun _ _ _ h => h) (Or.inl ⟨by kernel_rfl, ?y9d⟩) (by assumption) ?r9d
                              case y9d => (intro w hSw; (try dsimp only at hSw); go_simp; try (with_reducible rfl))
                              case r9d =>
                                simp only [List.getElem_toArray, List.getElem_cons_succ, List.getElem_cons_zero, Act.put, List.setIfInBounds_toArray, List.set_cons_zero, List.set_cons_succ]
                                refine wpAnyH_take (i := 10) (oi := _) (v := ?v10d) rfl (by kernel_rfl) (by kernel_rfl) (by kernel_rfl) (fun _ _ _ h => h) (Or.inl ⟨by kernel_rfl, ?y10d⟩) (by assumption) ?r10d
                                case y10d => (intro w hSw; (try dsimp only at hSw); go_simp; try (with_reducible rfl))
                                case r10d =>
                                  simp only [List.getElem_toArray, List.getElem_cons_succ, List.getElem_cons_zero, Act.put, List.setIfInBounds_toArray, List.set_cons_zero, List.set_cons_succ]
                                  refine wpAnyH_take (i := 11) (oi := _) (v := ?v11d) rfl (by kernel_rfl) (by kernel_rfl) (by kernel_rfl) (fun _ _ _ h => h) (Or.inl ⟨by kernel_rfl, ?y11d⟩) (by assumption) ?r11d
                                  case y11d => (intro w hSw; (try dsimp only at hSw); go_simp; try (with_reducible rfl))
                                  case r11d =>
                                    simp only [List.getElem_toArray, List.getElem_cons_succ, List.getElem_cons_zero, Act.put, List.setIfInBounds_toArray, List.set_cons_zero, List.set_cons_succ]
                                    refine wpAnyH_take (i := 12) (oi := _) (v := ?v12d) rfl (by kernel_rfl) (by kernel_rfl) (by kernel_rfl) (fun _ _ _ h => h) (Or.inl ⟨by kernel_rfl, ?y12d⟩) (by assumption) ?r12d
                                    case y12d => (intro w hSw; (try dsimp only at hSw); go_simp; try (with_reducible rfl))
                                    case r12d =>
                                      simp only [List.getElem_toArray, List.getElem_cons_succ, List.getElem_cons_zero, Act.put, List.setIfInBounds_toArray, List.set_cons_zero, List.set_cons_succ]
                                      refine wpAnyH_take (i := 13) (oi := _) (v := ?v13d) rfl (by kernel_rfl) (by kernel_rfl) (by kernel_rfl) (fun _ _ _ h => h) (Or.inl ⟨by kernel_rfl, ?y13d⟩) (by assumption) ?r13d
                                      case y13d => (intro w hSw; (try dsimp only at hSw); go_simp; try (with_reducible rfl))
                                      case r13d =>
                                        simp only [List.getElem_toArray, List.getElem_cons_succ, List.getElem_cons_zero, Act.put, List.setIfInBounds_toArray, List.set_cons_zero, List.set_cons_succ]
                                        refine wpAnyH_ready (rs := [14]) (by kernel_rfl) (by simp) ?_
                                        refine AllReadyH.cons (o := _) rfl (fun K hK => ?_) AllReadyH.nil
                                        go_simp
                                        skip
                                        go_wp2_with fail
                                        refine hK.out _ _ (by simpa [cell_far, nT1, nt6] using hHeld) (fun hHeld => ?_)
                                        clear hK K
                                        try simp only [List.getElem_toArray, List.getElem_cons_succ, List.getElem_cons_zero, Act.put, List.setIfInBounds_toArray, List.set_cons_zero, List.set_cons_succ]
                                        refine wpAnyH_take (i := 15) (oi := _) (v := ?v15d) rfl (by kernel_rfl) (by kernel_rfl) (by kernel_rfl) (fun _ _ _ h => h) (Or.inl ⟨by kernel_rfl, ?y15d⟩) (by assumption) ?r15d
                                        case y15d => (intro w hSw; (try dsimp only at hSw); go_simp; try (with_reducible rfl))
                                        case r15d =>
                                          simp only [List.getElem_toArray, List.getElem_cons_succ, List.getElem_cons_zero, Act.put, List.setIfInBounds_toArray, List.set_cons_zero, List.set_cons_succ]
                                          refine wpAnyH_take (i := 16) (oi := _) (v := ?v16d) rfl (by kernel_rfl) (by kernel_rfl) (by kernel_rfl) (fun _ _ _ h => h) (Or.inl ⟨by kernel_rfl, ?y16d⟩) (by assumption) ?r16d
                                          case y16d => (intro w hSw; (try dsimp only at hSw); go_simp; try (with_reducible rfl))
                                          case r16d =>
                                            simp only [List.getElem_toArray, List.getElem_cons_succ, List.getElem_cons_zero, Act.put, List.setIfInBounds_toArray, List.set_cons_zero, List.set_cons_succ]
                                            refine wpAnyH_take (i := 17) (oi := _) (v := ?v17d) rfl (by kernel_rfl) (by kernel_rfl) (by kernel_rfl) (fun _ _ _ h => h) (Or.inl ⟨by kernel_rfl, ?y17d⟩) (by assumption) ?r17d
                                            case y17d => (intro w hSw; (try dsimp only at hSw); go_simp; try (with_reducible rfl))
                                            case r17d =>
                                              simp only [List.getElem_toArray, List.getElem_cons_succ, List.getElem_cons_zero, Act.put, List.setIfInBounds_toArray, List.set_cons_zero, List.set_cons_succ]
                                              refine wpAnyH_done (by kernel_rfl) ?_ _
                                              clear hHeld
                                              go_wp2_with fail
                                              have hfin := ret_own (room := room) (next := next) HS8d.out.ow HS8d.out.bw HS8d.out.bz (Nat.le_succ _)
                                              refine bodyPost_ret (v := .tuple #[fv room next (.slice (some ⟨b, off, none⟩) n2 c2), str q, .bool (false), .int .i64 0]) (by simp [results, Try.results32, go_sem, s0, s1, s2]) rfl ?_
                                              rw [HE.out, HQQ.out]
                                              exact ⟨_, n2, c2, _, by rw [HDN.out, HDE.out]; rfl, HFS.out, hfin.1, hfin.2⟩
            
      · have hm2 : ¬ cn ≤ r.length := by omega
        obtain ⟨q, hq⟩ : ∃ q, r.take (r.length) = q := ⟨_, rfl⟩
        have hqq : takeX x t (cn : Int) = q := by rw [← hq]; exact HTX.out _ (by omega)
        have hext : (⟨r.toArray⟩ : ByteArray).extract 0 (r.length) = ⟨q.toArray⟩ := by rw [ext_take, hq]
        have hql : q.length ≤ r.length := by rw [← hq, List.length_take]; omega
        have HQQ := Lib.hid hqq
        clear hqq hq
        have hwa : wrap64 (t.at' + (q.length : Int)) = t.at' + (q.length : Int) := w64 (by omega) (by omega)
        have hcw := HS7.out.ow.cellW HZK.out HT.out
        have j1 := hcw.1
        have jf := hcw.2
        clear hcw
        go_upto_region 12 with fail
        have hput := HS7.out.ow.putW HZK.out HT.out (t' := { t with at' := t.at' + (q.length : Int) }) 1 (by decide) (v := .int .i64 (t.at' + (q.length : Int))) rfl
        have HS8 := Lib.hid (HS7.out.put2 rfl HV2.out (by decide) hlo2 hput)
        have HFS := Lib.hid (fls_set HFZ.out i { x with ws := x.ws.set k { t with at' := t.at' + (q.length : Int) } } ⟨some ⟨b2, o2, none⟩, m, d⟩)
        have hx8 : (W7.setCell ⟨b2, o2 + k * 2 + 1, none⟩ (.int .i64 (t.at' + (q.length : Int)))).heap[T6]? = _ := (Below.heap_setCell _ _ _ _ nTb).trans HX7.out
        have HX8 := Lib.hid hx8
        clear hput hx8 j1 jf j7 p7 y2 k7
        generalize W7.setCell ⟨b2, o2 + k * 2 + 1, none⟩ (.int .i64 (t.at' + (q.length : Int))) = W8 at *
        have HS8d := Lib.hid (HS8.out.below (below_drew (Below.refl _ _)))
        have hwe : wrap64 (x.base + (x.data.length : Int)) = x.base + (x.data.length : Int) := w64 (by omega) (by omega)
        have hwe2 : IntKind.i64.wrap (x.base + (x.data.length : Int)) = x.base + (x.data.length : Int) := by rw [IntKind.wrap_i64]; omega
        have hd8 : W8.cell? ⟨T6, 6, none⟩ = some (.bool x.done) := box_at HX8.out 6 _ rfl
        have HD8 := Lib.hid hd8
        clear hd8
        cases hdn : x.done with
        | false =>
          have HDN := Lib.hid hdn
          rw [hdn] at HD8
          clear hdn
          have nt6 : ¬ t6 = w.heap.size + 1 := by have := HS8.out.t6; omega
          have s0 : W8.cell? ⟨w.heap.size + 1, 0, none⟩ = some (.int .i64 0) := box_at HS8.out.bz 0 _ rfl
          have s1 : W8.cell? ⟨w.heap.size + 1, 1, none⟩ = some (.int .i64 0) := box_at HS8.out.bz 1 _ rfl
          have s2 : W8.cell? ⟨w.heap.size + 1, 2, none⟩ = some (.slice none 0 0) := box_at HS8.out.bz 2 _ rfl
          have sf := box_free HS8.out.bz
          refine wp_region_held_drew (S := fun W' => W'.cell? ⟨t6, 0, none⟩ = some (.int .i64 room) ∧ W'.cell? ⟨t6, 1, none⟩ = some (.int .i64 next) ∧ W'.cell? ⟨t6, 2, none⟩ = some (.slice (some ⟨b, off, none⟩) n2 c2) ∧ W'.cell? ⟨T6, 6, none⟩ = some (.bool false) ∧ W'.cell? ⟨T6, 3, none⟩ = some (.int .i64 x.base) ∧ W'.cell? ⟨T6, 4, none⟩ = some (str x.data)) (by kernel_rfl) (⟨box_at HS8.out.tp 0 _ rfl, box_at HS8.out.tp 1 _ rfl, box_at HS8.out.tp 2 _ rfl, HD8.out, box_at HX8.out 3 _ rfl, box_at HX8.out 4 _ rfl⟩) (fun hHeld => ?_)
          refine wpAnyH_take (i := 0) (oi := _) (v := ?v0c) rfl (by kernel_rfl) (by kernel_rfl) (by kernel_rfl) (fun _ _ _ h => h) (Or.inl ⟨by kernel_rfl, ?y0c⟩) (by assumption) ?r0c
          case y0c => (intro w hSw; (try dsimp only at hSw); go_simp; try (with_reducible rfl))
          case r0c =>
            simp only [List.getElem_toArray, List.getElem_cons_succ, List.getElem_cons_zero, Act.put, List.setIfInBounds_toArray, List.set_cons_zero, List.set_cons_succ]
            refine wpAnyH_take (i := 1) (oi := _) (v := ?v1c) rfl (by kernel_rfl) (by kernel_rfl) (by kernel_rfl) (fun _ _ _ h => h) (Or.inl ⟨by kernel_rfl, ?y1c⟩) (by assumption) ?r1c
            case y1c => (intro w hSw; (try dsimp only at hSw); go_simp; try (with_reducible rfl))
            case r1c =>
              simp only [List.getElem_toArray, List.getElem_cons_succ, List.getElem_cons_zero, Act.put, List.setIfInBounds_toArray, List.set_cons_zero, List.set_cons_succ]
              refine wpAnyH_take (i := 2) (oi := _) (v := ?v2c) rfl (by kernel_rfl) (by kernel_rfl) (by kernel_rfl) (fun _ _ _ h => h) (Or.inl ⟨by kernel_rfl, ?y2c⟩) (by assumption) ?r2c
              case y2c => (intro w hSw; (try dsimp only at hSw); go_simp; try (with_reducible rfl))
              case r2c =>
                simp only [List.getElem_toArray, List.getElem_cons_succ, List.getElem_cons_zero, Act.put, List.setIfInBounds_toArray, List.set_cons_zero, List.set_cons_succ]
                refine wpAnyH_take (i := 3) (oi := _) (v := ?v3c) rfl (by kernel_rfl) (by kernel_rfl) (by kernel_rfl) (fun _ _ _ h => h) (Or.inl ⟨by kernel_rfl, ?y3c⟩) (by assumption) ?r3c
                case y3c => (intro w hSw; (try dsimp only at hSw); go_simp; try (with_reducible rfl))
                case r3c =>
                  simp only [List.getElem_toArray, List.getElem_cons_succ, List.getElem_cons_zero, Act.put, List.setIfInBounds_toArray, List.set_cons_zero, List.set_cons_succ]
                  refine wpAnyH_take (i := 4) (oi := _) (v := ?v4c) rfl (by kernel_rfl) (by kernel_rfl) (by kernel_rfl) (fun _ _ _ h => h) (Or.inl ⟨by kernel_rfl, ?y4c⟩) (by assumption) ?r4c
                  case y4c => (intro w hSw; (try dsimp only at hSw); go_simp; try (with_reducible rfl))
                  case r4c =>
                    simp only [List.getElem_toArray, List.getElem_cons_succ, List.getElem_cons_zero, Act.put, List.setIfInBounds_toArray, List.set_cons_zero, List.set_cons_succ]
                    refine wpAnyH_take (i := 5) (oi := _) (v := undef) rfl (by kernel_rfl) (by kernel_rfl) (by kernel_rfl) (fun _ _ _ h => h) (Or.inr ⟨by kernel_rfl, rfl⟩) (by assumption) ?_
                    simp only [List.getElem_toArray, List.getElem_cons_succ, List.getElem_cons_zero, Act.put, List.setIfInBounds_toArray, List.set_cons_zero, List.set_cons_succ]
                    refine wpAnyH_take (i := 6) (oi := _) (v := undef) rfl (by kernel_rfl) (by kernel_rfl) (by kernel_rfl) (fun _ _ _ h => h) (Or.inr ⟨by kernel_rfl, rfl⟩) (by assumption) ?_
                    simp only [List.getElem_toArray, List.getElem_cons_succ, List.getElem_cons_zero, Act.put, List.setIfInBounds_toArray, List.set_cons_zero, List.set_cons_succ]
                    refine wpAnyH_take (i := 7) (oi := _) (v := undef) rfl (by kernel_rfl) (by kernel_rfl) (by kernel_rfl) (fun _ _ _ h => h) (Or.inr ⟨by kernel_rfl, rfl⟩) (by assumption) ?_
                    simp only [List.getElem_toArray, List.getElem_cons_succ, List.getElem_cons_zero, Act.put, List.setIfInBounds_toArray, List.set_cons_zero, List.set_cons_succ]
                    refine wpAnyH_take (i := 8) (oi := _) (v := undef) rfl (by kernel_rfl) (by kernel_rfl) (by kernel_rfl) (fun _ _ _ h => h) (Or.inr ⟨by kernel_rfl, rfl⟩) (by assumption) ?_
                    simp only [List.getElem_toArray, List.getElem_cons_succ, List.getElem_cons_zero, Act.put, List.setIfInBounds_toArray, List.set_cons_zero, List.set_cons_succ]
                    refine wpAnyH_take (i := 9) (oi := _) (v := undef) rfl (by kernel_rfl) (by kernel_rfl) (by kernel_rfl) (fun _ _ _ h => h) (Or.inr ⟨by kernel_rfl, rfl⟩) (by assumption) ?_
                    simp only [List.getElem_toArray, List.getElem_cons_succ, List.getElem_cons_zero, Act.put, List.setIfInBounds_toArray, List.set_cons_zero, List.set_cons_succ]
                    refine wpAnyH_take (i := 10) (oi := _) (v := undef) rfl (by kernel_rfl) (by kernel_rfl) (by kernel_rfl) (fun _ _ _ h => h) (Or.inr ⟨by kernel_rfl, rfl⟩) (by assumption) ?_
                    simp only [List.getElem_toArray, List.getElem_cons_succ, List.getElem_cons_zero, Act.put, List.setIfInBounds_toArray, List.set_cons_zero, List.set_cons_succ]
                    refine wpAnyH_take (i := 11) (oi := _) (v := undef) rfl (by kernel_rfl) (by kernel_rfl) (by kernel_rfl) (fun _ _ _ h => h) (Or.inr ⟨by kernel_rfl, rfl⟩) (by assumption) ?_
                    simp only [List.getElem_toArray, List.getElem_cons_succ, List.getElem_cons_zero, Act.put, List.setIfInBounds_toArray, List.set_cons_zero, List.set_cons_succ]
                    refine wpAnyH_take (i := 12) (oi := _) (v := undef) rfl (by kernel_rfl) (by kernel_rfl) (by kernel_rfl) (fun _ _ _ h => h) (Or.inr ⟨by kernel_rfl, rfl⟩) (by assumption) ?_
                    simp only [List.getElem_toArray, List.getElem_cons_succ, List.getElem_cons_zero, Act.put, List.setIfInBounds_toArray, List.set_cons_zero, List.set_cons_succ]
                    refine wpAnyH_take (i := 13) (oi := _) (v := ?v13c) rfl (by kernel_rfl) (by kernel_rfl) (by kernel_rfl) (fun _ _ _ h => h) (Or.inl ⟨by kernel_rfl, ?y13c⟩) (by assumption) ?r13c
                    case y13c => (intro w hSw; (try dsimp only at hSw); go_simp; try (with_reducible rfl))
                    case r13c =>
                      simp only [List.getElem_toArray, List.getElem_cons_succ, List.getElem_cons_zero, Act.put, List.setIfInBounds_toArray, List.set_cons_zero, List.set_cons_succ]
                      refine wpAnyH_ready (rs := [14]) (by kernel_rfl) (by simp) ?_
                      refine AllReadyH.cons (o := _) rfl (fun K hK => ?_) AllReadyH.nil
                      go_simp
                      skip
                      go_wp2_with fail
                      refine hK.out _ _ (by simpa [cell_far, nT1, nt6] using hHeld) (fun hHeld => ?_)
                      clear hK K
                      try simp only [List.getElem_toArray, List.getElem_cons_succ, List.getElem_cons_zero, Act.put, List.setIfInBounds_toArray, List.set_cons_zero, List.set_cons_succ]
                      refine wpAnyH_take (i := 15) (oi := _) (v := ?v15c) rfl (by kernel_rfl) (by kernel_rfl) (by kernel_rfl) (fun _ _ _ h => h) (Or.inl ⟨by kernel_rfl, ?y15c⟩) (by assumption) ?r15c
                      case y15c => (intro w hSw; (try dsimp only at hSw); go_simp; try (with_reducible rfl))
                      case r15c =>
                        simp only [List.getElem_toArray, List.getElem_cons_succ, List.getElem_cons_zero, Act.put, List.setIfInBounds_toArray, List.set_cons_zero, List.set_cons_succ]
                        refine wpAnyH_take (i := 16) (oi := _) (v := ?v16c) rfl (by kernel_rfl) (by kernel_rfl) (by kernel_rfl) (fun _ _ _ h => h) (Or.inl ⟨by kernel_rfl, ?y16c⟩) (by assumption) ?r16c
                        case y16c => (intro w hSw; (try dsimp only at hSw); go_simp; try (with_reducible rfl))
                        case r16c =>
                          simp only [List.getElem_toArray, List.getElem_cons_succ, List.getElem_cons_zero, Act.put, List.setIfInBounds_toArray, List.set_cons_zero, List.set_cons_succ]
                          refine wpAnyH_take (i := 17) (oi := _) (v := ?v17c) rfl (by kernel_rfl) (by kernel_rfl) (by kernel_rfl) (fun _ _ _ h => h) (Or.inl ⟨by kernel_rfl, ?y17c⟩) (by assumption) ?r17c
                          case y17c => (intro w hSw; (try dsimp only at hSw); go_simp; try (with_reducible rfl))
                          case r17c =>
                            simp only [List.getElem_toArray, List.getElem_cons_succ, List.getElem_cons_zero, Act.put, List.setIfInBounds_toArray, List.set_cons_zero, List.set_cons_succ]
                            refine wpAnyH_done (by kernel_rfl) ?_ _
                            clear hHeld
                            go_wp2_with fail
                            have hfin := ret_own (room := room) (next := next) HS8d.out.ow HS8d.out.bw HS8d.out.bz (Nat.le_succ _)
                            refine bodyPost_ret (v := .tuple #[fv room next (.slice (some ⟨b, off, none⟩) n2 c2), str q, .bool (false), .int .i64 0]) (by simp [results, Try.results32, go_sem, s0, s1, s2]) rfl ?_
                            rw [HE.out, HQQ.out]
                            exact ⟨_, n2, c2, _, by rw [HDN.out]; rfl, HFS.out, hfin.1, hfin.2⟩
          
        | true =>
          have HDN := Lib.hid hdn
          rw [hdn] at HD8
          clear hdn
          have nt6 : ¬ t6 = w.heap.size + 1 := by have := HS8.out.t6; omega
          have s0 : W8.cell? ⟨w.heap.size + 1, 0, none⟩ = some (.int .i64 0) := box_at HS8.out.bz 0 _ rfl
          have s1 : W8.cell? ⟨w.heap.size + 1, 1, none⟩ = some (.int .i64 0) := box_at HS8.out.bz 1 _ rfl
          have s2 : W8.cell? ⟨w.heap.size + 1, 2, none⟩ = some (.slice none 0 0) := box_at HS8.out.bz 2 _ rfl
          have sf := box_free HS8.out.bz
          by_cases hee : t.at' + (q.length : Int) = x.base + (x.data.length : Int)
          · have HDE := Lib.hid (show decide (t.at' + (q.length : Int) = endS x) = true from decide_eq_true hee)
            have hbe : ((t.at' + (q.length : Int)) == x.base + (x.data.length : Int)) = true := by simpa using hee
            clear hee
            refine wp_region_held_drew (S := fun W' => W'.cell? ⟨t6, 0, none⟩ = some (.int .i64 room) ∧ W'.cell? ⟨t6, 1, none⟩ = some (.int .i64 next) ∧ W'.cell? ⟨t6, 2, none⟩ = some (.slice (some ⟨b, off, none⟩) n2 c2) ∧ W'.cell? ⟨T6, 6, none⟩ = some (.bool true) ∧ W'.cell? ⟨T6, 3, none⟩ = some (.int .i64 x.base) ∧ W'.cell? ⟨T6, 4, none⟩ = some (str x.data)) (by kernel_rfl) (⟨box_at HS8.out.tp 0 _ rfl, box_at HS8.out.tp 1 _ rfl, box_at HS8.out.tp 2 _ rfl, HD8.out, box_at HX8.out 3 _ rfl, box_at HX8.out 4 _ rfl⟩) (fun hHeld => ?_)
            refine wpAnyH_take (i := 0) (oi := _) (v := ?v0b) rfl (by kernel_rfl) (by kernel_rfl) (by kernel_rfl) (fun _ _ _ h => h) (Or.inl ⟨by kernel_rfl, ?y0b⟩) (by assumption) ?r0b
            case y0b => (intro w hSw; (try dsimp only at hSw); go_simp; try (with_reducible rfl))
            case r0b =>
              simp only [List.getElem_toArray, List.getElem_cons_succ, List.getElem_cons_zero, Act.put, List.setIfInBounds_toArray, List.set_cons_zero, List.set_cons_succ]
              refine wpAnyH_take (i := 1) (oi := _) (v := ?v1b) rfl (by kernel_rfl) (by kernel_rfl) (by kernel_rfl) (fun _ _ _ h => h) (Or.inl ⟨by kernel_rfl, ?y1b⟩) (by assumption) ?r1b
              case y1b => (intro w hSw; (try dsimp only at hSw); go_simp; try (with_reducible rfl))
              case r1b =>
                simp only [List.getElem_toArray, List.getElem_cons_succ, List.getElem_cons_zero, Act.put, List.setIfInBounds_toArray, List.set_cons_zero, List.set_cons_succ]
                refine wpAnyH_take (i := 2) (oi := _) (v := ?v2b) rfl (by kernel_rfl) (by kernel_rfl) (by kernel_rfl) (fun _ _ _ h => h) (Or.inl ⟨by kernel_rfl, ?y2b⟩) (by assumption) ?r2b
                case y2b => (intro w hSw; (try dsimp only at hSw); go_simp; try (with_reducible rfl))
                case r2b =>
                  simp only [List.getElem_toArray, List.getElem_cons_succ, List.getElem_cons_zero, Act.put, List.setIfInBounds_toArray, List.set_cons_zero, List.set_cons_succ]
                  refine wpAnyH_take (i := 3) (oi := _) (v := ?v3b) rfl (by kernel_rfl) (by kernel_rfl) (by kernel_rfl) (fun _ _ _ h => h) (Or.inl ⟨by kernel_rfl, ?y3b⟩) (by assumption) ?r3b
                  case y3b => (intro w hSw; (try dsimp only at hSw); go_simp; try (with_reducible rfl))
                  case r3b =>
                    simp only [List.getElem_toArray, List.getElem_cons_succ, List.getElem_cons_zero, Act.put, List.setIfInBounds_toArray, List.set_cons_zero, List.set_cons_succ]
                    refine wpAnyH_take (i := 4) (oi := _) (v := ?v4b) rfl (by kernel_rfl) (by kernel_rfl) (by kernel_rfl) (fun _ _ _ h => h) (Or.inl ⟨by kernel_rfl, ?y4b⟩) (by assumption) ?r4b
                    case y4b => (intro w hSw; (try dsimp only at hSw); go_simp; try (with_reducible rfl))
                    case r4b =>
                      simp only [List.getElem_toArray, List.getElem_cons_succ, List.getElem_cons_zero, Act.put, List.setIfInBounds_toArray, List.set_cons_zero, List.set_cons_succ]
                      refine wpAnyH_take (i := 5) (oi := _) (v := ?v5b) rfl (by kernel_rfl) (by kernel_rfl) (by kernel_rfl) (fun _ _ _ h => h) (Or.inl ⟨by kernel_rfl, ?y5b⟩) (by assumption) ?r5b
                      case y5b => (intro w hSw; (try dsimp only at hSw); go_simp; try (with_reducible rfl))
                      case r5b =>
                        simp only [List.getElem_toArray, List.getElem_cons_succ, List.getElem_cons_zero, Act.put, List.setIfInBounds_toArray, List.set_cons_zero, List.set_cons_succ]
                        refine wpAnyH_take (i := 6) (oi := _) (v := ?v6b) rfl (by kernel_rfl) (by kernel_rfl) (by kernel_rfl) (fun _ _ _ h => h) (Or.inl ⟨by kernel_rfl, ?y6b⟩) (by assumption) ?r6b
                        case y6b => (intro w hSw; (try dsimp only at hSw); go_simp; try (with_reducible rfl))
                        case r6b =>
                          simp only [List.getElem_toArray, List.getElem_cons_succ, List.getElem_cons_zero, Act.put, List.setIfInBounds_toArray, List.set_cons_zero, List.set_cons_succ]
                          refine wpAnyH_take (i := 7) (oi := _) (v := ?v7b) rfl (by kernel_rfl) (by kernel_rfl) (by kernel_rfl) (fun _ _ _ h => h) (Or.inl ⟨by kernel_rfl, ?y7b⟩) (by assumption) ?r7b
                          case y7b => (intro w hSw; (try dsimp only at hSw); go_simp; try (with_reducible rfl))
                          case r7b =>
                            simp only [List.getElem_toArray, List.getElem_cons_succ, List.getElem_cons_zero, Act.put, List.setIfInBounds_toArray, List.set_cons_zero, List.set_cons_succ]
                            refine wpAnyH_take (i := 8) (oi := _) (v := ?v8b) rfl (by kernel_rfl) (by kernel_rfl) (by kernel_rfl) (fun _ _ _ h => h) (Or.inl ⟨by kernel_rfl, ?y8b⟩) (by assumption) ?r8b
                            case y8b => (intro w hSw; (try dsimp only at hSw); go_simp; try (with_reducible rfl))
                            case r8b =>
                              simp only [List.getElem_toArray, List.getElem_cons_succ, List.getElem_cons_zero, Act.put, List.setIfInBounds_toArray, List.set_cons_zero, List.set_cons_succ]
                              refine wpAnyH_take (i := 9) (oi := _) (v := ?v9b) rfl (by kernel_rfl) (by kernel_rfl) (by kernel_rfl) (fun _ _ _ h => h) (Or.inl ⟨by kernel_rfl, ?y9b⟩) (by assumption) ?r9b
                              case y9b => (intro w hSw; (try dsimp only at hSw); go_simp; try (with_reducible rfl))
                              case r9b =>
                                simp only [List.getElem_toArray, List.getElem_cons_succ, List.getElem_cons_zero, Act.put, List.setIfInBounds_toArray, List.set_cons_zero, List.set_cons_succ]
                                refine wpAnyH_take (i := 10) (oi := _) (v := ?v10b) rfl (by kernel_rfl) (by kernel_rfl) (by kernel_rfl) (fun _ _ _ h => h) (Or.inl ⟨by kernel_rfl, ?y10b⟩) (by assumption) ?r10b
                                case y10b => (intro w hSw; (try dsimp only at hSw); go_simp; try (with_reducible rfl))
                                case r10b =>
                                  simp only [List.getElem_toArray, List.getElem_cons_succ, List.getElem_cons_zero, Act.put, List.setIfInBounds_toArray, List.set_cons_zero, List.set_cons_succ]
                                  refine wpAnyH_take (i := 11) (oi := _) (v := ?v11b) rfl (by kernel_rfl) (by kernel_rfl) (by kernel_rfl) (fun _ _ _ h => h) (Or.inl ⟨by kernel_rfl, ?y11b⟩) (by assumption) ?r11b
                                  case y11b => (intro w hSw; (try dsimp only at hSw); go_simp; try (with_reducible rfl))
                                  case r11b =>
                                    simp only [List.getElem_toArray, List.getElem_cons_succ, List.getElem_cons_zero, Act.put, List.setIfInBounds_toArray, List.set_cons_zero, List.set_cons_succ]
                                    refine wpAnyH_take (i := 12) (oi := _) (v := ?v12b) rfl (by kernel_rfl) (by kernel_rfl) (by kernel_rfl) (fun _ _ _ h => h) (Or.inl ⟨by kernel_rfl, ?y12b⟩) (by assumption) ?r12b
                                    case y12b => (intro w hSw; (try dsimp only at hSw); go_simp; try (with_reducible rfl))
                                    case r12b =>
                                      simp only [List.getElem_toArray, List.getElem_cons_succ, List.getElem_cons_zero, Act.put, List.setIfInBounds_toArray, List.set_cons_zero, List.set_cons_succ]
                                      refine wpAnyH_take (i := 13) (oi := _) (v := ?v13b) rfl (by kernel_rfl) (by kernel_rfl) (by kernel_rfl) (fun _ _ _ h => h) (Or.inl ⟨by kernel_rfl, ?y13b⟩) (by assumption) ?r13b
                                      case y13b => (intro w hSw; (try dsimp only at hSw); go_simp; try (with_reducible rfl))
                                      case r13b =>
                                        simp only [List.getElem_toArray, List.getElem_cons_succ, List.getElem_cons_zero, Act.put, List.setIfInBounds_toArray, List.set_cons_zero, List.set_cons_succ]
                                        refine wpAnyH_ready (rs := [14]) (by kernel_rfl) (by simp) ?_
                                        refine AllReadyH.cons (o := _) rfl (fun K hK => ?_) AllReadyH.nil
                                        go_simp
                                        skip
                                        go_wp2_with fail
                                        refine hK.out _ _ (by simpa [cell_far, nT1, nt6] using hHeld) (fun hHeld => ?_)
                                        clear hK K
                                        try simp only [List.getElem_toArray, List.getElem_cons_succ, List.getElem_cons_zero, Act.put, List.setIfInBounds_toArray, List.set_cons_zero, List.set_cons_succ]
                                        refine wpAnyH_take (i := 15) (oi := _) (v := ?v15b) rfl (by kernel_rfl) (by kernel_rfl) (by kernel_rfl) (fun _ _ _ h => h) (Or.inl ⟨by kernel_rfl, ?y15b⟩) (by assumption) ?r15b
                                        case y15b => (intro w hSw; (try dsimp only at hSw); go_simp; try (with_reducible rfl))
                                        case r15b =>
                                          simp only [List.getElem_toArray, List.getElem_cons_succ, List.getElem_cons_zero, Act.put, List.setIfInBounds_toArray, List.set_cons_zero, List.set_cons_succ]
                                          refine wpAnyH_take (i := 16) (oi := _) (v := ?v16b) rfl (by kernel_rfl) (by kernel_rfl) (by kernel_rfl) (fun _ _ _ h => h) (Or.inl ⟨by kernel_rfl, ?y16b⟩) (by assumption) ?r16b
                                          case y16b => (intro w hSw; (try dsimp only at hSw); go_simp; try (with_reducible rfl))
                                          case r16b =>
                                            simp only [List.getElem_toArray, List.getElem_cons_succ, List.getElem_cons_zero, Act.put, List.setIfInBounds_toArray, List.set_cons_zero, List.set_cons_succ]
                                            refine wpAnyH_take (i := 17) (oi := _) (v := ?v17b) rfl (by kernel_rfl) (by kernel_rfl) (by kernel_rfl) (fun _ _ _ h => h) (Or.inl ⟨by kernel_rfl, ?y17b⟩) (by assumption) ?r17b
                                            case y17b => (intro w hSw; (try dsimp only at hSw); go_simp; try (with_reducible rfl))
                                            case r17b =>
                                              simp only [List.getElem_toArray, List.getElem_cons_succ, List.getElem_cons_zero, Act.put, List.setIfInBounds_toArray, List.set_cons_zero, List.set_cons_succ]
                                              refine wpAnyH_done (by kernel_rfl) ?_ _
                                              clear hHeld
                                              go_wp2_with fail
                                              have hfin := ret_own (room := room) (next := next) HS8d.out.ow HS8d.out.bw HS8d.out.bz (Nat.le_succ _)
                                              refine bodyPost_ret (v := .tuple #[fv room next (.slice (some ⟨b, off, none⟩) n2 c2), str q, .bool (true), .int .i64 0]) (by simp [results, Try.results32, go_sem, s0, s1, s2]) rfl ?_
                                              rw [HE.out, HQQ.out]
                                              exact ⟨_, n2, c2, _, by rw [HDN.out, HDE.out]; rfl, HFS.out, hfin.1, hfin.2⟩
            
          · have HDE := Lib.hid (show decide (t.at' + (q.length : Int) = endS x) = false from decide_eq_false hee)
            have hbe : ((t.at' + (q.length : Int)) == x.base + (x.data.length : Int)) = false := by simpa using hee
            clear hee
            refine wp_region_held_drew (S := fun W' => W'.cell? ⟨t6, 0, none⟩ = some (.int .i64 room) ∧ W'.cell? ⟨t6, 1, none⟩ = some (.int .i64 next) ∧ W'.cell? ⟨t6, 2, none⟩ = some (.slice (some ⟨b, off, none⟩) n2 c2) ∧ W'.cell? ⟨T6, 6, none⟩ = some (.bool true) ∧ W'.cell? ⟨T6, 3, none⟩ = some (.int .i64 x.base) ∧ W'.cell? ⟨T6, 4, none⟩ = some (str x.data)) (by kernel_rfl) (⟨box_at HS8.out.tp 0 _ rfl, box_at HS8.out.tp 1 _ rfl, box_at HS8.out.tp 2 _ rfl, HD8.out, box_at HX8.out 3 _ rfl, box_at HX8.out 4 _ rfl⟩) (fun hHeld => ?_)
            refine wpAnyH_take (i := 0) (oi := _) (v := ?v0a) rfl (by kernel_rfl) (by kernel_rfl) (by kernel_rfl) (fun _ _ _ h => h) (Or.inl ⟨by kernel_rfl, ?y0a⟩) (by assumption) ?r0a
            case y0a => (intro w hSw; (try dsimp only at hSw); go_simp; try (with_reducible rfl))
            case r0a =>
              simp only [List.getElem_toArray, List.getElem_cons_succ, List.getElem_cons_zero, Act.put, List.setIfInBounds_toArray, List.set_cons_zero, List.set_cons_succ]
              refine wpAnyH_take (i := 1) (oi := _) (v := ?v1a) rfl (by kernel_rfl) (by kernel_rfl) (by kernel_rfl) (fun _ _ _ h => h) (Or.inl ⟨by kernel_rfl, ?y1a⟩) (by assumption) ?r1a
              case y1a => (intro w hSw; (try dsimp only at hSw); go_simp; try (with_reducible rfl))
              case r1a =>
                simp only [List.getElem_toArray, List.getElem_cons_succ, List.getElem_cons_zero, Act.put, List.setIfInBounds_toArray, List.set_cons_zero, List.set_cons_succ]
                refine wpAnyH_take (i := 2) (oi := _) (v := ?v2a) rfl (by kernel_rfl) (by kernel_rfl) (by kernel_rfl) (fun _ _ _ h => h) (Or.inl ⟨by kernel_rfl, ?y2a⟩) (by assumption) ?r2a
                case y2a => (intro w hSw; (try dsimp only at hSw); go_simp; try (with_reducible rfl))
                case r2a =>
                  simp only [List.getElem_toArray, List.getElem_cons_succ, List.getElem_cons_zero, Act.put, List.setIfInBounds_toArray, List.set_cons_zero, List.set_cons_succ]
                  refine wpAnyH_take (i := 3) (oi := _) (v := ?v3a) rfl (by kernel_rfl) (by kernel_rfl) (by kernel_rfl) (fun _ _ _ h => h) (Or.inl ⟨by kernel_rfl, ?y3a⟩) (by assumption) ?r3a
                  case y3a => (intro w hSw; (try dsimp only at hSw); go_simp; try (with_reducible rfl))
                  case r3a =>
                    simp only [List.getElem_toArray, List.getElem_cons_succ, List.getElem_cons_zero, Act.put, List.setIfInBounds_toArray, List.set_cons_zero, List.set_cons_succ]
                    refine wpAnyH_take (i := 4) (oi := _) (v := ?v4a) rfl (by kernel_rfl) (by kernel_rfl) (by kernel_rfl) (fun _ _ _ h => h) (Or.inl ⟨by kernel_rfl, ?y4a⟩) (by assumption) ?r4a
                    case y4a => (intro w hSw; (try dsimp only at hSw); go_simp; try (with_reducible rfl))
                    case r4a =>
                      simp only [List.getElem_toArray, List.getElem_cons_succ, List.getElem_cons_zero, Act.put, List.setIfInBounds_toArray, List.set_cons_zero, List.set_cons_succ]
                      refine wpAnyH_take (i := 5) (oi := _) (v := ?v5a) rfl (by kernel_rfl) (by kernel_rfl) (by kernel_rfl) (fun _ _ _ h => h) (Or.inl ⟨by kernel_rfl, ?y5a⟩) (by assumption) ?r5a
                      case y5a => (intro w hSw; (try dsimp only at hSw); go_simp; try (with_reducible rfl))
                      case r5a =>
                        simp only [List.getElem_toArray, List.getElem_cons_succ, List.getElem_cons_zero, Act.put, List.setIfInBounds_toArray, List.set_cons_zero, List.set_cons_succ]
                        refine wpAnyH_take (i := 6) (oi := _) (v := ?v6a) rfl (by kernel_rfl) (by kernel_rfl) (by kernel_rfl) (fun _ _ _ h => h) (Or.inl ⟨by kernel_rfl, ?y6a⟩) (by assumption) ?r6a
                        case y6a => (intro w hSw; (try dsimp only at hSw); go_simp; try (with_reducible rfl))
                        case r6a =>
                          simp only [List.getElem_toArray, List.getElem_cons_succ, List.getElem_cons_zero, Act.put, List.setIfInBounds_toArray, List.set_cons_zero, List.set_cons_succ]
                          refine wpAnyH_take (i := 7) (oi := _) (v := ?v7a) rfl (by kernel_rfl) (by kernel_rfl) (by kernel_rfl) (fun _ _ _ h => h) (Or.inl ⟨by kernel_rfl, ?y7a⟩) (by assumption) ?r7a
                          case y7a => (intro w hSw; (try dsimp only at hSw); go_simp; try (with_reducible rfl))
                          case r7a =>
                            simp only [List.getElem_toArray, List.getElem_cons_succ, List.getElem_cons_zero, Act.put, List.setIfInBounds_toArray, List.set_cons_zero, List.set_cons_succ]
                            refine wpAnyH_take (i := 8) (oi := _) (v := ?v8a) rfl (by kernel_rfl) (by kernel_rfl) (by kernel_rfl) (fun _ _ _ h => h) (Or.inl ⟨by kernel_rfl, ?y8a⟩) (by assumption) ?r8a
                            case y8a => (intro w hSw; (try dsimp only at hSw); go_simp; try (with_reducible rfl))
                            case r8a =>
                              simp only [List.getElem_toArray, List.getElem_cons_succ, List.getElem_cons_zero, Act.put, List.setIfInBounds_toArray, List.set_cons_zero, List.set_cons_succ]
                              refine wpAnyH_take (i := 9) (oi := _) (v := ?v9a) rfl (by kernel_rfl) (by kernel_rfl) (by kernel_rfl) (fun _ _ _ h => h) (Or.inl ⟨by kernel_rfl, ?y9a⟩) (by assumption) ?r9a
                              case y9a => (intro w hSw; (try dsimp only at hSw); go_simp; try (with_reducible rfl))
                              case r9a =>
                                simp only [List.getElem_toArray, List.getElem_cons_succ, List.getElem_cons_zero, Act.put, List.setIfInBounds_toArray, List.set_cons_zero, List.set_cons_succ]
                                refine wpAnyH_take (i := 10) (oi := _) (v := ?v10a) rfl (by kernel_rfl) (by kernel_rfl) (by kernel_rfl) (fun _ _ _ h => h) (Or.inl ⟨by kernel_rfl, ?y10a⟩) (by assumption) ?r10a
                                case y10a => (intro w hSw; (try dsimp only at hSw); go_simp; try (with_reducible rfl))
                                case r10a =>
                                  simp only [List.getElem_toArray, List.getElem_cons_succ, List.getElem_cons_zero, Act.put, List.setIfInBounds_toArray, List.set_cons_zero, List.set_cons_succ]
                                  refine wpAnyH_take (i := 11) (oi := _) (v := ?v11a) rfl (by kernel_rfl) (by kernel_rfl) (by kernel_rfl) (fun _ _ _ h => h) (Or.inl ⟨by kernel_rfl, ?y11a⟩) (by assumption) ?r11a
                                  case y11a => (intro w hSw; (try dsimp only at hSw); go_simp; try (with_reducible rfl))
                                  case r11a =>
                                    simp only [List.getElem_toArray, List.getElem_cons_succ, List.getElem_cons_zero, Act.put, List.setIfInBounds_toArray, List.set_cons_zero, List.set_cons_succ]
                                    refine wpAnyH_take (i := 12) (oi := _) (v := ?v12a) rfl (by kernel_rfl) (by kernel_rfl) (by kernel_rfl) (fun _ _ _ h => h) (Or.inl ⟨by kernel_rfl, ?y12a⟩) (by assumption) ?r12a
                                    case y12a => (intro w hSw; (try dsimp only at hSw); go_simp; try (with_reducible rfl))
                                    case r12a =>
                                      simp only [List.getElem_toArray, List.getElem_cons_succ, List.getElem_cons_zero, Act.put, List.setIfInBounds_toArray, List.set_cons_zero, List.set_cons_succ]
                                      refine wpAnyH_take (i := 13) (oi := _) (v := ?v13a) rfl (by kernel_rfl) (by kernel_rfl) (by kernel_rfl) (fun _ _ _ h => h) (Or.inl ⟨by kernel_rfl, ?y13a⟩) (by assumption) ?r13a
                                      case y13a => (intro w hSw; (try dsimp only at hSw); go_simp; try (with_reducible rfl))
                                      case r13a =>
                                        simp only [List.getElem_toArray, List.getElem_cons_succ, List.getElem_cons_zero, Act.put, List.setIfInBounds_toArray, List.set_cons_zero, List.set_cons_succ]
                                        refine wpAnyH_ready (rs := [14]) (by kernel_rfl) (by simp) ?_
                                        refine AllReadyH.cons (o := _) rfl (fun K hK => ?_) AllReadyH.nil
                                        go_simp
                                        skip
                                        go_wp2_with fail
                                        refine hK.out _ _ (by simpa [cell_far, nT1, nt6] using hHeld) (fun hHeld => ?_)
                                        clear hK K
                                        try simp only [List.getElem_toArray, List.getElem_cons_succ, List.getElem_cons_zero, Act.put, List.setIfInBounds_toArray, List.set_cons_zero, List.set_cons_succ]
                                        refine wpAnyH_take (i := 15) (oi := _) (v := ?v15a) rfl (by kernel_rfl) (by kernel_rfl) (by kernel_rfl) (fun _ _ _ h => h) (Or.inl ⟨by kernel_rfl, ?y15a⟩) (by assumption) ?r15a
                                        case y15a => (intro w hSw; (try dsimp only at hSw); go_simp; try (with_reducible rfl))
                                        case r15a =>
                                          simp only [List.getElem_toArray, List.getElem_cons_succ, List.getElem_cons_zero, Act.put, List.setIfInBounds_toArray, List.set_cons_zero, List.set_cons_succ]
                                          refine wpAnyH_take (i := 16) (oi := _) (v := ?v16a) rfl (by kernel_rfl) (by kernel_rfl) (by kernel_rfl) (fun _ _ _ h => h) (Or.inl ⟨by kernel_rfl, ?y16a⟩) (by assumption) ?r16a
                                          case y16a => (intro w hSw; (try dsimp only at hSw); go_simp; try (with_reducible rfl))
                                          case r16a =>
                                            simp only [List.getElem_toArray, List.getElem_cons_succ, List.getElem_cons_zero, Act.put, List.setIfInBounds_toArray, List.set_cons_zero, List.set_cons_succ]
                                            refine wpAnyH_take (i := 17) (oi := _) (v := ?v17a) rfl (by kernel_rfl) (by kernel_rfl) (by kernel_rfl) (fun _ _ _ h => h) (Or.inl ⟨by kernel_rfl, ?y17a⟩) (by assumption) ?r17a
                                            case y17a => (intro w hSw; (try dsimp only at hSw); go_simp; try (with_reducible rfl))
                                            case r17a =>
                                              simp only [List.getElem_toArray, List.getElem_cons_succ, List.getElem_cons_zero, Act.put, List.setIfInBounds_toArray, List.set_cons_zero, List.set_cons_succ]
                                              refine wpAnyH_done (by kernel_rfl) ?_ _
                                              clear hHeld
                                              go_wp2_with fail
                                              have hfin := ret_own (room := room) (next := next) HS8d.out.ow HS8d.out.bw HS8d.out.bz (Nat.le_succ _)
                                              refine bodyPost_ret (v := .tuple #[fv room next (.slice (some ⟨b, off, none⟩) n2 c2), str q, .bool (false), .int .i64 0]) (by simp [results, Try.results32, go_sem, s0, s1, s2]) rfl ?_
                                              rw [HE.out, HQQ.out]
                                              exact ⟨_, n2, c2, _, by rw [HDN.out, HDE.out]; rfl, HFS.out, hfin.1, hfin.2⟩
            
end Go.Proofs.Ytipjhokhflokmaa
