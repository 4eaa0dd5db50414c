/- flight.Join (printed by mkAM.py). -/
import Derived.Test.YtipjhokhflokmaaAL
set_option linter.unusedVariables false
set_option linter.unusedSimpArgs false
namespace Go.Proofs.Ytipjhokhflokmaa
open Go.RowKit Go.Maps
open Go.Proofs.YtipjhokhflokmaaW.PrintWords

set_option maxRecDepth 100000 in
set_option maxHeartbeats 8000000 in
theorem join_any (w : World) (room next : Int) (A : Option Addr) (n c : Nat) (ys : List FV) (key : List UInt8) (wt : Int) (share : Bool) (hr : RdF w (.slice A n c) ys) (hs : SmF (fls ys)) (hkl : key.length ≤ 100000) :
    Calls Try.prog 10 #[fv room next (.slice A n c), str key, .int .i64 wt, .bool share] w (JoinPost w room (joinOp room next (fls ys) key wt share)) := by
  have hl : ys.length = n := hr.len
  have hn : n ≤ 1000 := by have := hs.n; rw [← hl]; simpa [fls] using this
  have hal1 : Below w.heap.size w (w.alloc (.cells #[.int .i64 room, .int .i64 next, .slice A n c] 26)) := (Below.refl _ _).alloc (Nat.le_refl _) _
  have hal2 : Below w.heap.size w ((w.alloc (.cells #[.int .i64 room, .int .i64 next, .slice A n c] 26)).alloc (.cells #[.int .i64 0, .int .i64 0, .slice none 0 0] 26)) := hal1.alloc (by simp) _
  have x1 : ((w.alloc (.cells #[.int .i64 room, .int .i64 next, .slice A n c] 26)).alloc (.cells #[.int .i64 0, .int .i64 0, .slice none 0 0] 26)).heap[w.heap.size]? = some (.cells #[.int .i64 room, .int .i64 next, .slice A n c] 26 (0, 0)) := keep ((Below.refl _ _).alloc (Nat.le_refl _) _) (heap_alloc_new w _)
  have x2 : ((w.alloc (.cells #[.int .i64 room, .int .i64 next, .slice A n c] 26)).alloc (.cells #[.int .i64 0, .int .i64 0, .slice none 0 0] 26)).heap[w.heap.size + 1]? = some (.cells #[.int .i64 0, .int .i64 0, .slice none 0 0] 26 (0, 0)) := by
    have := heap_alloc_new (w.alloc (.cells #[.int .i64 room, .int .i64 next, .slice A n c] 26)) (.cells #[.int .i64 0, .int .i64 0, .slice none 0 0] 26)
    rwa [show (w.alloc (.cells #[.int .i64 room, .int .i64 next, .slice A n c] 26)).heap.size = w.heap.size + 1 by simp] at this
  have HR0 := Lib.hid hr
  have HR := Lib.hid (hr.below hal2)
  have HS := Lib.hid hs
  clear hal1 hr hs
  go_enter Try.func10, Try.ntmps10
  go_upto_region 1 with fail
  generalize (w.alloc (.cells #[.int .i64 room, .int .i64 next, .slice A n c] 26)).alloc (.cells #[.int .i64 0, .int .i64 0, .slice none 0 0] 26) = U at *
  have HX1 := Lib.hid x1
  have HX2 := Lib.hid x2
  have HAL := Lib.hid hal2
  clear x1 x2 hal2
  have z0 : U.cell? ⟨w.heap.size, 0, none⟩ = some (.int .i64 room) := box_at HX1.out 0 _ rfl
  have z1 : U.cell? ⟨w.heap.size, 1, none⟩ = some (.int .i64 next) := box_at HX1.out 1 _ rfl
  have z2 : U.cell? ⟨w.heap.size, 2, none⟩ = some (.slice A n c) := box_at HX1.out 2 _ rfl
  have c22 := Lib.hid (own_any U room next A n c ys HR.out hn HS.out.w')
  go_upto_region 2 with (go_at_call 22; refine c22.out.mono ?_; rintro e w2 ⟨A2, n2, c2, zs, rfl, hfz, hO2, hb2⟩; have y0 : w2.cell? ⟨w.heap.size, 0, none⟩ = some (.int .i64 room) := box_at (keep hb2 HX1.out) 0 _ rfl; have y1 : w2.cell? ⟨w.heap.size, 1, none⟩ = some (.int .i64 next) := box_at (keep hb2 HX1.out) 1 _ rfl; have y2 : w2.cell? ⟨w.heap.size, 2, none⟩ = some (.slice A n c) := box_at (keep hb2 HX1.out) 2 _ rfl; have yf := box_free (keep hb2 HX1.out))
  have hS := ip_setup HAL.out HX1.out HX2.out hO2 hb2
  clear y0 y1 y2 yf z0 z1 z2 hO2 hb2 HX1 HX2 HAL HR c22
  unfold st3 at hS
  generalize ((w2.setCell ⟨w.heap.size, 0, none⟩ (.int .i64 room)).setCell ⟨w.heap.size, 1, none⟩ (.int .i64 next)).setCell ⟨w.heap.size, 2, none⟩ (.slice A2 n2 c2) = W3 at *
  have hsF : SmF (fls zs) := by rw [hfz]; exact HS.out
  have hl2 : zs.length = n2 := hS.ow.rd.len
  have c13 := right_any W3 room next A2 n2 c2 zs hS.ow.rd (hsF.sm hl2)
  rw [hfz] at c13
  have C13 := Lib.hid c13
  have HSS := Lib.hid hS
  have HFZ := Lib.hid hfz
  have HSZ := Lib.hid hsF
  clear hS hfz c13 hsF
  have y0 : W3.cell? ⟨w.heap.size, 0, none⟩ = some (.int .i64 room) := box_at HSS.out.bx 0 _ rfl
  have y1 : W3.cell? ⟨w.heap.size, 1, none⟩ = some (.int .i64 next) := box_at HSS.out.bx 1 _ rfl
  have y2 : W3.cell? ⟨w.heap.size, 2, none⟩ = some (.slice A2 n2 c2) := box_at HSS.out.bx 2 _ rfl
  have hn2 : n2 ≤ 1000 := by have := HSZ.out.n; rw [← hl2]; simpa [fls] using this
  have c23 := waits_any W3 room next A2 n2 c2 zs wt HSS.out.ow.rd hn2 HSZ.out.w'
  rw [HFZ.out] at c23
  obtain ⟨wi, hwi⟩ : ∃ wi, (waitsS (fls ys) wt).1 = wi := ⟨_, rfl⟩
  obtain ⟨wk, hwk⟩ : ∃ wk, (waitsS (fls ys) wt).2 = wk := ⟨_, rfl⟩
  rw [hwi, hwk] at c23
  have C23 := Lib.hid c23
  have HWI := Lib.hid hwi
  clear c23 C13 hwi hwk
  go_upto_region 3 with (go_at_call 23; refine C23.out.mono ?_; rintro e w4 ⟨rfl, hb4⟩; have HS4 := Lib.hid (HSS.out.below hb4); clear hb4)
  clear C23 HSS y0 y1 y2
  have c13 := right_any w4 room next A2 n2 c2 zs HS4.out.ow.rd (HSZ.out.sm hl2)
  rw [HFZ.out] at c13
  have C13 := Lib.hid c13
  clear c13
  have y0 : w4.cell? ⟨w.heap.size, 0, none⟩ = some (.int .i64 room) := box_at HS4.out.bx 0 _ rfl
  have y1 : w4.cell? ⟨w.heap.size, 1, none⟩ = some (.int .i64 next) := box_at HS4.out.bx 1 _ rfl
  have y2 : w4.cell? ⟨w.heap.size, 2, none⟩ = some (.slice A2 n2 c2) := box_at HS4.out.bx 2 _ rfl
  cases hq : rightS room next (fls ys) with
  | false =>
    have HE := Lib.hid (joinOp1 (wt := wt) (key := key) (share := share) (.inl hq))
    have HQ := Lib.hid hq; clear hq
    go_upto_region 6 with (go_at_call 13; refine C13.out.mono ?_; rw [HQ.out]; rintro e w5 ⟨rfl, hb5⟩; have HS5 := Lib.hid (HS4.out.below hb5); clear hb5)
    clear y0 y1 y2
    have y0 : w5.cell? ⟨w.heap.size, 0, none⟩ = some (.int .i64 room) := box_at HS5.out.bx 0 _ rfl
    have y1 : w5.cell? ⟨w.heap.size, 1, none⟩ = some (.int .i64 next) := box_at HS5.out.bx 1 _ rfl
    have y2 : w5.cell? ⟨w.heap.size, 2, none⟩ = some (.slice A2 n2 c2) := box_at HS5.out.bx 2 _ rfl
    have s0 : w5.cell? ⟨w.heap.size + 1, 0, none⟩ = some (.int .i64 0) := box_at HS5.out.bz 0 _ rfl
    have s1 : w5.cell? ⟨w.heap.size + 1, 1, none⟩ = some (.int .i64 0) := box_at HS5.out.bz 1 _ rfl
    have s2 : w5.cell? ⟨w.heap.size + 1, 2, none⟩ = some (.slice none 0 0) := box_at HS5.out.bz 2 _ rfl
    have sf := box_free HS5.out.bz
    go_wp2_with fail
    have hfin := ret_own (room := room) (next := next) HS5.out.ow HS5.out.bw HS5.out.bz (Nat.le_succ _)
    refine bodyPost_ret (v := .tuple #[fv room (next) (.slice A2 n2 c2), .int .i64 0, .bool false, .int .i64 1]) (by simp [results, Try.results10, go_sem, s0, s1, s2]) rfl ?_
    rw [HE.out]
    exact ⟨_, n2, c2, zs, rfl, HFZ.out, hfin.1, hfin.2⟩
  | true =>
    have HQ := Lib.hid hq
    have HRN := Lib.hid (right_n hq)
    go_upto_region 4 with (go_at_call 13; refine C13.out.mono ?_; rw [HQ.out]; rintro e w5 ⟨rfl, hb5⟩; have HS5 := Lib.hid (HS4.out.below hb5); clear hb5)
    clear y0 y1 y2 hq
    have y0 : w5.cell? ⟨w.heap.size, 0, none⟩ = some (.int .i64 room) := box_at HS5.out.bx 0 _ rfl
    have y1 : w5.cell? ⟨w.heap.size, 1, none⟩ = some (.int .i64 next) := box_at HS5.out.bx 1 _ rfl
    have y2 : w5.cell? ⟨w.heap.size, 2, none⟩ = some (.slice A2 n2 c2) := box_at HS5.out.bx 2 _ rfl
    have s0 : w5.cell? ⟨w.heap.size + 1, 0, none⟩ = some (.int .i64 0) := box_at HS5.out.bz 0 _ rfl
    have s1 : w5.cell? ⟨w.heap.size + 1, 1, none⟩ = some (.int .i64 0) := box_at HS5.out.bz 1 _ rfl
    have s2 : w5.cell? ⟨w.heap.size + 1, 2, none⟩ = some (.slice none 0 0) := box_at HS5.out.bz 2 _ rfl
    have sf := box_free HS5.out.bz
    by_cases hw0 : wt < 0
    · have HE := Lib.hid (joinOp1 (room := room) (next := next) (fs := fls ys) (key := key) (share := share) (.inr (.inl hw0)))
      go_wp2_with fail
      have hfin := ret_own (room := room) (next := next) HS5.out.ow HS5.out.bw HS5.out.bz (Nat.le_succ _)
      refine bodyPost_ret (v := .tuple #[fv room (next) (.slice A2 n2 c2), .int .i64 0, .bool false, .int .i64 1]) (by simp [results, Try.results10, go_sem, s0, s1, s2]) rfl ?_
      rw [HE.out]
      exact ⟨_, n2, c2, zs, rfl, HFZ.out, hfin.1, hfin.2⟩
    · by_cases hkk : 2000 < (key.length : Int)
      · have HE := Lib.hid (joinOp1 (room := room) (next := next) (fs := fls ys) (wt := wt) (share := share) (.inr (.inr hkk)))
        go_wp2_with fail
        have hfin := ret_own (room := room) (next := next) HS5.out.ow HS5.out.bw HS5.out.bz (Nat.le_succ _)
        refine bodyPost_ret (v := .tuple #[fv room (next) (.slice A2 n2 c2), .int .i64 0, .bool false, .int .i64 1]) (by simp [results, Try.results10, go_sem, s0, s1, s2]) rfl ?_
        rw [HE.out]
        exact ⟨_, n2, c2, zs, rfl, HFZ.out, hfin.1, hfin.2⟩
      · have hnb : ¬ badJ room next (fls ys) key wt := by
          rintro (h | h | h)
          · rw [HQ.out] at h; cases h
          · omega
          · omega
        by_cases hwi : 0 ≤ wi
        · have HE := Lib.hid (joinOp6 (share := share) hnb (by rw [HWI.out]; exact hwi))
          clear hnb
          go_wp2_with fail
          have hfin := ret_own (room := room) (next := next) HS5.out.ow HS5.out.bw HS5.out.bz (Nat.le_succ _)
          refine bodyPost_ret (v := .tuple #[fv room (next) (.slice A2 n2 c2), .int .i64 0, .bool false, .int .i64 6]) (by simp [results, Try.results10, go_sem, s0, s1, s2]) rfl ?_
          rw [HE.out]
          exact ⟨_, n2, c2, zs, rfl, HFZ.out, hfin.1, hfin.2⟩
        · have HJN := Lib.hid (fun (h : openF (fls ys) key share < 0) => joinOpN (share := share) hnb (by rw [HWI.out]; exact hwi) h)
          have HJJ := Lib.hid (fun (k : Nat) (x : Fl) (h3 : openF (fls ys) key share = (k : Int)) (hx : (fls ys)[k]? = some x) => joinOpJ (share := share) hnb (by rw [HWI.out]; exact hwi) h3 hx)
          clear hnb
          go_upto_region 10 with fail
          clear hwi hw0 hkk y0 y1 y2 s0 s1 s2 sf
          have hal9 : Below w5.heap.size w5 (w5.alloc (.cells #[.int .i64 wt, .int .i64 0] 47)) := (Below.refl _ _).alloc (Nat.le_refl _) _
          have hx9 := heap_alloc_new w5 (.cells #[.int .i64 wt, .int .i64 0] 47)
          have HS9 := Lib.hid (HS5.out.below hal9)
          have HX9 := Lib.hid hx9
          clear hal9 hx9
          generalize w5.alloc (.cells #[.int .i64 wt, .int .i64 0] 47) = W9 at *
          generalize w5.heap.size = tb at *
          have y0 : W9.cell? ⟨w.heap.size, 0, none⟩ = some (.int .i64 room) := box_at HS9.out.bx 0 _ rfl
          have y1 : W9.cell? ⟨w.heap.size, 1, none⟩ = some (.int .i64 next) := box_at HS9.out.bx 1 _ rfl
          have y2 : W9.cell? ⟨w.heap.size, 2, none⟩ = some (.slice A2 n2 c2) := box_at HS9.out.bx 2 _ rfl
          go_upto_region 11 with fail
          clear y0 y1 y2
          go_loopg [45] n2 (fun gg s45 wr => ∃ kk : Nat, kk ≤ n2 ∧ n2 - kk ≤ gg ∧ s45 = .int .i64 kk ∧ Aside (Below W9.heap.size W9 wr ∧ ∀ (j : Nat) (x : Fl), j < kk → (fls ys)[j]? = some x → (share && joinsF key x) = false))
          case atStart => exact ⟨0, Nat.zero_le _, by omega, rfl, (show Aside _ from ⟨Below.refl _ _, fun j x hj => absurd hj (Nat.not_lt_zero _)⟩)⟩
          case round =>
            obtain ⟨kk, hkk, hg, rfl, HA⟩ := hrel
            have HSr := Lib.hid (HS9.out.below HA.out.1)
            have HXr := Lib.hid (keep HA.out.1 HX9.out)
            have HBr := Lib.hid HA.out.1
            have HNO := Lib.hid HA.out.2
            clear HA
            have y2 : wr.cell? ⟨w.heap.size, 2, none⟩ = some (.slice A2 n2 c2) := box_at HSr.out.bx 2 _ rfl
            by_cases hlt : kk < n2
            · have hltz : (kk : Int) < (n2 : Int) := by omega
              obtain ⟨⟨x, S⟩, hzk⟩ : ∃ y, zs[kk]? = some y := ⟨_, List.getElem?_eq_getElem (by omega)⟩
              obtain ⟨b, off, hA2, hlob, hF⟩ := HSr.out.ow.at_ hzk
              subst hA2
              have HZK := Lib.hid hzk
              have hfx : (fls ys)[kk]? = some x := by rw [← HFZ.out]; exact fls_at hzk
              have HFX := Lib.hid hfx
              have HF := Lib.hid hF
              have HLOB := Lib.hid hlob
              clear hzk hF hlob hfx
              go_upto_region 14 with fail
              clear y2
              have hal := (Below.refl wr.heap.size wr).alloc (Nat.le_refl _) (.cells #[.pointer (some ⟨b, off + kk * 8, none⟩)] 61)
              have hx := heap_alloc_new wr (.cells #[.pointer (some ⟨b, off + kk * 8, none⟩)] 61)
              have HSt := Lib.hid (HSr.out.below hal)
              have HXt := Lib.hid (keep hal HXr.out)
              have HFt := Lib.hid (HF.out.below hal)
              have HBt := Lib.hid (HBr.out.trans (hal.mono HBr.out.size))
              have HPt := Lib.hid hx
              clear hal hx HSr HXr HF HBr
              generalize wr.alloc (.cells #[.pointer (some ⟨b, off + kk * 8, none⟩)] 61) = Wt at *
              generalize wr.heap.size = tp at *
              have p0 : Wt.cell? ⟨tp, 0, none⟩ = some (.pointer (some ⟨b, off + kk * 8, none⟩)) := box_at HPt.out 0 _ rfl
              have C24 := Lib.hid (joins_any Wt b (off + kk * 8) (x, S) key HFt.out)
              cases share with
              | false =>
                go_wp2_with fail
                go_roundg (n2 - (kk + 1))
                case measure => omega
                case rel => exact ⟨kk + 1, by omega, by omega, by go_num, (show Aside _ from ⟨HBt.out, fun j x _ _ => rfl⟩)⟩
              | true =>
                cases hj : joinsF key x with
                | false =>
                  have HJ := Lib.hid hj; clear hj
                  go_wp2_with (go_at_call 24; refine C24.out.mono ?_; simp only [HJ.out]; rintro e w6 ⟨rfl, hb6⟩; have HB6 := Lib.hid (HBt.out.trans (hb6.mono HBt.out.size)); clear hb6)
                  go_roundg (n2 - (kk + 1))
                  case measure => omega
                  case rel =>
                    refine ⟨kk + 1, by omega, by omega, by go_num, (show Aside _ from ⟨HB6.out, fun j z hj hz => ?_⟩)⟩
                    rcases Nat.lt_or_ge j kk with h | h
                    · exact HNO.out j z h hz
                    · obtain rfl : j = kk := by omega
                      rw [HFX.out] at hz
                      injection hz with hz
                      subst hz
                      rw [HJ.out]
                      rfl
                | true =>
                  have HJ := Lib.hid hj; clear hj
                  have HE := Lib.hid (HJJ.out kk x (findG_some HFX.out (by rw [HJ.out]; rfl) HNO.out) HFX.out)
                  go_upto_region 15 with (go_at_call 24; refine C24.out.mono ?_; simp only [HJ.out]; rintro e w6 ⟨rfl, hb6⟩; have HS6 := Lib.hid (HSt.out.below hb6); have HX6 := Lib.hid (keep hb6 HXt.out); have HP6 := Lib.hid (keep hb6 HPt.out); have HF6 := Lib.hid (HFt.out.below hb6); clear hb6)
                  clear p0 C24 HSt HXt HPt HFt
                  obtain ⟨B, m, d⟩ := S
                  have hxw : x.ws.length ≤ 1000 := HS.out.w x (List.mem_of_getElem? HFX.out)
                  have p0 : w6.cell? ⟨tp, 0, none⟩ = some (.pointer (some ⟨b, off + kk * 8, none⟩)) := box_at HP6.out 0 _ rfl
                  have t0 : w6.cell? ⟨tb, 0, none⟩ = some (.int .i64 wt) := box_at HX6.out 0 _ rfl
                  have t1 : w6.cell? ⟨tb, 1, none⟩ = some (.int .i64 0) := box_at HX6.out 1 _ rfl
                  have k7 : w6.cell? ⟨b, off + kk * 8 + 7, none⟩ = some (.slice B m d) := HF6.out.c7
                  have hal6 : Below w6.heap.size w6 (w6.alloc (.cells #[.int .i64 wt, .int .i64 0] 47)).drew := below_drew ((Below.refl _ _).alloc (Nat.le_refl _) _)
                  have HSU := Lib.hid (HS6.out.below hal6)
                  have HPU := Lib.hid (keep hal6 HP6.out)
                  have p0u := pw_cell_below hal6 p0
                  have k7u := pw_cell_below hal6 k7
                  have HBX := Lib.hid (show RdE tenc 2 (w6.alloc (.cells #[.int .i64 wt, .int .i64 0] 47)).drew (.slice (some ⟨w6.heap.size, 0, none⟩) 1 1) [⟨wt, 0⟩] from (rd_boxE (enc := tenc) w6 ⟨wt, 0⟩ 47).below (below_drew (Below.refl _ _)))
                  clear hal6
                  go_cut [] from 59 to 70 (fun wx => Aside (∃ S' : Sl, IpS w wx room next (.slice (some ⟨b, off, none⟩) n2 c2) (zs.set kk ({ x with ws := x.ws ++ [⟨wt, 0⟩] }, S')) ∧ wx.heap[tp]? = some (.cells #[.pointer (some ⟨b, off + kk * 8, none⟩)] 61 (0, 0))))
                  case first =>
                    go_region_law (refine wp_app_stepE w.heap.size rfl _ _ 43 47 (.agg #[.int .i64 0, .int .i64 0]) 16 rfl Try.underlying43 Try.info47 rfl (by omega) (by omega) (.slice B m d) (.slice (some ⟨w6.heap.size, 0, none⟩) 1 1) x.ws [⟨wt, 0⟩] (by rfl) (by rfl) (HSU.out.ow.r kk _ HZK.out) HBX.out tenc1 (by simp only [List.length_cons, List.length_nil]; omega) HSU.out.bw.size ?_; intro v1 w8 hO8 hg8 hat8; obtain ⟨F1, f1, g1, rfl⟩ := hO8.slice'; have HO8 := Lib.hid hO8; have HG8 := Lib.hid hg8; have HAT := Lib.hid hat8; have z8 := (OwF.cell7g HSU.out.ow HZK.out hg8).1; have f8 := (OwF.cell7g HSU.out.ow HZK.out hg8).2; have p8 := box_at (app_box HSU.out.ow HZK.out hg8 HPU.out (by decide)) 0 _ rfl; clear hO8 hg8 hat8 p0 p0u k7 k7u t0 t1)
                    all_goals go_wp2_with fail
                    all_goals go_meet
                    all_goals
                      refine (show Aside (∃ S' : Sl, _) from (?_ : ∃ S' : Sl, _))
                      exact ⟨⟨F1, f1, g1⟩, HSU.out.addW (S' := ⟨F1, f1, g1⟩) HZK.out HO8.out HG8.out HAT.out, addW_box HSU.out.ow HZK.out HG8.out HPU.out (by decide) (by decide) _ _⟩
                  case rest =>
                    obtain ⟨S', HS7, HT7⟩ := hcut.out
                    have HS7 := Lib.hid HS7
                    have HT7 := Lib.hid HT7
                    clear hcut p0 p0u k7 k7u t0 t1 HSU HPU HBX
                    have hkz : kk < zs.length := by omega
                    have hzk7 : (zs.set kk ({ x with ws := x.ws ++ [⟨wt, 0⟩] }, S'))[kk]? = some ({ x with ws := x.ws ++ [⟨wt, 0⟩] }, S') := List.getElem?_set_self hkz
                    have p0 : wc.cell? ⟨tp, 0, none⟩ = some (.pointer (some ⟨b, off + kk * 8, none⟩)) := box_at HT7.out 0 _ rfl
                    have k2 : wc.cell? ⟨b, off + kk * 8 + 2, none⟩ = some (.int .i64 x.id) := (HS7.out.ow.cell hzk7 (j := 2) rfl).1
                    obtain ⟨cub, hcub⟩ := HS7.out.ow.o.typed b rfl
                    have nb1 : ¬ w.heap.size + 1 = b := blocks_ne (show (26 : TypeId) ≠ 45 by decide) HS7.out.bz hcub
                    have nb2 : ¬ w.heap.size + 1 = tp := blocks_ne (show (26 : TypeId) ≠ 61 by decide) HS7.out.bz HT7.out
                    have nb3 : ¬ tp = w.heap.size + 1 := fun h => nb2 h.symm
                    have nb4 : ¬ b = w.heap.size + 1 := fun h => nb1 h.symm
                    have y0 : wc.cell? ⟨w.heap.size, 0, none⟩ = some (.int .i64 room) := box_at HS7.out.bx 0 _ rfl
                    have y1 : wc.cell? ⟨w.heap.size, 1, none⟩ = some (.int .i64 next) := box_at HS7.out.bx 1 _ rfl
                    have y2 : wc.cell? ⟨w.heap.size, 2, none⟩ = some (.slice (some ⟨b, off, none⟩) n2 c2) := box_at HS7.out.bx 2 _ rfl
                    have s0 : wc.cell? ⟨w.heap.size + 1, 0, none⟩ = some (.int .i64 0) := box_at HS7.out.bz 0 _ rfl
                    have s1 : wc.cell? ⟨w.heap.size + 1, 1, none⟩ = some (.int .i64 0) := box_at HS7.out.bz 1 _ rfl
                    have s2 : wc.cell? ⟨w.heap.size + 1, 2, none⟩ = some (.slice none 0 0) := box_at HS7.out.bz 2 _ rfl
                    have sf := box_free HS7.out.bz
                    have HFS := Lib.hid (fls_set HFZ.out kk { x with ws := x.ws ++ [⟨wt, 0⟩] } S')
                    clear hzk7 hcub
                    go_upto_region 16 with fail
                    have nb0 : ¬ w.heap.size = w.heap.size + 1 := by omega
                    refine wp_region_held_drew (S := fun W' => W'.cell? ⟨w.heap.size, 0, none⟩ = some (.int .i64 room) ∧ W'.cell? ⟨w.heap.size, 1, none⟩ = some (.int .i64 next) ∧ W'.cell? ⟨w.heap.size, 2, none⟩ = some (.slice (some ⟨b, off, none⟩) n2 c2) ∧ W'.cell? ⟨tp, 0, none⟩ = some (.pointer (some ⟨b, off + kk * 8, none⟩)) ∧ W'.cell? ⟨b, off + kk * 8 + 2, none⟩ = some (.int .i64 x.id)) (by kernel_rfl) (⟨cell_dr y0, cell_dr y1, cell_dr y2, cell_dr p0, cell_dr k2⟩) (fun hHeld => ?_)
                    refine wpAnyH_take (i := 0) (oi := _) (v := ?v0j) rfl (by kernel_rfl) (by kernel_rfl) (by kernel_rfl) (fun _ _ _ h => h) (Or.inl ⟨by kernel_rfl, ?y0j⟩) (by assumption) ?r0j
                    case y0j => (intro w hSw; (try dsimp only at hSw); go_simp; try (with_reducible rfl))
                    case r0j =>
                      simp only [List.getElem_toArray, List.getElem_cons_succ, List.getElem_cons_zero, Act.put, List.setIfInBounds_toArray, List.set_cons_zero, List.set_cons_succ]
                      refine wpAnyH_take (i := 1) (oi := _) (v := ?v1j) rfl (by kernel_rfl) (by kernel_rfl) (by kernel_rfl) (fun _ _ _ h => h) (Or.inl ⟨by kernel_rfl, ?y1j⟩) (by assumption) ?r1j
                      case y1j => (intro w hSw; (try dsimp only at hSw); go_simp; try (with_reducible rfl))
                      case r1j =>
                        simp only [List.getElem_toArray, List.getElem_cons_succ, List.getElem_cons_zero, Act.put, List.setIfInBounds_toArray, List.set_cons_zero, List.set_cons_succ]
                        refine wpAnyH_take (i := 2) (oi := _) (v := ?v2j) rfl (by kernel_rfl) (by kernel_rfl) (by kernel_rfl) (fun _ _ _ h => h) (Or.inl ⟨by kernel_rfl, ?y2j⟩) (by assumption) ?r2j
                        case y2j => (intro w hSw; (try dsimp only at hSw); go_simp; try (with_reducible rfl))
                        case r2j =>
                          simp only [List.getElem_toArray, List.getElem_cons_succ, List.getElem_cons_zero, Act.put, List.setIfInBounds_toArray, List.set_cons_zero, List.set_cons_succ]
                          refine wpAnyH_take (i := 3) (oi := _) (v := ?v3j) rfl (by kernel_rfl) (by kernel_rfl) (by kernel_rfl) (fun _ _ _ h => h) (Or.inl ⟨by kernel_rfl, ?y3j⟩) (by assumption) ?r3j
                          case y3j => (intro w hSw; (try dsimp only at hSw); go_simp; try (with_reducible rfl))
                          case r3j =>
                            simp only [List.getElem_toArray, List.getElem_cons_succ, List.getElem_cons_zero, Act.put, List.setIfInBounds_toArray, List.set_cons_zero, List.set_cons_succ]
                            refine wpAnyH_take (i := 4) (oi := _) (v := ?v4j) rfl (by kernel_rfl) (by kernel_rfl) (by kernel_rfl) (fun _ _ _ h => h) (Or.inl ⟨by kernel_rfl, ?y4j⟩) (by assumption) ?r4j
                            case y4j => (intro w hSw; (try dsimp only at hSw); go_simp; try (with_reducible rfl))
                            case r4j =>
                              simp only [List.getElem_toArray, List.getElem_cons_succ, List.getElem_cons_zero, Act.put, List.setIfInBounds_toArray, List.set_cons_zero, List.set_cons_succ]
                              refine wpAnyH_take (i := 5) (oi := _) (v := ?v5j) rfl (by kernel_rfl) (by kernel_rfl) (by kernel_rfl) (fun _ _ _ h => h) (Or.inl ⟨by kernel_rfl, ?y5j⟩) (by assumption) ?r5j
                              case y5j => (intro w hSw; (try dsimp only at hSw); go_simp; try (with_reducible rfl))
                              case r5j =>
                                simp only [List.getElem_toArray, List.getElem_cons_succ, List.getElem_cons_zero, Act.put, List.setIfInBounds_toArray, List.set_cons_zero, List.set_cons_succ]
                                refine wpAnyH_ready (rs := [6]) (by kernel_rfl) (by simp) ?_
                                refine AllReadyH.cons (o := _) rfl (fun K hK => ?_) AllReadyH.nil
                                go_simp
                                skip
                                go_wp2_with fail
                                refine hK.out _ _ (⟨cs3 hHeld.1 nb0, cs3 hHeld.2.1 nb0, cs3 hHeld.2.2.1 nb0, cs3 hHeld.2.2.2.1 nb3, cs3 hHeld.2.2.2.2 nb4⟩) (fun hHeld => ?_)
                                clear hK K
                                try simp only [List.getElem_toArray, List.getElem_cons_succ, List.getElem_cons_zero, Act.put, List.setIfInBounds_toArray, List.set_cons_zero, List.set_cons_succ]
                                refine wpAnyH_take (i := 7) (oi := _) (v := ?v7j) rfl (by kernel_rfl) (by kernel_rfl) (by kernel_rfl) (fun _ _ _ h => h) (Or.inl ⟨by kernel_rfl, ?y7j⟩) (by assumption) ?r7j
                                case y7j => (intro w hSw; (try dsimp only at hSw); go_simp; try (with_reducible rfl))
                                case r7j =>
                                  simp only [List.getElem_toArray, List.getElem_cons_succ, List.getElem_cons_zero, Act.put, List.setIfInBounds_toArray, List.set_cons_zero, List.set_cons_succ]
                                  refine wpAnyH_take (i := 8) (oi := _) (v := ?v8j) rfl (by kernel_rfl) (by kernel_rfl) (by kernel_rfl) (fun _ _ _ h => h) (Or.inl ⟨by kernel_rfl, ?y8j⟩) (by assumption) ?r8j
                                  case y8j => (intro w hSw; (try dsimp only at hSw); go_simp; try (with_reducible rfl))
                                  case r8j =>
                                    simp only [List.getElem_toArray, List.getElem_cons_succ, List.getElem_cons_zero, Act.put, List.setIfInBounds_toArray, List.set_cons_zero, List.set_cons_succ]
                                    refine wpAnyH_take (i := 9) (oi := _) (v := ?v9j) rfl (by kernel_rfl) (by kernel_rfl) (by kernel_rfl) (fun _ _ _ h => h) (Or.inl ⟨by kernel_rfl, ?y9j⟩) (by assumption) ?r9j
                                    case y9j => (intro w hSw; (try dsimp only at hSw); go_simp; try (with_reducible rfl))
                                    case r9j =>
                                      simp only [List.getElem_toArray, List.getElem_cons_succ, List.getElem_cons_zero, Act.put, List.setIfInBounds_toArray, List.set_cons_zero, List.set_cons_succ]
                                      refine wpAnyH_done (by kernel_rfl) ?_ _
                                      clear hHeld
                                      go_wp2_with fail
                                      have hfin := ret_own (room := room) (next := next) (HS7.out.below (below_drew (Below.refl _ _))).ow (HS7.out.below (below_drew (Below.refl _ _))).bw (HS7.out.below (below_drew (Below.refl _ _))).bz (Nat.le_succ _)
                                      refine bodyPost_ret (v := .tuple #[fv room next (.slice (some ⟨b, off, none⟩) n2 c2), .int .i64 x.id, .bool false, .int .i64 0]) (by simp [results, Try.results10, go_sem, s0, s1, s2]) rfl ?_
                                      rw [HE.out]
                                      exact ⟨_, n2, c2, _, rfl, HFS.out, hfin.1, hfin.2⟩
            · have hltz : ¬ (kk : Int) < (n2 : Int) := by omega
              have HE := Lib.hid (HJN.out (findG_none (fun j x hx => HNO.out j x (by have := (List.getElem?_eq_some_iff.1 hx).1; have h2 := fls_len HFZ.out; omega) hx)))
              clear HJJ HJN HNO
              have hrn := HRN.out
              unfold badR at hrn
              have hflz : (fls ys).length = n2 := (fls_len HFZ.out).symm.trans hl2
              rw [hflz] at hrn HE
              have hn8 : n2 ≤ 8 := by omega
              have hnx : next ≤ 9007199254740992 := by omega
              have hnx0 : 0 ≤ next := by omega
              have HE0 := HE
              clear HE hrn hflz
              have y0 : wr.cell? ⟨w.heap.size, 0, none⟩ = some (.int .i64 room) := box_at HSr.out.bx 0 _ rfl
              have y1 : wr.cell? ⟨w.heap.size, 1, none⟩ = some (.int .i64 next) := box_at HSr.out.bx 1 _ rfl
              have y2 : wr.cell? ⟨w.heap.size, 2, none⟩ = some (.slice A2 n2 c2) := box_at HSr.out.bx 2 _ rfl
              have s0 : wr.cell? ⟨w.heap.size + 1, 0, none⟩ = some (.int .i64 0) := box_at HSr.out.bz 0 _ rfl
              have s1 : wr.cell? ⟨w.heap.size + 1, 1, none⟩ = some (.int .i64 0) := box_at HSr.out.bz 1 _ rfl
              have s2 : wr.cell? ⟨w.heap.size + 1, 2, none⟩ = some (.slice none 0 0) := box_at HSr.out.bz 2 _ rfl
              have sf := box_free HSr.out.bz
              by_cases h8 : 8 ≤ (n2 : Int)
              · have HE := Lib.hid (HE0.out.trans (if_pos h8))
                clear HE0
                go_wp2_with fail
                have hfin := ret_own (room := room) (next := next) HSr.out.ow HSr.out.bw HSr.out.bz (Nat.le_succ _)
                refine bodyPost_ret (v := .tuple #[fv room (next) (.slice A2 n2 c2), .int .i64 0, .bool false, .int .i64 4]) (by simp [results, Try.results10, go_sem, s0, s1, s2]) rfl ?_
                rw [HE.out]
                exact ⟨_, n2, c2, zs, rfl, HFZ.out, hfin.1, hfin.2⟩
              · by_cases hnm : next = 9007199254740992
                · have HE := Lib.hid (HE0.out.trans ((if_neg h8).trans (if_pos hnm)))
                  clear HE0
                  subst hnm
                  go_wp2_with fail
                  have hfin := ret_own (room := room) (next := 9007199254740992) HSr.out.ow HSr.out.bw HSr.out.bz (Nat.le_succ _)
                  refine bodyPost_ret (v := .tuple #[fv room (9007199254740992) (.slice A2 n2 c2), .int .i64 0, .bool false, .int .i64 3]) (by simp [results, Try.results10, go_sem, s0, s1, s2]) rfl ?_
                  rw [HE.out]
                  exact ⟨_, n2, c2, zs, rfl, HFZ.out, hfin.1, hfin.2⟩
                · have HE := Lib.hid (HE0.out.trans ((if_neg h8).trans (if_neg hnm)))
                  have hnmb : (next == 9007199254740992) = false := by rw [beq_eq_false_iff_ne]; exact hnm
                  clear HE0
                  go_upto_region 23 with fail
                  clear hnm hnmb h8
                  have t0 : wr.cell? ⟨tb, 0, none⟩ = some (.int .i64 wt) := box_at HXr.out 0 _ rfl
                  have t1 : wr.cell? ⟨tb, 1, none⟩ = some (.int .i64 0) := box_at HXr.out 1 _ rfl
                  have ha1 : Below wr.heap.size wr (wr.alloc (.cells #[.int .i64 wt, .int .i64 0] 47)) := (Below.refl _ _).alloc (Nat.le_refl _) _
                  have hx1 := keep ((Below.refl _ _).alloc (Nat.le_refl _) (.cells (fenc (newF key share next wt, (⟨some ⟨wr.heap.size, 0, none⟩, 1, 1⟩ : Sl))).toArray 45)) (heap_alloc_new wr (.cells #[.int .i64 wt, .int .i64 0] 47))
                  have hrd := rd_boxE (enc := fenc) (m := 8) (wr.alloc (.cells #[.int .i64 wt, .int .i64 0] 47)) (newF key share next wt, (⟨some ⟨wr.heap.size, 0, none⟩, 1, 1⟩ : Sl)) 45
                  have ha2 : Below wr.heap.size wr ((wr.alloc (.cells #[.int .i64 wt, .int .i64 0] 47)).alloc (.cells (fenc (newF key share next wt, (⟨some ⟨wr.heap.size, 0, none⟩, 1, 1⟩ : Sl))).toArray 45)) := ha1.alloc ha1.size _
                  have HA2 := Lib.hid ha2
                  have HRD := Lib.hid hrd
                  have HX1 := Lib.hid hx1
                  have HSU := Lib.hid (HSr.out.below ha2)
                  clear ha1 ha2 hrd hx1
                  go_wp2_with (at_builtin; refine wp_appE w.heap.size rfl _ _ 24 45 (.agg #[.string ⟨#[]⟩, .bool false, .int .i64 0, .int .i64 0, .string ⟨#[]⟩, .int .i64 0, .bool false, .slice none 0 0]) 96 rfl Try.underlying24 Try.info45 rfl (by omega) (by omega) (.slice A2 n2 c2) (.slice (some ⟨(wr.alloc (.cells #[.int .i64 wt, .int .i64 0] 47)).heap.size, 0, none⟩) 1 1) zs [(newF key share next wt, (⟨some ⟨wr.heap.size, 0, none⟩, 1, 1⟩ : Sl))] rfl ?c2 HSU.out.ow.o HRD.out fenc1 ?c3 ?c4 ?c5)
                  case c3 => omega
                  case c4 => have := HSr.out.bw.size; omega
                  case c5 =>
                    intro v1 w7 hv1 hg1 hat1
                    obtain ⟨F1, f1, g1, rfl⟩ := hv1.slice'
                    have nb : ∀ {q : Nat} {cs : Array Value} {T : TypeId}, T ≠ 45 → ((wr.alloc (.cells #[.int .i64 wt, .int .i64 0] 47)).alloc (.cells (fenc (newF key share next wt, (⟨some ⟨wr.heap.size, 0, none⟩, 1, 1⟩ : Sl))).toArray 45)).heap[q]? = some (.cells cs T (0, 0)) → w7.heap[q]? = some (.cells cs T (0, 0)) := fun hT hq => gb_box hg1 hq (fun he => by
                      obtain ⟨c1, h1⟩ := HSU.out.ow.o.typed _ he.symm
                      exact blocks_ne hT hq h1 rfl)
                    have hlo := HSr.out.bw.size
                    have HO7 := Lib.hid (HSU.out.ow.snoc hv1 hg1 (OwE.one (enc := tenc) tencL (x := ⟨wt, 0⟩) HX1.out hlo) (fun i y hy q hq he => by
                      have h1 := (HSr.out.ow.r i y hy).lt q hq
                      have h2 : wr.heap.size = q := by simpa [Value.ownBlock] using he
                      omega))
                    have HX7 := Lib.hid (nb (by decide) HSU.out.bx)
                    have HZ7 := Lib.hid (nb (by decide) HSU.out.bz)
                    have HB7 := Lib.hid (HSU.out.bw.grown hg1 HSU.out.bw.size (fun q hq => HSU.out.ow.o.lo q hq))
                    clear hv1 hg1 hat1 nb t0 t1 y0 y1 y2 s0 s1 s2 sf hlo
                    have y0 : w7.cell? ⟨w.heap.size, 0, none⟩ = some (.int .i64 room) := box_at HX7.out 0 _ rfl
                    have y1 : w7.cell? ⟨w.heap.size, 1, none⟩ = some (.int .i64 next) := box_at HX7.out 1 _ rfl
                    have y2 : w7.cell? ⟨w.heap.size, 2, none⟩ = some (.slice A2 n2 c2) := box_at HX7.out 2 _ rfl
                    have yf := box_free HX7.out
                    have s0 : w7.cell? ⟨w.heap.size + 1, 0, none⟩ = some (.int .i64 0) := box_at HZ7.out 0 _ rfl
                    have s1 : w7.cell? ⟨w.heap.size + 1, 1, none⟩ = some (.int .i64 0) := box_at HZ7.out 1 _ rfl
                    have s2 : w7.cell? ⟨w.heap.size + 1, 2, none⟩ = some (.slice none 0 0) := box_at HZ7.out 2 _ rfl
                    have sf := box_free HZ7.out
                    have nb0 : ¬ w.heap.size = w.heap.size + 1 := by omega
                    have nb1 : ¬ w.heap.size + 1 = w.heap.size := by omega
                    go_wp2_with fail
                    have hx8 := bx_set (V' := .slice F1 f1 g1) HX7.out
                    have hx9 := heap_set (o := 1) hx8 (.int .i64 (next + 1))
                    have ho9 := ((HO7.out.far HX7.out (by decide) (by decide) 2 (.slice F1 f1 g1)).far hx8 (by decide) (by decide) 1 (.int .i64 (next + 1)))
                    have hb9 := (HB7.out.setCell (p := ⟨w.heap.size, 2, none⟩) (Nat.le_refl _) (.slice F1 f1 g1)).setCell (p := ⟨w.heap.size, 1, none⟩) (Nat.le_refl _) (.int .i64 (next + 1))
                    have hz9 : ((w7.setCell ⟨w.heap.size, 2, none⟩ (.slice F1 f1 g1)).setCell ⟨w.heap.size, 1, none⟩ (.int .i64 (next + 1))).heap[w.heap.size + 1]? = some (.cells #[.int .i64 0, .int .i64 0, .slice none 0 0] 26 (0, 0)) := by
                      rw [Below.heap_setCell _ _ _ _ nb1, Below.heap_setCell _ _ _ _ nb1]
                      exact HZ7.out
                    have hfin := ret_own (room := room) (next := next + 1) ho9 hb9 hz9 (Nat.le_succ _)
                    refine bodyPost_ret (v := .tuple #[fv room (next + 1) (.slice F1 f1 g1), .int .i64 next, .bool true, .int .i64 0]) (by simp [results, Try.results10, go_sem, s0, s1, s2, nb1, nb0]) rfl ?_
                    rw [HE.out]
                    refine ⟨_, f1, g1, _, rfl, ?_, hfin.1, hfin.2⟩
                    unfold fls
                    rw [List.map_append]
                    have := HFZ.out
                    unfold fls at this
                    rw [this]
                    rfl
end Go.Proofs.Ytipjhokhflokmaa
