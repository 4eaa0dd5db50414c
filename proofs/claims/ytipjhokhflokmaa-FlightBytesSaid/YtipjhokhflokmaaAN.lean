/- lockageref18.Join (printed by mkAN.py). -/
import Derived.Test.YtipjhokhflokmaaAM
set_option linter.unusedVariables false
set_option linter.unusedSimpArgs false
namespace Go.Proofs.Ytipjhokhflokmaa
open Go.RowKit Go.Maps
open Go.Proofs.YtipjhokhflokmaaW.PrintWords

set_option maxRecDepth 100000 in
set_option maxHeartbeats 8000000 in
theorem rjoin_any (w : World) (room next : Int) (A : Option Addr) (n c : Nat) (ys : List FV) (key : List UInt8) (wt : Int) (share : Bool) (hr : RdF w (.slice A n c) ys) (hs : SmF (fls ys)) (hkl : key.length ≤ 100000) :
    Calls Try.prog 17 #[fv room next (.slice A n c), str key, .int .i64 wt, .bool share] w (JoinPost w room (joinOp room next (fls ys) key wt share)) := by
  have hl : ys.length = n := hr.len
  have hn : n ≤ 1000 := by have := hs.n; rw [← hl]; simpa [fls] using this
  have hal1 : Below w.heap.size w (w.alloc (.cells #[.int .i64 room, .int .i64 next, .slice A n c] 26)) := (Below.refl _ _).alloc (Nat.le_refl _) _
  have hal2 : Below w.heap.size w ((w.alloc (.cells #[.int .i64 room, .int .i64 next, .slice A n c] 26)).alloc (.cells #[.int .i64 0, .int .i64 0, .slice none 0 0] 26)) := hal1.alloc (by simp) _
  have x1 : ((w.alloc (.cells #[.int .i64 room, .int .i64 next, .slice A n c] 26)).alloc (.cells #[.int .i64 0, .int .i64 0, .slice none 0 0] 26)).heap[w.heap.size]? = some (.cells #[.int .i64 room, .int .i64 next, .slice A n c] 26 (0, 0)) := keep ((Below.refl _ _).alloc (Nat.le_refl _) _) (heap_alloc_new w _)
  have x2 : ((w.alloc (.cells #[.int .i64 room, .int .i64 next, .slice A n c] 26)).alloc (.cells #[.int .i64 0, .int .i64 0, .slice none 0 0] 26)).heap[w.heap.size + 1]? = some (.cells #[.int .i64 0, .int .i64 0, .slice none 0 0] 26 (0, 0)) := by
    have := heap_alloc_new (w.alloc (.cells #[.int .i64 room, .int .i64 next, .slice A n c] 26)) (.cells #[.int .i64 0, .int .i64 0, .slice none 0 0] 26)
    rwa [show (w.alloc (.cells #[.int .i64 room, .int .i64 next, .slice A n c] 26)).heap.size = w.heap.size + 1 by simp] at this
  have HR0 := Lib.hid hr
  have HR := Lib.hid (hr.below hal2)
  have HS := Lib.hid hs
  clear hal1 hr hs
  go_enter Try.func17, Try.ntmps17
  go_upto_region 1 with fail
  generalize (w.alloc (.cells #[.int .i64 room, .int .i64 next, .slice A n c] 26)).alloc (.cells #[.int .i64 0, .int .i64 0, .slice none 0 0] 26) = U at *
  have HX1 := Lib.hid x1
  have HX2 := Lib.hid x2
  have HAL := Lib.hid hal2
  clear x1 x2 hal2
  have z0 : U.cell? ⟨w.heap.size, 0, none⟩ = some (.int .i64 room) := box_at HX1.out 0 _ rfl
  have z1 : U.cell? ⟨w.heap.size, 1, none⟩ = some (.int .i64 next) := box_at HX1.out 1 _ rfl
  have z2 : U.cell? ⟨w.heap.size, 2, none⟩ = some (.slice A n c) := box_at HX1.out 2 _ rfl
  have c37 := Lib.hid (rown_any U room next A n c ys HR.out hn HS.out.w')
  go_upto_region 2 with (go_at_call 37; refine c37.out.mono ?_; rintro e w2 ⟨A2, n2, c2, zs, rfl, hfz, hO2, hb2⟩)
  have hS := rf_setup HAL.out HX1.out HX2.out hO2 hb2
  clear z0 z1 z2 hO2 hb2 HX1 HX2 HAL HR c37
  generalize w2.alloc (.cells #[.int .i64 room, .int .i64 next, .slice A2 n2 c2] 26) = W3 at *
  generalize w2.heap.size = t6 at *
  have HSS := Lib.hid hS
  have HFZ := Lib.hid hfz
  clear hS hfz
  have y0 : W3.cell? ⟨w.heap.size, 0, none⟩ = some (.int .i64 room) := box_at HSS.out.bx 0 _ rfl
  have y1 : W3.cell? ⟨w.heap.size, 1, none⟩ = some (.int .i64 next) := box_at HSS.out.bx 1 _ rfl
  have y2 : W3.cell? ⟨w.heap.size, 2, none⟩ = some (.slice A n c) := box_at HSS.out.bx 2 _ rfl
  have C36 := Lib.hid (rright_any W3 room next A n c ys (HR0.out.below HSS.out.bw) hn)
  cases hq : rightS room next (fls ys) with
  | false =>
    have HE := Lib.hid (joinOp1 (wt := wt) (key := key) (share := share) (.inl hq))
    have HQ := Lib.hid hq; clear hq
    go_upto_region 3 with (go_at_call 36; refine C36.out.mono ?_; rw [HQ.out]; rintro e w5 ⟨rfl, hb4⟩; have HS5 := Lib.hid (HSS.out.below hb4); clear hb4)
    clear y0 y1 y2 C36
    have y0 : w5.cell? ⟨t6, 0, none⟩ = some (.int .i64 room) := box_at HS5.out.tp 0 _ rfl
    have y1 : w5.cell? ⟨t6, 1, none⟩ = some (.int .i64 next) := box_at HS5.out.tp 1 _ rfl
    have y2 : w5.cell? ⟨t6, 2, none⟩ = some (.slice A2 n2 c2) := box_at HS5.out.tp 2 _ rfl
    have s0 : w5.cell? ⟨w.heap.size + 1, 0, none⟩ = some (.int .i64 0) := box_at HS5.out.bz 0 _ rfl
    have s1 : w5.cell? ⟨w.heap.size + 1, 1, none⟩ = some (.int .i64 0) := box_at HS5.out.bz 1 _ rfl
    have s2 : w5.cell? ⟨w.heap.size + 1, 2, none⟩ = some (.slice none 0 0) := box_at HS5.out.bz 2 _ rfl
    have sf := box_free HS5.out.bz
    go_wp2_with fail
    have hfin := ret_own (room := room) (next := next) HS5.out.ow HS5.out.bw HS5.out.bz (Nat.le_succ _)
    refine bodyPost_ret (v := .tuple #[fv room (next) (.slice A2 n2 c2), .int .i64 0, .bool false, .int .i64 1]) (by simp [results, Try.results17, go_sem, s0, s1, s2]) rfl ?_
    rw [HE.out]
    exact ⟨_, n2, c2, zs, rfl, HFZ.out, hfin.1, hfin.2⟩
  | true =>
    have HQ := Lib.hid hq
    have HRN := Lib.hid (right_n hq)
    clear hq
    by_cases hw0 : wt < 0
    · have HE := Lib.hid (joinOp1 (room := room) (next := next) (fs := fls ys) (key := key) (share := share) (.inr (.inl hw0)))
      go_upto_region 3 with (go_at_call 36; refine C36.out.mono ?_; rw [HQ.out]; rintro e w5 ⟨rfl, hb4⟩; have HS5 := Lib.hid (HSS.out.below hb4); clear hb4)
      clear y0 y1 y2 C36 hw0
      have y0 : w5.cell? ⟨t6, 0, none⟩ = some (.int .i64 room) := box_at HS5.out.tp 0 _ rfl
      have y1 : w5.cell? ⟨t6, 1, none⟩ = some (.int .i64 next) := box_at HS5.out.tp 1 _ rfl
      have y2 : w5.cell? ⟨t6, 2, none⟩ = some (.slice A2 n2 c2) := box_at HS5.out.tp 2 _ rfl
      have s0 : w5.cell? ⟨w.heap.size + 1, 0, none⟩ = some (.int .i64 0) := box_at HS5.out.bz 0 _ rfl
      have s1 : w5.cell? ⟨w.heap.size + 1, 1, none⟩ = some (.int .i64 0) := box_at HS5.out.bz 1 _ rfl
      have s2 : w5.cell? ⟨w.heap.size + 1, 2, none⟩ = some (.slice none 0 0) := box_at HS5.out.bz 2 _ rfl
      have sf := box_free HS5.out.bz
      go_wp2_with fail
      have hfin := ret_own (room := room) (next := next) HS5.out.ow HS5.out.bw HS5.out.bz (Nat.le_succ _)
      refine bodyPost_ret (v := .tuple #[fv room (next) (.slice A2 n2 c2), .int .i64 0, .bool false, .int .i64 1]) (by simp [results, Try.results17, go_sem, s0, s1, s2]) rfl ?_
      rw [HE.out]
      exact ⟨_, n2, c2, zs, rfl, HFZ.out, hfin.1, hfin.2⟩
    · by_cases hkk : 2000 < (key.length : Int)
      · have HE := Lib.hid (joinOp1 (room := room) (next := next) (fs := fls ys) (wt := wt) (share := share) (.inr (.inr hkk)))
        go_upto_region 3 with (go_at_call 36; refine C36.out.mono ?_; rw [HQ.out]; rintro e w5 ⟨rfl, hb4⟩; have HS5 := Lib.hid (HSS.out.below hb4); clear hb4)
        clear y0 y1 y2 C36 hkk
        have y0 : w5.cell? ⟨t6, 0, none⟩ = some (.int .i64 room) := box_at HS5.out.tp 0 _ rfl
        have y1 : w5.cell? ⟨t6, 1, none⟩ = some (.int .i64 next) := box_at HS5.out.tp 1 _ rfl
        have y2 : w5.cell? ⟨t6, 2, none⟩ = some (.slice A2 n2 c2) := box_at HS5.out.tp 2 _ rfl
        have s0 : w5.cell? ⟨w.heap.size + 1, 0, none⟩ = some (.int .i64 0) := box_at HS5.out.bz 0 _ rfl
        have s1 : w5.cell? ⟨w.heap.size + 1, 1, none⟩ = some (.int .i64 0) := box_at HS5.out.bz 1 _ rfl
        have s2 : w5.cell? ⟨w.heap.size + 1, 2, none⟩ = some (.slice none 0 0) := box_at HS5.out.bz 2 _ rfl
        have sf := box_free HS5.out.bz
        go_wp2_with fail
        have hfin := ret_own (room := room) (next := next) HS5.out.ow HS5.out.bw HS5.out.bz (Nat.le_succ _)
        refine bodyPost_ret (v := .tuple #[fv room (next) (.slice A2 n2 c2), .int .i64 0, .bool false, .int .i64 1]) (by simp [results, Try.results17, go_sem, s0, s1, s2]) rfl ?_
        rw [HE.out]
        exact ⟨_, n2, c2, zs, rfl, HFZ.out, hfin.1, hfin.2⟩
      · have hnb : ¬ badJ room next (fls ys) key wt := by
          rintro (h | h | h)
          · rw [HQ.out] at h; cases h
          · omega
          · omega
        go_upto_region 4 with (go_at_call 36; refine C36.out.mono ?_; rw [HQ.out]; rintro e w4 ⟨rfl, hb4⟩; have HS4 := Lib.hid (HSS.out.below hb4); clear hb4)
        clear y0 y1 y2 C36 hw0 hkk
        have y0 : w4.cell? ⟨w.heap.size, 0, none⟩ = some (.int .i64 room) := box_at HS4.out.bx 0 _ rfl
        have y1 : w4.cell? ⟨w.heap.size, 1, none⟩ = some (.int .i64 next) := box_at HS4.out.bx 1 _ rfl
        have y2 : w4.cell? ⟨w.heap.size, 2, none⟩ = some (.slice A n c) := box_at HS4.out.bx 2 _ rfl
        obtain ⟨wi, hwi⟩ : ∃ wi, (waitsS (fls ys) wt).1 = wi := ⟨_, rfl⟩
        obtain ⟨wk, hwk⟩ : ∃ wk, (waitsS (fls ys) wt).2 = wk := ⟨_, rfl⟩
        have c38 := rwaits_any w4 room next A n c ys wt (HR0.out.below HS4.out.bw) hn HS.out.w'
        rw [hwi, hwk] at c38
        have C38 := Lib.hid c38
        have HWI := Lib.hid hwi
        clear c38 hwi hwk
        by_cases hwi : 0 ≤ wi
        · have HE := Lib.hid (joinOp6 (share := share) hnb (by rw [HWI.out]; exact hwi))
          clear hnb
          go_upto_region 6 with (go_at_call 38; refine C38.out.mono ?_; rintro e w5 ⟨rfl, hb5⟩; have HS5 := Lib.hid (HS4.out.below hb5); clear hb5)
          clear y0 y1 y2
          have y0 : w5.cell? ⟨t6, 0, none⟩ = some (.int .i64 room) := box_at HS5.out.tp 0 _ rfl
          have y1 : w5.cell? ⟨t6, 1, none⟩ = some (.int .i64 next) := box_at HS5.out.tp 1 _ rfl
          have y2 : w5.cell? ⟨t6, 2, none⟩ = some (.slice A2 n2 c2) := box_at HS5.out.tp 2 _ rfl
          have s0 : w5.cell? ⟨w.heap.size + 1, 0, none⟩ = some (.int .i64 0) := box_at HS5.out.bz 0 _ rfl
          have s1 : w5.cell? ⟨w.heap.size + 1, 1, none⟩ = some (.int .i64 0) := box_at HS5.out.bz 1 _ rfl
          have s2 : w5.cell? ⟨w.heap.size + 1, 2, none⟩ = some (.slice none 0 0) := box_at HS5.out.bz 2 _ rfl
          have sf := box_free HS5.out.bz
          go_wp2_with fail
          have hfin := ret_own (room := room) (next := next) HS5.out.ow HS5.out.bw HS5.out.bz (Nat.le_succ _)
          refine bodyPost_ret (v := .tuple #[fv room (next) (.slice A2 n2 c2), .int .i64 0, .bool false, .int .i64 6]) (by simp [results, Try.results17, go_sem, s0, s1, s2]) rfl ?_
          rw [HE.out]
          exact ⟨_, n2, c2, zs, rfl, HFZ.out, hfin.1, hfin.2⟩
        · have HJN := Lib.hid (fun (h : openF (fls ys) key share < 0) => joinOpN (share := share) hnb (by rw [HWI.out]; exact hwi) h)
          have HJJ := Lib.hid (fun (k : Nat) (x : Fl) (h3 : openF (fls ys) key share = (k : Int)) (hx : (fls ys)[k]? = some x) => joinOpJ (share := share) hnb (by rw [HWI.out]; exact hwi) h3 hx)
          clear hnb
          go_upto_region 8 with (go_at_call 38; refine C38.out.mono ?_; rintro e w5 ⟨rfl, hb5⟩; have HS5 := Lib.hid (HS4.out.below hb5); clear hb5)
          clear hwi y0 y1 y2 C38 HSS HS4
          have hzl : zs.length = n2 := HS5.out.ow.rd.len
          have HNN := Lib.hid (show n2 = n by have := fls_len HFZ.out; simp [fls] at this; omega)
          go_loopg [15] n (fun gg s15 wr => ∃ kk : Nat, kk ≤ n ∧ n - kk ≤ gg ∧ s15 = .int .i64 kk ∧ Aside (Below w5.heap.size w5 wr ∧ ∀ (j : Nat) (x : Fl), j < kk → (fls ys)[j]? = some x → (share && joinsF key x) = false))
          case atStart => exact ⟨0, Nat.zero_le _, by omega, rfl, (show Aside _ from ⟨Below.refl _ _, fun j x hj => absurd hj (Nat.not_lt_zero _)⟩)⟩
          case round =>
            obtain ⟨kk, hkk, hg, rfl, HA⟩ := hrel
            have HSr := Lib.hid (HS5.out.below HA.out.1)
            have HBr := Lib.hid HA.out.1
            have HNO := Lib.hid HA.out.2
            clear HA
            have y2 : wr.cell? ⟨w.heap.size, 2, none⟩ = some (.slice A n c) := box_at HSr.out.bx 2 _ rfl
            go_upto_region 8 with fail
            go_cut [48] from 41 to 48 (fun s48 wx => s48 = .bool (share && decide (kk < n)) ∧ wx = wr)
            case first =>
              by_cases hlt : kk < n
              · have hltz : (kk : Int) < (n : Int) := by omega
                cases share with
                | false =>
                  go_wp2_with fail
                  go_meet
                  exact ⟨rfl, rfl⟩
                | true =>
                  go_wp2_with fail
                  go_meet
                  exact ⟨by simp [hlt], rfl⟩
              · have hltz : ¬ (kk : Int) < (n : Int) := by omega
                go_wp2_with fail
                go_meet
                exact ⟨by simp [hlt], rfl⟩
            case rest =>
              obtain ⟨rfl, hwc⟩ := hcut
              subst wc
              cases hgo : (share && decide (kk < n)) with
              | false =>
                have hgo2 : share = false ∨ ¬ kk < n := by
                  cases share with
                  | false => exact .inl rfl
                  | true => exact .inr (by simpa using hgo)
                have HE := Lib.hid (HJN.out (findG_none (fun j x hx => by
                  rcases hgo2 with h | h
                  · rw [h]; rfl
                  · exact HNO.out j x (by have := (List.getElem?_eq_some_iff.1 hx).1; simp [fls] at this; omega) hx)))
                clear HJJ HJN HNO hgo2 hgo
                go_upto_region 14 with fail
                have hrn := HRN.out
                unfold badR at hrn
                have hflz : (fls ys).length = n := by simp [fls, hl]
                rw [hflz] at hrn HE
                have hn8 : n ≤ 8 := by omega
                have hn28 : n2 ≤ 8 := by have := HNN.out; omega
                have hnx : next ≤ 9007199254740992 := by omega
                have hnx0 : 0 ≤ next := by omega
                have HE0 := HE
                clear HE hrn hflz
                have z1 : wr.cell? ⟨w.heap.size, 1, none⟩ = some (.int .i64 next) := box_at HSr.out.bx 1 _ rfl
                have y2 : wr.cell? ⟨w.heap.size, 2, none⟩ = some (.slice A n c) := box_at HSr.out.bx 2 _ rfl
                have s0 : wr.cell? ⟨w.heap.size + 1, 0, none⟩ = some (.int .i64 0) := box_at HSr.out.bz 0 _ rfl
                have s1 : wr.cell? ⟨w.heap.size + 1, 1, none⟩ = some (.int .i64 0) := box_at HSr.out.bz 1 _ rfl
                have s2 : wr.cell? ⟨w.heap.size + 1, 2, none⟩ = some (.slice none 0 0) := box_at HSr.out.bz 2 _ rfl
                have sf := box_free HSr.out.bz
                by_cases h8 : 8 ≤ (n : Int)
                · have HE := Lib.hid (HE0.out.trans (if_pos h8))
                  clear HE0
                  go_upto_region 15 with fail
                  clear y2
                  have y0 : wr.cell? ⟨t6, 0, none⟩ = some (.int .i64 room) := box_at HSr.out.tp 0 _ rfl
                  have y1 : wr.cell? ⟨t6, 1, none⟩ = some (.int .i64 next) := box_at HSr.out.tp 1 _ rfl
                  have y2 : wr.cell? ⟨t6, 2, none⟩ = some (.slice A2 n2 c2) := box_at HSr.out.tp 2 _ rfl
                  have s0 : wr.cell? ⟨w.heap.size + 1, 0, none⟩ = some (.int .i64 0) := box_at HSr.out.bz 0 _ rfl
                  have s1 : wr.cell? ⟨w.heap.size + 1, 1, none⟩ = some (.int .i64 0) := box_at HSr.out.bz 1 _ rfl
                  have s2 : wr.cell? ⟨w.heap.size + 1, 2, none⟩ = some (.slice none 0 0) := box_at HSr.out.bz 2 _ rfl
                  have sf := box_free HSr.out.bz
                  go_wp2_with fail
                  have hfin := ret_own (room := room) (next := next) HSr.out.ow HSr.out.bw HSr.out.bz (Nat.le_succ _)
                  refine bodyPost_ret (v := .tuple #[fv room (next) (.slice A2 n2 c2), .int .i64 0, .bool false, .int .i64 4]) (by simp [results, Try.results17, go_sem, s0, s1, s2]) rfl ?_
                  rw [HE.out]
                  exact ⟨_, n2, c2, zs, rfl, HFZ.out, hfin.1, hfin.2⟩
                · by_cases hnm : next = 9007199254740992
                  · have HE := Lib.hid (HE0.out.trans ((if_neg h8).trans (if_pos hnm)))
                    clear HE0
                    subst hnm
                    go_upto_region 17 with fail
                    clear y2
                    have y0 : wr.cell? ⟨t6, 0, none⟩ = some (.int .i64 room) := box_at HSr.out.tp 0 _ rfl
                    have y1 : wr.cell? ⟨t6, 1, none⟩ = some (.int .i64 9007199254740992) := box_at HSr.out.tp 1 _ rfl
                    have y2 : wr.cell? ⟨t6, 2, none⟩ = some (.slice A2 n2 c2) := box_at HSr.out.tp 2 _ rfl
                    have s0 : wr.cell? ⟨w.heap.size + 1, 0, none⟩ = some (.int .i64 0) := box_at HSr.out.bz 0 _ rfl
                    have s1 : wr.cell? ⟨w.heap.size + 1, 1, none⟩ = some (.int .i64 0) := box_at HSr.out.bz 1 _ rfl
                    have s2 : wr.cell? ⟨w.heap.size + 1, 2, none⟩ = some (.slice none 0 0) := box_at HSr.out.bz 2 _ rfl
                    have sf := box_free HSr.out.bz
                    go_wp2_with fail
                    have hfin := ret_own (room := room) (next := 9007199254740992) HSr.out.ow HSr.out.bw HSr.out.bz (Nat.le_succ _)
                    refine bodyPost_ret (v := .tuple #[fv room (9007199254740992) (.slice A2 n2 c2), .int .i64 0, .bool false, .int .i64 3]) (by simp [results, Try.results17, go_sem, s0, s1, s2]) rfl ?_
                    rw [HE.out]
                    exact ⟨_, n2, c2, zs, rfl, HFZ.out, hfin.1, hfin.2⟩
                  · have HE := Lib.hid (HE0.out.trans ((if_neg h8).trans (if_neg hnm)))
                    have hnmb : ¬ 9007199254740992 ≤ next := by omega
                    clear HE0
                    go_upto_region 18 with fail
                    clear hnm hnmb h8 y2
                    have ha1 : Below wr.heap.size wr (wr.alloc (.cells #[.int .i64 wt, .int .i64 0] 47)) := (Below.refl _ _).alloc (Nat.le_refl _) _
                    have hx1 := keep ((Below.refl _ _).alloc (Nat.le_refl _) (.cells (fenc (newF key share next wt, (⟨some ⟨wr.heap.size, 0, none⟩, 1, 1⟩ : Sl))).toArray 45)) (heap_alloc_new wr (.cells #[.int .i64 wt, .int .i64 0] 47))
                    have hrd := rd_boxE (enc := fenc) (m := 8) (wr.alloc (.cells #[.int .i64 wt, .int .i64 0] 47)) (newF key share next wt, (⟨some ⟨wr.heap.size, 0, none⟩, 1, 1⟩ : Sl)) 45
                    have ha2 : Below wr.heap.size wr ((wr.alloc (.cells #[.int .i64 wt, .int .i64 0] 47)).alloc (.cells (fenc (newF key share next wt, (⟨some ⟨wr.heap.size, 0, none⟩, 1, 1⟩ : Sl))).toArray 45)) := ha1.alloc ha1.size _
                    have HA2 := Lib.hid ha2
                    have HRD := Lib.hid hrd
                    have HX1 := Lib.hid hx1
                    have HSU := Lib.hid (HSr.out.below ha2)
                    have y2 : wr.cell? ⟨t6, 2, none⟩ = some (.slice A2 n2 c2) := box_at HSr.out.tp 2 _ rfl
                    clear ha1 ha2 hrd hx1
                    go_wp2_with (at_builtin; refine wp_appE w.heap.size rfl _ _ 24 45 (.agg #[.string ⟨#[]⟩, .bool false, .int .i64 0, .int .i64 0, .string ⟨#[]⟩, .int .i64 0, .bool false, .slice none 0 0]) 96 rfl Try.underlying24 Try.info45 rfl (by omega) (by omega) (.slice A2 n2 c2) (.slice (some ⟨(wr.alloc (.cells #[.int .i64 wt, .int .i64 0] 47)).heap.size, 0, none⟩) 1 1) zs [(newF key share next wt, (⟨some ⟨wr.heap.size, 0, none⟩, 1, 1⟩ : Sl))] rfl ?c2 HSU.out.ow.o HRD.out fenc1 ?c3 ?c4 ?c5)
                    case c2 =>
                      rw [show (wr.alloc (.cells #[.int .i64 wt, .int .i64 0] 47)).heap.size = wr.heap.size + 1 by simp]
                      rfl
                    case c3 => simp only [List.length_cons, List.length_nil]; omega
                    case c4 => exact HSU.out.bw.size
                    case c5 =>
                      intro v1 w7 hv1 hg1 hat1
                      obtain ⟨F1, f1, g1, rfl⟩ := hv1.slice'
                      have nb : ∀ {q : Nat} {cs : Array Value} {T : TypeId}, T ≠ 45 → ((wr.alloc (.cells #[.int .i64 wt, .int .i64 0] 47)).alloc (.cells (fenc (newF key share next wt, (⟨some ⟨wr.heap.size, 0, none⟩, 1, 1⟩ : Sl))).toArray 45)).heap[q]? = some (.cells cs T (0, 0)) → w7.heap[q]? = some (.cells cs T (0, 0)) := fun hT hq => gb_box hg1 hq (fun he => by
                        obtain ⟨c1, h1⟩ := HSU.out.ow.o.typed _ he.symm
                        exact blocks_ne hT hq h1 rfl)
                      have hlo := HSr.out.bw.size
                      have HO7 := Lib.hid (HSU.out.ow.snoc hv1 hg1 (OwE.one (enc := tenc) tencL (x := ⟨wt, 0⟩) HX1.out hlo) (fun i y hy q hq he => by
                        have h1 := (HSr.out.ow.r i y hy).lt q hq
                        have h2 : wr.heap.size = q := by simpa [Value.ownBlock] using he
                        omega))
                      have HX7 := Lib.hid (nb (by decide) HSU.out.bx)
                      have HT7 := Lib.hid (nb (by decide) HSU.out.tp)
                      have HZ7 := Lib.hid (nb (by decide) HSU.out.bz)
                      have HB7 := Lib.hid (HSU.out.bw.grown hg1 HSU.out.bw.size (fun q hq => HSU.out.ow.o.lo q hq))
                      clear hv1 hg1 hat1 nb z1 y2 s0 s1 s2 sf hlo
                      have z1 : w7.cell? ⟨w.heap.size, 1, none⟩ = some (.int .i64 next) := box_at HX7.out 1 _ rfl
                      have y0 : w7.cell? ⟨t6, 0, none⟩ = some (.int .i64 room) := box_at HT7.out 0 _ rfl
                      have y1 : w7.cell? ⟨t6, 1, none⟩ = some (.int .i64 next) := box_at HT7.out 1 _ rfl
                      have y2 : w7.cell? ⟨t6, 2, none⟩ = some (.slice A2 n2 c2) := box_at HT7.out 2 _ rfl
                      have yf := box_free HT7.out
                      have nb0 : ¬ t6 = w.heap.size + 1 := by have := HSr.out.t6; omega
                      have nb1 : ¬ w.heap.size + 1 = t6 := fun h => nb0 h.symm
                      have nb3 : ¬ w.heap.size = w.heap.size + 1 := by omega
                      have nb4 : ¬ w.heap.size = t6 := by have := HSr.out.t6; omega
                      have nb5 : ¬ t6 = w.heap.size := fun h => nb4 h.symm
                      go_upto_region 20 with fail
                      have hx8 := bx_set (V' := .slice F1 f1 g1) HT7.out
                      have hx9 := heap_set (o := 1) hx8 (.int .i64 (next + 1))
                      have ho9 := ((HO7.out.far HT7.out (by decide) (by decide) 2 (.slice F1 f1 g1)).far hx8 (by decide) (by decide) 1 (.int .i64 (next + 1)))
                      have hle6 : w.heap.size ≤ t6 := by have := HSr.out.t6; omega
                      have hb9 := (HB7.out.setCell (p := ⟨t6, 2, none⟩) hle6 (.slice F1 f1 g1)).setCell (p := ⟨t6, 1, none⟩) hle6 (.int .i64 (next + 1))
                      have hz9 : ((w7.setCell ⟨t6, 2, none⟩ (.slice F1 f1 g1)).setCell ⟨t6, 1, none⟩ (.int .i64 (next + 1))).heap[w.heap.size + 1]? = some (.cells #[.int .i64 0, .int .i64 0, .slice none 0 0] 26 (0, 0)) := by
                        rw [Below.heap_setCell _ _ _ _ nb1, Below.heap_setCell _ _ _ _ nb1]
                        exact HZ7.out
                      have hz1 : ((w7.setCell ⟨t6, 2, none⟩ (.slice F1 f1 g1)).setCell ⟨t6, 1, none⟩ (.int .i64 (next + 1))).cell? ⟨w.heap.size, 1, none⟩ = some (.int .i64 next) := cell_set (cell_set z1 nb4) nb4
                      have HO9 := Lib.hid ho9
                      have HB9 := Lib.hid hb9
                      have HZ9 := Lib.hid hz9
                      have hx9' : ((w7.setCell ⟨t6, 2, none⟩ (.slice F1 f1 g1)).setCell ⟨t6, 1, none⟩ (.int .i64 (next + 1))).heap[t6]? = some (.cells #[.int .i64 room, .int .i64 (next + 1), .slice F1 f1 g1] 26 (0, 0)) := hx9
                      have HX9 := Lib.hid hx9'
                      clear y0 y1 y2 yf z1 hx8 hx9 ho9 hb9 hz9 hx9'
                      generalize (w7.setCell ⟨t6, 2, none⟩ (.slice F1 f1 g1)).setCell ⟨t6, 1, none⟩ (.int .i64 (next + 1)) = W9 at *
                      have y0 : W9.cell? ⟨t6, 0, none⟩ = some (.int .i64 room) := box_at HX9.out 0 _ rfl
                      have y1 : W9.cell? ⟨t6, 1, none⟩ = some (.int .i64 (next + 1)) := box_at HX9.out 1 _ rfl
                      have y2 : W9.cell? ⟨t6, 2, none⟩ = some (.slice F1 f1 g1) := box_at HX9.out 2 _ rfl
                      have s0 : W9.cell? ⟨w.heap.size + 1, 0, none⟩ = some (.int .i64 0) := box_at HZ9.out 0 _ rfl
                      have s1 : W9.cell? ⟨w.heap.size + 1, 1, none⟩ = some (.int .i64 0) := box_at HZ9.out 1 _ rfl
                      have s2 : W9.cell? ⟨w.heap.size + 1, 2, none⟩ = some (.slice none 0 0) := box_at HZ9.out 2 _ rfl
                      have sf := box_free HZ9.out
                      refine wp_region_held_drew (S := fun W' => W'.cell? ⟨t6, 0, none⟩ = some (.int .i64 room) ∧ W'.cell? ⟨t6, 1, none⟩ = some (.int .i64 (next + 1)) ∧ W'.cell? ⟨t6, 2, none⟩ = some (.slice F1 f1 g1) ∧ W'.cell? ⟨w.heap.size, 1, none⟩ = some (.int .i64 next)) (by kernel_rfl) (⟨cell_dr y0, cell_dr y1, cell_dr y2, cell_dr hz1⟩) (fun hHeld => ?_)
                      refine wpAnyH_take (i := 0) (oi := _) (v := ?v0k) rfl (by kernel_rfl) (by kernel_rfl) (by kernel_rfl) (fun _ _ _ h => h) (Or.inl ⟨by kernel_rfl, ?y0k⟩) (by assumption) ?r0k
                      case y0k => (intro w hSw; (try dsimp only at hSw); go_simp; try (with_reducible rfl))
                      case r0k =>
                        simp only [List.getElem_toArray, List.getElem_cons_succ, List.getElem_cons_zero, Act.put, List.setIfInBounds_toArray, List.set_cons_zero, List.set_cons_succ]
                        refine wpAnyH_take (i := 1) (oi := _) (v := ?v1k) rfl (by kernel_rfl) (by kernel_rfl) (by kernel_rfl) (fun _ _ _ h => h) (Or.inl ⟨by kernel_rfl, ?y1k⟩) (by assumption) ?r1k
                        case y1k => (intro w hSw; (try dsimp only at hSw); go_simp; try (with_reducible rfl))
                        case r1k =>
                          simp only [List.getElem_toArray, List.getElem_cons_succ, List.getElem_cons_zero, Act.put, List.setIfInBounds_toArray, List.set_cons_zero, List.set_cons_succ]
                          refine wpAnyH_take (i := 2) (oi := _) (v := ?v2k) rfl (by kernel_rfl) (by kernel_rfl) (by kernel_rfl) (fun _ _ _ h => h) (Or.inl ⟨by kernel_rfl, ?y2k⟩) (by assumption) ?r2k
                          case y2k => (intro w hSw; (try dsimp only at hSw); go_simp; try (with_reducible rfl))
                          case r2k =>
                            simp only [List.getElem_toArray, List.getElem_cons_succ, List.getElem_cons_zero, Act.put, List.setIfInBounds_toArray, List.set_cons_zero, List.set_cons_succ]
                            refine wpAnyH_ready (rs := [3]) (by kernel_rfl) (by simp) ?_
                            refine AllReadyH.cons (o := _) rfl (fun K hK => ?_) AllReadyH.nil
                            go_simp
                            skip
                            go_wp2_with fail
                            refine hK.out _ _ (⟨cs3 hHeld.1 nb0, cs3 hHeld.2.1 nb0, cs3 hHeld.2.2.1 nb0, cs3 hHeld.2.2.2 nb3⟩) (fun hHeld => ?_)
                            clear hK K
                            try simp only [List.getElem_toArray, List.getElem_cons_succ, List.getElem_cons_zero, Act.put, List.setIfInBounds_toArray, List.set_cons_zero, List.set_cons_succ]
                            refine wpAnyH_take (i := 4) (oi := _) (v := ?v4k) rfl (by kernel_rfl) (by kernel_rfl) (by kernel_rfl) (fun _ _ _ h => h) (Or.inl ⟨by kernel_rfl, ?y4k⟩) (by assumption) ?r4k
                            case y4k => (intro w hSw; (try dsimp only at hSw); go_simp; try (with_reducible rfl))
                            case r4k =>
                              simp only [List.getElem_toArray, List.getElem_cons_succ, List.getElem_cons_zero, Act.put, List.setIfInBounds_toArray, List.set_cons_zero, List.set_cons_succ]
                              refine wpAnyH_take (i := 5) (oi := _) (v := ?v5k) rfl (by kernel_rfl) (by kernel_rfl) (by kernel_rfl) (fun _ _ _ h => h) (Or.inl ⟨by kernel_rfl, ?y5k⟩) (by assumption) ?r5k
                              case y5k => (intro w hSw; (try dsimp only at hSw); go_simp; try (with_reducible rfl))
                              case r5k =>
                                simp only [List.getElem_toArray, List.getElem_cons_succ, List.getElem_cons_zero, Act.put, List.setIfInBounds_toArray, List.set_cons_zero, List.set_cons_succ]
                                refine wpAnyH_take (i := 6) (oi := _) (v := ?v6k) rfl (by kernel_rfl) (by kernel_rfl) (by kernel_rfl) (fun _ _ _ h => h) (Or.inl ⟨by kernel_rfl, ?y6k⟩) (by assumption) ?r6k
                                case y6k => (intro w hSw; (try dsimp only at hSw); go_simp; try (with_reducible rfl))
                                case r6k =>
                                  simp only [List.getElem_toArray, List.getElem_cons_succ, List.getElem_cons_zero, Act.put, List.setIfInBounds_toArray, List.set_cons_zero, List.set_cons_succ]
                                  refine wpAnyH_done (by kernel_rfl) ?_ _
                                  clear hHeld
                                  go_wp2_with fail
                                  have hbd : Below W9.heap.size W9 W9.drew := below_drew (Below.refl _ _)
                                  have hfin := ret_own (room := room) (next := next + 1) (HO9.out.below hbd) (HB9.out.trans (hbd.mono HB9.out.size)) (keep hbd HZ9.out) (Nat.le_succ _)
                                  refine bodyPost_ret (v := .tuple #[fv room (next + 1) (.slice F1 f1 g1), .int .i64 next, .bool true, .int .i64 0]) (by simp [results, Try.results17, go_sem, s0, s1, s2]) rfl ?_
                                  rw [HE.out]
                                  refine ⟨_, f1, g1, _, rfl, ?_, hfin.1, hfin.2⟩
                                  unfold fls
                                  rw [List.map_append]
                                  have := HFZ.out
                                  unfold fls at this
                                  rw [this]
                                  rfl
              | true =>
                obtain ⟨rfl, hlt⟩ : share = true ∧ kk < n := by simpa using hgo
                clear hgo
                have hltz : (kk : Int) < (n : Int) := by omega
                obtain ⟨⟨x, S0⟩, hyk⟩ : ∃ y, ys[kk]? = some y := ⟨_, List.getElem?_eq_getElem (by omega)⟩
                obtain ⟨b0, off0, hA, hF⟩ := ((HR0.out.below HS5.out.bw).below HBr.out).at_ hyk
                have hfx : (fls ys)[kk]? = some x := fls_at hyk
                have HFX := Lib.hid hfx
                subst hA
                obtain ⟨B0, m0, d0⟩ := S0
                have hwl : x.ws.length = m0 := hF.r.len
                obtain ⟨fk, fs, fi, fb, fd, ft, fo, ws⟩ := x
                have k0 : wr.cell? ⟨b0, off0 + kk * 8, none⟩ = some (str fk) := hF.c0
                have k1 : wr.cell? ⟨b0, off0 + kk * 8 + 1, none⟩ = some (.bool fs) := hF.c1
                have k2 : wr.cell? ⟨b0, off0 + kk * 8 + 2, none⟩ = some (.int .i64 fi) := hF.c2
                have k3 : wr.cell? ⟨b0, off0 + kk * 8 + 3, none⟩ = some (.int .i64 fb) := hF.c3
                have k4 : wr.cell? ⟨b0, off0 + kk * 8 + 4, none⟩ = some (str fd) := hF.c4
                have k5 : wr.cell? ⟨b0, off0 + kk * 8 + 5, none⟩ = some (.int .i64 ft) := hF.c5
                have k6 : wr.cell? ⟨b0, off0 + kk * 8 + 6, none⟩ = some (.bool fo) := hF.c6
                have k7 : wr.cell? ⟨b0, off0 + kk * 8 + 7, none⟩ = some (.slice B0 m0 d0) := hF.c7
                clear hyk hF hfx
                have hal : Below wr.heap.size wr (wr.alloc (.cells #[str fk, .bool fs, .int .i64 fi, .int .i64 fb, str fd, .int .i64 ft, .bool fo, .slice B0 m0 d0] 45)) := (Below.refl _ _).alloc (Nat.le_refl _) _
                have hx := heap_alloc_new wr (.cells #[str fk, .bool fs, .int .i64 fi, .int .i64 fb, str fd, .int .i64 ft, .bool fo, .slice B0 m0 d0] 45)
                have HSt := Lib.hid (HSr.out.below hal)
                have HBt := Lib.hid (HBr.out.trans (hal.mono HBr.out.size))
                have HXt := Lib.hid hx
                have HLT := Lib.hid (HSr.out.ow.o.lt)
                have hxlt : w.heap.size + 1 < wr.heap.size := (Array.getElem?_eq_some_iff.1 HSr.out.bz).1
                clear hal hx
                go_upto_region 11 with fail
                clear k0 k1 k2 k3 k4 k5 k6 k7 y2 HSr HBr
                generalize wr.alloc (.cells #[str fk, .bool fs, .int .i64 fi, .int .i64 fb, str fd, .int .i64 ft, .bool fo, .slice B0 m0 d0] 45) = Wt at *
                generalize wr.heap.size = tp at *
                have e0 : Wt.cell? ⟨tp, 0, none⟩ = some (str fk) := box_at HXt.out 0 _ rfl
                have e1 : Wt.cell? ⟨tp, 1, none⟩ = some (.bool fs) := box_at HXt.out 1 _ rfl
                have e3 : Wt.cell? ⟨tp, 3, none⟩ = some (.int .i64 fb) := box_at HXt.out 3 _ rfl
                have e6 : Wt.cell? ⟨tp, 6, none⟩ = some (.bool fo) := box_at HXt.out 6 _ rfl
                have e7 : Wt.cell? ⟨tp, 7, none⟩ = some (.slice B0 m0 d0) := box_at HXt.out 7 _ rfl
                go_cut [79] from 41 to 79 (fun s79 wx => s79 = .bool (joinsF key ⟨fk, fs, fi, fb, fd, ft, fo, ws⟩) ∧ wx = Wt)
                case first =>
                  cases fs with
                  | false =>
                    go_wp2_with fail
                    go_meet
                    exact ⟨rfl, rfl⟩
                  | true =>
                    by_cases h1 : fk = key
                    · subst h1
                      by_cases h2 : fb = 0
                      · subst h2
                        cases fo with
                        | true =>
                          go_wp2_with fail
                          go_meet
                          exact ⟨by simp [joinsF], rfl⟩
                        | false =>
                          by_cases h3 : (m0 : Int) < 8
                          · go_wp2_with fail
                            go_meet
                            exact ⟨by simp [joinsF]; omega, rfl⟩
                          · go_wp2_with fail
                            go_meet
                            exact ⟨by simp [joinsF]; omega, rfl⟩
                      · have h2b : (fb == 0) = false := by simpa using h2
                        go_wp2_with fail
                        go_meet
                        exact ⟨by simp [joinsF, h2], rfl⟩
                    · have h1b : (fk == key) = false := by simpa using h1
                      go_wp2_with fail
                      go_meet
                      exact ⟨by simp [joinsF, h1], rfl⟩
                case rest =>
                  obtain ⟨rfl, hwc⟩ := hcut
                  subst wc
                  clear e0 e1 e3 e6 e7
                  have hwl2 : ws.length = m0 := hwl
                  generalize hxx : (⟨fk, fs, fi, fb, fd, ft, fo, ws⟩ : Fl) = x at *
                  cases hj : joinsF key x with
                  | false =>
                    have HJ := Lib.hid hj; clear hj
                    go_wp2_with fail
                    go_roundg (n - (kk + 1))
                    case measure => omega
                    case rel =>
                      refine ⟨kk + 1, by omega, by omega, by go_num, (show Aside _ from ⟨HBt.out, fun j z hj hz => ?_⟩)⟩
                      rcases Nat.lt_or_ge j kk with h | h
                      · exact HNO.out j z h hz
                      · obtain rfl : j = kk := by omega
                        rw [HFX.out] at hz
                        injection hz with hz
                        subst hz
                        rw [HJ.out]
                        rfl
                  | true =>
                    have HJ := Lib.hid hj; clear hj
                    have HE := Lib.hid (HJJ.out kk x (findG_some HFX.out (by rw [HJ.out]; rfl) HNO.out) HFX.out)
                    go_upto_region 12 with fail
                    clear hltz
                    obtain ⟨⟨B, m, d⟩, hzk⟩ := fls_get HFZ.out HFX.out
                    obtain ⟨b, off, hA2, hlob, hF⟩ := HSt.out.ow.at_ hzk
                    subst hA2
                    have HZK := Lib.hid hzk
                    have hxw : x.ws.length ≤ 1000 := HS.out.w x (List.mem_of_getElem? HFX.out)
                    have hkn : (kk : Int) < (n2 : Int) := by have := HNN.out; omega
                    have k7 : Wt.cell? ⟨b, off + kk * 8 + 7, none⟩ = some (.slice B m d) := hF.c7
                    have y2 : Wt.cell? ⟨t6, 2, none⟩ = some (.slice (some ⟨b, off, none⟩) n2 c2) := box_at HSt.out.tp 2 _ rfl
                    have hal6 : Below Wt.heap.size Wt (Wt.alloc (.cells #[.int .i64 wt, .int .i64 0] 47)).drew := below_drew ((Below.refl _ _).alloc (Nat.le_refl _) _)
                    have HSU := Lib.hid (HSt.out.below hal6)
                    have HXU := Lib.hid (keep hal6 HXt.out)
                    have y2u := pw_cell_below hal6 y2
                    have k7u := pw_cell_below hal6 k7
                    have HBX := Lib.hid (show RdE tenc 2 (Wt.alloc (.cells #[.int .i64 wt, .int .i64 0] 47)).drew (.slice (some ⟨Wt.heap.size, 0, none⟩) 1 1) [⟨wt, 0⟩] from (rd_boxE (enc := tenc) Wt ⟨wt, 0⟩ 47).below (below_drew (Below.refl _ _)))
                    have HHE := HE
                    have NTB := Lib.hid (show ¬ tp = b by have := HLT.out b rfl; omega)
                    clear hal6 hzk hF hlob HE
                    go_cut [] from 80 to 94 (fun wx => Aside (∃ S' : Sl, RfS w wx t6 room next (.slice (some ⟨b0, off0, none⟩) n c) (.slice (some ⟨b, off, none⟩) n2 c2) (zs.set kk ({ x with ws := x.ws ++ [⟨wt, 0⟩] }, S')) ∧ wx.cell? ⟨tp, 2, none⟩ = some (.int .i64 x.id)))
                    case first =>
                      go_region_law (refine wp_app_stepE w.heap.size rfl _ _ 43 47 (.agg #[.int .i64 0, .int .i64 0]) 16 rfl Try.underlying43 Try.info47 rfl (by omega) (by omega) (.slice B m d) (.slice (some ⟨Wt.heap.size, 0, none⟩) 1 1) x.ws [⟨wt, 0⟩] (by rfl) (by rfl) (HSU.out.ow.r kk _ HZK.out) HBX.out tenc1 (by simp only [List.length_cons, List.length_nil]; omega) HSU.out.bw.size ?_; intro v1 w8 hO8 hg8 hat8; obtain ⟨F1, f1, g1, rfl⟩ := hO8.slice'; have HO8 := Lib.hid hO8; have HG8 := Lib.hid hg8; have HAT := Lib.hid hat8; have z8 := (OwF.cell7g HSU.out.ow HZK.out hg8).1; have f8 := (OwF.cell7g HSU.out.ow HZK.out hg8).2; have y8 := box_at (app_box HSU.out.ow HZK.out hg8 HSU.out.tp (by decide)) 2 _ rfl; clear hO8 hg8 hat8 y2 y2u k7 k7u)
                      all_goals go_wp2_with fail
                      all_goals go_meet
                      all_goals
                        refine (show Aside (∃ S' : Sl, _) from (?_ : ∃ S' : Sl, _))
                        refine ⟨⟨F1, f1, g1⟩, HSU.out.addW (S' := ⟨F1, f1, g1⟩) HZK.out HO8.out HG8.out HAT.out, ?_⟩
                        obtain ⟨cub, hcub⟩ := HSU.out.ow.o.typed b rfl
                        have hx8 := app_box HSU.out.ow HZK.out HG8.out HXU.out (by decide)
                        refine cell_set (box_at hx8 2 _ ?_) ?_
                        · rw [← hxx]
                          rfl
                        · exact NTB.out
                    case rest =>
                      obtain ⟨S', HS7, HT7⟩ := hcut.out
                      have HS7 := Lib.hid HS7
                      have e2 := HT7
                      clear hcut y2 y2u k7 k7u HSU HXU HBX HT7
                      have HE := HHE
                      clear HHE
                      have hkz : kk < zs.length := by omega
                      have nb2 : ¬ tp = w.heap.size + 1 := by omega
                      have nb0 : ¬ t6 = w.heap.size + 1 := by have := HS7.out.t6; omega
                      have y0 : wc.cell? ⟨t6, 0, none⟩ = some (.int .i64 room) := box_at HS7.out.tp 0 _ rfl
                      have y1 : wc.cell? ⟨t6, 1, none⟩ = some (.int .i64 next) := box_at HS7.out.tp 1 _ rfl
                      have y2 : wc.cell? ⟨t6, 2, none⟩ = some (.slice (some ⟨b, off, none⟩) n2 c2) := box_at HS7.out.tp 2 _ rfl
                      have s0 : wc.cell? ⟨w.heap.size + 1, 0, none⟩ = some (.int .i64 0) := box_at HS7.out.bz 0 _ rfl
                      have s1 : wc.cell? ⟨w.heap.size + 1, 1, none⟩ = some (.int .i64 0) := box_at HS7.out.bz 1 _ rfl
                      have s2 : wc.cell? ⟨w.heap.size + 1, 2, none⟩ = some (.slice none 0 0) := box_at HS7.out.bz 2 _ rfl
                      have sf := box_free HS7.out.bz
                      have HFS := Lib.hid (fls_set HFZ.out kk { x with ws := x.ws ++ [⟨wt, 0⟩] } S')
                      go_upto_region 13 with fail
                      refine wp_region_held_drew (S := fun W' => W'.cell? ⟨t6, 0, none⟩ = some (.int .i64 room) ∧ W'.cell? ⟨t6, 1, none⟩ = some (.int .i64 next) ∧ W'.cell? ⟨t6, 2, none⟩ = some (.slice (some ⟨b, off, none⟩) n2 c2) ∧ W'.cell? ⟨tp, 2, none⟩ = some (.int .i64 x.id)) (by kernel_rfl) (⟨cell_dr y0, cell_dr y1, cell_dr y2, cell_dr e2⟩) (fun hHeld => ?_)
                      refine wpAnyH_take (i := 0) (oi := _) (v := ?v0j) rfl (by kernel_rfl) (by kernel_rfl) (by kernel_rfl) (fun _ _ _ h => h) (Or.inl ⟨by kernel_rfl, ?y0j⟩) (by assumption) ?r0j
                      case y0j => (intro w hSw; (try dsimp only at hSw); go_simp; try (with_reducible rfl))
                      case r0j =>
                        simp only [List.getElem_toArray, List.getElem_cons_succ, List.getElem_cons_zero, Act.put, List.setIfInBounds_toArray, List.set_cons_zero, List.set_cons_succ]
                        refine wpAnyH_take (i := 1) (oi := _) (v := ?v1j) rfl (by kernel_rfl) (by kernel_rfl) (by kernel_rfl) (fun _ _ _ h => h) (Or.inl ⟨by kernel_rfl, ?y1j⟩) (by assumption) ?r1j
                        case y1j => (intro w hSw; (try dsimp only at hSw); go_simp; try (with_reducible rfl))
                        case r1j =>
                          simp only [List.getElem_toArray, List.getElem_cons_succ, List.getElem_cons_zero, Act.put, List.setIfInBounds_toArray, List.set_cons_zero, List.set_cons_succ]
                          refine wpAnyH_take (i := 2) (oi := _) (v := ?v2j) rfl (by kernel_rfl) (by kernel_rfl) (by kernel_rfl) (fun _ _ _ h => h) (Or.inl ⟨by kernel_rfl, ?y2j⟩) (by assumption) ?r2j
                          case y2j => (intro w hSw; (try dsimp only at hSw); go_simp; try (with_reducible rfl))
                          case r2j =>
                            simp only [List.getElem_toArray, List.getElem_cons_succ, List.getElem_cons_zero, Act.put, List.setIfInBounds_toArray, List.set_cons_zero, List.set_cons_succ]
                            refine wpAnyH_ready (rs := [3]) (by kernel_rfl) (by simp) ?_
                            refine AllReadyH.cons (o := _) rfl (fun K hK => ?_) AllReadyH.nil
                            go_simp
                            skip
                            go_wp2_with fail
                            refine hK.out _ _ (⟨cs3 hHeld.1 nb0, cs3 hHeld.2.1 nb0, cs3 hHeld.2.2.1 nb0, cs3 hHeld.2.2.2 nb2⟩) (fun hHeld => ?_)
                            clear hK K
                            try simp only [List.getElem_toArray, List.getElem_cons_succ, List.getElem_cons_zero, Act.put, List.setIfInBounds_toArray, List.set_cons_zero, List.set_cons_succ]
                            refine wpAnyH_take (i := 4) (oi := _) (v := ?v4j) rfl (by kernel_rfl) (by kernel_rfl) (by kernel_rfl) (fun _ _ _ h => h) (Or.inl ⟨by kernel_rfl, ?y4j⟩) (by assumption) ?r4j
                            case y4j => (intro w hSw; (try dsimp only at hSw); go_simp; try (with_reducible rfl))
                            case r4j =>
                              simp only [List.getElem_toArray, List.getElem_cons_succ, List.getElem_cons_zero, Act.put, List.setIfInBounds_toArray, List.set_cons_zero, List.set_cons_succ]
                              refine wpAnyH_take (i := 5) (oi := _) (v := ?v5j) rfl (by kernel_rfl) (by kernel_rfl) (by kernel_rfl) (fun _ _ _ h => h) (Or.inl ⟨by kernel_rfl, ?y5j⟩) (by assumption) ?r5j
                              case y5j => (intro w hSw; (try dsimp only at hSw); go_simp; try (with_reducible rfl))
                              case r5j =>
                                simp only [List.getElem_toArray, List.getElem_cons_succ, List.getElem_cons_zero, Act.put, List.setIfInBounds_toArray, List.set_cons_zero, List.set_cons_succ]
                                refine wpAnyH_take (i := 6) (oi := _) (v := ?v6j) rfl (by kernel_rfl) (by kernel_rfl) (by kernel_rfl) (fun _ _ _ h => h) (Or.inl ⟨by kernel_rfl, ?y6j⟩) (by assumption) ?r6j
                                case y6j => (intro w hSw; (try dsimp only at hSw); go_simp; try (with_reducible rfl))
                                case r6j =>
                                  simp only [List.getElem_toArray, List.getElem_cons_succ, List.getElem_cons_zero, Act.put, List.setIfInBounds_toArray, List.set_cons_zero, List.set_cons_succ]
                                  refine wpAnyH_done (by kernel_rfl) ?_ _
                                  clear hHeld
                                  go_wp2_with fail
                                  have hSd := HS7.out.below (below_drew (Below.refl _ _))
                                  have hfin := ret_own (room := room) (next := next) hSd.ow hSd.bw hSd.bz (Nat.le_succ _)
                                  refine bodyPost_ret (v := .tuple #[fv room next (.slice (some ⟨b, off, none⟩) n2 c2), .int .i64 x.id, .bool false, .int .i64 0]) (by simp [results, Try.results17, go_sem, s0, s1, s2]) rfl ?_
                                  rw [HE.out]
                                  exact ⟨_, n2, c2, _, rfl, HFS.out, hfin.1, hfin.2⟩
end Go.Proofs.Ytipjhokhflokmaa
