/- lockagelaw18.FlightSpoilt. -/
import Derived.Test.YtipjhokhflokmaaBF
set_option linter.unusedVariables false
set_option linter.unusedSimpArgs false
namespace Go.Proofs.Ytipjhokhflokmaa
open Go.RowKit Go.Maps
open Go.Proofs.YtipjhokhflokmaaW.PrintWords

theorem below_drewN {B : Nat} {w W : World} {n : Nat} (h : Below B w W) : Below B w (W.drewN n) := ⟨h.os, h.tape, h.output, h.size, h.block⟩
theorem rem12 (b : Nat) : b % 12 = 0 ∨ b % 12 = 1 ∨ b % 12 = 2 ∨ b % 12 = 3 ∨ b % 12 = 4 ∨ b % 12 = 5 ∨ b % 12 = 6 ∨ b % 12 = 7 ∨ b % 12 = 8 ∨ b % 12 = 9 ∨ b % 12 = 10 ∨ b % 12 = 11 := by omega
theorem tm12 {b r : Nat} (h : b % 12 = r) : (b : Int) % 12 = (r : Int) := by omega
theorem okI_of {x : Int} (h : okI x) : -9223372036854775808 ≤ x ∧ x ≤ 9223372036854775807 := h

set_option maxRecDepth 100000 in
set_option maxHeartbeats 16000000 in
theorem flightSpoilt_any (w : World) (r8 : Nat) (Al : Option Addr) (nl cl : Nat) (l : List Nat) (how at8 : Nat) (x0 : Int) (hr8 : r8 < 256) (hl : Rd w (.slice Al nl cl) (u8s l)) (h8 : ∀ x ∈ l, x < 256) (hhow : how < 256) (hat : at8 < 256) (hx0 : okI x0) :
    Calls Try.prog 6 #[.int .u8 r8, .slice Al nl cl, .int .u8 how, .int .u8 at8, .int .i64 x0] w fun e w' => e = .returned (.bool true) ∧ Below w.heap.size w w' := by
  have hm := made_any w r8 hr8 Al nl cl l hl h8
  have hok := madeS_ok ((1 + r8 % 12 : Nat) : Int) l
  have hne := madeS_ne (room := ((1 + r8 % 12 : Nat) : Int)) (by omega) l
  obtain ⟨room, hroom⟩ : ∃ q : Int, ((1 + r8 % 12 : Nat) : Int) = q := ⟨_, rfl⟩
  have hr1 : 1 ≤ room := by omega
  have hr2 : room ≤ 4096 := by omega
  rw [hroom] at hm hok hne
  generalize madeS room l = st at hm hok hne
  obtain ⟨nx, fs⟩ := st
  have hnx0 : 0 ≤ nx := hok.n.1
  have hnx6 : nx ≤ 60 := by have := hok.n.2; simp only at this; omega
  have HKF := Lib.hid (show SmK 60 fs from hok.f)
  have HNE := Lib.hid (show NE fs from hne)
  have HM := Lib.hid hm
  have HX0 := Lib.hid hx0
  have HJ := Lib.hid (joinE hr1 hr2 hnx0 (show nx ≤ 1000 by omega))
  have HNX := Lib.hid (show okI nx by unfold okI; omega)
  have HNX1 := Lib.hid (show okI (nx + 1) by unfold okI; omega)
  clear hl h8 hok hne hm hroom hx0 hr8 hr1 hr2
  go_enter Try.func6, Try.ntmps6
  go_upto_region 2 with (go_at_call 16; refine HM.out.mono ?_; rintro e w1 ⟨A, n, c, zs, rfl, hf, hO, hb⟩; have HF := Lib.hid hf; have HO := Lib.hid hO; have HB := Lib.hid hb; clear hf hO hb)
  clear HM
  have hal : Below w1.heap.size w1 (w1.alloc (.cells #[.int .i64 room, .int .i64 nx, .slice A n c] 26)) := (Below.refl _ _).alloc (Nat.le_refl _) _
  have HS := Lib.hid (show SpF w (w1.alloc (.cells #[.int .i64 room, .int .i64 nx, .slice A n c] 26)) w1.heap.size room nx A n c zs from ⟨heap_alloc_new w1 _, HO.out.below hal, by rw [HF.out]; exact HNE.out, by rw [HF.out]; exact HKF.out.up (by omega), HB.out.trans (hal.mono HB.out.size), HB.out.size⟩)
  clear hal HB HO HF HNE HKF
  generalize w1.alloc (.cells #[.int .i64 room, .int .i64 nx, .slice A n c] 26) = W at *
  generalize w1.heap.size = bx at *
  have z0 : W.cell? ⟨bx, 0, none⟩ = some (.int .i64 room) := box_at HS.out.xb 0 _ rfl
  have z1 : W.cell? ⟨bx, 1, none⟩ = some (.int .i64 nx) := box_at HS.out.xb 1 _ rfl
  have z2 : W.cell? ⟨bx, 2, none⟩ = some (.slice A n c) := box_at HS.out.xb 2 _ rfl
  go_upto_if 19 with fail
  go_cut [] from 16 to 26 (fun wx => ∃ nx A n c zs, Aside (SpF w wx bx room nx A n c zs ∧ 1 ≤ n ∧ n ≤ 100))
  case first =>
    by_cases hn0 : n = 0
    · have hzs : zs = [] := List.eq_nil_of_length_eq_zero (by rw [HS.out.ow.rd.len]; exact hn0)
      subst hn0
      subst hzs
      have HRJ := rjoin_any W room nx A 0 c [] [97] 1 true HS.out.ow.rd (SmK.nil 0 |>.sm (by omega)) (by simp)
      unfold JoinPost OpPost at HRJ
      rw [show fls [] = [] from rfl, HJ.out] at HRJ
      replace HRJ := Lib.hid HRJ
      go_wp2_with (go_at_call 17; refine HRJ.out.mono ?_; rintro e w2 ⟨A2, n2, c2, zs2, rfl, hf2, hO2, hb2⟩; have HF2 := Lib.hid hf2; have HO2 := Lib.hid hO2; have HB2 := Lib.hid hb2; clear hf2 hO2 hb2 z0 z1 z2; have hb3 := keep HB2.out HS.out.xb; have y0 : w2.cell? ⟨bx, 0, none⟩ = some (.int .i64 room) := box_at hb3 0 _ rfl; have y1 : w2.cell? ⟨bx, 1, none⟩ = some (.int .i64 nx) := box_at hb3 1 _ rfl; have y2 : w2.cell? ⟨bx, 2, none⟩ = some (.slice A 0 c) := box_at hb3 2 _ rfl; have yf := box_free hb3; clear hb3)
      go_meet
      refine ⟨nx + 1, A2, n2, c2, zs2, ?_⟩
      show Aside _
      have hz2 : zs2.length = n2 := HO2.out.rd.len
      have hzl : zs2.length = 1 := fls_len HF2.out
      have hb3 := keep HB2.out HS.out.xb
      refine ⟨⟨st3_box hb3, st3_own (HO2.out.lower HS.out.bw.size) hb3, ?_, ?_, st3_below (HS.out.bw.trans (HB2.out.mono HS.out.bw.size)) HS.out.lo, HS.out.lo⟩, by omega, by omega⟩
      · rw [HF2.out]
        intro y hy
        obtain rfl : y = newF [97] true nx 1 := by simpa using hy
        exact ⟨Nat.le_refl _, HNX.out, Nat.zero_le _⟩
      · rw [HF2.out]
        refine ⟨by simp, fun y hy => ?_⟩
        obtain rfl : y = newF [97] true nx 1 := by simpa using hy
        refine ⟨by simp [newF], fun t ht => ?_⟩
        obtain rfl : t = ⟨1, 0⟩ := by simpa [newF] using ht
        unfold okI
        decide
    · have hn0b : ((n : Int) == 0) = false := by simpa using hn0
      go_wp2_with fail
      go_meet
      refine ⟨nx, A, n, c, zs, ?_⟩
      show Aside _
      have hz2 : zs.length = n := HS.out.ow.rd.len
      have hk := HS.out.k.n
      simp only [fls, List.length_map] at hk
      exact ⟨HS.out, by omega, by omega⟩
  case rest =>
    clear HS z0 z1 z2 HJ HNX HNX1 hnx0 hnx6
    obtain ⟨nx, A, n, c, zs, HA⟩ := hcut
    have HS := Lib.hid HA.out.1
    have hn1 := HA.out.2.1
    have hn2 := HA.out.2.2
    clear HA
    obtain ⟨kq, hkq⟩ : ∃ k : Nat, at8 % n = k := ⟨_, rfl⟩
    have hkn : kq < n := by rw [← hkq]; exact Nat.mod_lt _ hn1
    have tq : (at8 : Int).tmod (n : Int) = (kq : Int) := tmodM (q := n) hkq
    have wq : IntKind.i64.wrap (at8 : Int) = (at8 : Int) := wrapM (by omega) (by omega)
    have wq2 : IntKind.i64.wrap (kq : Int) = (kq : Int) := wrapM (by omega) (by omega)
    have hknz : (kq : Int) < (n : Int) := by omega
    have hn0z : ((n : Int) == 0) = false := by simp; omega
    have hzl : zs.length = n := HS.out.ow.rd.len
    clear hkq
    obtain ⟨⟨x, S⟩, hz⟩ : ∃ y, zs[kq]? = some y := ⟨_, List.getElem?_eq_getElem (by omega)⟩
    obtain ⟨b, off, hA, hF⟩ := HS.out.ow.rd.at_ hz
    subst hA
    have HZ := Lib.hid hz
    have HFA := Lib.hid hF
    clear hz hF
    have z0 : wc.cell? ⟨bx, 0, none⟩ = some (.int .i64 room) := box_at HS.out.xb 0 _ rfl
    have z1 : wc.cell? ⟨bx, 1, none⟩ = some (.int .i64 nx) := box_at HS.out.xb 1 _ rfl
    have z2 : wc.cell? ⟨bx, 2, none⟩ = some (.slice (some ⟨b, off, none⟩) n c) := box_at HS.out.xb 2 _ rfl
    have zf := box_free HS.out.xb
    go_upto_region 4 with fail
    go_quiet (fail)
    go_upto_region 5 with fail
    clear tq wq wq2 hknz hn0z z0 z1 z2 zf
    have hdn : Below wc.heap.size wc (wc.drewN nq) := below_drewN (Below.refl _ _)
    replace HS := Lib.hid (HS.out.below hdn)
    replace HFA := Lib.hid (HFA.out.below hdn)
    clear hdn
    generalize wc.drewN nq = wc at *
    have z0 : wc.cell? ⟨bx, 0, none⟩ = some (.int .i64 room) := box_at HS.out.xb 0 _ rfl
    have z1 : wc.cell? ⟨bx, 1, none⟩ = some (.int .i64 nx) := box_at HS.out.xb 1 _ rfl
    have z2 : wc.cell? ⟨bx, 2, none⟩ = some (.slice (some ⟨b, off, none⟩) n c) := box_at HS.out.xb 2 _ rfl
    have zf := box_free HS.out.xb
    obtain ⟨_, _, hb1, _, _, _, _, hfz⟩ := HS.out.ow.o.form (show 0 < n by omega)
    injection hb1 with hb1
    injection hb1 with hb1 hb2
    subst hb1; subst hb2
    have hlt := HFA.out.lt
    go_upto_block 0 with fail
    obtain ⟨m12, hm12⟩ : ∃ m, how % 12 = m := ⟨_, rfl⟩
    have q12 : (how : Int) % 12 = (m12 : Int) := tm12 hm12
    have hmlt : m12 < 12 := by omega
    clear hm12 hhow
    go_cut [] from 36 to 131 (fun wx => ∃ room nx A n c zs id, Aside (SpR w wx bx room nx A n c zs b (off + kq * 8) id))
    case first =>
      simp only [q12]
      clear q12
      have hcases : m12 = 0 ∨ m12 = 1 ∨ m12 = 2 ∨ m12 = 3 ∨ m12 = 4 ∨ m12 = 5 ∨ m12 = 6 ∨ m12 = 7 ∨ m12 = 8 ∨ m12 = 9 ∨ m12 = 10 ∨ m12 = 11 := by omega
      clear hmlt
      have k2 : wc.cell? ⟨b, off + kq * 8 + 2, none⟩ = some (.int .i64 x.id) := HFA.out.c2
      have k3 : wc.cell? ⟨b, off + kq * 8 + 3, none⟩ = some (.int .i64 x.base) := HFA.out.c3
      have k4 : wc.cell? ⟨b, off + kq * 8 + 4, none⟩ = some (str x.data) := HFA.out.c4
      have k5 : wc.cell? ⟨b, off + kq * 8 + 5, none⟩ = some (.int .i64 x.tries) := HFA.out.c5
      have k6 : wc.cell? ⟨b, off + kq * 8 + 6, none⟩ = some (.bool x.done) := HFA.out.c6
      obtain ⟨S1, S2, S3⟩ := S
      have k7 : wc.cell? ⟨b, off + kq * 8 + 7, none⟩ = some (.slice S1 S2 S3) := HFA.out.c7
      rcases hcases with rfl | rfl | rfl | rfl | rfl | rfl | rfl | rfl | rfl | rfl | rfl | rfl
      · go_wp2_with fail
        go_meet
        exact ⟨_, _, _, _, _, _, _, HS.out.room_ HZ.out x0⟩
      · go_wp2_with fail
        go_meet
        exact ⟨_, _, _, _, _, _, _, HS.out.next_ HZ.out x0⟩
      · go_wp2_with fail
        go_meet
        exact ⟨_, _, _, _, _, _, _, HS.out.one HZ.out { x with id := x0 } 2 (by decide) rfl rfl HX0.out⟩
      · go_wp2_with fail
        go_meet
        exact ⟨_, _, _, _, _, _, _, HS.out.one HZ.out { x with base := x0 } 3 (by decide) rfl rfl (HS.out.ne.at_ (fls_at HZ.out)).2.1⟩
      · go_wp2_with fail
        go_meet
        exact ⟨_, _, _, _, _, _, _, HS.out.one HZ.out { x with tries := x0 } 5 (by decide) rfl rfl (HS.out.ne.at_ (fls_at HZ.out)).2.1⟩
      · have hsm : x.ws.length ≤ 61 := (HS.out.k.at_ (fls_at HZ.out)).1
        have hal6 : Below wc.heap.size wc (wc.alloc (.cells #[.int .i64 x0, .int .i64 x.base] 47)).drew := below_drew ((Below.refl _ _).alloc (Nat.le_refl _) _)
        have hdr : Below wc.heap.size wc wc.drew := below_drew (Below.refl _ _)
        have HSU := Lib.hid (HS.out.below hal6)
        have k7u := pw_cell_below hal6 k7
        have k7d := pw_cell_below hdr k7
        have k3d := pw_cell_below hdr k3
        have HBX := Lib.hid (show RdE tenc 2 (wc.alloc (.cells #[.int .i64 x0, .int .i64 x.base] 47)).drew (.slice (some ⟨wc.heap.size, 0, none⟩) 1 1) [⟨x0, x.base⟩] from (rd_boxE (enc := tenc) wc ⟨x0, x.base⟩ 47).below (below_drew (Below.refl _ _)))
        have hsz : wc.heap.size ≤ (wc.alloc (.cells #[.int .i64 x0, .int .i64 x.base] 47)).drew.heap.size := hal6.size
        clear hal6 hdr
        go_upto_region 18 with fail
        go_region_law (refine wp_app_stepE w.heap.size rfl _ _ 43 47 (.agg #[.int .i64 0, .int .i64 0]) 16 rfl Try.underlying43 Try.info47 rfl (by omega) (by omega) (.slice S1 S2 S3) (.slice (some ⟨wc.heap.size, 0, none⟩) 1 1) x.ws [⟨x0, x.base⟩] (by rfl) (by rfl) (HSU.out.ow.r kq _ HZ.out) HBX.out tenc1 (by simp only [List.length_cons, List.length_nil]; omega) HSU.out.bw.size ?_; intro v1 w8 hO8 hg8 hat8; obtain ⟨F1, f1, g1, rfl⟩ := hO8.slice'; have HO8 := Lib.hid hO8; have HG8 := Lib.hid hg8; have HAT := Lib.hid hat8; have z8 := (OwF.cell7g HSU.out.ow HZ.out hg8).1; have f8 := (OwF.cell7g HSU.out.ow HZ.out hg8).2; clear hO8 hg8 hat8 k7 k7u k7d k3 k3d)
        all_goals go_wp2_with fail
        all_goals go_meet
        all_goals exact ⟨_, _, _, _, _, _, _, HSU.out.more HZ.out HO8.out HG8.out HAT.out HX0.out⟩
      · go_wp2_with fail
        go_meet
        exact ⟨_, _, _, _, _, _, _, HS.out.nobody HZ.out⟩
      · have hw1 := (HS.out.ne.at_ (fls_at HZ.out)).1
        obtain ⟨t, ht⟩ : ∃ t, x.ws[0]? = some t := ⟨_, List.getElem?_eq_getElem (show 0 < x.ws.length from hw1)⟩
        have hOw : OwE tenc 2 47 wc w.heap.size (.slice S1 S2 S3) x.ws := HS.out.ow.r kq _ HZ.out
        have hwl : x.ws.length = S2 := hOw.rd.len
        have hs2 : 0 < S2 := by rw [← hwl]; exact hw1
        obtain ⟨b2, o2, hS1, _, _, _, hc2, hf2⟩ := hOw.form hs2
        subst hS1
        have e1 : wc.cell? ⟨b2, o2 + 1, none⟩ = some (.int .i64 t.at') := by simpa using hc2 0 1 t _ ht rfl
        have e0 : wc.cell? ⟨b2, o2, none⟩ = some (.int .i64 t.id) := by simpa using hc2 0 0 t _ ht rfl
        have hs2z : (0 : Int) < (S2 : Int) := by omega
        have HT := Lib.hid ht
        clear ht hc2 hOw hwl hw1
        go_wp2_with fail
        go_meet
        exact ⟨_, _, _, _, _, _, _, HS.out.wait HZ.out HT.out 1 (by decide) (t' := ⟨t.id, x0⟩) rfl ((HS.out.k.at_ (fls_at HZ.out)).2 t (List.mem_of_getElem? HT.out))⟩
      · have hw1 := (HS.out.ne.at_ (fls_at HZ.out)).1
        obtain ⟨t, ht⟩ : ∃ t, x.ws[0]? = some t := ⟨_, List.getElem?_eq_getElem (show 0 < x.ws.length from hw1)⟩
        have hOw : OwE tenc 2 47 wc w.heap.size (.slice S1 S2 S3) x.ws := HS.out.ow.r kq _ HZ.out
        have hwl : x.ws.length = S2 := hOw.rd.len
        have hs2 : 0 < S2 := by rw [← hwl]; exact hw1
        obtain ⟨b2, o2, hS1, _, _, _, hc2, hf2⟩ := hOw.form hs2
        subst hS1
        have e1 : wc.cell? ⟨b2, o2 + 1, none⟩ = some (.int .i64 t.at') := by simpa using hc2 0 1 t _ ht rfl
        have e0 : wc.cell? ⟨b2, o2, none⟩ = some (.int .i64 t.id) := by simpa using hc2 0 0 t _ ht rfl
        have hs2z : (0 : Int) < (S2 : Int) := by omega
        have HT := Lib.hid ht
        clear ht hc2 hOw hwl hw1
        go_wp2_with fail
        go_meet
        exact ⟨_, _, _, _, _, _, _, HS.out.wait HZ.out HT.out 0 (by decide) (t' := ⟨x0, t.at'⟩) rfl HX0.out⟩
      · have hdl : x.data.length ≤ 4096 := (HS.out.ne.at_ (fls_at HZ.out)).2.2
        go_wp2_with fail
        go_meet
        exact ⟨_, _, _, _, _, _, _, HS.out.one HZ.out { x with data := x.data ++ [48, 49, 50, 51, 52, 53, 54, 55, 56, 57, 97, 98, 99] } 4 (by decide) (by unfold fenc; simp only [List.set_cons_succ, List.set_cons_zero]; rw [show str (x.data ++ [48, 49, 50, 51, 52, 53, 54, 55, 56, 57, 97, 98, 99]) = .string ((⟨x.data.toArray⟩ : ByteArray) ++ ⟨#[48, 49, 50, 51, 52, 53, 54, 55, 56, 57, 97, 98, 99]⟩) from congrArg Value.string (cat_bytes _ _).symm]) rfl (HS.out.ne.at_ (fls_at HZ.out)).2.1⟩
      · obtain ⟨x0', x1, x2, x3, x4, x5, x6, xw⟩ := x
        have k0 : wc.cell? ⟨b, off + kq * 8, none⟩ = some (str x0') := HFA.out.c0
        have k1 : wc.cell? ⟨b, off + kq * 8 + 1, none⟩ = some (.bool x1) := HFA.out.c1
        simp only at k2 k3 k4 k5 k6
        have hal6 : Below wc.heap.size wc (wc.alloc (.cells #[str x0', .bool x1, .int .i64 x2, .int .i64 x3, str x4, .int .i64 x5, .bool x6, .slice S1 S2 S3] 45)).drew := below_drew ((Below.refl _ _).alloc (Nat.le_refl _) _)
        have hdr : Below wc.heap.size wc wc.drew := below_drew (Below.refl _ _)
        have HSU := Lib.hid (HS.out.below hal6)
        have z2u := pw_cell_below hal6 z2
        have z2d := pw_cell_below hdr z2
        have k0d := pw_cell_below hdr k0
        have k1d := pw_cell_below hdr k1
        have k2d := pw_cell_below hdr k2
        have k3d := pw_cell_below hdr k3
        have k4d := pw_cell_below hdr k4
        have k5d := pw_cell_below hdr k5
        have k6d := pw_cell_below hdr k6
        have k7d := pw_cell_below hdr k7
        have k2u := pw_cell_below hal6 k2
        have K2U := Lib.hid k2u
        have HBX := Lib.hid (show RdE fenc 8 (wc.alloc (.cells #[str x0', .bool x1, .int .i64 x2, .int .i64 x3, str x4, .int .i64 x5, .bool x6, .slice S1 S2 S3] 45)).drew (.slice (some ⟨wc.heap.size, 0, none⟩) 1 1) [((⟨x0', x1, x2, x3, x4, x5, x6, xw⟩ : Fl), (⟨S1, S2, S3⟩ : Sl))] from (rd_boxE (enc := fenc) wc ((⟨x0', x1, x2, x3, x4, x5, x6, xw⟩ : Fl), (⟨S1, S2, S3⟩ : Sl)) 45).below (below_drew (Below.refl _ _)))
        have hsz : wc.heap.size ≤ (wc.alloc (.cells #[str x0', .bool x1, .int .i64 x2, .int .i64 x3, str x4, .int .i64 x5, .bool x6, .slice S1 S2 S3] 45)).drew.heap.size := hal6.size
        clear hal6 hdr k2u
        go_upto_region 28 with fail
        have hroom : n + 1 ≤ c ∨ c < n + 1 := by omega
        rcases hroom with hroom | hroom
        · go_region_law (refine wp_app_stepE_room w.heap.size rfl _ _ 24 45 (.agg #[.string ⟨#[]⟩, .bool false, .int .i64 0, .int .i64 0, .string ⟨#[]⟩, .int .i64 0, .bool false, .slice none 0 0]) 96 rfl Try.underlying24 Try.info45 (by omega) (.slice (some ⟨wc.heap.size, 0, none⟩) 1 1) zs [((⟨x0', x1, x2, x3, x4, x5, x6, xw⟩ : Fl), (⟨S1, S2, S3⟩ : Sl))] (by rfl) (by rfl) HSU.out.ow.o HBX.out fenc1 hroom ?_; intro w8 hO8 hg8; have HO8 := Lib.hid hO8; have HG8 := Lib.hid hg8; have z8 := box_at (HSU.out.keepb hg8) 2 _ rfl; have f8 := box_free (HSU.out.keepb hg8); clear hO8 hg8 z2 z2u z2d k0 k1 k2 k3 k4 k5 k6 k7 k0d k1d k2d k3d k4d k5d k6d k7d)
          all_goals go_wp2_with fail
          all_goals go_meet
          all_goals exact ⟨_, _, _, _, _, _, _, HSU.out.twice HZ.out HO8.out HG8.out (HO8.out.id45 HZ.out)⟩
        · go_region_law (refine wp_app_stepE_grow w.heap.size rfl _ _ 24 45 (.agg #[.string ⟨#[]⟩, .bool false, .int .i64 0, .int .i64 0, .string ⟨#[]⟩, .int .i64 0, .bool false, .slice none 0 0]) 96 rfl Try.underlying24 Try.info45 rfl (by omega) (by omega) (.slice (some ⟨wc.heap.size, 0, none⟩) 1 1) zs [((⟨x0', x1, x2, x3, x4, x5, x6, xw⟩ : Fl), (⟨S1, S2, S3⟩ : Sl))] (by rfl) (by rfl) HSU.out.ow.o (by omega) HBX.out hroom (by simp only [List.length_cons, List.length_nil]; omega) HSU.out.bw.size ?_; intro v1 w8 hO8 hg8; obtain ⟨F1, f1, g1, rfl⟩ := hO8.slice'; have HO8 := Lib.hid hO8; have HG8 := Lib.hid (grown_none hg8 b); have HK2 := Lib.hid ((World.cell?_of_block (hg8.block b (World.block_lt_of_cell? _ _ K2U.out) (by simp))).trans K2U.out); have z8 := box_at (HSU.out.keepb HG8.out) 2 _ rfl; have f8 := box_free (HSU.out.keepb HG8.out); clear hO8 hg8 z2 z2u z2d k0 k1 k2 k3 k4 k5 k6 k7 k0d k1d k2d k3d k4d k5d k6d k7d)
          all_goals go_wp2_with fail
          all_goals go_meet
          all_goals exact ⟨_, _, _, _, _, _, _, HSU.out.twice HZ.out HO8.out HG8.out HK2.out⟩
      · go_wp2_with fail
        go_meet
        exact ⟨_, _, _, _, _, _, _, HS.out.one HZ.out { x with done := !x.done } 6 (by decide) rfl rfl (HS.out.ne.at_ (fls_at HZ.out)).2.1⟩
    case rest =>
      clear HS HFA HZ z0 z1 z2 zf hfz hlt hmlt hkn hn1 hn2 hzl
      obtain ⟨room, nx, A, n, c, zs, id, HA⟩ := hcut
      have HR := Lib.hid HA.out
      clear HA
      go_upto_region 29 with fail
      refine wp_region_held_drew (S := fun W' => W'.cell? ⟨bx, 0, none⟩ = some (.int .i64 room) ∧ W'.cell? ⟨bx, 1, none⟩ = some (.int .i64 nx) ∧ W'.cell? ⟨bx, 2, none⟩ = some (.slice A n c) ∧ W'.cell? ⟨b, off + kq * 8 + 2, none⟩ = some (.int .i64 id)) (by kernel_rfl) (⟨cell_dr (box_at HR.out.xb 0 _ rfl), cell_dr (box_at HR.out.xb 1 _ rfl), cell_dr (box_at HR.out.xb 2 _ rfl), cell_dr HR.out.ci⟩) (fun hHeld => ?_)
      refine wpAnyH_ready (rs := [0]) (by kernel_rfl) (by simp) ?_
      refine AllReadyH.cons (o := _) rfl (fun K hK => ?_) AllReadyH.nil
      go_simp
      (go_at_call 9; refine (awake_any _).mono ?_; rintro e w5 ⟨rfl, hb5⟩; replace HR := Lib.hid ((HR.out.below (below_drew (Below.refl _ _))).below hb5); clear hb5)
      go_wp2_with fail
      refine hK.out _ _ (⟨box_at HR.out.xb 0 _ rfl, box_at HR.out.xb 1 _ rfl, box_at HR.out.xb 2 _ rfl, HR.out.ci⟩) (fun hHeld => ?_)
      clear hK K
      try simp only [List.getElem_toArray, List.getElem_cons_succ, List.getElem_cons_zero, Act.put, List.setIfInBounds_toArray, List.set_cons_zero, List.set_cons_succ]
      refine wpAnyH_take (i := 1) (oi := _) (v := ?v1h) rfl (by kernel_rfl) (by kernel_rfl) (by kernel_rfl) (fun _ _ _ h => h) (Or.inl ⟨by kernel_rfl, ?y1h⟩) (by assumption) ?r1h
      case y1h => (intro w hSw; (try dsimp only at hSw); go_simp; try (with_reducible rfl))
      case r1h =>
        simp only [List.getElem_toArray, List.getElem_cons_succ, List.getElem_cons_zero, Act.put, List.setIfInBounds_toArray, List.set_cons_zero, List.set_cons_succ]
        refine wpAnyH_take (i := 2) (oi := _) (v := ?v2h) rfl (by kernel_rfl) (by kernel_rfl) (by kernel_rfl) (fun _ _ _ h => h) (Or.inl ⟨by kernel_rfl, ?y2h⟩) (by assumption) ?r2h
        case y2h => (intro w hSw; (try dsimp only at hSw); go_simp; try (with_reducible rfl))
        case r2h =>
          simp only [List.getElem_toArray, List.getElem_cons_succ, List.getElem_cons_zero, Act.put, List.setIfInBounds_toArray, List.set_cons_zero, List.set_cons_succ]
          refine wpAnyH_take (i := 3) (oi := _) (v := ?v3h) rfl (by kernel_rfl) (by kernel_rfl) (by kernel_rfl) (fun _ _ _ h => h) (Or.inl ⟨by kernel_rfl, ?y3h⟩) (by assumption) ?r3h
          case y3h => (intro w hSw; (try dsimp only at hSw); go_simp; try (with_reducible rfl))
          case r3h =>
            simp only [List.getElem_toArray, List.getElem_cons_succ, List.getElem_cons_zero, Act.put, List.setIfInBounds_toArray, List.set_cons_zero, List.set_cons_succ]
            refine wpAnyH_take (i := 4) (oi := _) (v := ?v4h) rfl (by kernel_rfl) (by kernel_rfl) (by kernel_rfl) (fun _ _ _ h => h) (Or.inl ⟨by kernel_rfl, ?y4h⟩) (by assumption) ?r4h
            case y4h => (intro w hSw; (try dsimp only at hSw); go_simp; try (with_reducible rfl))
            case r4h =>
              simp only [List.getElem_toArray, List.getElem_cons_succ, List.getElem_cons_zero, Act.put, List.setIfInBounds_toArray, List.set_cons_zero, List.set_cons_succ]
              refine wpAnyH_take (i := 5) (oi := _) (v := ?v5h) rfl (by kernel_rfl) (by kernel_rfl) (by kernel_rfl) (fun _ _ _ h => h) (Or.inl ⟨by kernel_rfl, ?y5h⟩) (by assumption) ?r5h
              case y5h => (intro w hSw; (try dsimp only at hSw); go_simp; try (with_reducible rfl))
              case r5h =>
                simp only [List.getElem_toArray, List.getElem_cons_succ, List.getElem_cons_zero, Act.put, List.setIfInBounds_toArray, List.set_cons_zero, List.set_cons_succ]
                refine wpAnyH_take (i := 6) (oi := _) (v := ?v6h) rfl (by kernel_rfl) (by kernel_rfl) (by kernel_rfl) (fun _ _ _ h => h) (Or.inl ⟨by kernel_rfl, ?y6h⟩) (by assumption) ?r6h
                case y6h => (intro w hSw; (try dsimp only at hSw); go_simp; try (with_reducible rfl))
                case r6h =>
                  simp only [List.getElem_toArray, List.getElem_cons_succ, List.getElem_cons_zero, Act.put, List.setIfInBounds_toArray, List.set_cons_zero, List.set_cons_succ]
                  refine wpAnyH_take (i := 7) (oi := _) (v := ?v7h) rfl (by kernel_rfl) (by kernel_rfl) (by kernel_rfl) (fun _ _ _ h => h) (Or.inl ⟨by kernel_rfl, ?y7h⟩) (by assumption) ?r7h
                  case y7h => (intro w hSw; (try dsimp only at hSw); go_simp; try (with_reducible rfl))
                  case r7h =>
                    simp only [List.getElem_toArray, List.getElem_cons_succ, List.getElem_cons_zero, Act.put, List.setIfInBounds_toArray, List.set_cons_zero, List.set_cons_succ]
                    refine wpAnyH_take (i := 8) (oi := _) (v := ?v8h) rfl (by kernel_rfl) (by kernel_rfl) (by kernel_rfl) (fun _ _ _ h => h) (Or.inl ⟨by kernel_rfl, ?y8h⟩) (by assumption) ?r8h
                    case y8h => (intro w hSw; (try dsimp only at hSw); go_simp; try (with_reducible rfl))
                    case r8h =>
                      simp only [List.getElem_toArray, List.getElem_cons_succ, List.getElem_cons_zero, Act.put, List.setIfInBounds_toArray, List.set_cons_zero, List.set_cons_succ]
                      refine wpAnyH_take (i := 9) (oi := _) (v := ?v9h) rfl (by kernel_rfl) (by kernel_rfl) (by kernel_rfl) (fun _ _ _ h => h) (Or.inl ⟨by kernel_rfl, ?y9h⟩) (by assumption) ?r9h
                      case y9h => (intro w hSw; (try dsimp only at hSw); go_simp; try (with_reducible rfl))
                      case r9h =>
                        simp only [List.getElem_toArray, List.getElem_cons_succ, List.getElem_cons_zero, Act.put, List.setIfInBounds_toArray, List.set_cons_zero, List.set_cons_succ]
                        refine wpAnyH_take (i := 10) (oi := _) (v := ?v10h) rfl (by kernel_rfl) (by kernel_rfl) (by kernel_rfl) (fun _ _ _ h => h) (Or.inl ⟨by kernel_rfl, ?y10h⟩) (by assumption) ?r10h
                        case y10h => (intro w hSw; (try dsimp only at hSw); go_simp; try (with_reducible rfl))
                        case r10h =>
                          simp only [List.getElem_toArray, List.getElem_cons_succ, List.getElem_cons_zero, Act.put, List.setIfInBounds_toArray, List.set_cons_zero, List.set_cons_succ]
                          refine wpAnyH_ready (rs := [11]) (by kernel_rfl) (by simp) ?_
                          refine AllReadyH.cons (o := _) rfl (fun K hK => ?_) AllReadyH.nil
                          go_simp
                          (go_at_call 15; refine (told_any _ room nx A n c zs [97] id id 2 [120, 121] HR.out.rd HR.out.k (by decide) (by decide) HR.out.ok).mono ?_; rintro e w6 ⟨rfl, hb6⟩; replace HR := Lib.hid (HR.out.below hb6); clear hb6)
                          go_wp2_with fail
                          refine hK.out _ _ (⟨box_at HR.out.xb 0 _ rfl, box_at HR.out.xb 1 _ rfl, box_at HR.out.xb 2 _ rfl, HR.out.ci⟩) (fun hHeld => ?_)
                          clear hK K
                          try simp only [List.getElem_toArray, List.getElem_cons_succ, List.getElem_cons_zero, Act.put, List.setIfInBounds_toArray, List.set_cons_zero, List.set_cons_succ]
                          refine wpAnyH_take (i := 12) (oi := _) (v := ?v12h) rfl (by kernel_rfl) (by kernel_rfl) (by kernel_rfl) (fun _ _ _ h => h) (Or.inl ⟨by kernel_rfl, ?y12h⟩) (by assumption) ?r12h
                          case y12h => (intro w hSw; (try dsimp only at hSw); go_simp; try (with_reducible rfl))
                          case r12h =>
                            simp only [List.getElem_toArray, List.getElem_cons_succ, List.getElem_cons_zero, Act.put, List.setIfInBounds_toArray, List.set_cons_zero, List.set_cons_succ]
                            refine wpAnyH_take (i := 13) (oi := _) (v := ?v13h) rfl (by kernel_rfl) (by kernel_rfl) (by kernel_rfl) (fun _ _ _ h => h) (Or.inl ⟨by kernel_rfl, ?y13h⟩) (by assumption) ?r13h
                            case y13h => (intro w hSw; (try dsimp only at hSw); go_simp; try (with_reducible rfl))
                            case r13h =>
                              simp only [List.getElem_toArray, List.getElem_cons_succ, List.getElem_cons_zero, Act.put, List.setIfInBounds_toArray, List.set_cons_zero, List.set_cons_succ]
                              refine wpAnyH_take (i := 14) (oi := _) (v := ?v14h) rfl (by kernel_rfl) (by kernel_rfl) (by kernel_rfl) (fun _ _ _ h => h) (Or.inl ⟨by kernel_rfl, ?y14h⟩) (by assumption) ?r14h
                              case y14h => (intro w hSw; (try dsimp only at hSw); go_simp; try (with_reducible rfl))
                              case r14h =>
                                simp only [List.getElem_toArray, List.getElem_cons_succ, List.getElem_cons_zero, Act.put, List.setIfInBounds_toArray, List.set_cons_zero, List.set_cons_succ]
                                refine wpAnyH_take (i := 15) (oi := _) (v := ?v15h) rfl (by kernel_rfl) (by kernel_rfl) (by kernel_rfl) (fun _ _ _ h => h) (Or.inl ⟨by kernel_rfl, ?y15h⟩) (by assumption) ?r15h
                                case y15h => (intro w hSw; (try dsimp only at hSw); go_simp; try (with_reducible rfl))
                                case r15h =>
                                  simp only [List.getElem_toArray, List.getElem_cons_succ, List.getElem_cons_zero, Act.put, List.setIfInBounds_toArray, List.set_cons_zero, List.set_cons_succ]
                                  refine wpAnyH_take (i := 16) (oi := _) (v := ?v16h) rfl (by kernel_rfl) (by kernel_rfl) (by kernel_rfl) (fun _ _ _ h => h) (Or.inl ⟨by kernel_rfl, ?y16h⟩) (by assumption) ?r16h
                                  case y16h => (intro w hSw; (try dsimp only at hSw); go_simp; try (with_reducible rfl))
                                  case r16h =>
                                    simp only [List.getElem_toArray, List.getElem_cons_succ, List.getElem_cons_zero, Act.put, List.setIfInBounds_toArray, List.set_cons_zero, List.set_cons_succ]
                                    refine wpAnyH_take (i := 17) (oi := _) (v := ?v17h) rfl (by kernel_rfl) (by kernel_rfl) (by kernel_rfl) (fun _ _ _ h => h) (Or.inl ⟨by kernel_rfl, ?y17h⟩) (by assumption) ?r17h
                                    case y17h => (intro w hSw; (try dsimp only at hSw); go_simp; try (with_reducible rfl))
                                    case r17h =>
                                      simp only [List.getElem_toArray, List.getElem_cons_succ, List.getElem_cons_zero, Act.put, List.setIfInBounds_toArray, List.set_cons_zero, List.set_cons_succ]
                                      refine wpAnyH_ready (rs := [18]) (by kernel_rfl) (by simp) ?_
                                      refine AllReadyH.cons (o := _) rfl (fun K hK => ?_) AllReadyH.nil
                                      go_simp
                                      (go_at_call 15; refine (told_any _ room nx A n c zs [] x0 x0 x0 [] HR.out.rd HR.out.k (by decide) (by decide) HX0.out).mono ?_; rintro e w7 ⟨rfl, hb7⟩; replace HR := Lib.hid (HR.out.below hb7); clear hb7)
                                      go_wp2_with fail
                                      refine hK.out _ _ (⟨box_at HR.out.xb 0 _ rfl, box_at HR.out.xb 1 _ rfl, box_at HR.out.xb 2 _ rfl, HR.out.ci⟩) (fun hHeld => ?_)
                                      clear hK K
                                      try simp only [List.getElem_toArray, List.getElem_cons_succ, List.getElem_cons_zero, Act.put, List.setIfInBounds_toArray, List.set_cons_zero, List.set_cons_succ]
                                      refine wpAnyH_take (i := 19) (oi := _) (v := ?v19h) rfl (by kernel_rfl) (by kernel_rfl) (by kernel_rfl) (fun _ _ _ h => h) (Or.inl ⟨by kernel_rfl, ?y19h⟩) (by assumption) ?r19h
                                      case y19h => (intro w hSw; (try dsimp only at hSw); go_simp; try (with_reducible rfl))
                                      case r19h =>
                                        simp only [List.getElem_toArray, List.getElem_cons_succ, List.getElem_cons_zero, Act.put, List.setIfInBounds_toArray, List.set_cons_zero, List.set_cons_succ]
                                        refine wpAnyH_take (i := 20) (oi := _) (v := ?v20h) rfl (by kernel_rfl) (by kernel_rfl) (by kernel_rfl) (fun _ _ _ h => h) (Or.inl ⟨by kernel_rfl, ?y20h⟩) (by assumption) ?r20h
                                        case y20h => (intro w hSw; (try dsimp only at hSw); go_simp; try (with_reducible rfl))
                                        case r20h =>
                                          simp only [List.getElem_toArray, List.getElem_cons_succ, List.getElem_cons_zero, Act.put, List.setIfInBounds_toArray, List.set_cons_zero, List.set_cons_succ]
                                          refine wpAnyH_done (by kernel_rfl) ?_ _
                                          go_wp2_with fail
                                          go_ret
                                          exact ⟨by simp, HR.out.bw⟩
end Go.Proofs.Ytipjhokhflokmaa
