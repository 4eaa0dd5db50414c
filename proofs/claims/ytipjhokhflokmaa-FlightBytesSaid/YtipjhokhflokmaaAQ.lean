/- lockagelaw18.told (printed by mkAQ.py). -/
import Derived.Test.YtipjhokhflokmaaAP
set_option linter.unusedVariables false
set_option linter.unusedSimpArgs false
namespace Go.Proofs.Ytipjhokhflokmaa
open Go.RowKit Go.Maps
open Go.Proofs.YtipjhokhflokmaaW.PrintWords

set_option maxRecDepth 100000 in
set_option maxHeartbeats 16000000 in
theorem told_any (w : World) (room next : Int) (A : Option Addr) (n c : Nat) (ys : List FV) (key : List UInt8) (id wt cnt : Int) (s : List UInt8) (hr : RdF w (.slice A n c) ys) (hs : SmK 900 (fls ys)) (hkl : key.length ≤ 100000) (hsl : s.length ≤ 1000) (hwt : okI wt) :
    Calls Try.prog 15 #[fv room next (.slice A n c), str key, .int .i64 id, .int .i64 wt, .int .i64 cnt, str s] w fun e w' => e = .returned (.bool true) ∧ Below w.heap.size w w' := by
  have hal : Below w.heap.size w (w.alloc (.cells #[.int .i64 room, .int .i64 next, .slice A n c] 26)) := (Below.refl _ _).alloc (Nat.le_refl _) _
  have hx := heap_alloc_new w (.cells #[.int .i64 room, .int .i64 next, .slice A n c] 26)
  have HW := Lib.hid hal
  have HB0 := Lib.hid hx
  have HR := Lib.hid hr
  have HK := Lib.hid hs
  have HS := Lib.hid (hs.sm (by omega))
  have HWT := Lib.hid hwt
  have HJS := Lib.hid (fun sh => hs.join room next key wt sh hwt)
  obtain ⟨fe, hfe⟩ : ∃ q, feedOp room next (fls ys) id s = q := ⟨_, rfl⟩
  obtain ⟨tk, htk⟩ : ∃ q, takeOp room next (fls ys) wt cnt = q := ⟨_, rfl⟩
  obtain ⟨en, hen⟩ : ∃ q, endOp room next (fls ys) id = q := ⟨_, rfl⟩
  obtain ⟨lv, hlv⟩ : ∃ q, leaveOp room next (fls ys) wt = q := ⟨_, rfl⟩
  obtain ⟨fl, hfl⟩ : ∃ q, failOp room next (fls ys) id cnt = q := ⟨_, rfl⟩
  obtain ⟨rb, hrb⟩ : ∃ q, rightS room next (fls ys) = q := ⟨_, rfl⟩
  have KFE := Lib.hid (hfe ▸ hs.feed room next id s)
  have KTK := Lib.hid (htk ▸ hs.take room next wt cnt)
  have KEN := Lib.hid (hen ▸ hs.end_ room next id)
  have KLV := Lib.hid (hlv ▸ hs.leave room next wt)
  have KFL := Lib.hid (hfl ▸ hs.fail room next id cnt)
  have HFE := Lib.hid hfe
  have HTK := Lib.hid htk
  have HEN := Lib.hid hen
  have HLV := Lib.hid hlv
  have HFL := Lib.hid hfl
  have HRB := Lib.hid hrb
  have hlen : ys.length = n := hr.len
  have hn9 : n ≤ 900 := by have := hs.n; simp [fls] at this; omega
  clear hal hx hr hs hwt hfe htk hen hlv hfl hrb
  go_enter Try.func15, Try.ntmps15
  go_upto_region 1 with fail
  generalize w.alloc (.cells #[.int .i64 room, .int .i64 next, .slice A n c] 26) = W0 at *
  have hal : Below W0.heap.size W0 (W0.alloc (.cells #[.bool false, .bool true] 4)) := (Below.refl _ _).alloc (Nat.le_refl _) _
  have HAR := Lib.hid (heap_alloc_new W0 (.cells #[.bool false, .bool true] 4))
  replace HB0 := Lib.hid (keep hal HB0.out)
  replace HW := Lib.hid (HW.out.trans (hal.mono HW.out.size))
  clear hal
  go_upto_region 2 with fail
  generalize W0.alloc (.cells #[.bool false, .bool true] 4) = W1 at *
  generalize W0.heap.size = ab at *
  go_loopg [41] 2 (fun gg s41 wr => ∃ kk : Nat, kk ≤ 2 ∧ 2 - kk ≤ gg ∧ s41 = .int .i64 kk ∧ Aside (Below W1.heap.size W1 wr))
  case atStart => exact ⟨0, by omega, by omega, rfl, (show Aside _ from Below.refl _ _)⟩
  case round =>
    obtain ⟨kk, hkk, hg, rfl, HBr⟩ := hrel
    by_cases hlt : kk < 2
    · --<<
      have hltz : (kk : Int) < 2 := by omega
      obtain ⟨share, hsh⟩ : ∃ share, wr.cell? ⟨ab, kk, none⟩ = some (.bool share) := by
        rcases (show kk = 0 ∨ kk = 1 by omega) with rfl | rfl
        · exact ⟨false, box_at (keep HBr.out HAR.out) 0 _ rfl⟩
        · exact ⟨true, box_at (keep HBr.out HAR.out) 1 _ rfl⟩
      have HWr := Lib.hid (HW.out.trans (HBr.out.mono HW.out.size))
      have HB := Lib.hid (keep HBr.out HB0.out)
      obtain ⟨r, hr⟩ : ∃ q, joinOp room next (fls ys) key wt share = q := ⟨_, rfl⟩
      have KJ := Lib.hid (hr ▸ HJS.out share)
      have C10 := join_any wr room next A n c ys key wt share (HR.out.below HWr.out) HS.out hkl
      rw [hr] at C10
      have C17 := fun (W : World) (hb : Below w.heap.size w W) => rjoin_any W room next A n c ys key wt share (HR.out.below hb) HS.out hkl
      rw [hr] at C17
      replace C10 := Lib.hid C10
      replace C17 := Lib.hid C17
      clear hr
      have y0 : wr.cell? ⟨w.heap.size, 0, none⟩ = some (.int .i64 room) := box_at HB.out 0 _ rfl
      have y1 : wr.cell? ⟨w.heap.size, 1, none⟩ = some (.int .i64 next) := box_at HB.out 1 _ rfl
      have y2 : wr.cell? ⟨w.heap.size, 2, none⟩ = some (.slice A n c) := box_at HB.out 2 _ rfl
      go_upto_region 5 with (go_at_call 10; refine C10.out.mono ?_; unfold JoinPost OpPost; rintro e w1 ⟨A1, n1, c1, z1, rfl, hf1, hO1, hb1⟩; have HB1 := Lib.hid (keep hb1 HB.out); have HW1 := Lib.hid (HWr.out.trans (hb1.mono HWr.out.size)); have HT1 := Lib.hid (HBr.out.trans (hb1.mono HBr.out.size)); have HO1 := Lib.hid hO1.rd; have HF1 := Lib.hid hf1; clear hb1 hO1 hf1 y0 y1 y2)
      have hal := (Below.refl w1.heap.size w1).alloc (Nat.le_refl _) (.cells #[.int .i64 room, .int .i64 r.next, .slice A1 n1 c1] 26)
      have HX1 := Lib.hid (heap_alloc_new w1 (.cells #[.int .i64 room, .int .i64 r.next, .slice A1 n1 c1] 26))
      replace HB1 := Lib.hid (keep hal HB1.out)
      replace HW1 := Lib.hid (HW1.out.trans (hal.mono HW1.out.size))
      replace HO1 := Lib.hid (HO1.out.below hal)
      replace HT1 := Lib.hid (HT1.out.trans (hal.mono HT1.out.size))
      clear hal hsh C10
      generalize w1.alloc (.cells #[.int .i64 room, .int .i64 r.next, .slice A1 n1 c1] 26) = V1 at *
      generalize w1.heap.size = b1 at *
      have y0 : V1.cell? ⟨w.heap.size, 0, none⟩ = some (.int .i64 room) := box_at HB1.out 0 _ rfl
      have y1 : V1.cell? ⟨w.heap.size, 1, none⟩ = some (.int .i64 next) := box_at HB1.out 1 _ rfl
      have y2 : V1.cell? ⟨w.heap.size, 2, none⟩ = some (.slice A n c) := box_at HB1.out 2 _ rfl
      go_upto_region 6 with (go_at_call 17; refine (C17.out V1 HW1.out).mono ?_; unfold JoinPost OpPost; rintro e w2 ⟨A2, n2, c2, z2, rfl, hf2, hO2, hb2⟩; have HX1b := Lib.hid (keep hb2 HX1.out); have HW2 := Lib.hid (HW1.out.trans (hb2.mono HW1.out.size)); have HT2 := Lib.hid (HT1.out.trans (hb2.mono HT1.out.size)); have HO1b := Lib.hid (HO1.out.below hb2); have HO2 := Lib.hid hO2.rd; have HF2 := Lib.hid hf2; clear hb2 hO2 hf2 y0 y1 y2)
      have hal := (Below.refl w2.heap.size w2).alloc (Nat.le_refl _) (.cells #[.int .i64 room, .int .i64 r.next, .slice A2 n2 c2] 26)
      have HX2 := Lib.hid (heap_alloc_new w2 (.cells #[.int .i64 room, .int .i64 r.next, .slice A2 n2 c2] 26))
      replace HX1b := Lib.hid (keep hal HX1b.out)
      replace HW2 := Lib.hid (HW2.out.trans (hal.mono HW2.out.size))
      replace HO1b := Lib.hid (HO1b.out.below hal)
      replace HO2 := Lib.hid (HO2.out.below hal)
      replace HT2 := Lib.hid (HT2.out.trans (hal.mono HT2.out.size))
      clear hal C17 HX1 HO1 HB1
      generalize w2.alloc (.cells #[.int .i64 room, .int .i64 r.next, .slice A2 n2 c2] 26) = V2 at *
      generalize w2.heap.size = b2 at *
      have p0 : V2.cell? ⟨b1, 0, none⟩ = some (.int .i64 room) := box_at HX1b.out 0 _ rfl
      have p1 : V2.cell? ⟨b1, 1, none⟩ = some (.int .i64 r.next) := box_at HX1b.out 1 _ rfl
      have p2 : V2.cell? ⟨b1, 2, none⟩ = some (.slice A1 n1 c1) := box_at HX1b.out 2 _ rfl
      have q0 : V2.cell? ⟨b2, 0, none⟩ = some (.int .i64 room) := box_at HX2.out 0 _ rfl
      have q1 : V2.cell? ⟨b2, 1, none⟩ = some (.int .i64 r.next) := box_at HX2.out 1 _ rfl
      have q2 : V2.cell? ⟨b2, 2, none⟩ = some (.slice A2 n2 c2) := box_at HX2.out 2 _ rfl
      have C30 := Lib.hid (same_sm (room := room) (next := r.next) HO1b.out HO2.out HF1.out HF2.out KJ.out (by omega))
      obtain ⟨rfs, rn, ri, rf, re⟩ := r
      go_wp2_with (go_at_call 30; refine C30.out.mono ?_; rintro e w3 ⟨rfl, hb3⟩; have HW3 := Lib.hid (HW2.out.trans (hb3.mono HW2.out.size)); have HST := Lib.hid (HT2.out.trans (hb3.mono HT2.out.size)); clear hb3)
      go_roundg (2 - (kk + 1))
      case measure => omega
      case rel => exact ⟨kk + 1, by omega, by omega, by go_num, (show Aside _ from HST.out)⟩
      -->>
    · have hltz : ¬ (kk : Int) < 2 := by omega
      replace HB0 := Lib.hid (keep HBr.out HB0.out)
      replace HW := Lib.hid (HW.out.trans (HBr.out.mono HW.out.size))
      clear HBr HAR HJS
      have y0 : wr.cell? ⟨w.heap.size, 0, none⟩ = some (.int .i64 room) := box_at HB0.out 0 _ rfl
      have y1 : wr.cell? ⟨w.heap.size, 1, none⟩ = some (.int .i64 next) := box_at HB0.out 1 _ rfl
      have y2 : wr.cell? ⟨w.heap.size, 2, none⟩ = some (.slice A n c) := box_at HB0.out 2 _ rfl
      go_upto_region 10 with (go_at_call 12; refine (feed_any wr room next A n c ys id s (HR.out.below HW.out) HS.out  hsl).mono ?_; unfold FeedPost; rw [HFE.out]; rintro e v ⟨A1, n1, c1, z1, L1, l1, d1, rfl, hf, hO, hL, hb⟩; have hO2 := hO.lower HW.out.size; have hL2 := hL.lower HW.out.size; replace HB0 := Lib.hid (keep hb HB0.out); replace HW := Lib.hid (HW.out.trans (hb.mono HW.out.size)); have HO1 := Lib.hid hO2; have HL1 := Lib.hid hL2; have HZ1 := Lib.hid hf; clear hO hO2 hb hf y0 y1 y2 hL hL2)
      have hal := (Below.refl v.heap.size v).alloc (Nat.le_refl _) (.cells #[.int .i64 room, .int .i64 next, .slice A1 n1 c1] 26)
      have hx := heap_alloc_new v (.cells #[.int .i64 room, .int .i64 next, .slice A1 n1 c1] 26)
      have hlt01 : w.heap.size < v.heap.size := (Array.getElem?_eq_some_iff.1 HB0.out).1
      replace HB0 := Lib.hid (keep hal HB0.out)
      replace HO1 := Lib.hid (HO1.out.below hal)
      replace HL1 := Lib.hid (HL1.out.below hal)
      replace HW := Lib.hid (HW.out.trans (hal.mono HW.out.size))
      have HB1 := Lib.hid hx
      clear hal hx
      generalize v.alloc (.cells #[.int .i64 room, .int .i64 next, .slice A1 n1 c1] 26) = V1 at *
      generalize v.heap.size = b1 at *
      clear v
      have y0 : V1.cell? ⟨w.heap.size, 0, none⟩ = some (.int .i64 room) := box_at HB0.out 0 _ rfl
      have y1 : V1.cell? ⟨w.heap.size, 1, none⟩ = some (.int .i64 next) := box_at HB0.out 1 _ rfl
      have y2 : V1.cell? ⟨w.heap.size, 2, none⟩ = some (.slice A n c) := box_at HB0.out 2 _ rfl
      go_upto_region 11 with (go_at_call 31; refine (rfeed_any V1 room next A n c ys id s (HR.out.below HW.out) HS.out  hsl).mono ?_; unfold FeedPost; rw [HFE.out]; rintro e v ⟨A2, n2, c2, z2, L2, l2, d2, rfl, hf, hO, hL, hb⟩; have hO2 := hO.lower HW.out.size; have hL2 := hL.lower HW.out.size; replace HB0 := Lib.hid (keep hb HB0.out); replace HB1 := Lib.hid (keep hb HB1.out); replace HO1 := Lib.hid (HO1.out.below hb); replace HL1 := Lib.hid (HL1.out.below hb); replace HW := Lib.hid (HW.out.trans (hb.mono HW.out.size)); have HO2 := Lib.hid hO2; have HL2 := Lib.hid hL2; have HZ2 := Lib.hid hf; clear hO hO2 hb hf y0 y1 y2 hL hL2)
      have hal := (Below.refl v.heap.size v).alloc (Nat.le_refl _) (.cells #[.int .i64 room, .int .i64 next, .slice A2 n2 c2] 26)
      have hx := heap_alloc_new v (.cells #[.int .i64 room, .int .i64 next, .slice A2 n2 c2] 26)
      have hlt02 : w.heap.size < v.heap.size := (Array.getElem?_eq_some_iff.1 HB0.out).1
      have hlt12 : b1 < v.heap.size := (Array.getElem?_eq_some_iff.1 HB1.out).1
      replace HB0 := Lib.hid (keep hal HB0.out)
      replace HB1 := Lib.hid (keep hal HB1.out)
      replace HO1 := Lib.hid (HO1.out.below hal)
      replace HO2 := Lib.hid (HO2.out.below hal)
      replace HL1 := Lib.hid (HL1.out.below hal)
      replace HL2 := Lib.hid (HL2.out.below hal)
      replace HW := Lib.hid (HW.out.trans (hal.mono HW.out.size))
      have HB2 := Lib.hid hx
      clear hal hx
      generalize v.alloc (.cells #[.int .i64 room, .int .i64 next, .slice A2 n2 c2] 26) = V2 at *
      generalize v.heap.size = b2 at *
      clear v
      have y0 : V2.cell? ⟨w.heap.size, 0, none⟩ = some (.int .i64 room) := box_at HB0.out 0 _ rfl
      have y1 : V2.cell? ⟨w.heap.size, 1, none⟩ = some (.int .i64 next) := box_at HB0.out 1 _ rfl
      have y2 : V2.cell? ⟨w.heap.size, 2, none⟩ = some (.slice A n c) := box_at HB0.out 2 _ rfl
      go_upto_region 12 with (go_at_call 11; refine (take_any V2 room next A n c ys wt cnt (HR.out.below HW.out) HS.out).mono ?_; unfold OpPost; rw [HTK.out]; rintro e v ⟨A3, n3, c3, z3, rfl, hf, hO, hb⟩; have hO2 := hO.lower HW.out.size; replace HB0 := Lib.hid (keep hb HB0.out); replace HB1 := Lib.hid (keep hb HB1.out); replace HB2 := Lib.hid (keep hb HB2.out); replace HO1 := Lib.hid (HO1.out.below hb); replace HO2 := Lib.hid (HO2.out.below hb); replace HL1 := Lib.hid (HL1.out.below hb); replace HL2 := Lib.hid (HL2.out.below hb); replace HW := Lib.hid (HW.out.trans (hb.mono HW.out.size)); have HO3 := Lib.hid hO2; have HZ3 := Lib.hid hf; clear hO hO2 hb hf y0 y1 y2)
      have hal := (Below.refl v.heap.size v).alloc (Nat.le_refl _) (.cells #[.int .i64 room, .int .i64 next, .slice A3 n3 c3] 26)
      have hx := heap_alloc_new v (.cells #[.int .i64 room, .int .i64 next, .slice A3 n3 c3] 26)
      have hlt03 : w.heap.size < v.heap.size := (Array.getElem?_eq_some_iff.1 HB0.out).1
      have hlt13 : b1 < v.heap.size := (Array.getElem?_eq_some_iff.1 HB1.out).1
      have hlt23 : b2 < v.heap.size := (Array.getElem?_eq_some_iff.1 HB2.out).1
      replace HB0 := Lib.hid (keep hal HB0.out)
      replace HB1 := Lib.hid (keep hal HB1.out)
      replace HB2 := Lib.hid (keep hal HB2.out)
      replace HO1 := Lib.hid (HO1.out.below hal)
      replace HO2 := Lib.hid (HO2.out.below hal)
      replace HO3 := Lib.hid (HO3.out.below hal)
      replace HL1 := Lib.hid (HL1.out.below hal)
      replace HL2 := Lib.hid (HL2.out.below hal)
      replace HW := Lib.hid (HW.out.trans (hal.mono HW.out.size))
      have HB3 := Lib.hid hx
      clear hal hx
      generalize v.alloc (.cells #[.int .i64 room, .int .i64 next, .slice A3 n3 c3] 26) = V3 at *
      generalize v.heap.size = b3 at *
      clear v
      have y0 : V3.cell? ⟨w.heap.size, 0, none⟩ = some (.int .i64 room) := box_at HB0.out 0 _ rfl
      have y1 : V3.cell? ⟨w.heap.size, 1, none⟩ = some (.int .i64 next) := box_at HB0.out 1 _ rfl
      have y2 : V3.cell? ⟨w.heap.size, 2, none⟩ = some (.slice A n c) := box_at HB0.out 2 _ rfl
      go_upto_region 13 with (go_at_call 32; refine (rtake_any V3 room next A n c ys wt cnt (HR.out.below HW.out) HS.out).mono ?_; unfold OpPost; rw [HTK.out]; rintro e v ⟨A4, n4, c4, z4, rfl, hf, hO, hb⟩; have hO2 := hO.lower HW.out.size; replace HB0 := Lib.hid (keep hb HB0.out); replace HB1 := Lib.hid (keep hb HB1.out); replace HB2 := Lib.hid (keep hb HB2.out); replace HB3 := Lib.hid (keep hb HB3.out); replace HO1 := Lib.hid (HO1.out.below hb); replace HO2 := Lib.hid (HO2.out.below hb); replace HO3 := Lib.hid (HO3.out.below hb); replace HL1 := Lib.hid (HL1.out.below hb); replace HL2 := Lib.hid (HL2.out.below hb); replace HW := Lib.hid (HW.out.trans (hb.mono HW.out.size)); have HO4 := Lib.hid hO2; have HZ4 := Lib.hid hf; clear hO hO2 hb hf y0 y1 y2)
      have hal := (Below.refl v.heap.size v).alloc (Nat.le_refl _) (.cells #[.int .i64 room, .int .i64 next, .slice A4 n4 c4] 26)
      have hx := heap_alloc_new v (.cells #[.int .i64 room, .int .i64 next, .slice A4 n4 c4] 26)
      have hlt04 : w.heap.size < v.heap.size := (Array.getElem?_eq_some_iff.1 HB0.out).1
      have hlt14 : b1 < v.heap.size := (Array.getElem?_eq_some_iff.1 HB1.out).1
      have hlt24 : b2 < v.heap.size := (Array.getElem?_eq_some_iff.1 HB2.out).1
      have hlt34 : b3 < v.heap.size := (Array.getElem?_eq_some_iff.1 HB3.out).1
      replace HB0 := Lib.hid (keep hal HB0.out)
      replace HB1 := Lib.hid (keep hal HB1.out)
      replace HB2 := Lib.hid (keep hal HB2.out)
      replace HB3 := Lib.hid (keep hal HB3.out)
      replace HO1 := Lib.hid (HO1.out.below hal)
      replace HO2 := Lib.hid (HO2.out.below hal)
      replace HO3 := Lib.hid (HO3.out.below hal)
      replace HO4 := Lib.hid (HO4.out.below hal)
      replace HL1 := Lib.hid (HL1.out.below hal)
      replace HL2 := Lib.hid (HL2.out.below hal)
      replace HW := Lib.hid (HW.out.trans (hal.mono HW.out.size))
      have HB4 := Lib.hid hx
      clear hal hx
      generalize v.alloc (.cells #[.int .i64 room, .int .i64 next, .slice A4 n4 c4] 26) = V4 at *
      generalize v.heap.size = b4 at *
      clear v
      have p0 : V4.cell? ⟨b1, 0, none⟩ = some (.int .i64 room) := box_at HB1.out 0 _ rfl
      have p1 : V4.cell? ⟨b1, 1, none⟩ = some (.int .i64 next) := box_at HB1.out 1 _ rfl
      have p2 : V4.cell? ⟨b1, 2, none⟩ = some (.slice A1 n1 c1) := box_at HB1.out 2 _ rfl
      have q0 : V4.cell? ⟨b2, 0, none⟩ = some (.int .i64 room) := box_at HB2.out 0 _ rfl
      have q1 : V4.cell? ⟨b2, 1, none⟩ = some (.int .i64 next) := box_at HB2.out 1 _ rfl
      have q2 : V4.cell? ⟨b2, 2, none⟩ = some (.slice A2 n2 c2) := box_at HB2.out 2 _ rfl
      have CA := Lib.hid (same_sm HO1.out.rd HO2.out.rd HZ1.out HZ2.out KFE.out (by omega) (room := room) (next := next))
      have CI := Lib.hid (fun (W : World) (hb : Below V4.heap.size V4 W) => ints_any W L1 L2 l1 d1 l2 d2 fe.2.2.1 (HL1.out.below hb).rd (HL2.out.below hb).rd)
      have CB := Lib.hid (fun (W : World) (hb : Below V4.heap.size V4 W) => same_sm (HO3.out.below hb).rd (HO4.out.below hb).rd HZ3.out HZ4.out KTK.out (by omega) (room := room) (next := next))
      go_upto_region 15 with (first
        | (go_at_call 30; (with_reducible show Calls Try.prog 30 #[.agg #[_, _, .slice A1 n1 c1], _] _ _); refine CA.out.mono ?_; rintro e v1 ⟨rfl, hb⟩; have HV1 := Lib.hid hb; clear hb p0 p1 p2 q0 q1 q2)
        | (go_at_call 21; refine (CI.out v1 HV1.out).mono ?_; rintro e v2 ⟨rfl, hb⟩; have HV2 := Lib.hid (HV1.out.trans (hb.mono HV1.out.size)); clear hb; have p0 : v2.cell? ⟨b3, 0, none⟩ = some (.int .i64 room) := box_at (keep HV2.out HB3.out) 0 _ rfl; have p1 : v2.cell? ⟨b3, 1, none⟩ = some (.int .i64 next) := box_at (keep HV2.out HB3.out) 1 _ rfl; have p2 : v2.cell? ⟨b3, 2, none⟩ = some (.slice A3 n3 c3) := box_at (keep HV2.out HB3.out) 2 _ rfl; have q0 : v2.cell? ⟨b4, 0, none⟩ = some (.int .i64 room) := box_at (keep HV2.out HB4.out) 0 _ rfl; have q1 : v2.cell? ⟨b4, 1, none⟩ = some (.int .i64 next) := box_at (keep HV2.out HB4.out) 1 _ rfl; have q2 : v2.cell? ⟨b4, 2, none⟩ = some (.slice A4 n4 c4) := box_at (keep HV2.out HB4.out) 2 _ rfl)
        | (go_at_call 30; (with_reducible show Calls Try.prog 30 #[.agg #[_, _, .slice A3 n3 c3], _] _ _); refine (CB.out v2 HV2.out).mono ?_; rintro e v3 ⟨rfl, hb⟩; have HV3 := Lib.hid (HV2.out.trans (hb.mono HV2.out.size)); clear hb p0 p1 p2 q0 q1 q2))
      replace HB0 := Lib.hid (keep HV3.out HB0.out)
      replace HB1 := Lib.hid (keep HV3.out HB1.out)
      replace HB2 := Lib.hid (keep HV3.out HB2.out)
      replace HB3 := Lib.hid (keep HV3.out HB3.out)
      replace HB4 := Lib.hid (keep HV3.out HB4.out)
      replace HO1 := Lib.hid (HO1.out.below HV3.out)
      replace HO2 := Lib.hid (HO2.out.below HV3.out)
      replace HO3 := Lib.hid (HO3.out.below HV3.out)
      replace HO4 := Lib.hid (HO4.out.below HV3.out)
      replace HL1 := Lib.hid (HL1.out.below HV3.out)
      replace HL2 := Lib.hid (HL2.out.below HV3.out)
      replace HW := Lib.hid (HW.out.trans (HV3.out.mono HW.out.size))
      clear CA CB CI HV1 HV2 HV3
      clear HO1 HZ1
      clear HO2 HZ2
      clear HO3 HZ3
      clear HO4 HZ4
      clear HL1
      clear HL2
      have y0 : v3.cell? ⟨w.heap.size, 0, none⟩ = some (.int .i64 room) := box_at HB0.out 0 _ rfl
      have y1 : v3.cell? ⟨w.heap.size, 1, none⟩ = some (.int .i64 next) := box_at HB0.out 1 _ rfl
      have y2 : v3.cell? ⟨w.heap.size, 2, none⟩ = some (.slice A n c) := box_at HB0.out 2 _ rfl
      go_upto_region 16 with (go_at_call 18; refine (endf_any v3 room next A n c ys id (HR.out.below HW.out) HS.out).mono ?_; unfold OpPost; rw [HEN.out]; rintro e v ⟨A11, n11, c11, z11, rfl, hf, hO, hb⟩; have hO2 := hO.lower HW.out.size; replace HB0 := Lib.hid (keep hb HB0.out); replace HB1 := Lib.hid (keep hb HB1.out); replace HB2 := Lib.hid (keep hb HB2.out); replace HB3 := Lib.hid (keep hb HB3.out); replace HB4 := Lib.hid (keep hb HB4.out); replace HW := Lib.hid (HW.out.trans (hb.mono HW.out.size)); have HO11 := Lib.hid hO2; have HZ11 := Lib.hid hf; clear hO hO2 hb hf y0 y1 y2; have g0 : v.cell? ⟨b1, 0, none⟩ = some (.int .i64 room) := box_at HB1.out 0 _ rfl; have g1 : v.cell? ⟨b1, 1, none⟩ = some (.int .i64 next) := box_at HB1.out 1 _ rfl; have g2 : v.cell? ⟨b1, 2, none⟩ = some (.slice A1 n1 c1) := box_at HB1.out 2 _ rfl; have gf := box_free HB1.out)
      clear g0 g1 g2 gf
      change Code.wp _ _ _ _ (st3 v b1 (.int .i64 room) (.int .i64 next) (.slice A11 n11 c11))
      replace HO11 := Lib.hid (st3_own (r := .int .i64 room) (x := .int .i64 next) (V := .slice A11 n11 c11) HO11.out HB1.out)
      replace HW := Lib.hid (st3_below (r := .int .i64 room) (x := .int .i64 next) (V := .slice A11 n11 c11) HW.out (show w.heap.size ≤ b1 by omega))
      replace HB0 := Lib.hid ((st3_other (r := .int .i64 room) (x := .int .i64 next) (V := .slice A11 n11 c11) (show w.heap.size ≠ b1 by omega)).trans HB0.out)
      replace HB2 := Lib.hid ((st3_other (r := .int .i64 room) (x := .int .i64 next) (V := .slice A11 n11 c11) (show b2 ≠ b1 by omega)).trans HB2.out)
      replace HB3 := Lib.hid ((st3_other (r := .int .i64 room) (x := .int .i64 next) (V := .slice A11 n11 c11) (show b3 ≠ b1 by omega)).trans HB3.out)
      replace HB4 := Lib.hid ((st3_other (r := .int .i64 room) (x := .int .i64 next) (V := .slice A11 n11 c11) (show b4 ≠ b1 by omega)).trans HB4.out)
      replace HB1 := Lib.hid (st3_box (r := .int .i64 room) (x := .int .i64 next) (V := .slice A11 n11 c11) HB1.out)
      generalize st3 v b1 (.int .i64 room) (.int .i64 next) (.slice A11 n11 c11) = V11 at *
      clear v
      have y0 : V11.cell? ⟨w.heap.size, 0, none⟩ = some (.int .i64 room) := box_at HB0.out 0 _ rfl
      have y1 : V11.cell? ⟨w.heap.size, 1, none⟩ = some (.int .i64 next) := box_at HB0.out 1 _ rfl
      have y2 : V11.cell? ⟨w.heap.size, 2, none⟩ = some (.slice A n c) := box_at HB0.out 2 _ rfl
      go_upto_region 17 with (go_at_call 33; refine (rend_any V11 room next A n c ys id (HR.out.below HW.out) HS.out).mono ?_; unfold OpPost; rw [HEN.out]; rintro e v ⟨A12, n12, c12, z12, rfl, hf, hO, hb⟩; have hO2 := hO.lower HW.out.size; replace HB0 := Lib.hid (keep hb HB0.out); replace HB1 := Lib.hid (keep hb HB1.out); replace HB2 := Lib.hid (keep hb HB2.out); replace HB3 := Lib.hid (keep hb HB3.out); replace HB4 := Lib.hid (keep hb HB4.out); replace HO11 := Lib.hid (HO11.out.below hb); replace HW := Lib.hid (HW.out.trans (hb.mono HW.out.size)); have HO12 := Lib.hid hO2; have HZ12 := Lib.hid hf; clear hO hO2 hb hf y0 y1 y2; have g0 : v.cell? ⟨b2, 0, none⟩ = some (.int .i64 room) := box_at HB2.out 0 _ rfl; have g1 : v.cell? ⟨b2, 1, none⟩ = some (.int .i64 next) := box_at HB2.out 1 _ rfl; have g2 : v.cell? ⟨b2, 2, none⟩ = some (.slice A2 n2 c2) := box_at HB2.out 2 _ rfl; have gf := box_free HB2.out)
      clear g0 g1 g2 gf
      change Code.wp _ _ _ _ (st3 v b2 (.int .i64 room) (.int .i64 next) (.slice A12 n12 c12))
      replace HO11 := Lib.hid (st3_own (r := .int .i64 room) (x := .int .i64 next) (V := .slice A12 n12 c12) HO11.out HB2.out)
      replace HO12 := Lib.hid (st3_own (r := .int .i64 room) (x := .int .i64 next) (V := .slice A12 n12 c12) HO12.out HB2.out)
      replace HW := Lib.hid (st3_below (r := .int .i64 room) (x := .int .i64 next) (V := .slice A12 n12 c12) HW.out (show w.heap.size ≤ b2 by omega))
      replace HB0 := Lib.hid ((st3_other (r := .int .i64 room) (x := .int .i64 next) (V := .slice A12 n12 c12) (show w.heap.size ≠ b2 by omega)).trans HB0.out)
      replace HB1 := Lib.hid ((st3_other (r := .int .i64 room) (x := .int .i64 next) (V := .slice A12 n12 c12) (show b1 ≠ b2 by omega)).trans HB1.out)
      replace HB3 := Lib.hid ((st3_other (r := .int .i64 room) (x := .int .i64 next) (V := .slice A12 n12 c12) (show b3 ≠ b2 by omega)).trans HB3.out)
      replace HB4 := Lib.hid ((st3_other (r := .int .i64 room) (x := .int .i64 next) (V := .slice A12 n12 c12) (show b4 ≠ b2 by omega)).trans HB4.out)
      replace HB2 := Lib.hid (st3_box (r := .int .i64 room) (x := .int .i64 next) (V := .slice A12 n12 c12) HB2.out)
      generalize st3 v b2 (.int .i64 room) (.int .i64 next) (.slice A12 n12 c12) = V12 at *
      clear v
      have y0 : V12.cell? ⟨w.heap.size, 0, none⟩ = some (.int .i64 room) := box_at HB0.out 0 _ rfl
      have y1 : V12.cell? ⟨w.heap.size, 1, none⟩ = some (.int .i64 next) := box_at HB0.out 1 _ rfl
      have y2 : V12.cell? ⟨w.heap.size, 2, none⟩ = some (.slice A n c) := box_at HB0.out 2 _ rfl
      go_upto_region 18 with (go_at_call 20; refine (leave_any V12 room next A n c ys wt (HR.out.below HW.out) HS.out).mono ?_; unfold OpPost; rw [HLV.out]; rintro e v ⟨A13, n13, c13, z13, rfl, hf, hO, hb⟩; have hO2 := hO.lower HW.out.size; replace HB0 := Lib.hid (keep hb HB0.out); replace HB1 := Lib.hid (keep hb HB1.out); replace HB2 := Lib.hid (keep hb HB2.out); replace HB3 := Lib.hid (keep hb HB3.out); replace HB4 := Lib.hid (keep hb HB4.out); replace HO11 := Lib.hid (HO11.out.below hb); replace HO12 := Lib.hid (HO12.out.below hb); replace HW := Lib.hid (HW.out.trans (hb.mono HW.out.size)); have HO13 := Lib.hid hO2; have HZ13 := Lib.hid hf; clear hO hO2 hb hf y0 y1 y2; have g0 : v.cell? ⟨b3, 0, none⟩ = some (.int .i64 room) := box_at HB3.out 0 _ rfl; have g1 : v.cell? ⟨b3, 1, none⟩ = some (.int .i64 next) := box_at HB3.out 1 _ rfl; have g2 : v.cell? ⟨b3, 2, none⟩ = some (.slice A3 n3 c3) := box_at HB3.out 2 _ rfl; have gf := box_free HB3.out)
      clear g0 g1 g2 gf
      change Code.wp _ _ _ _ (st3 v b3 (.int .i64 room) (.int .i64 next) (.slice A13 n13 c13))
      replace HO11 := Lib.hid (st3_own (r := .int .i64 room) (x := .int .i64 next) (V := .slice A13 n13 c13) HO11.out HB3.out)
      replace HO12 := Lib.hid (st3_own (r := .int .i64 room) (x := .int .i64 next) (V := .slice A13 n13 c13) HO12.out HB3.out)
      replace HO13 := Lib.hid (st3_own (r := .int .i64 room) (x := .int .i64 next) (V := .slice A13 n13 c13) HO13.out HB3.out)
      replace HW := Lib.hid (st3_below (r := .int .i64 room) (x := .int .i64 next) (V := .slice A13 n13 c13) HW.out (show w.heap.size ≤ b3 by omega))
      replace HB0 := Lib.hid ((st3_other (r := .int .i64 room) (x := .int .i64 next) (V := .slice A13 n13 c13) (show w.heap.size ≠ b3 by omega)).trans HB0.out)
      replace HB1 := Lib.hid ((st3_other (r := .int .i64 room) (x := .int .i64 next) (V := .slice A13 n13 c13) (show b1 ≠ b3 by omega)).trans HB1.out)
      replace HB2 := Lib.hid ((st3_other (r := .int .i64 room) (x := .int .i64 next) (V := .slice A13 n13 c13) (show b2 ≠ b3 by omega)).trans HB2.out)
      replace HB4 := Lib.hid ((st3_other (r := .int .i64 room) (x := .int .i64 next) (V := .slice A13 n13 c13) (show b4 ≠ b3 by omega)).trans HB4.out)
      replace HB3 := Lib.hid (st3_box (r := .int .i64 room) (x := .int .i64 next) (V := .slice A13 n13 c13) HB3.out)
      generalize st3 v b3 (.int .i64 room) (.int .i64 next) (.slice A13 n13 c13) = V13 at *
      clear v
      have y0 : V13.cell? ⟨w.heap.size, 0, none⟩ = some (.int .i64 room) := box_at HB0.out 0 _ rfl
      have y1 : V13.cell? ⟨w.heap.size, 1, none⟩ = some (.int .i64 next) := box_at HB0.out 1 _ rfl
      have y2 : V13.cell? ⟨w.heap.size, 2, none⟩ = some (.slice A n c) := box_at HB0.out 2 _ rfl
      go_upto_region 19 with (go_at_call 34; refine (rleave_any V13 room next A n c ys wt (HR.out.below HW.out) HS.out).mono ?_; unfold OpPost; rw [HLV.out]; rintro e v ⟨A14, n14, c14, z14, rfl, hf, hO, hb⟩; have hO2 := hO.lower HW.out.size; replace HB0 := Lib.hid (keep hb HB0.out); replace HB1 := Lib.hid (keep hb HB1.out); replace HB2 := Lib.hid (keep hb HB2.out); replace HB3 := Lib.hid (keep hb HB3.out); replace HB4 := Lib.hid (keep hb HB4.out); replace HO11 := Lib.hid (HO11.out.below hb); replace HO12 := Lib.hid (HO12.out.below hb); replace HO13 := Lib.hid (HO13.out.below hb); replace HW := Lib.hid (HW.out.trans (hb.mono HW.out.size)); have HO14 := Lib.hid hO2; have HZ14 := Lib.hid hf; clear hO hO2 hb hf y0 y1 y2; have g0 : v.cell? ⟨b4, 0, none⟩ = some (.int .i64 room) := box_at HB4.out 0 _ rfl; have g1 : v.cell? ⟨b4, 1, none⟩ = some (.int .i64 next) := box_at HB4.out 1 _ rfl; have g2 : v.cell? ⟨b4, 2, none⟩ = some (.slice A4 n4 c4) := box_at HB4.out 2 _ rfl; have gf := box_free HB4.out)
      clear g0 g1 g2 gf
      change Code.wp _ _ _ _ (st3 v b4 (.int .i64 room) (.int .i64 next) (.slice A14 n14 c14))
      replace HO11 := Lib.hid (st3_own (r := .int .i64 room) (x := .int .i64 next) (V := .slice A14 n14 c14) HO11.out HB4.out)
      replace HO12 := Lib.hid (st3_own (r := .int .i64 room) (x := .int .i64 next) (V := .slice A14 n14 c14) HO12.out HB4.out)
      replace HO13 := Lib.hid (st3_own (r := .int .i64 room) (x := .int .i64 next) (V := .slice A14 n14 c14) HO13.out HB4.out)
      replace HO14 := Lib.hid (st3_own (r := .int .i64 room) (x := .int .i64 next) (V := .slice A14 n14 c14) HO14.out HB4.out)
      replace HW := Lib.hid (st3_below (r := .int .i64 room) (x := .int .i64 next) (V := .slice A14 n14 c14) HW.out (show w.heap.size ≤ b4 by omega))
      replace HB0 := Lib.hid ((st3_other (r := .int .i64 room) (x := .int .i64 next) (V := .slice A14 n14 c14) (show w.heap.size ≠ b4 by omega)).trans HB0.out)
      replace HB1 := Lib.hid ((st3_other (r := .int .i64 room) (x := .int .i64 next) (V := .slice A14 n14 c14) (show b1 ≠ b4 by omega)).trans HB1.out)
      replace HB2 := Lib.hid ((st3_other (r := .int .i64 room) (x := .int .i64 next) (V := .slice A14 n14 c14) (show b2 ≠ b4 by omega)).trans HB2.out)
      replace HB3 := Lib.hid ((st3_other (r := .int .i64 room) (x := .int .i64 next) (V := .slice A14 n14 c14) (show b3 ≠ b4 by omega)).trans HB3.out)
      replace HB4 := Lib.hid (st3_box (r := .int .i64 room) (x := .int .i64 next) (V := .slice A14 n14 c14) HB4.out)
      generalize st3 v b4 (.int .i64 room) (.int .i64 next) (.slice A14 n14 c14) = V14 at *
      clear v
      have p0 : V14.cell? ⟨b1, 0, none⟩ = some (.int .i64 room) := box_at HB1.out 0 _ rfl
      have p1 : V14.cell? ⟨b1, 1, none⟩ = some (.int .i64 next) := box_at HB1.out 1 _ rfl
      have p2 : V14.cell? ⟨b1, 2, none⟩ = some (.slice A11 n11 c11) := box_at HB1.out 2 _ rfl
      have q0 : V14.cell? ⟨b2, 0, none⟩ = some (.int .i64 room) := box_at HB2.out 0 _ rfl
      have q1 : V14.cell? ⟨b2, 1, none⟩ = some (.int .i64 next) := box_at HB2.out 1 _ rfl
      have q2 : V14.cell? ⟨b2, 2, none⟩ = some (.slice A12 n12 c12) := box_at HB2.out 2 _ rfl
      have CA := Lib.hid (same_sm HO11.out.rd HO12.out.rd HZ11.out HZ12.out KEN.out (by omega) (room := room) (next := next))
      have CB := Lib.hid (fun (W : World) (hb : Below V14.heap.size V14 W) => same_sm (HO13.out.below hb).rd (HO14.out.below hb).rd HZ13.out HZ14.out KLV.out (by omega) (room := room) (next := next))
      go_upto_region 21 with (first
        | (go_at_call 30; (with_reducible show Calls Try.prog 30 #[.agg #[_, _, .slice A11 n11 c11], _] _ _); refine CA.out.mono ?_; rintro e v1 ⟨rfl, hb⟩; have HV1 := Lib.hid hb; clear hb p0 p1 p2 q0 q1 q2; have p0 : v1.cell? ⟨b3, 0, none⟩ = some (.int .i64 room) := box_at (keep HV1.out HB3.out) 0 _ rfl; have p1 : v1.cell? ⟨b3, 1, none⟩ = some (.int .i64 next) := box_at (keep HV1.out HB3.out) 1 _ rfl; have p2 : v1.cell? ⟨b3, 2, none⟩ = some (.slice A13 n13 c13) := box_at (keep HV1.out HB3.out) 2 _ rfl; have q0 : v1.cell? ⟨b4, 0, none⟩ = some (.int .i64 room) := box_at (keep HV1.out HB4.out) 0 _ rfl; have q1 : v1.cell? ⟨b4, 1, none⟩ = some (.int .i64 next) := box_at (keep HV1.out HB4.out) 1 _ rfl; have q2 : v1.cell? ⟨b4, 2, none⟩ = some (.slice A14 n14 c14) := box_at (keep HV1.out HB4.out) 2 _ rfl)
        | (go_at_call 30; (with_reducible show Calls Try.prog 30 #[.agg #[_, _, .slice A13 n13 c13], _] _ _); refine (CB.out v1 HV1.out).mono ?_; rintro e v2 ⟨rfl, hb⟩; have HV2 := Lib.hid (HV1.out.trans (hb.mono HV1.out.size)); clear hb p0 p1 p2 q0 q1 q2))
      replace HB0 := Lib.hid (keep HV2.out HB0.out)
      replace HB1 := Lib.hid (keep HV2.out HB1.out)
      replace HB2 := Lib.hid (keep HV2.out HB2.out)
      replace HB3 := Lib.hid (keep HV2.out HB3.out)
      replace HB4 := Lib.hid (keep HV2.out HB4.out)
      replace HO11 := Lib.hid (HO11.out.below HV2.out)
      replace HO12 := Lib.hid (HO12.out.below HV2.out)
      replace HO13 := Lib.hid (HO13.out.below HV2.out)
      replace HO14 := Lib.hid (HO14.out.below HV2.out)
      replace HW := Lib.hid (HW.out.trans (HV2.out.mono HW.out.size))
      clear CA CB HV1 HV2
      clear HO11 HZ11
      clear HO12 HZ12
      clear HO13 HZ13
      clear HO14 HZ14
      clear HB3 HB4
      have y0 : v2.cell? ⟨w.heap.size, 0, none⟩ = some (.int .i64 room) := box_at HB0.out 0 _ rfl
      have y1 : v2.cell? ⟨w.heap.size, 1, none⟩ = some (.int .i64 next) := box_at HB0.out 1 _ rfl
      have y2 : v2.cell? ⟨w.heap.size, 2, none⟩ = some (.slice A n c) := box_at HB0.out 2 _ rfl
      go_upto_region 22 with (go_at_call 19; refine (fail_any v2 room next A n c ys id cnt (HR.out.below HW.out) HS.out).mono ?_; unfold FailPost; rw [HFL.out]; rintro e v ⟨A21, n21, c21, z21, L21, l21, d21, rfl, hf, hO, hL, hb⟩; have hO2 := hO.lower HW.out.size; have hL2 := hL.lower HW.out.size; replace HB0 := Lib.hid (keep hb HB0.out); replace HB1 := Lib.hid (keep hb HB1.out); replace HB2 := Lib.hid (keep hb HB2.out); replace HW := Lib.hid (HW.out.trans (hb.mono HW.out.size)); have HO21 := Lib.hid hO2; have HL21 := Lib.hid hL2; have HZ21 := Lib.hid hf; clear hO hO2 hb hf y0 y1 y2 hL hL2; have g0 : v.cell? ⟨b1, 0, none⟩ = some (.int .i64 room) := box_at HB1.out 0 _ rfl; have g1 : v.cell? ⟨b1, 1, none⟩ = some (.int .i64 next) := box_at HB1.out 1 _ rfl; have g2 : v.cell? ⟨b1, 2, none⟩ = some (.slice A11 n11 c11) := box_at HB1.out 2 _ rfl; have gf := box_free HB1.out)
      clear g0 g1 g2 gf
      change Code.wp _ _ _ _ (st3 v b1 (.int .i64 room) (.int .i64 next) (.slice A21 n21 c21))
      replace HO21 := Lib.hid (st3_own (r := .int .i64 room) (x := .int .i64 next) (V := .slice A21 n21 c21) HO21.out HB1.out)
      replace HL21 := Lib.hid (ints_st3 (r := .int .i64 room) (x := .int .i64 next) (V := .slice A21 n21 c21) HL21.out HB1.out)
      replace HW := Lib.hid (st3_below (r := .int .i64 room) (x := .int .i64 next) (V := .slice A21 n21 c21) HW.out (show w.heap.size ≤ b1 by omega))
      replace HB0 := Lib.hid ((st3_other (r := .int .i64 room) (x := .int .i64 next) (V := .slice A21 n21 c21) (show w.heap.size ≠ b1 by omega)).trans HB0.out)
      replace HB2 := Lib.hid ((st3_other (r := .int .i64 room) (x := .int .i64 next) (V := .slice A21 n21 c21) (show b2 ≠ b1 by omega)).trans HB2.out)
      replace HB1 := Lib.hid (st3_box (r := .int .i64 room) (x := .int .i64 next) (V := .slice A21 n21 c21) HB1.out)
      generalize st3 v b1 (.int .i64 room) (.int .i64 next) (.slice A21 n21 c21) = V21 at *
      clear v
      have y0 : V21.cell? ⟨w.heap.size, 0, none⟩ = some (.int .i64 room) := box_at HB0.out 0 _ rfl
      have y1 : V21.cell? ⟨w.heap.size, 1, none⟩ = some (.int .i64 next) := box_at HB0.out 1 _ rfl
      have y2 : V21.cell? ⟨w.heap.size, 2, none⟩ = some (.slice A n c) := box_at HB0.out 2 _ rfl
      go_upto_region 23 with (go_at_call 35; refine (rfail_any V21 room next A n c ys id cnt (HR.out.below HW.out) HS.out).mono ?_; unfold FailPost; rw [HFL.out]; rintro e v ⟨A22, n22, c22, z22, L22, l22, d22, rfl, hf, hO, hL, hb⟩; have hO2 := hO.lower HW.out.size; have hL2 := hL.lower HW.out.size; replace HB0 := Lib.hid (keep hb HB0.out); replace HB1 := Lib.hid (keep hb HB1.out); replace HB2 := Lib.hid (keep hb HB2.out); replace HO21 := Lib.hid (HO21.out.below hb); replace HL21 := Lib.hid (HL21.out.below hb); replace HW := Lib.hid (HW.out.trans (hb.mono HW.out.size)); have HO22 := Lib.hid hO2; have HL22 := Lib.hid hL2; have HZ22 := Lib.hid hf; clear hO hO2 hb hf y0 y1 y2 hL hL2; have g0 : v.cell? ⟨b2, 0, none⟩ = some (.int .i64 room) := box_at HB2.out 0 _ rfl; have g1 : v.cell? ⟨b2, 1, none⟩ = some (.int .i64 next) := box_at HB2.out 1 _ rfl; have g2 : v.cell? ⟨b2, 2, none⟩ = some (.slice A12 n12 c12) := box_at HB2.out 2 _ rfl; have gf := box_free HB2.out)
      clear g0 g1 g2 gf
      change Code.wp _ _ _ _ (st3 v b2 (.int .i64 room) (.int .i64 next) (.slice A22 n22 c22))
      replace HO21 := Lib.hid (st3_own (r := .int .i64 room) (x := .int .i64 next) (V := .slice A22 n22 c22) HO21.out HB2.out)
      replace HO22 := Lib.hid (st3_own (r := .int .i64 room) (x := .int .i64 next) (V := .slice A22 n22 c22) HO22.out HB2.out)
      replace HL21 := Lib.hid (ints_st3 (r := .int .i64 room) (x := .int .i64 next) (V := .slice A22 n22 c22) HL21.out HB2.out)
      replace HL22 := Lib.hid (ints_st3 (r := .int .i64 room) (x := .int .i64 next) (V := .slice A22 n22 c22) HL22.out HB2.out)
      replace HW := Lib.hid (st3_below (r := .int .i64 room) (x := .int .i64 next) (V := .slice A22 n22 c22) HW.out (show w.heap.size ≤ b2 by omega))
      replace HB0 := Lib.hid ((st3_other (r := .int .i64 room) (x := .int .i64 next) (V := .slice A22 n22 c22) (show w.heap.size ≠ b2 by omega)).trans HB0.out)
      replace HB1 := Lib.hid ((st3_other (r := .int .i64 room) (x := .int .i64 next) (V := .slice A22 n22 c22) (show b1 ≠ b2 by omega)).trans HB1.out)
      replace HB2 := Lib.hid (st3_box (r := .int .i64 room) (x := .int .i64 next) (V := .slice A22 n22 c22) HB2.out)
      generalize st3 v b2 (.int .i64 room) (.int .i64 next) (.slice A22 n22 c22) = V22 at *
      clear v
      have CA := Lib.hid (fun (W : World) (hb : Below V22.heap.size V22 W) => same_sm (HO21.out.below hb).rd (HO22.out.below hb).rd HZ21.out HZ22.out KFL.out (by omega) (room := room) (next := next))
      have CI := Lib.hid (fun (W : World) (hb : Below V22.heap.size V22 W) => ints_any W L21 L22 l21 d21 l22 d22 fl.2.1 (HL21.out.below hb).rd (HL22.out.below hb).rd)
      have CR := fun (W : World) (hb : Below V22.heap.size V22 W) => right_any W room next A n c ys (HR.out.below (HW.out.trans (hb.mono HW.out.size))) (HS.out.sm hlen)
      have CS := fun (W : World) (hb : Below V22.heap.size V22 W) => rright_any W room next A n c ys (HR.out.below (HW.out.trans (hb.mono HW.out.size))) (by omega)
      rw [HRB.out] at CR CS
      replace CR := Lib.hid CR
      replace CS := Lib.hid CS
      clear HO21 HO22 HL21 HL22 HZ21 HZ22
      go_upto_region 23 with fail
      refine wp_region_held_drew (S := fun W' => Below V22.heap.size V22 W') (by kernel_rfl) (below_drew (Below.refl _ _)) (fun hHeld => ?_)
      refine wpAnyH_take (i := 0) (oi := _) (v := .agg #[.int .i64 room, .int .i64 next, .slice A21 n21 c21]) rfl (by kernel_rfl) (by kernel_rfl) (by kernel_rfl) (fun _ _ _ h => h) (Or.inl ⟨by kernel_rfl, ?yq1⟩) (by assumption) ?rq1
      case yq1 =>
        intro w' hSw
        have hSw2 : Below V22.heap.size V22 w' := hSw
        have hj := keep hSw2 HB1.out
        have p0 : w'.cell? ⟨b1, 0, none⟩ = some (.int .i64 room) := box_at hj 0 _ rfl
        have p1 : w'.cell? ⟨b1, 1, none⟩ = some (.int .i64 next) := box_at hj 1 _ rfl
        have p2 : w'.cell? ⟨b1, 2, none⟩ = some (.slice A21 n21 c21) := box_at hj 2 _ rfl
        clear hj hSw hSw2 hHeld
        go_simp
        try (with_reducible rfl)
      case rq1 =>
        simp only [List.getElem_toArray, List.getElem_cons_succ, List.getElem_cons_zero, Act.put, List.setIfInBounds_toArray, List.set_cons_zero, List.set_cons_succ]
        refine wpAnyH_take (i := 1) (oi := _) (v := .agg #[.int .i64 room, .int .i64 next, .slice A22 n22 c22]) rfl (by kernel_rfl) (by kernel_rfl) (by kernel_rfl) (fun _ _ _ h => h) (Or.inl ⟨by kernel_rfl, ?yq2⟩) (by assumption) ?rq2
        case yq2 =>
          intro w' hSw
          have hSw2 : Below V22.heap.size V22 w' := hSw
          have hj := keep hSw2 HB2.out
          have p0 : w'.cell? ⟨b2, 0, none⟩ = some (.int .i64 room) := box_at hj 0 _ rfl
          have p1 : w'.cell? ⟨b2, 1, none⟩ = some (.int .i64 next) := box_at hj 1 _ rfl
          have p2 : w'.cell? ⟨b2, 2, none⟩ = some (.slice A22 n22 c22) := box_at hj 2 _ rfl
          clear hj hSw hSw2 hHeld
          go_simp
          try (with_reducible rfl)
        case rq2 =>
          simp only [List.getElem_toArray, List.getElem_cons_succ, List.getElem_cons_zero, Act.put, List.setIfInBounds_toArray, List.set_cons_zero, List.set_cons_succ]
          refine wpAnyH_ready (rs := [2]) (by kernel_rfl) (by simp) ?_
          refine AllReadyH.cons (o := _) rfl (fun K hK => ?_) AllReadyH.nil
          go_simp
          (go_at_call 30; refine (CA.out _ hHeld).mono ?_; rintro e u1 ⟨rfl, hb6⟩)
          have hH2 : Below V22.heap.size V22 u1 := Below.trans hHeld (hb6.mono (Below.size hHeld))
          clear hb6 hHeld
          go_wp2_with fail
          refine hK.out _ _ hH2 (fun hHeld => ?_)
          clear hK K hH2
          try simp only [List.getElem_toArray, List.getElem_cons_succ, List.getElem_cons_zero, Act.put, List.setIfInBounds_toArray, List.set_cons_zero, List.set_cons_succ]
          refine wpAnyH_take (i := 3) (oi := _) (v := ?vq3) rfl (by kernel_rfl) (by kernel_rfl) (by kernel_rfl) (fun _ _ _ h => h) (Or.inl ⟨by kernel_rfl, ?yq3⟩) (by assumption) ?rq3
          case yq3 => (intro w' hSw; go_simp; try (with_reducible rfl))
          case rq3 =>
            simp only [List.getElem_toArray, List.getElem_cons_succ, List.getElem_cons_zero, Act.put, List.setIfInBounds_toArray, List.set_cons_zero, List.set_cons_succ]
            refine wpAnyH_take (i := 4) (oi := _) (v := ?vq4) rfl (by kernel_rfl) (by kernel_rfl) (by kernel_rfl) (fun _ _ _ h => h) (Or.inl ⟨by kernel_rfl, ?yq4⟩) (by assumption) ?rq4
            case yq4 => (intro w' hSw; go_simp; try (with_reducible rfl))
            case rq4 =>
              simp only [List.getElem_toArray, List.getElem_cons_succ, List.getElem_cons_zero, Act.put, List.setIfInBounds_toArray, List.set_cons_zero, List.set_cons_succ]
              refine wpAnyH_take (i := 5) (oi := _) (v := ?vq5) rfl (by kernel_rfl) (by kernel_rfl) (by kernel_rfl) (fun _ _ _ h => h) (Or.inl ⟨by kernel_rfl, ?yq5⟩) (by assumption) ?rq5
              case yq5 => (intro w' hSw; go_simp; try (with_reducible rfl))
              case rq5 =>
                simp only [List.getElem_toArray, List.getElem_cons_succ, List.getElem_cons_zero, Act.put, List.setIfInBounds_toArray, List.set_cons_zero, List.set_cons_succ]
                refine wpAnyH_ready (rs := [6]) (by kernel_rfl) (by simp) ?_
                refine AllReadyH.cons (o := _) rfl (fun K hK => ?_) AllReadyH.nil
                go_simp
                (go_at_call 21; refine (CI.out _ hHeld).mono ?_; rintro e u1 ⟨rfl, hb6⟩)
                have hH2 : Below V22.heap.size V22 u1 := Below.trans hHeld (hb6.mono (Below.size hHeld))
                clear hb6 hHeld
                go_wp2_with fail
                refine hK.out _ _ hH2 (fun hHeld => ?_)
                clear hK K hH2
                try simp only [List.getElem_toArray, List.getElem_cons_succ, List.getElem_cons_zero, Act.put, List.setIfInBounds_toArray, List.set_cons_zero, List.set_cons_succ]
                refine wpAnyH_take (i := 7) (oi := _) (v := ?vq6) rfl (by kernel_rfl) (by kernel_rfl) (by kernel_rfl) (fun _ _ _ h => h) (Or.inl ⟨by kernel_rfl, ?yq6⟩) (by assumption) ?rq6
                case yq6 => (intro w' hSw; go_simp; try (with_reducible rfl))
                case rq6 =>
                  simp only [List.getElem_toArray, List.getElem_cons_succ, List.getElem_cons_zero, Act.put, List.setIfInBounds_toArray, List.set_cons_zero, List.set_cons_succ]
                  refine wpAnyH_take (i := 8) (oi := _) (v := ?vq7) rfl (by kernel_rfl) (by kernel_rfl) (by kernel_rfl) (fun _ _ _ h => h) (Or.inl ⟨by kernel_rfl, ?yq7⟩) (by assumption) ?rq7
                  case yq7 => (intro w' hSw; go_simp; try (with_reducible rfl))
                  case rq7 =>
                    simp only [List.getElem_toArray, List.getElem_cons_succ, List.getElem_cons_zero, Act.put, List.setIfInBounds_toArray, List.set_cons_zero, List.set_cons_succ]
                    refine wpAnyH_take (i := 9) (oi := _) (v := ?vq8) rfl (by kernel_rfl) (by kernel_rfl) (by kernel_rfl) (fun _ _ _ h => h) (Or.inl ⟨by kernel_rfl, ?yq8⟩) (by assumption) ?rq8
                    case yq8 => (intro w' hSw; go_simp; try (with_reducible rfl))
                    case rq8 =>
                      simp only [List.getElem_toArray, List.getElem_cons_succ, List.getElem_cons_zero, Act.put, List.setIfInBounds_toArray, List.set_cons_zero, List.set_cons_succ]
                      refine wpAnyH_take (i := 10) (oi := _) (v := ?vq9) rfl (by kernel_rfl) (by kernel_rfl) (by kernel_rfl) (fun _ _ _ h => h) (Or.inl ⟨by kernel_rfl, ?yq9⟩) (by assumption) ?rq9
                      case yq9 => (intro w' hSw; go_simp; try (with_reducible rfl))
                      case rq9 =>
                        simp only [List.getElem_toArray, List.getElem_cons_succ, List.getElem_cons_zero, Act.put, List.setIfInBounds_toArray, List.set_cons_zero, List.set_cons_succ]
                        refine wpAnyH_take (i := 11) (oi := _) (v := ?vq10) rfl (by kernel_rfl) (by kernel_rfl) (by kernel_rfl) (fun _ _ _ h => h) (Or.inl ⟨by kernel_rfl, ?yq10⟩) (by assumption) ?rq10
                        case yq10 => (intro w' hSw; go_simp; try (with_reducible rfl))
                        case rq10 =>
                          simp only [List.getElem_toArray, List.getElem_cons_succ, List.getElem_cons_zero, Act.put, List.setIfInBounds_toArray, List.set_cons_zero, List.set_cons_succ]
                          refine wpAnyH_take (i := 12) (oi := _) (v := ?vq11) rfl (by kernel_rfl) (by kernel_rfl) (by kernel_rfl) (fun _ _ _ h => h) (Or.inl ⟨by kernel_rfl, ?yq11⟩) (by assumption) ?rq11
                          case yq11 => (intro w' hSw; go_simp; try (with_reducible rfl))
                          case rq11 =>
                            simp only [List.getElem_toArray, List.getElem_cons_succ, List.getElem_cons_zero, Act.put, List.setIfInBounds_toArray, List.set_cons_zero, List.set_cons_succ]
                            refine wpAnyH_take (i := 13) (oi := _) (v := ?vq12) rfl (by kernel_rfl) (by kernel_rfl) (by kernel_rfl) (fun _ _ _ h => h) (Or.inl ⟨by kernel_rfl, ?yq12⟩) (by assumption) ?rq12
                            case yq12 => (intro w' hSw; go_simp; try (with_reducible rfl))
                            case rq12 =>
                              simp only [List.getElem_toArray, List.getElem_cons_succ, List.getElem_cons_zero, Act.put, List.setIfInBounds_toArray, List.set_cons_zero, List.set_cons_succ]
                              refine wpAnyH_take (i := 14) (oi := _) (v := ?vq13) rfl (by kernel_rfl) (by kernel_rfl) (by kernel_rfl) (fun _ _ _ h => h) (Or.inl ⟨by kernel_rfl, ?yq13⟩) (by assumption) ?rq13
                              case yq13 => (intro w' hSw; go_simp; try (with_reducible rfl))
                              case rq13 =>
                                simp only [List.getElem_toArray, List.getElem_cons_succ, List.getElem_cons_zero, Act.put, List.setIfInBounds_toArray, List.set_cons_zero, List.set_cons_succ]
                                refine wpAnyH_take (i := 15) (oi := _) (v := ?vq14) rfl (by kernel_rfl) (by kernel_rfl) (by kernel_rfl) (fun _ _ _ h => h) (Or.inl ⟨by kernel_rfl, ?yq14⟩) (by assumption) ?rq14
                                case yq14 => (intro w' hSw; go_simp; try (with_reducible rfl))
                                case rq14 =>
                                  simp only [List.getElem_toArray, List.getElem_cons_succ, List.getElem_cons_zero, Act.put, List.setIfInBounds_toArray, List.set_cons_zero, List.set_cons_succ]
                                  refine wpAnyH_take (i := 16) (oi := _) (v := ?vq15) rfl (by kernel_rfl) (by kernel_rfl) (by kernel_rfl) (fun _ _ _ h => h) (Or.inl ⟨by kernel_rfl, ?yq15⟩) (by assumption) ?rq15
                                  case yq15 => (intro w' hSw; go_simp; try (with_reducible rfl))
                                  case rq15 =>
                                    simp only [List.getElem_toArray, List.getElem_cons_succ, List.getElem_cons_zero, Act.put, List.setIfInBounds_toArray, List.set_cons_zero, List.set_cons_succ]
                                    refine wpAnyH_take (i := 17) (oi := _) (v := ?vq16) rfl (by kernel_rfl) (by kernel_rfl) (by kernel_rfl) (fun _ _ _ h => h) (Or.inl ⟨by kernel_rfl, ?yq16⟩) (by assumption) ?rq16
                                    case yq16 => (intro w' hSw; go_simp; try (with_reducible rfl))
                                    case rq16 =>
                                      simp only [List.getElem_toArray, List.getElem_cons_succ, List.getElem_cons_zero, Act.put, List.setIfInBounds_toArray, List.set_cons_zero, List.set_cons_succ]
                                      refine wpAnyH_take (i := 18) (oi := _) (v := ?vq17) rfl (by kernel_rfl) (by kernel_rfl) (by kernel_rfl) (fun _ _ _ h => h) (Or.inl ⟨by kernel_rfl, ?yq17⟩) (by assumption) ?rq17
                                      case yq17 => (intro w' hSw; go_simp; try (with_reducible rfl))
                                      case rq17 =>
                                        simp only [List.getElem_toArray, List.getElem_cons_succ, List.getElem_cons_zero, Act.put, List.setIfInBounds_toArray, List.set_cons_zero, List.set_cons_succ]
                                        refine wpAnyH_take (i := 19) (oi := _) (v := .agg #[.int .i64 room, .int .i64 next, .slice A n c]) rfl (by kernel_rfl) (by kernel_rfl) (by kernel_rfl) (fun _ _ _ h => h) (Or.inl ⟨by kernel_rfl, ?yq18⟩) (by assumption) ?rq18
                                        case yq18 =>
                                          intro w' hSw
                                          have hSw2 : Below V22.heap.size V22 w' := hSw
                                          have hj := keep hSw2 HB0.out
                                          have p0 : w'.cell? ⟨w.heap.size, 0, none⟩ = some (.int .i64 room) := box_at hj 0 _ rfl
                                          have p1 : w'.cell? ⟨w.heap.size, 1, none⟩ = some (.int .i64 next) := box_at hj 1 _ rfl
                                          have p2 : w'.cell? ⟨w.heap.size, 2, none⟩ = some (.slice A n c) := box_at hj 2 _ rfl
                                          clear hj hSw hSw2 hHeld
                                          go_simp
                                          try (with_reducible rfl)
                                        case rq18 =>
                                          simp only [List.getElem_toArray, List.getElem_cons_succ, List.getElem_cons_zero, Act.put, List.setIfInBounds_toArray, List.set_cons_zero, List.set_cons_succ]
                                          refine wpAnyH_take (i := 21) (oi := _) (v := .agg #[.int .i64 room, .int .i64 next, .slice A n c]) rfl (by kernel_rfl) (by kernel_rfl) (by kernel_rfl) (fun _ _ _ h => h) (Or.inl ⟨by kernel_rfl, ?yq19⟩) (by assumption) ?rq19
                                          case yq19 =>
                                            intro w' hSw
                                            have hSw2 : Below V22.heap.size V22 w' := hSw
                                            have hj := keep hSw2 HB0.out
                                            have p0 : w'.cell? ⟨w.heap.size, 0, none⟩ = some (.int .i64 room) := box_at hj 0 _ rfl
                                            have p1 : w'.cell? ⟨w.heap.size, 1, none⟩ = some (.int .i64 next) := box_at hj 1 _ rfl
                                            have p2 : w'.cell? ⟨w.heap.size, 2, none⟩ = some (.slice A n c) := box_at hj 2 _ rfl
                                            clear hj hSw hSw2 hHeld
                                            go_simp
                                            try (with_reducible rfl)
                                          case rq19 =>
                                            simp only [List.getElem_toArray, List.getElem_cons_succ, List.getElem_cons_zero, Act.put, List.setIfInBounds_toArray, List.set_cons_zero, List.set_cons_succ]
                                            refine wpAnyH_ready (rs := [20]) (by kernel_rfl) (by simp) ?_
                                            refine AllReadyH.cons (o := _) rfl (fun K hK => ?_) AllReadyH.nil
                                            go_simp
                                            (go_at_call 13; refine (CR.out _ hHeld).mono ?_; rintro e u1 ⟨rfl, hb6⟩)
                                            have hH2 : Below V22.heap.size V22 u1 := Below.trans hHeld (hb6.mono (Below.size hHeld))
                                            clear hb6 hHeld
                                            go_wp2_with fail
                                            refine hK.out _ _ hH2 (fun hHeld => ?_)
                                            clear hK K hH2
                                            try simp only [List.getElem_toArray, List.getElem_cons_succ, List.getElem_cons_zero, Act.put, List.setIfInBounds_toArray, List.set_cons_zero, List.set_cons_succ]
                                            refine wpAnyH_ready (rs := [22]) (by kernel_rfl) (by simp) ?_
                                            refine AllReadyH.cons (o := _) rfl (fun K hK => ?_) AllReadyH.nil
                                            go_simp
                                            (go_at_call 36; refine (CS.out _ hHeld).mono ?_; rintro e u1 ⟨rfl, hb6⟩)
                                            have hH2 : Below V22.heap.size V22 u1 := Below.trans hHeld (hb6.mono (Below.size hHeld))
                                            clear hb6 hHeld
                                            go_wp2_with fail
                                            refine hK.out _ _ hH2 (fun hHeld => ?_)
                                            clear hK K hH2
                                            try simp only [List.getElem_toArray, List.getElem_cons_succ, List.getElem_cons_zero, Act.put, List.setIfInBounds_toArray, List.set_cons_zero, List.set_cons_succ]
                                            refine wpAnyH_take (i := 23) (oi := _) (v := ?vq20) rfl (by kernel_rfl) (by kernel_rfl) (by kernel_rfl) (fun _ _ _ h => h) (Or.inl ⟨by kernel_rfl, ?yq20⟩) (by assumption) ?rq20
                                            case yq20 => (intro w' hSw; go_simp; try (with_reducible rfl))
                                            case rq20 =>
                                              simp only [List.getElem_toArray, List.getElem_cons_succ, List.getElem_cons_zero, Act.put, List.setIfInBounds_toArray, List.set_cons_zero, List.set_cons_succ]
                                              refine wpAnyH_take (i := 24) (oi := _) (v := ?vq21) rfl (by kernel_rfl) (by kernel_rfl) (by kernel_rfl) (fun _ _ _ h => h) (Or.inl ⟨by kernel_rfl, ?yq21⟩) (by assumption) ?rq21
                                              case yq21 => (intro w' hSw; go_simp; try (with_reducible rfl))
                                              case rq21 =>
                                                simp only [List.getElem_toArray, List.getElem_cons_succ, List.getElem_cons_zero, Act.put, List.setIfInBounds_toArray, List.set_cons_zero, List.set_cons_succ]
                                                refine wpAnyH_take (i := 25) (oi := _) (v := ?vq22) rfl (by kernel_rfl) (by kernel_rfl) (by kernel_rfl) (fun _ _ _ h => h) (Or.inl ⟨by kernel_rfl, ?yq22⟩) (by assumption) ?rq22
                                                case yq22 => (intro w' hSw; go_simp; try (with_reducible rfl))
                                                case rq22 =>
                                                  simp only [List.getElem_toArray, List.getElem_cons_succ, List.getElem_cons_zero, Act.put, List.setIfInBounds_toArray, List.set_cons_zero, List.set_cons_succ]
                                                  refine wpAnyH_done (by kernel_rfl) ?_ _
                                                  have hH3 : Below V22.heap.size V22 _ := hHeld
                                                  have HH := Lib.hid (HW.out.trans (hH3.mono HW.out.size))
                                                  clear hHeld hH3
                                                  go_wp2_with fail
                                                  go_ret
                                                  exact ⟨by simp, HH.out⟩
end Go.Proofs.Ytipjhokhflokmaa
