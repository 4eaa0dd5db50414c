/- lockagelaw18.FlightMade. -/
import Derived.Test.YtipjhokhflokmaaAX
set_option linter.unusedVariables false
set_option linter.unusedSimpArgs false
namespace Go.Proofs.Ytipjhokhflokmaa
open Go.RowKit Go.Maps
open Go.Proofs.YtipjhokhflokmaaW.PrintWords

def abcS : List UInt8 := [65, 66, 67, 68, 69, 70, 71, 72, 73, 74, 75, 76, 77, 78, 79, 80, 81, 82, 83, 84, 85, 86, 87, 88, 89, 90]
set_option maxRecDepth 100000 in
set_option maxHeartbeats 8000000 in
theorem flightMade_any (w : World) (r8 : Nat) (Al : Option Addr) (nl cl : Nat) (l : List Nat) (id wt cnt sn : Nat) (hr8 : r8 < 256) (hl : Rd w (.slice Al nl cl) (u8s l)) (h8 : ∀ x ∈ l, x < 256) (hid : id < 256) (hwt : wt < 256) (hcnt : cnt < 256) (hsn : sn < 256) :
    Calls Try.prog 5 #[.int .u8 r8, .slice Al nl cl, .int .u8 id, .int .u8 wt, .int .u8 cnt, .int .u8 sn] w fun e w' => e = .returned (.bool true) ∧ Below w.heap.size w w' := by
  have hm := made_any w r8 hr8 Al nl cl l hl h8
  have hok := madeS_ok ((1 + r8 % 12 : Nat) : Int) l
  obtain ⟨room, hroom⟩ : ∃ q : Int, ((1 + r8 % 12 : Nat) : Int) = q := ⟨_, rfl⟩
  rw [hroom] at hm hok
  generalize madeS room l = st at hm hok
  obtain ⟨nx, fs⟩ := st
  have hnx0 : 0 ≤ nx := hok.n.1
  have hnx6 : nx ≤ 60 := by have := hok.n.2; simp only at this; omega
  have HK := Lib.hid (show SmK 900 fs from hok.f.up (by omega))
  have HM := Lib.hid hm
  clear hl h8 hok hm hroom
  obtain ⟨i5, hi5⟩ : ∃ q, id % 5 = q := ⟨_, rfl⟩
  obtain ⟨w16, hw16⟩ : ∃ q, wt % 16 = q := ⟨_, rfl⟩
  obtain ⟨n20, hn20⟩ : ∃ q, cnt % 20 = q := ⟨_, rfl⟩
  obtain ⟨s27, hs27⟩ : ∃ q, sn % 27 = q := ⟨_, rfl⟩
  have ti : (id : Int).tmod 5 = (i5 : Int) := tmodM (q := 5) hi5
  have tw : (wt : Int).tmod 16 = (w16 : Int) := tmodM (q := 16) hw16
  have tn : (cnt : Int).tmod 20 = (n20 : Int) := tmodM (q := 20) hn20
  have ts : (sn : Int).tmod 27 = (s27 : Int) := tmodM (q := 27) hs27
  have l5 : i5 < 5 := by omega
  have l16 : w16 < 16 := by omega
  have l20 : n20 < 20 := by omega
  have l27 : s27 < 27 := by omega
  have wi : IntKind.i64.wrap (id : Int) = (id : Int) := wrapM (by omega) (by omega)
  have ww : IntKind.i64.wrap (wt : Int) = (wt : Int) := wrapM (by omega) (by omega)
  have wc : IntKind.i64.wrap (cnt : Int) = (cnt : Int) := wrapM (by omega) (by omega)
  have wsn : IntKind.i64.wrap (sn : Int) = (sn : Int) := wrapM (by omega) (by omega)
  have wi5 : IntKind.i64.wrap (i5 : Int) = (i5 : Int) := wrapM (by omega) (by omega)
  have ww6 : IntKind.i64.wrap (w16 : Int) = (w16 : Int) := wrapM (by omega) (by omega)
  have wn2 : IntKind.i64.wrap (n20 : Int) = (n20 : Int) := wrapM (by omega) (by omega)
  have ws7 : IntKind.i64.wrap (s27 : Int) = (s27 : Int) := wrapM (by omega) (by omega)
  have wx1 : IntKind.i64.wrap (nx - 1) = nx - 1 := wrapM (by omega) (by omega)
  have wx2 : IntKind.i64.wrap (nx - 1 - (i5 : Int)) = nx - 1 - (i5 : Int) := wrapM (by omega) (by omega)
  have hs26 : (s27 : Int) ≤ 26 := by omega
  have hex : (⟨abcS.toArray⟩ : ByteArray).extract 0 s27 = ⟨(abcS.take s27).toArray⟩ := ext_take abcS s27
  have hsl : (abcS.take s27).length ≤ 1000 := by rw [List.length_take]; omega
  generalize abcS.take s27 = tt at hex hsl
  unfold abcS at hex
  have HWT := Lib.hid (show okI (w16 : Int) from okI_nat (by omega))
  clear hi5 hw16 hn20 hs27
  go_enter Try.func5, Try.ntmps5
  go_upto_region 2 with (go_at_call 16; refine HM.out.mono ?_; rintro e w1 ⟨A, n, c, zs, rfl, hf, hO, hb⟩; have HF := Lib.hid hf; have HO := Lib.hid hO.rd; have HB := Lib.hid hb; clear hf hO hb)
  clear HM
  have hal : Below w1.heap.size w1 (w1.alloc (.cells #[.int .i64 room, .int .i64 nx, .slice A n c] 26)) := (Below.refl _ _).alloc (Nat.le_refl _) _
  have HX := Lib.hid (heap_alloc_new w1 (.cells #[.int .i64 room, .int .i64 nx, .slice A n c] 26))
  have HB1 := Lib.hid (HB.out.trans (hal.mono HB.out.size))
  have HO1 := Lib.hid (HO.out.below hal)
  clear hal HB HO
  generalize w1.alloc (.cells #[.int .i64 room, .int .i64 nx, .slice A n c] 26) = W at *
  generalize w1.heap.size = bx at *
  go_upto_region 3 with fail
  clear hex ts wsn ws7
  have HKZ := Lib.hid (show SmK 900 (fls zs) by rw [HF.out]; exact HK.out)
  by_cases hm : 0 ≤ nx - 1 - (i5 : Int)
  · go_wp2_with (first
      | (go_at_call 9; refine (awake_any W).mono ?_; rintro e w5 ⟨rfl, hb5⟩; have HX5 := Lib.hid (keep hb5 HX.out); have HO5 := Lib.hid (HO1.out.below hb5); have HB5 := Lib.hid (HB1.out.trans (hb5.mono HB1.out.size)); clear hb5; have y0 : w5.cell? ⟨bx, 0, none⟩ = some (.int .i64 room) := box_at HX5.out 0 _ rfl; have y1 : w5.cell? ⟨bx, 1, none⟩ = some (.int .i64 nx) := box_at HX5.out 1 _ rfl; have y2 : w5.cell? ⟨bx, 2, none⟩ = some (.slice A n c) := box_at HX5.out 2 _ rfl)
      | (go_at_call 15; refine (told_any w5 room nx A n c zs [97] _ (w16 : Int) (n20 : Int) tt HO5.out HKZ.out (by decide) hsl HWT.out).mono ?_; rintro e w6 ⟨rfl, hb6⟩; have HB6 := Lib.hid (HB5.out.trans (hb6.mono HB5.out.size)); clear hb6))
    all_goals go_ret
    all_goals exact ⟨by simp, HB6.out⟩
  · go_wp2_with (first
      | (go_at_call 9; refine (awake_any W).mono ?_; rintro e w5 ⟨rfl, hb5⟩; have HX5 := Lib.hid (keep hb5 HX.out); have HO5 := Lib.hid (HO1.out.below hb5); have HB5 := Lib.hid (HB1.out.trans (hb5.mono HB1.out.size)); clear hb5; have y0 : w5.cell? ⟨bx, 0, none⟩ = some (.int .i64 room) := box_at HX5.out 0 _ rfl; have y1 : w5.cell? ⟨bx, 1, none⟩ = some (.int .i64 nx) := box_at HX5.out 1 _ rfl; have y2 : w5.cell? ⟨bx, 2, none⟩ = some (.slice A n c) := box_at HX5.out 2 _ rfl)
      | (go_at_call 15; refine (told_any w5 room nx A n c zs [97] _ (w16 : Int) (n20 : Int) tt HO5.out HKZ.out (by decide) hsl HWT.out).mono ?_; rintro e w6 ⟨rfl, hb6⟩; have HB6 := Lib.hid (HB5.out.trans (hb6.mono HB5.out.size)); clear hb6))
    all_goals go_ret
    all_goals exact ⟨by simp, HB6.out⟩
end Go.Proofs.Ytipjhokhflokmaa
