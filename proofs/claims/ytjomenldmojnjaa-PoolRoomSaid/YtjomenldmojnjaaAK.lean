/- Contract of lockagelaw17.PoolRoom. -/
import Derived.Test.YtjomenldmojnjaaAJ
import Derived.Test.YtjomenldmojnjaaAC
import Derived.Test.YtjomenldmojnjaaY
import Derived.Deep.QuietTactic
import Derived.BigQuiet
set_option linter.unusedVariables false
set_option linter.unusedSimpArgs false
namespace Go.Proofs.Ytjomenldmojnjaa
open Go.RowKit
open Go.Proofs.YtjomenldmojnjaaW.PrintWords

theorem rd_cell {w : World} {b off n c : Nat} {bs : List Bk} (h : RdE enc 4 w (.slice (some ⟨b, off, none⟩) n c) bs) {k : Nat} (hk : k < bs.length) :
    w.cell? ⟨b, off + k * 4, none⟩ = some (.int .i64 (bkAt bs k).o) ∧ w.cell? ⟨b, off + k * 4 + 1, none⟩ = some (.int .i64 (bkAt bs k).r) ∧ w.cell? ⟨b, off + k * 4 + 2, none⟩ = some (.int .i64 (bkAt bs k).i) ∧ w.cell? ⟨b, off + k * 4 + 3, none⟩ = some (.int .i64 (bkAt bs k).f) := by
  have hl := h.len
  obtain ⟨b', o', he, _, hc⟩ := h.get (by omega)
  injection he with he
  injection he with h1 h2
  subst h1; subst h2
  have hy := bkAt_at hk
  exact ⟨hc k 0 _ _ hy rfl, hc k 1 _ _ hy rfl, hc k 2 _ _ hy rfl, hc k 3 _ _ hy rfl⟩
/-- the pool's box taken from another: what stays -/
theorem step_in {w w2 : World} {bt base' : Nat} {x y v nx : Value} {bs : List Bk} (hB : Below w.heap.size w w2) (h6 : w2.heap[bt]? = some (.cells #[x, y] 24 (0, 0)))
    (hlt : w.heap.size ≤ bt) (hO : OwE enc 4 32 w2 base' v bs) :
    Below w.heap.size w ((w2.setCell ⟨bt, 0, none⟩ v).setCell ⟨bt, 1, none⟩ nx) ∧
    ((w2.setCell ⟨bt, 0, none⟩ v).setCell ⟨bt, 1, none⟩ nx).heap[bt]? = some (.cells #[v, nx] 24 (0, 0)) ∧
    RdE enc 4 ((w2.setCell ⟨bt, 0, none⟩ v).setCell ⟨bt, 1, none⟩ nx) v bs := by
  have nb : ∀ k, v.ownBlock = some k → k ≠ bt := by
    intro k hk
    obtain ⟨cur, hcur⟩ := hO.typed k hk
    exact blocks_ne (by decide) hcur h6
  refine ⟨(hB.setCell (by simp; omega) _).setCell (by simp; omega) _, ?_, ((hO.far nb _).far nb _).rd⟩
  rw [heap_set (heap_set h6 v (o := 0)) nx (o := 1)]
  rfl

def SR (W : World) (b : Nat) (x y : Value) (p : Addr) (v : Value) (w' : World) : Prop := w'.cell? ⟨b, 0, none⟩ = some x ∧ w'.cell? ⟨b, 1, none⟩ = some y ∧ w'.cell? p = some v ∧ Below W.heap.size W w'
theorem SR.b {W w' : World} {b : Nat} {x y v : Value} {p : Addr} (h : SR W b x y p v w') : Below W.heap.size W w' := h.2.2.2
theorem SR.below {W w1 w2 : World} {b : Nat} {x y v : Value} {p : Addr} (hb : Below w1.heap.size w1 w2) (h : SR W b x y p v w1) : SR W b x y p v w2 := by
  obtain ⟨h0, h1, h2, hB⟩ := h
  exact ⟨(hb.cell (p := ⟨b, 0, none⟩) (World.block_lt_of_cell? w1 _ h0)).trans h0, (hb.cell (p := ⟨b, 1, none⟩) (World.block_lt_of_cell? w1 _ h1)).trans h1, (hb.cell (p := p) (World.block_lt_of_cell? w1 _ h2)).trans h2, hB.trans (hb.mono hB.size)⟩
theorem SR.alloc {W w1 : World} {b : Nat} {x y v : Value} {p : Addr} {o : Obj} (h : SR W b x y p v w1) : SR W b x y p v (w1.alloc o) := SR.below ((Below.refl _ _).alloc (Nat.le_refl _) _) h
theorem SR.set {W w1 : World} {b q j : Nat} {x y v u : Value} {p : Addr} (hq : W.heap.size ≤ q) (hb : b < W.heap.size) (hp : p.block < W.heap.size) (h : SR W b x y p v w1) : SR W b x y p v (w1.setCell ⟨q, j, none⟩ u) := by
  obtain ⟨h0, h1, h2, hB⟩ := h
  have B : Below W.heap.size w1 (w1.setCell ⟨q, j, none⟩ u) := (Below.refl _ _).setCell hq _
  exact ⟨(B.cell (p := ⟨b, 0, none⟩) hb).trans h0, (B.cell (p := ⟨b, 1, none⟩) hb).trans h1, (B.cell (p := p) hp).trans h2, hB.setCell hq _⟩

set_option maxRecDepth 10000 in
set_option maxHeartbeats 16000000 in
theorem poolRoom_any (w : World) (Ar : Option Addr) (nr cr : Nat) (rooms : List Nat) (Al : Option Addr) (nl cl : Nat) (l : List Nat) (hr : Rd w (.slice Ar nr cr) (u8s rooms)) (h7 : ∀ x ∈ rooms, x < 256) (hl : Rd w (.slice Al nl cl) (u8s l)) (h8 : ∀ x ∈ l, x < 256) :
    Calls Try.prog 7 #[.slice Ar nr cr, .slice Al nl cl] w fun e w' => e = .returned (.bool true) ∧ Below w.heap.size w w' := by
  have ll := hl.len
  rw [u8s_len] at ll
  have hlm : l.length ≤ 9223372036854775807 := by obtain ⟨_, _, _, _, hm, _⟩ := hl; rwa [u8s_len] at hm
  have HL := Lib.hid hl
  have HRO := Lib.hid hr
  clear hl hr
  go_enter Try.func7, Try.ntmps7
  go_wp2_with (first
    | (go_at_call 8; refine (awake_any _).mono ?_; rintro e w1 ⟨rfl, hb1⟩; have HB1 := Lib.hid hb1; clear hb1)
    | (go_at_call 10; refine (made_any w1 Ar nr cr rooms none 0 0 [] (HRO.out.below HB1.out) h7 (Rd.nil _ _ _) (by simp)).mono ?_; rw [madeS_nil]; rintro e w2 ⟨A, n, c, rfl, hO, hb2⟩; have HR := Lib.hid hO.rd; have HB2 := Lib.hid (HB1.out.trans (hb2.mono HB1.out.size)); clear hb2 hO))
  have hpb : w.heap.size ≤ w2.heap.size := HB2.out.size
  have hal : Below w2.heap.size w2 (w2.alloc (.cells #[.slice A n c, .int .i64 0] 24)) := (Below.refl _ _).alloc (Nat.le_refl _) _
  have HX := Lib.hid (heap_alloc_new w2 (.cells #[.slice A n c, .int .i64 0] 24))
  replace HR := Lib.hid (HR.out.below hal)
  replace HB2 := Lib.hid (HB2.out.trans (hal.mono HB2.out.size))
  have hln : (startS rooms).length = n := HR.out.len
  have hSR := start_right rooms
  have hSS := start_sum rooms
  clear hal HB1
  generalize w2.alloc (.cells #[.slice A n c, .int .i64 0] 24) = W2 at *
  generalize w2.heap.size = pb at *
  go_loopg [8, 9] (min nl 60) (fun gg s8 s9 wr => ∃ kk : Nat, kk ≤ min nl 60 ∧ min nl 60 - kk ≤ gg ∧ s9 = .int .i64 kk ∧ ∃ bs : List Bk, s8 = .int .i64 (sumO bs) ∧ Below w.heap.size w wr ∧ ∃ A c nx,
    Aside (wr.heap[pb]? = some (.cells #[.slice A n c, .int .i64 nx] 24 (0, 0)) ∧ RdE enc 4 wr (.slice A n c) bs ∧ RightP bs nx))
  case atStart =>
    refine ⟨0, by omega, by omega, rfl, startS rooms, by rw [hSS], HB2.out, A, c, 0, ?_⟩
    show Aside _
    exact ⟨HX.out, HR.out, hSR⟩
  case round =>
    clear HR HX HB2 hSR hSS hln
    obtain ⟨kk, hkk, hg, rfl, bs, rfl, hB, A, c, nx, HA⟩ := hrel
    obtain ⟨h6, hR, hP⟩ := HA.out
    have lbs := hR.len
    have HB := Lib.hid hB
    have HX := Lib.hid h6
    have HR := Lib.hid hR
    have HP := Lib.hid hP
    have hn1 : 1 ≤ n := by have := hP.1; omega
    have hn8 : n ≤ 8 := by have := hP.1; omega
    clear HA h6 hR hP hB
    go_upto_region 8 with fail
    go_cut [38] from 31 to 38 (fun s38 wx => s38 = .bool (decide (kk < min nl 60)) ∧ wx = wr)
    case first =>
      by_cases hlt1 : (kk : Int) < (nl : Int)
      · by_cases hlt2 : (kk : Int) < 60
        · go_wp2_with fail
          go_meet
          exact ⟨by simp; omega, rfl⟩
        · go_wp2_with fail
          go_meet
          exact ⟨by simp; omega, rfl⟩
      · go_wp2_with fail
        go_meet
        exact ⟨by simp; omega, rfl⟩
    obtain ⟨rfl, hwc⟩ := hcut
    subst wc
    by_cases hlt : kk < min nl 60
    · have hlt0 : decide (kk < min nl 60) = true := by simp [hlt]
      rw [hlt0]
      have hlt1 : (kk : Int) < (nl : Int) := by omega
      obtain ⟨bl, ol, rfl, hbl, hlc⟩ := HL.out.get (by omega)
      have hkl : kk < l.length := by omega
      have hc := (HB.out.cell (p := ⟨bl, ol + kk, none⟩) hbl).trans (hlc kk _ (u8s_at hkl))
      have hx8 := h8 l[kk] (List.getElem_mem hkl)
      generalize l[kk] = x at hc hx8
      clear hlc
      go_upto_if 46 with fail
      go_cut [8, 10, 11, 12, 13, 14, 15, 16, 17, 18, 19, 20, 21, 22] from 31 to 206 (fun s8 s10 s11 s12 s13 s14 s15 s16 s17 s18 s19 s20 s21 s22 wx => ∃ bs : List Bk, s8 = .int .i64 (sumO bs) ∧ Below w.heap.size w wx ∧ ∃ A c nx,
        Aside (wx.heap[pb]? = some (.cells #[.slice A n c, .int .i64 nx] 24 (0, 0)) ∧ RdE enc 4 wx (.slice A n c) bs ∧ RightP bs nx))
      case first =>
        obtain ⟨b, off, rfl, hbb, _⟩ := HR.out.get (by omega)
        have hms := sum_small HP.out
        by_cases hx2 : x % 2 = 0
        · have hx2' : ((x : Int) % 2 == 0) = true := by simp; omega
          obtain ⟨⟨pi, pe⟩, hpk⟩ : ∃ r, pickS bs nx = r := ⟨_, rfl⟩
          obtain ⟨ro, hro⟩ : ∃ r, openS bs nx = r := ⟨_, rfl⟩
          obtain ⟨q1, q2, q3, q4⟩ := open_law HP.out
          have hmin := @pick_min bs nx
          have hlo := openS_len bs nx
          rw [hpk] at q1 q2 q4 hmin
          rw [hro] at q1 q2 q3 q4 hlo
          obtain ⟨obs, onx, oi, oa, oe⟩ := ro
          simp only at q1 q2 q3 q4 hlo hmin
          subst q1; subst q2
          have HPK := Lib.hid hpk
          have HRO2 := Lib.hid hro
          have HQ3 := Lib.hid q3
          clear hpk hro q3
          have z0 := box_at HX.out 0 _ rfl
          have z1 := box_at HX.out 1 _ rfl
          have zf := box_free HX.out
          go_upto_region 13 with (first
            | (go_at_call 13; refine (pick_any wr _ n c nx bs HR.out).mono ?_; rw [HPK.out]; rintro e v1 ⟨rfl, hb⟩; have X1 := keep hb HX.out; clear z0 z1 zf; have z0 := box_at X1 0 _ rfl; have z1 := box_at X1 1 _ rfl; have HX1 := Lib.hid X1; have HR1 := Lib.hid (HR.out.below hb); have HB1 := Lib.hid (HB.out.trans (hb.mono HB.out.size)); clear X1 hb)
            | (go_at_call 14; refine (open_any v1 _ n c nx bs HR1.out (by omega)).mono ?_; rw [HRO2.out]; rintro e v2 ⟨A1, n1, c1, rfl, hO, hb⟩; have HX2 := Lib.hid (keep hb HX1.out); have HR2 := Lib.hid (HR1.out.below hb); have HB2 := Lib.hid (HB1.out.trans (hb.mono HB1.out.size)); have HO := Lib.hid hO; clear hO hb z0 z1))
          have hn1' : obs.length = n1 := HO.out.rd.len
          obtain rfl : n1 = n := by omega
          have hal : Below v2.heap.size v2 (v2.alloc (.cells #[.slice A1 n1 c1, .int .i64 onx] 24)) := (Below.refl _ _).alloc (Nat.le_refl _) _
          have HY := Lib.hid (heap_alloc_new v2 (.cells #[.slice A1 n1 c1, .int .i64 onx] 24))
          have HX3 := Lib.hid (keep hal HX2.out)
          have HR3 := Lib.hid (HR2.out.below hal)
          have HB3 := Lib.hid (HB2.out.trans (hal.mono HB2.out.size))
          have HO3 := Lib.hid (HO.out.below hal)
          clear hal HX1 HX2 HR1 HR2 HB1 HB2 HO
          generalize v2.alloc (.cells #[.slice A1 n1 c1, .int .i64 onx] 24) = V at *
          generalize v2.heap.size = qb at *
          have z0 := box_at HX3.out 0 _ rfl
          have z1 := box_at HX3.out 1 _ rfl
          have zf := box_free HX3.out
          have y0 := box_at HY.out 0 _ rfl
          have y1 := box_at HY.out 1 _ rfl
          rcases q4 with ⟨rfl, hpl, rfl, hsum⟩ | ⟨rfl, hsum⟩
          · have HMIN := Lib.hid (show ∀ x : Nat, x < bs.length → (bkAt bs x).o < (bkAt bs x).r → (bkAt bs x).f < 5 → (bkAt bs oi).o ≤ (bkAt bs x).o from fun x h1 h2 h3 => hmin rfl h1 h2 h3)
            clear hmin
            obtain ⟨d0, d1, d2, d3⟩ := rd_cell HR3.out (k := oi) (by omega)
            have hkn : (oi : Int) < (n1 : Int) := by omega
            have hk0 : ¬ (oi : Int) < 0 := by omega
            have hwm : IntKind.i64.wrap (sumO bs + 1) = sumO bs + 1 := by rw [IntKind.wrap_i64]; omega
            have HSUM := Lib.hid hsum
            clear hsum
            go_wp2_with fail
            clear d0 d1 d2 d3 y0 y1 z0 z1 zf hwm
            go_loopg [16] n1 (fun gg s16 wx => ∃ xx : Nat, xx ≤ n1 ∧ n1 - xx ≤ gg ∧ s16 = .int .i64 xx ∧ Below V.heap.size V wx)
            case atStart => exact ⟨0, by omega, by omega, rfl, Below.refl _ _⟩
            case round =>
              obtain ⟨xx, hxx, hgx, rfl, hBx⟩ := hrel
              have HX4 := Lib.hid (keep hBx HX3.out)
              have HR4 := Lib.hid (HR3.out.below hBx)
              have HY4 := Lib.hid (keep hBx HY.out)
              have HBX := Lib.hid hBx
              clear hBx
              have z0 := box_at HX4.out 0 _ rfl
              have z1 := box_at HX4.out 1 _ rfl
              have zf := box_free HX4.out
              by_cases hlx : xx < n1
              · have hlx1 : (xx : Int) < (n1 : Int) := by omega
                obtain ⟨c0, c1, c2, c3⟩ := rd_cell HR4.out (k := xx) (by omega)
                have hm := HMIN.out xx (by omega)
                generalize bkAt bs xx = y at c0 c1 c2 c3 hm
                obtain ⟨yo, yr, yi, yf⟩ := y
                simp only at c0 c1 c2 c3 hm
                go_upto_region 23 with fail
                clear c0 c1 c2 c3 z0 z1 zf
                have hal : Below wr.heap.size wr (wr.alloc (.cells #[.int .i64 yo, .int .i64 yr, .int .i64 yi, .int .i64 yf] 32)) := (Below.refl _ _).alloc (Nat.le_refl _) _
                have hb := heap_alloc_new wr (.cells #[.int .i64 yo, .int .i64 yr, .int .i64 yi, .int .i64 yf] 32)
                have HX5 := Lib.hid (keep hal HX4.out)
                have HR5 := Lib.hid (HR4.out.below hal)
                have HB5 := Lib.hid (HBX.out.trans (hal.mono HBX.out.size))
                have b0 := box_at hb 0 _ rfl
                have b1 := box_at hb 1 _ rfl
                have b3 := box_at hb 3 _ rfl
                generalize wr.alloc (.cells #[.int .i64 yo, .int .i64 yr, .int .i64 yi, .int .i64 yf] 32) = U at *
                clear hal hb
                have z0 := box_at HX5.out 0 _ rfl
                obtain ⟨d0, d1, d2, d3⟩ := rd_cell HR5.out (k := oi) (by omega)
                generalize (bkAt bs oi).o = ko at d0 hm
                clear d1 d2 d3
                have fin : ∀ Ud : World, Below U.heap.size U Ud → Below V.heap.size V Ud := fun Ud h => HB5.out.trans (h.mono HB5.out.size)
                have FIN := Lib.hid fin
                clear fin
                by_cases ho : yo < yr
                · by_cases hf : yf < 5
                  · have hko : ¬ yo < ko := by have := hm ho hf; omega
                    clear hm
                    go_quiet (fail)
                    go_wp2_with fail
                    go_roundg (n1 - (xx + 1))
                    case measure => omega
                    case rel => exact ⟨xx + 1, by omega, by omega, by simp, FIN.out _ (pw_below_drewN (Below.refl _ _) _)⟩
                  · clear hm
                    go_quiet (fail)
                    go_wp2_with fail
                    go_roundg (n1 - (xx + 1))
                    case measure => omega
                    case rel => exact ⟨xx + 1, by omega, by omega, by simp, FIN.out _ (pw_below_drewN (Below.refl _ _) _)⟩
                · clear hm
                  go_quiet (fail)
                  go_wp2_with fail
                  go_roundg (n1 - (xx + 1))
                  case measure => omega
                  case rel => exact ⟨xx + 1, by omega, by omega, by simp, FIN.out _ (pw_below_drewN (Below.refl _ _) _)⟩
              · have hkm : xx = n1 := by omega
                have hlx1 : ¬ (xx : Int) < (n1 : Int) := by omega
                have y0 := box_at HY4.out 0 _ rfl
                have y1 := box_at HY4.out 1 _ rfl
                have HO4 := Lib.hid (HO3.out.below HBX.out)
                clear hkm
                go_wp2_with fail
                go_meet
                have hB4 := HB3.out.trans (HBX.out.mono HB3.out.size)
                obtain ⟨k1, k2, k3⟩ := step_in (nx := .int .i64 onx) hB4 HX4.out hpb HO4.out
                refine ⟨obs, by rw [HSUM.out], k1, A1, c1, onx, ?_⟩
                show Aside _
                exact ⟨k2, k3, HQ3.out⟩
          · have HSUM := Lib.hid hsum
            clear hsum hmin
            go_wp2_with fail
            go_meet
            obtain ⟨k1, k2, k3⟩ := step_in (nx := .int .i64 onx) HB3.out HX3.out hpb HO3.out
            refine ⟨obs, by rw [HSUM.out], k1, A1, c1, onx, ?_⟩
            show Aside _
            exact ⟨k2, k3, HQ3.out⟩
        · have hx2' : ((x : Int) % 2 == 0) = false := by simp; omega
          obtain ⟨d8, hd8⟩ : ∃ d, x / 8 = d := ⟨_, rfl⟩
          obtain ⟨d4, hd4⟩ : ∃ d, x / 4 = d := ⟨_, rfl⟩
          obtain ⟨d2, hd2⟩ : ∃ d, x / 2 = d := ⟨_, rfl⟩
          obtain ⟨kq, hkq⟩ : ∃ kq, d8 % n = kq := ⟨_, rfl⟩
          obtain ⟨m4, hm4⟩ : ∃ d, d4 % 2 = d := ⟨_, rfl⟩
          obtain ⟨m2, hm2⟩ : ∃ d, d2 % 2 = d := ⟨_, rfl⟩
          have e8 : (x : Int) / 8 = (d8 : Int) := by omega
          have q8 : (d8 : Int) % (n : Int) = (kq : Int) := by rw [← hkq]; simp
          have t4 : (x : Int).tdiv 4 = (d4 : Int) := by rw [Int.tdiv_eq_ediv_of_nonneg (by omega)]; omega
          have t2 : (x : Int).tdiv 2 = (d2 : Int) := by rw [Int.tdiv_eq_ediv_of_nonneg (by omega)]; omega
          have r4 : (d4 : Int).tmod 2 = (m4 : Int) := by rw [Int.tmod_eq_emod_of_nonneg (by omega)]; omega
          have r2 : (d2 : Int).tmod 2 = (m2 : Int) := by rw [Int.tmod_eq_emod_of_nonneg (by omega)]; omega
          have w4 : IntKind.u8.wrap (d4 : Int) = (d4 : Int) := by simp [IntKind.wrap, IntKind.bits, IntKind.signed]; omega
          have w2' : IntKind.u8.wrap (d2 : Int) = (d2 : Int) := by simp [IntKind.wrap, IntKind.bits, IntKind.signed]; omega
          have wm4 : IntKind.u8.wrap (m4 : Int) = (m4 : Int) := by simp [IntKind.wrap, IntKind.bits, IntKind.signed]; omega
          have wm2 : IntKind.u8.wrap (m2 : Int) = (m2 : Int) := by simp [IntKind.wrap, IntKind.bits, IntKind.signed]; omega
          have hkn : kq < n := by rw [← hkq]; exact Nat.mod_lt _ (by omega)
          have hkn1 : (kq : Int) < (n : Int) := by omega
          have hn0 : ¬ (n : Int) = 0 := by omega
          have hn0' : ¬ n = 0 := by omega
          obtain ⟨sb, hsb⟩ : ∃ b, decide (m2 = 0) = b := ⟨_, rfl⟩
          obtain ⟨fb, hfb⟩ : ∃ b, decide (m4 = 0) = b := ⟨_, rfl⟩
          have hsb' : ((m2 : Int) == 0) = sb := by rw [← hsb, Bool.eq_iff_iff]; simp
          have hfb' : ((m4 : Int) == 0) = fb := by rw [← hfb, Bool.eq_iff_iff]; simp
          clear hsb hfb hkq hd8 hd4 hd2 hm4 hm2
          obtain ⟨ro, hro⟩ : ∃ r, closeS bs nx kq sb fb = r := ⟨_, rfl⟩
          obtain ⟨q3, q4⟩ := close_law HP.out (k := kq) (by omega) sb fb
          have hlo := closeS_len bs nx kq sb fb
          rw [hro] at q3 q4 hlo
          obtain ⟨obs, onx, oe⟩ := ro
          simp only at q3 q4 hlo
          have HRO2 := Lib.hid hro
          have HQ3 := Lib.hid q3
          clear hro q3
          have z0 := box_at HX.out 0 _ rfl
          have z1 := box_at HX.out 1 _ rfl
          have zf := box_free HX.out
          go_upto_region 27 with fail
          have hpl : pb < wr.heap.size := (Array.getElem?_eq_some_iff.1 HX.out).1
          have hbl' : bl < wr.heap.size := by have := HB.out.size; omega
          have HS := Lib.hid (show SR wr pb (.slice (some ⟨b, off, none⟩) n c) (.int .i64 nx) ⟨bl, ol + kk, none⟩ (.int .u8 x) wr from ⟨z0, z1, hc, Below.refl _ _⟩)
          simp only [q8, hx2']
          clear z0 z1 zf hc e8 q8 hx2' hx2
          go_cut [19, 20] from 144 to 163 (fun s19 s20 wx => ∃ qb : Nat, s19 = .pointer (some ⟨qb, 0, none⟩) ∧ s20 = .int .i64 (oe : Int) ∧ ∃ A1 n1 c1, Aside (Below wr.heap.size wr wx ∧ wx.heap[qb]? = some (.cells #[.slice A1 n1 c1, .int .i64 onx] 24 (0, 0)) ∧ OwE enc 4 32 wx wr.heap.size (.slice A1 n1 c1) obs))
          case first =>
            go_region_held3 (fun w' => w'.cell? ⟨pb, 0, none⟩ = some (.slice (some ⟨b, off, none⟩) n c) ∧ w'.cell? ⟨pb, 1, none⟩ = some (.int .i64 nx) ∧ w'.cell? ⟨bl, ol + kk, none⟩ = some (.int .u8 x) ∧ Below wr.heap.size wr w')
              (first | exact HS.out.below (below_drew (Below.refl _ _)) | exact SR.alloc ‹_› | (refine SR.below ?_ ‹_›; assumption) | exact (HS.out.below ((below_drew (Below.refl _ _)).trans hb)).alloc | exact SR.set (Nat.le_refl _) hpl hbl' (SR.set (Nat.le_refl _) hpl hbl' ‹_›) | (trace_state; fail))
              (first | (go_at_call 15; refine (close_any _ _ n c nx bs kq sb fb (HR.out.below (‹SR wr _ _ _ _ _ _›).b) (by omega)).mono ?_; rw [HRO2.out]; rintro e v2 ⟨A1, n1, c1, rfl, hO, hb⟩; try (have hq : v2.heap[wr.heap.size]? = some (.cells #[.slice none 0 0, .int .i64 0] 24 (0, 0)) := keep hb (heap_alloc_new wr.drew _); have y0 := box_at hq 0 _ rfl; have y1 := box_at hq 1 _ rfl; have yf := box_free hq)))
            · go_wp2_with fail
              go_meet
              have hb' : Below wr.heap.size wr v2 := (below_drew (Below.refl _ _)).trans hb
              have hal : Below v2.heap.size v2 (v2.alloc (.cells #[.slice A1 n1 c1, .int .i64 onx] 24)) := (Below.refl _ _).alloc (Nat.le_refl _) _
              refine ⟨v2.heap.size, rfl, rfl, A1, n1, c1, ?_⟩
              show Aside _
              exact ⟨hb'.alloc hb'.size _, heap_alloc_new v2 _, (hO.lower (base' := wr.heap.size) (Nat.le_refl _)).below hal⟩
            · go_wp2_with fail
              go_meet
              have hb' : Below wr.heap.size wr v2 := (below_drew ((Below.refl _ _).alloc (Nat.le_refl _) _)).trans (hb.mono (by simp))
              have nb : ∀ k, (Value.slice A1 n1 c1).ownBlock = some k → k ≠ wr.heap.size := by
                intro k hk
                obtain ⟨cur, hcur⟩ := hO.typed k hk
                exact blocks_ne (by decide) hcur hq
              refine ⟨wr.heap.size, rfl, rfl, A1, n1, c1, ?_⟩
              show Aside _
              refine ⟨(hb'.setCell (by simp) _).setCell (by simp) _, ?_, ((hO.lower (base' := wr.heap.size) (by simp)).far nb _).far nb _⟩
              rw [heap_set (heap_set hq (.slice A1 n1 c1) (o := 0)) (.int .i64 onx) (o := 1)]
              rfl
          case rest =>
            obtain ⟨qb, rfl, rfl, A1, n1, c1, HA⟩ := hcut
            obtain ⟨hBe, hY, hO⟩ := HA.out
            have hn1' : obs.length = n1 := hO.rd.len
            obtain rfl : n1 = n := by omega
            have HY := Lib.hid hY
            have HX3 := Lib.hid (keep hBe HX.out)
            have HR3 := Lib.hid (HR.out.below hBe)
            have HB3 := Lib.hid (HB.out.trans (hBe.mono HB.out.size))
            have HO3 := Lib.hid hO
            clear HA hBe hY hO HS
            have z0 := box_at HX3.out 0 _ rfl
            have z1 := box_at HX3.out 1 _ rfl
            have zf := box_free HX3.out
            have y0 := box_at HY.out 0 _ rfl
            have y1 := box_at HY.out 1 _ rfl
            obtain ⟨d0, _, _, _⟩ := rd_cell HR3.out (k := kq) (by omega)
            have hwm : IntKind.i64.wrap (sumO bs - 1) = sumO bs - 1 := by rw [IntKind.wrap_i64]; omega
            rcases q4 with ⟨hpos, rfl, hsum⟩ | ⟨hpos, rfl, hsum⟩
            · have HSUM := Lib.hid hsum
              have hpos1 : decide (0 < (bkAt bs kq).o) = true := by simp; omega
              have hpos2 : (0 : Int) < (bkAt bs kq).o := by omega
              clear hsum hpos
              generalize (bkAt bs kq).o = ko at *
              go_wp2_with fail
              go_meet
              obtain ⟨k1, k2, k3⟩ := step_in (nx := .int .i64 onx) HB3.out HX3.out hpb HO3.out
              refine ⟨obs, by rw [HSUM.out], k1, A1, c1, onx, ?_⟩
              show Aside _
              exact ⟨k2, k3, HQ3.out⟩
            · have HSUM := Lib.hid hsum
              have hpos1 : decide (0 < (bkAt bs kq).o) = false := by simp; omega
              have hpos2 : ¬ (0 : Int) < (bkAt bs kq).o := by omega
              clear hsum hpos
              generalize (bkAt bs kq).o = ko at *
              go_wp2_with fail
              go_meet
              obtain ⟨k1, k2, k3⟩ := step_in (nx := .int .i64 onx) HB3.out HX3.out hpb HO3.out
              refine ⟨obs, by rw [HSUM.out], k1, A1, c1, onx, ?_⟩
              show Aside _
              exact ⟨k2, k3, HQ3.out⟩
      case rest =>
        obtain ⟨bs, rfl, hB, A, c, nx, HA⟩ := hcut
        obtain ⟨h6, hR, hP⟩ := HA.out
        have lbs := hR.len
        clear HB HX HR HP hc
        have HB := Lib.hid hB
        have HX := Lib.hid h6
        have HR := Lib.hid hR
        have HP := Lib.hid hP
        have hrb := rightB_iff.2 hP
        obtain ⟨b, off, rfl, hbb, _⟩ := HR.out.get (by omega)
        clear HA h6 hR hP hB
        have z0 := box_at HX.out 0 _ rfl
        have z1 := box_at HX.out 1 _ rfl
        have HRB := Lib.hid hrb
        clear hrb
        go_wp2_with fail
        go_loopg [21, 22] n (fun gg s21 s22 wx => ∃ xx : Nat, xx ≤ n ∧ n - xx ≤ gg ∧ s22 = .int .i64 xx ∧ s21 = .int .i64 (sumO (bs.take xx)) ∧ wx = wc)
        case atStart => exact ⟨0, by omega, by omega, rfl, by simp [sumO], rfl⟩
        case round =>
          obtain ⟨xx, hxx, hgx, rfl, rfl, hwx⟩ := hrel
          subst hwx
          by_cases hlx : xx < n
          · have hlx1 : (xx : Int) < (n : Int) := by omega
            obtain ⟨d0, _, _, _⟩ := rd_cell HR.out (k := xx) (by omega)
            have hs := sumO_take (bs := bs) (k := xx) (by omega)
            have hsm := take_small HP.out (xx + 1)
            have hw : IntKind.i64.wrap (sumO (bs.take xx) + (bkAt bs xx).o) = sumO (bs.take (xx + 1)) := by rw [IntKind.wrap_i64]; omega
            generalize (bkAt bs xx).o = ko at *
            generalize sumO (bs.take xx) = s0 at *
            clear hs hsm
            go_wp2_with fail
            go_roundg (n - (xx + 1))
            case measure => omega
            case rel => exact ⟨xx + 1, by omega, by omega, by simp, rfl, rfl⟩
          · have hkm : xx = n := by omega
            have hlx1 : ¬ (xx : Int) < (n : Int) := by omega
            have hfin : sumO (bs.take xx) = sumO bs := by rw [List.take_of_length_le (by omega)]
            rw [hfin]
            clear hfin hkm
            go_wp2_with (go_at_call 16; refine (right_any _ _ n c nx bs HR.out).mono ?_; rw [HRB.out]; rintro e v6 ⟨rfl, hb⟩; have HX6 := Lib.hid (keep hb HX.out); have HR6 := Lib.hid (HR.out.below hb); have HB6 := Lib.hid (HB.out.trans (hb.mono HB.out.size)); clear hb z0 z1)
            go_roundg (min nl 60 - (kk + 1))
            case measure => omega
            case rel =>
              refine ⟨kk + 1, by omega, by omega, by simp, bs, rfl, HB6.out, some ⟨b, off, none⟩, c, nx, ?_⟩
              show Aside _
              exact ⟨HX6.out, HR6.out, HP.out⟩
    · have hlt0 : decide (kk < min nl 60) = false := by simp; omega
      rw [hlt0]
      clear hlt0 hlt hkk hg
      go_wp2_with fail
      go_ret
      exact ⟨by simp, HB.out⟩
end Go.Proofs.Ytjomenldmojnjaa
