/- Contract of lockagelaw17.Made. -/
import Derived.Test.YtjomenldmojnjaaAB
import Derived.StillTailTactics
import Derived.Deep.RegionLaw
import Derived.Test.YtjomenldmojnjaaST
set_option linter.unusedVariables false
set_option linter.unusedSimpArgs false
namespace Go.Proofs.Ytjomenldmojnjaa
open Go.RowKit
open Go.Proofs.YtjomenldmojnjaaW.PrintWords

def MadePost (w : World) (s : List Bk × Int) (e : Ending) (w' : World) : Prop :=
  ∃ A n c, e = .returned (.agg #[.slice A n c, .int .i64 s.2]) ∧ OwE enc 4 32 w' w.heap.size (.slice A n c) s.1 ∧ Below w.heap.size w w'

/-- the pool's box stored into: what stays -/
theorem step_box {w w2 : World} {bt base' : Nat} {c4 : Array Value} {x y v nx : Value} {bs : List Bk} (hB : Below w.heap.size w w2) (h4 : w2.heap[w.heap.size]? = some (.cells c4 24 (0, 0))) (h6 : w2.heap[bt]? = some (.cells #[x, y] 24 (0, 0)))
    (hlt : w.heap.size < bt) (hO : OwE enc 4 32 w2 base' v bs) :
    Below w.heap.size w ((w2.setCell ⟨bt, 0, none⟩ v).setCell ⟨bt, 1, none⟩ nx) ∧
    ((w2.setCell ⟨bt, 0, none⟩ v).setCell ⟨bt, 1, none⟩ nx).heap[w.heap.size]? = some (.cells c4 24 (0, 0)) ∧
    ((w2.setCell ⟨bt, 0, none⟩ v).setCell ⟨bt, 1, none⟩ nx).heap[bt]? = some (.cells #[v, nx] 24 (0, 0)) ∧
    OwE enc 4 32 ((w2.setCell ⟨bt, 0, none⟩ v).setCell ⟨bt, 1, none⟩ nx) base' v bs ∧
    ((w2.setCell ⟨bt, 0, none⟩ v).setCell ⟨bt, 1, none⟩ nx).heap.size = w2.heap.size := by
  have nb : ∀ k, v.ownBlock = some k → k ≠ bt := by
    intro k hk
    obtain ⟨cur, hcur⟩ := hO.typed k hk
    exact blocks_ne (by decide) hcur h6
  refine ⟨(hB.setCell (by simp; omega) _).setCell (by simp; omega) _, ?_, ?_, (hO.far nb _).far nb _, by simp⟩
  · rw [Below.heap_setCell _ _ _ _ (by simp; omega), Below.heap_setCell _ _ _ _ (by simp; omega)]
    exact h4
  · rw [heap_set (heap_set h6 v (o := 0)) nx (o := 1)]
    rfl

set_option maxHeartbeats 4000000 in
theorem made_any (w : World) (Ar : Option Addr) (nr cr : Nat) (rooms : List Nat) (Al : Option Addr) (nl cl : Nat) (l : List Nat) (hr : Rd w (.slice Ar nr cr) (u8s rooms)) (h7 : ∀ x ∈ rooms, x < 256) (hl : Rd w (.slice Al nl cl) (u8s l)) (h8 : ∀ x ∈ l, x < 256) :
    Calls Try.prog 10 #[.slice Ar nr cr, .slice Al nl cl] w (MadePost w (madeS rooms l)) := by
  have ll := hl.len
  rw [u8s_len] at ll
  have lr := hr.len
  rw [u8s_len] at lr
  have hlm : l.length ≤ 9223372036854775807 := by obtain ⟨_, _, _, _, hm, _⟩ := hl; rwa [u8s_len] at hm
  have hrm : rooms.length ≤ 9223372036854775807 := by obtain ⟨_, _, _, _, hm, _⟩ := hr; rwa [u8s_len] at hm
  have HL := Lib.hid hl
  have HR := Lib.hid hr
  clear hl hr
  go_enter Try.func10, Try.ntmps10
  go_wp2_with fail
  have al1 : Below w.heap.size w (w.alloc (.cells #[.slice none 0 0, .int .i64 0] 24)) := (Below.refl _ _).alloc (Nat.le_refl _) _
  go_loopg [6] (min nr 7) (fun gg s6 wr => ∃ kk : Nat, kk ≤ min nr 7 ∧ min nr 7 - kk ≤ gg ∧ s6 = .int .i64 kk ∧ Below w.heap.size w wr ∧ ∃ A n c,
    Aside (wr.heap[w.heap.size]? = some (.cells #[.slice none 0 0, .int .i64 0] 24 (0, 0)) ∧ wr.heap[w.heap.size + 1 + 1]? = some (.cells #[.slice A n c, .int .i64 0] 24 (0, 0)) ∧
      OwE enc 4 32 wr w.heap.size (.slice A n c) (⟨0, 2, 0, 0⟩ :: (rooms.take kk).map roomB)))
  case atStart =>
    generalize hw1 : w.alloc (.cells #[.slice none 0 0, .int .i64 0] 24) = W1 at al1
    have s1 : W1.heap.size = w.heap.size + 1 := by rw [← hw1]; simp
    have x1 : W1.heap[w.heap.size]? = some (.cells #[.slice none 0 0, .int .i64 0] 24 (0, 0)) := by rw [← hw1]; exact heap_alloc_new _ _
    have al2 : Below W1.heap.size W1 (W1.alloc (.cells #[.int .i64 0, .int .i64 2, .int .i64 0, .int .i64 0] 32)) := (Below.refl _ _).alloc (Nat.le_refl _) _
    have x2 := heap_alloc_new W1 (.cells #[.int .i64 0, .int .i64 2, .int .i64 0, .int .i64 0] 32)
    rw [s1] at x2
    generalize hw2 : W1.alloc (.cells #[.int .i64 0, .int .i64 2, .int .i64 0, .int .i64 0] 32) = W2 at *
    have s2 : W2.heap.size = w.heap.size + 1 + 1 := by rw [← hw2]; simp [s1]
    have al3 : Below W2.heap.size W2 (W2.alloc (.cells #[.slice (some ⟨w.heap.size + 1, 0, none⟩) 1 1, .int .i64 0] 24)) := (Below.refl _ _).alloc (Nat.le_refl _) _
    have x3 := heap_alloc_new W2 (.cells #[.slice (some ⟨w.heap.size + 1, 0, none⟩) 1 1, .int .i64 0] 24)
    rw [s2] at x3
    refine ⟨0, Nat.zero_le _, by omega, rfl, (al1.trans (al2.mono al1.size)).alloc (by rw [s2]; omega) _, some ⟨w.heap.size + 1, 0, none⟩, 1, 1, ?_⟩
    show Aside _
    refine ⟨keep al3 (keep al2 x1), x3, ?_⟩
    exact (OwE.one (W := W2) (x := (⟨0, 2, 0, 0⟩ : Bk)) encL x2 (by omega)).below al3
  case round =>
    obtain ⟨kk, hkk, hg, rfl, hB, A, n, c, HA⟩ := hrel
    obtain ⟨h4, h6, hO⟩ := HA.out
    have hBs := hB.size
    have HO := Lib.hid hO
    have H6 := Lib.hid h6
    have H4 := Lib.hid h4
    clear HA hO h4
    go_upto_region 3 with fail
    go_cut [18] from 11 to 33 (fun s18 wx => s18 = .bool (decide (kk < min nr 7)) ∧ wx = wr)
    case first =>
      by_cases hlt1 : (kk : Int) < (nr : Int)
      · by_cases hlt2 : (kk : Int) < 7
        · go_wp2_with fail
          go_meet
          exact ⟨by simp; omega, rfl⟩
        · go_wp2_with fail
          go_meet
          exact ⟨by simp; omega, rfl⟩
      · go_wp2_with fail
        go_meet
        exact ⟨by simp; omega, rfl⟩
    obtain ⟨rfl, hwx⟩ := hcut
    subst wc
    by_cases hlt : kk < min nr 7
    · have hlt1 : (kk : Int) < (nr : Int) := by omega
      have hlt2 : (kk : Int) < 7 := by omega
      obtain ⟨bl, ol, rfl, hbl, hlc⟩ := HR.out.get (by omega)
      have hkl : kk < rooms.length := by omega
      have hc := (hB.cell (p := ⟨bl, ol + kk, none⟩) hbl).trans (hlc kk _ (u8s_at hkl))
      have hnx := startS_succ hkl
      have hx8 := h7 rooms[kk] (List.getElem_mem hkl)
      generalize rooms[kk] = x at hc hnx hx8
      have HNX := Lib.hid hnx
      clear hnx hlc
      obtain ⟨r, hr⟩ : ∃ r, x % 8 = r := ⟨_, rfl⟩
      have hq : (x : Int) % 8 = (r : Int) := by omega
      have hr8 : r < 8 := by omega
      have hrb : roomB x = ⟨0, 1 + r, 0, 0⟩ := by rw [← hr]; rfl
      have HRB := Lib.hid hrb
      have HNB := Lib.hid hr
      clear hrb hr
      have z0 := box_at h6 0 _ rfl
      have zf := box_free h6
      clear h6
      go_wp2_with fail
      have htm : (x : Int).tmod 8 = (r : Int) := by rw [Int.tmod_eq_emod_of_nonneg (by omega)]; exact hq
      have hwa : IntKind.i64.wrap (x : Int) = (x : Int) := by rw [IntKind.wrap_i64]; omega
      have hwb : IntKind.i64.wrap (1 + (r : Int)) = 1 + (r : Int) := by rw [IntKind.wrap_i64]; omega
      have hd : Below wr.heap.size wr wr.drew := below_drew (Below.refl _ _)
      have l6 := (Array.getElem?_eq_some_iff.1 H6.out).1
      have z0a : ((wr.alloc (.cells #[.int .i64 0, .int .i64 (1 + r), .int .i64 0, .int .i64 0] 32)).drew).cell? ⟨w.heap.size + 1 + 1, 0, none⟩ = some (.slice A n c) := (Below.cell (below_drew ((Below.refl _ _).alloc (Nat.le_refl _) _)) (p := ⟨w.heap.size + 1 + 1, 0, none⟩) l6).trans z0
      go_region_law (refine wp_app_stepE w.heap.size rfl _ _ 22 32 (.agg #[.int .i64 0, .int .i64 0, .int .i64 0, .int .i64 0]) 32 rfl Try.underlying22 Try.info32 rfl (by omega) (by omega) (.slice A n c) (.slice (some ⟨wr.heap.size, 0, none⟩) 1 1) _ [(⟨0, 1 + r, 0, 0⟩ : Bk)] (by rfl) (by rfl) ((HO.out.below hd).below ((Below.refl _ _).alloc (Nat.le_refl _) _)) (rd_boxE wr.drew (⟨0, 1 + r, 0, 0⟩ : Bk) 32) enc1 (by have := HO.out.rd.len; simp at this ⊢; omega) (by simp; omega) ?_; intro v1 w4 hv1 hg1 hat1; obtain ⟨A5, n5, c5, rfl⟩ := hv1.slice'; have h6' := app_staysE (by decide) (keep hd H6.out) (HO.out.below hd) hg1; have h4' := Lib.hid (app_staysE (by decide) (keep hd H4.out) (HO.out.below hd) hg1); have HV := Lib.hid hv1; have hB4 := Lib.hid ((below_drew hB).alloc (by simp; omega) _ |>.grown hg1 (by simp; omega) (fun k hk => HO.out.lo k hk)); clear z0 zf hv1 hg1 hat1; have z0 := box_at h6' 0 _ rfl; have zf := box_free h6'; have H6' := Lib.hid h6'; clear h6')
      all_goals
        go_wp2_with fail
        go_roundg (min nr 7 - (kk + 1))
        case measure => omega
        case rel =>
          refine ⟨kk + 1, by omega, by omega, by simp, hB4.out.setCell (by simp; omega) _, A5, n5, c5, ?_⟩
          show Aside _
          refine ⟨?_, ?_, ?_⟩
          · rw [Below.heap_setCell _ _ _ _ (by simp; omega)]
            exact h4'.out
          · rw [heap_set H6'.out _ (o := 0)]
            rfl
          · rw [HNX.out, HRB.out]
            refine HV.out.far (fun k hk => ?_) _
            obtain ⟨cur, hcur⟩ := HV.out.typed k hk
            exact blocks_ne (by decide) hcur H6'.out
    · have hkm : kk = min nr 7 := by omega
      have hfin : (⟨0, 2, 0, 0⟩ :: (rooms.take kk).map roomB : List Bk) = startS rooms := by
        rw [hkm, ← lr, take_min]
        rfl
      have hO := HO.out
      rw [hfin] at hO
      have HO := Lib.hid hO
      have hlt0 : decide (kk < min nr 7) = false := by simp; omega
      rw [hlt0]
      clear hO hfin hg hkm hlt0 hlt hkk
      have z0 := box_at h6 0 _ rfl
      have z1 := box_at h6 1 _ rfl
      have zf := box_free h6
      clear h6
      go_upto_region 6 with fail
      have hB0 := hB
      have HB0 := Lib.hid hB0
      have X1 := Lib.hid H4.out
      have X2 := Lib.hid H6.out
      have hlr := (startS_len rooms).2
      clear hB0
      go_wp2_with fail
      go_loopg [7] (min nl 40) (fun gg s7 wx => ∃ kk : Nat, kk ≤ min nl 40 ∧ min nl 40 - kk ≤ gg ∧ s7 = .int .i64 kk ∧ Below w.heap.size w wx ∧ ∃ A n c y,
        Aside (wx.heap[w.heap.size]? = some (.cells #[.slice none 0 0, .int .i64 0] 24 (0, 0)) ∧ wx.heap[w.heap.size + 1 + 1]? = some (.cells #[.slice A n c, .int .i64 y] 24 (0, 0)) ∧
          OwE enc 4 32 wx w.heap.size (.slice A n c) ((l.take kk).foldl stepM (startS rooms, 0)).1 ∧ y = ((l.take kk).foldl stepM (startS rooms, 0)).2))
      case atStart =>
        refine ⟨0, Nat.zero_le _, by omega, rfl, HB0.out, A, n, c, 0, ?_⟩
        show Aside _
        exact ⟨X1.out, X2.out, HO.out, rfl⟩
      case round =>
        obtain ⟨kx, hkx, hgx, rfl, hBx, A, n, c, y, HA⟩ := hrel
        obtain ⟨h4, h6, hO, hy⟩ := HA.out
        have hBs := hBx.size
        have hok : ((l.take kx).foldl stepM (startS rooms, 0)).1.length ≤ 8 := by rw [foldM_len]; exact hlr
        have hok1 : 1 ≤ ((l.take kx).foldl stepM (startS rooms, 0)).1.length := by rw [foldM_len]; exact (startS_len rooms).1
        generalize hst : (l.take kx).foldl stepM (startS rooms, 0) = st at *
        obtain ⟨bs, nx⟩ := st
        simp only at hy hO hok hok1
        subst hy
        have lbs := hO.rd.len
        have HO := Lib.hid hO
        have H6 := Lib.hid h6
        have H4 := Lib.hid h4
        have HB0 := Lib.hid hB
        clear HA hO h4 X1 X2 hB
        go_upto_region 7 with fail
        go_cut [41] from 34 to 85 (fun s41 wc => s41 = .bool (decide (kx < min nl 40)) ∧ wc = wr)
        case first =>
          by_cases hlt1 : (kx : Int) < (nl : Int)
          · by_cases hlt2 : (kx : Int) < 40
            · go_wp2_with fail
              go_meet
              exact ⟨by simp; omega, rfl⟩
            · go_wp2_with fail
              go_meet
              exact ⟨by simp; omega, rfl⟩
          · go_wp2_with fail
            go_meet
            exact ⟨by simp; omega, rfl⟩
        obtain ⟨rfl, hwc⟩ := hcut
        subst wc
        by_cases hlt : kx < min nl 40
        · have hlt0 : decide (kx < min nl 40) = true := by simp [hlt]
          rw [hlt0]
          have hlt1 : (kx : Int) < (nl : Int) := by omega
          obtain ⟨bl, ol, rfl, hbl, hlc⟩ := HL.out.get (by omega)
          have hkl : kx < l.length := by omega
          have hc := (hBx.cell (p := ⟨bl, ol + kx, none⟩) hbl).trans (hlc kx _ (u8s_at hkl))
          have hnx : (l.take (kx + 1)).foldl stepM (startS rooms, 0) = stepM (bs, y) l[kx] := by rw [runM_succ hkl, hst]
          have hx8 := h8 l[kx] (List.getElem_mem hkl)
          generalize l[kx] = x at hc hnx hx8
          have HNX := Lib.hid hnx
          clear hnx hlc hst
          have z0 := box_at h6 0 _ rfl
          have z1 := box_at h6 1 _ rfl
          have zf := box_free h6
          clear h6
          by_cases hx2 : x % 2 = 0
          · have hx2' : ((x : Int) % 2 == 0) = true := by simp; omega
            obtain ⟨ro, hro⟩ : ∃ r, openS bs y = r := ⟨_, rfl⟩
            have hst1 : stepM (bs, y) x = (ro.bs, ro.nx) := by unfold stepM; rw [if_pos hx2, ← hro]
            have HRO := Lib.hid hro
            have HST := Lib.hid hst1
            clear hro hst1
            go_wp2_with fail
            refine (ropen_any _ A n c y bs HO.out.rd (by omega)).mono ?_
            rw [HRO.out]
            rintro e w2 ⟨B1, m1, d1, rfl, hO2, hb2⟩
            have hB2 := Lib.hid (hBx.trans (hb2.mono hBs))
            have H4' := Lib.hid (keep hb2 H4.out)
            have h6' := keep hb2 H6.out
            have HO2 := Lib.hid (hO2.lower hBs)
            have HS2 := Lib.hid hb2.size
            clear hb2 hO2 z0 z1 zf
            have z0 := box_at h6' 0 _ rfl
            have z1 := box_at h6' 1 _ rfl
            have zf := box_free h6'
            have H6' := Lib.hid h6'
            clear h6'
            go_wp2_with fail
            go_roundg (min nl 40 - (kx + 1))
            case measure => omega
            case rel =>
              obtain ⟨k1, k2, k3, k4, k5⟩ := step_box (nx := .int .i64 ro.nx) hB2.out H4'.out H6'.out (by omega) HO2.out
              refine ⟨kx + 1, by omega, by omega, by simp, k1, B1, m1, d1, ro.nx, ?_⟩
              show Aside _
              rw [HNX.out, HST.out]
              exact ⟨k2, k3, k4, rfl⟩
          · have hx2' : ((x : Int) % 2 == 0) = false := by simp; omega
            obtain ⟨d8, hd8⟩ : ∃ d, x / 8 = d := ⟨_, rfl⟩
            obtain ⟨d4, hd4⟩ : ∃ d, x / 4 = d := ⟨_, rfl⟩
            obtain ⟨d2, hd2⟩ : ∃ d, x / 2 = d := ⟨_, rfl⟩
            obtain ⟨kq, hkq⟩ : ∃ kq, d8 % n = kq := ⟨_, rfl⟩
            obtain ⟨m4, hm4⟩ : ∃ d, d4 % 2 = d := ⟨_, rfl⟩
            obtain ⟨m2, hm2⟩ : ∃ d, d2 % 2 = d := ⟨_, rfl⟩
            have t8 : (x : Int).tdiv 8 = (d8 : Int) := by rw [Int.tdiv_eq_ediv_of_nonneg (by omega)]; omega
            have t4 : (x : Int).tdiv 4 = (d4 : Int) := by rw [Int.tdiv_eq_ediv_of_nonneg (by omega)]; omega
            have t2 : (x : Int).tdiv 2 = (d2 : Int) := by rw [Int.tdiv_eq_ediv_of_nonneg (by omega)]; omega
            have r8 : (d8 : Int).tmod (n : Int) = (kq : Int) := by rw [Int.tmod_eq_emod_of_nonneg (by omega), ← hkq]; simp
            have r4 : (d4 : Int).tmod 2 = (m4 : Int) := by rw [Int.tmod_eq_emod_of_nonneg (by omega)]; omega
            have r2 : (d2 : Int).tmod 2 = (m2 : Int) := by rw [Int.tmod_eq_emod_of_nonneg (by omega)]; omega
            have wx : IntKind.i64.wrap (x : Int) = (x : Int) := by rw [IntKind.wrap_i64]; omega
            have w8 : IntKind.i64.wrap (d8 : Int) = (d8 : Int) := by rw [IntKind.wrap_i64]; omega
            have w4 : IntKind.u8.wrap (d4 : Int) = (d4 : Int) := by simp [IntKind.wrap, IntKind.bits, IntKind.signed]; omega
            have w2 : IntKind.u8.wrap (d2 : Int) = (d2 : Int) := by simp [IntKind.wrap, IntKind.bits, IntKind.signed]; omega
            have wm4 : IntKind.u8.wrap (m4 : Int) = (m4 : Int) := by simp [IntKind.wrap, IntKind.bits, IntKind.signed]; omega
            have wm2 : IntKind.u8.wrap (m2 : Int) = (m2 : Int) := by simp [IntKind.wrap, IntKind.bits, IntKind.signed]; omega
            have hkn : kq < n := by rw [← hkq]; exact Nat.mod_lt _ (by omega)
            have wkq : IntKind.i64.wrap (kq : Int) = (kq : Int) := by rw [IntKind.wrap_i64]; omega
            have hn0 : ¬ n = 0 := by omega
            obtain ⟨sb, hsb⟩ : ∃ b, decide (x / 2 % 2 = 0) = b := ⟨_, rfl⟩
            obtain ⟨fb, hfb⟩ : ∃ b, decide (x / 4 % 2 = 0) = b := ⟨_, rfl⟩
            have hsb' : ((m2 : Int) == 0) = sb := by rw [← hsb, Bool.eq_iff_iff]; simp; omega
            have hfb' : ((m4 : Int) == 0) = fb := by rw [← hfb, Bool.eq_iff_iff]; simp; omega
            obtain ⟨rc, hrc⟩ : ∃ r, closeS bs y (kq : Int) sb fb = r := ⟨_, rfl⟩
            have hst1 : stepM (bs, y) x = (rc.bs, rc.nx) := by unfold stepM; rw [if_neg hx2]; simp only [lbs, hd8, hkq, hsb, hfb, hrc]
            have HRC := Lib.hid hrc
            have HST := Lib.hid hst1
            clear hrc hst1 hsb hfb hkq hd8 hd4 hd2 hm4 hm2 hkn
            go_upto_region 11 with fail
            refine wp_region_head_tail 25 5 #[true, true, true, true, true, true, true, true, true, true, true, true, true, true, true, true, true, true, true, true, true, true, true, true, true, false, false, false, false, false] rfl (by kernel_rfl) (by kernel_rfl) ?_
            simp only [List.take_succ_cons, List.take_zero]
            repeat still_step
            try refine wpStill_nil ?_
            refine wpAnyH_ready (rs := [25]) (by kernel_rfl) (by simp) ?_
            refine AllReadyH.cons (o := _) rfl (fun K hK => ?_) AllReadyH.nil
            go_simp
            (go_at_call 18; refine (rclose_any _ A n c y bs kq sb fb (HO.out.rd.below (below_drew (Below.refl _ _))) (by omega)).mono ?_; rw [HRC.out]; rintro e w2 ⟨B1, m1, d1, rfl, hO2, hb2⟩; have hB2 := Lib.hid ((below_drew hBx).trans (hb2.mono hBs)); have hd : Below wr.heap.size wr w2 := (below_drew (Below.refl _ _)).trans hb2; have H4' := Lib.hid (keep hd H4.out); have h6' := keep hd H6.out; have HO2 := Lib.hid (hO2.lower (base' := w.heap.size) hBs); clear hb2 hO2 hd z0 z1 zf; have z0 := box_at h6' 0 _ rfl; have z1 := box_at h6' 1 _ rfl; have zf := box_free h6'; have H6' := Lib.hid h6'; clear h6')
            go_wp2_with fail
            refine hK.out _ _ trivial (fun hHeld => ?_)
            clear hK K
            simp only [List.getElem_toArray, List.getElem_cons_succ, List.getElem_cons_zero, Act.put, List.setIfInBounds_toArray, List.set_cons_zero, List.set_cons_succ]
            refine wpAnyH_take (i := 26) (oi := _) (v := ?v26) rfl (by kernel_rfl) (by kernel_rfl) (by kernel_rfl) (fun _ _ _ h => h) (Or.inl ⟨by kernel_rfl, ?y26⟩) trivial ?r26
            case y26 => (intro w hSw; go_simp; try (with_reducible rfl))
            case r26 =>
              simp only [List.getElem_toArray, List.getElem_cons_succ, List.getElem_cons_zero, Act.put, List.setIfInBounds_toArray, List.set_cons_zero, List.set_cons_succ]
              refine wpAnyH_take (i := 27) (oi := _) (v := ?v27) rfl (by kernel_rfl) (by kernel_rfl) (by kernel_rfl) (fun _ _ _ h => h) (Or.inl ⟨by kernel_rfl, ?y27⟩) trivial ?r27
              case y27 => (intro w hSw; go_simp; try (with_reducible rfl))
              case r27 =>
                simp only [List.getElem_toArray, List.getElem_cons_succ, List.getElem_cons_zero, Act.put, List.setIfInBounds_toArray, List.set_cons_zero, List.set_cons_succ]
                refine wpAnyH_take (i := 28) (oi := _) (v := ?v28) rfl (by kernel_rfl) (by kernel_rfl) (by kernel_rfl) (fun _ _ _ h => h) (Or.inl ⟨by kernel_rfl, ?y28⟩) trivial ?r28
                case y28 => (intro w hSw; go_simp; try (with_reducible rfl))
                case r28 =>
                  simp only [List.getElem_toArray, List.getElem_cons_succ, List.getElem_cons_zero, Act.put, List.setIfInBounds_toArray, List.set_cons_zero, List.set_cons_succ]
                  refine wpAnyH_ready (rs := [29]) (by kernel_rfl) (by simp) ?_
                  refine AllReadyH.cons (o := _) rfl (fun K hK => ?_) AllReadyH.nil
                  go_simp
                  refine hK.out _ _ trivial (fun hHeld => ?_)
                  clear hK K
                  simp only [List.getElem_toArray, List.getElem_cons_succ, List.getElem_cons_zero, Act.put, List.setIfInBounds_toArray, List.set_cons_zero, List.set_cons_succ]
                  refine wpAnyH_done (by kernel_rfl) ?_ _
                  go_wp2_with fail
                  go_roundg (min nl 40 - (kx + 1))
                  case measure => omega
                  case rel =>
                    obtain ⟨k1, k2, k3, k4, k5⟩ := step_box (nx := .int .i64 rc.nx) hB2.out H4'.out H6'.out (by omega) HO2.out
                    refine ⟨kx + 1, by omega, by omega, by simp, k1, B1, m1, d1, rc.nx, ?_⟩
                    show Aside _
                    rw [HNX.out, HST.out]
                    exact ⟨k2, k3, k4, rfl⟩
        · have hkm : kx = min nl 40 := by omega
          have hfin : madeS rooms l = (bs, y) := by
            unfold madeS
            rw [← hst, hkm, ← ll, take_min]
          have hlt0 : decide (kx < min nl 40) = false := by simp; omega
          rw [hlt0]
          clear hkm hlt hlt0 hkx hgx
          have HF := Lib.hid hfin
          have z0 := box_at h6 0 _ rfl
          have z1 := box_at h6 1 _ rfl
          have r0 := box_at H4.out 0 _ rfl
          have r1 := box_at H4.out 1 _ rfl
          have rf := box_free H4.out
          clear hfin h6 hst
          go_wp2_with fail
          have nb : ∀ k, (Value.slice A n c).ownBlock = some k → k ≠ w.heap.size := by
            intro k hk
            obtain ⟨cur, hcur⟩ := HO.out.typed k hk
            exact blocks_ne (by decide) hcur H4.out
          refine bodyPost_ret (v := .agg #[.slice A n c, .int .i64 y]) (by simp [results, Try.results10, go_sem, r0, r1]) rfl ?_
          rw [HF.out]
          exact ⟨A, n, c, rfl, (HO.out.far nb _).far nb _, (hBx.setCell (by simp) _).setCell (by simp) _⟩
end Go.Proofs.Ytjomenldmojnjaa
