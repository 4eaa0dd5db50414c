/- lockagelaw04.Made. -/
import Derived.Test.YtnlgmfkgpaampaaAI
import Derived.Test.YtnlgmfkgpaampaaST
set_option linter.unusedVariables false
set_option linter.unusedSimpArgs false
namespace Go.Proofs.Ytnlgmfkgpaampaa
open Go.RowKit
open Go.Proofs.YtnlgmfkgpaampaaW.PrintWords

def MadeW (w : World) (s : Int × (Nat → List Tm)) (e : Ending) (w' : World) : Prop :=
  ∃ A n c, e = .returned (.agg #[.int .i64 s.1, .slice (A 0) (n 0) (c 0), .slice (A 1) (n 1) (c 1), .slice (A 2) (n 2) (c 2), .slice (A 3) (n 3) (c 3), .slice (A 4) (n 4) (c 4), .slice (A 5) (n 5) (c 5), .slice (A 6) (n 6) (c 6), .slice (A 7) (n 7) (c 7)]) ∧ WhO w' w.heap.size A n c s.2 ∧ Below w.heap.size w w'
structure Mk (w W : World) (nw : Int) (A : Nat → Option Addr) (n c : Nat → Nat) (ts : Nat → List Tm) : Prop where
  x2 : W.heap[w.heap.size]? = some (.cells #[.int .i64 0, .slice none 0 0, .slice none 0 0, .slice none 0 0, .slice none 0 0, .slice none 0 0, .slice none 0 0, .slice none 0 0, .slice none 0 0] 25 (0, 0))
  x3 : BoxW W (w.heap.size + 1) nw (fun i => .slice (A i) (n i) (c i))
  o : WhO W w.heap.size A n c ts
  bw : Below w.heap.size w W
theorem Mk.next {w W w2 : World} {nw mw : Int} {A B : Nat → Option Addr} {n c m d : Nat → Nat} {ts us : Nat → List Tm} (h : Mk w W nw A n c ts) (hO : WhO w2 W.heap.size B m d us) (hb : Below W.heap.size W w2) :
    Mk w (((((((((w2.setCell ⟨w.heap.size + 1, 0, none⟩ (.int .i64 mw)).setCell ⟨w.heap.size + 1, 1, none⟩ (.slice (B 0) (m 0) (d 0))).setCell ⟨w.heap.size + 1, 2, none⟩ (.slice (B 1) (m 1) (d 1))).setCell ⟨w.heap.size + 1, 3, none⟩ (.slice (B 2) (m 2) (d 2))).setCell ⟨w.heap.size + 1, 4, none⟩ (.slice (B 3) (m 3) (d 3))).setCell ⟨w.heap.size + 1, 5, none⟩ (.slice (B 4) (m 4) (d 4))).setCell ⟨w.heap.size + 1, 6, none⟩ (.slice (B 5) (m 5) (d 5))).setCell ⟨w.heap.size + 1, 7, none⟩ (.slice (B 6) (m 6) (d 6))).setCell ⟨w.heap.size + 1, 8, none⟩ (.slice (B 7) (m 7) (d 7))) mw B m d us := by
  refine ⟨?_, (h.x3.below hb).sets, WhO.sets (h.x3.below hb) (hO.lower h.bw.size), ?_⟩
  · rw [Below.heap_setCell _ _ _ _ (by simp), Below.heap_setCell _ _ _ _ (by simp), Below.heap_setCell _ _ _ _ (by simp), Below.heap_setCell _ _ _ _ (by simp), Below.heap_setCell _ _ _ _ (by simp), Below.heap_setCell _ _ _ _ (by simp), Below.heap_setCell _ _ _ _ (by simp), Below.heap_setCell _ _ _ _ (by simp), Below.heap_setCell _ _ _ _ (by simp)]
    exact keep hb h.x2
  · exact (((((((((h.bw.trans (hb.mono h.bw.size)).setCell (by simp) _).setCell (by simp) _).setCell (by simp) _).setCell (by simp) _).setCell (by simp) _).setCell (by simp) _).setCell (by simp) _).setCell (by simp) _).setCell (by simp) _

set_option maxHeartbeats 16000000 in
theorem made_any (w : World) (Al : Option Addr) (nl cl : Nat) (l : List Nat) (hl : Rd w (.slice Al nl cl) (u8s l)) (h8 : ∀ x ∈ l, x < 256) :
    Calls Try.prog 10 #[.slice Al nl cl] w (MadeW w (madeW l)) := by
  have ll := hl.len
  rw [u8s_len] at ll
  have hlm : l.length ≤ 9223372036854775807 := by obtain ⟨_, _, _, _, hm, _⟩ := hl; rwa [u8s_len] at hm
  have HL := Lib.hid hl
  clear hl
  have hal1 : Below w.heap.size w (w.alloc (.cells #[.int .i64 0, .slice none 0 0, .slice none 0 0, .slice none 0 0, .slice none 0 0, .slice none 0 0, .slice none 0 0, .slice none 0 0, .slice none 0 0] 25)) := (Below.refl _ _).alloc (Nat.le_refl _) _
  have x1 := heap_alloc_new w (.cells #[.int .i64 0, .slice none 0 0, .slice none 0 0, .slice none 0 0, .slice none 0 0, .slice none 0 0, .slice none 0 0, .slice none 0 0, .slice none 0 0] 25)
  generalize hV1 : w.alloc (.cells #[.int .i64 0, .slice none 0 0, .slice none 0 0, .slice none 0 0, .slice none 0 0, .slice none 0 0, .slice none 0 0, .slice none 0 0, .slice none 0 0] 25) = V1 at hal1 x1
  have s1 : V1.heap.size = w.heap.size + 1 := by rw [← hV1]; simp
  have hal2 : Below V1.heap.size V1 (V1.alloc (.cells #[.int .i64 0, .slice none 0 0, .slice none 0 0, .slice none 0 0, .slice none 0 0, .slice none 0 0, .slice none 0 0, .slice none 0 0, .slice none 0 0] 25)) := (Below.refl _ _).alloc (Nat.le_refl _) _
  have hb2 := BoxW.alloc V1 0 (fun i => .slice ((fun _ => none : Nat → Option Addr) i) ((fun _ => 0 : Nat → Nat) i) ((fun _ => 0 : Nat → Nat) i))
  rw [s1] at hb2
  have HM0 := Lib.hid (show Mk w (V1.alloc (.cells #[.int .i64 0, .slice none 0 0, .slice none 0 0, .slice none 0 0, .slice none 0 0, .slice none 0 0, .slice none 0 0, .slice none 0 0, .slice none 0 0] 25)) 0 (fun _ => none) (fun _ => 0) (fun _ => 0) (fun _ => []) from
    ⟨keep hal2 x1, hb2, ⟨fun i hi => OwE.nil tencL _ _ _, fun i j _ _ _ k hk => by simp [Value.ownBlock] at hk⟩, hal1.trans (hal2.mono hal1.size)⟩)
  clear hal1 x1 hal2 hb2 s1
  rw [← hV1] at HM0
  clear hV1
  go_enter Try.func10, Try.ntmps10
  go_wp2_with fail
  generalize ((w.alloc (.cells #[.int .i64 0, .slice none 0 0, .slice none 0 0, .slice none 0 0, .slice none 0 0, .slice none 0 0, .slice none 0 0, .slice none 0 0, .slice none 0 0] 25)).alloc (.cells #[.int .i64 0, .slice none 0 0, .slice none 0 0, .slice none 0 0, .slice none 0 0, .slice none 0 0, .slice none 0 0, .slice none 0 0, .slice none 0 0] 25)) = V at *
  go_loopg [4] (min nl 60) (fun gg s4 wr => ∃ kk : Nat, kk ≤ min nl 60 ∧ min nl 60 - kk ≤ gg ∧ s4 = .int .i64 kk ∧ ∃ A n c nw ts, Aside (Mk w wr nw A n c ts ∧ (l.take kk).foldl stepW (0, fun _ => []) = (nw, ts)))
  case atStart =>
    refine ⟨0, by omega, by omega, rfl, fun _ => none, fun _ => 0, fun _ => 0, 0, fun _ => [], ?_⟩
    show Aside _
    exact ⟨HM0.out, rfl⟩
  case round =>
    clear HM0
    obtain ⟨kk, hkk, hg, rfl, A, n, c, nw, ts, HA⟩ := hrel
    have hok := OkW.run (l.take kk) OkW.start
    rw [HA.out.2] at hok
    have htk : (l.take kk).length ≤ 60 := by rw [List.length_take]; omega
    have hnw0 : 0 ≤ nw := hok.n.1
    have hnw6 : nw ≤ 60 := by have := hok.n.2; simp only at this; omega
    have HM := Lib.hid HA.out.1
    have HST := Lib.hid HA.out.2
    have hcnt := cnt_tot HM.out.o.rd
    have htot : tot n 8 ≤ 1000 := by have := hok.c; simp only at this; omega
    clear HA hok htk hcnt
    go_upto_region 3 with fail
    go_cut [12] from 5 to 62 (fun s12 wc => s12 = .bool (decide (kk < min nl 60)) ∧ wc = wr)
    case first =>
      by_cases hlt1 : (kk : Int) < (nl : Int)
      · by_cases hlt2 : (kk : Int) < 60
        · go_wp2_with fail
          go_meet
          exact ⟨by simp; omega, rfl⟩
        · go_wp2_with fail
          go_meet
          exact ⟨by simp; omega, rfl⟩
      · go_wp2_with fail
        go_meet
        exact ⟨by simp; omega, rfl⟩
    obtain ⟨rfl, hwc⟩ := hcut
    subst wc
    by_cases hlt : kk < min nl 60
    · have hlt0 : decide (kk < min nl 60) = true := by simp [hlt]
      rw [hlt0]
      have hlt1 : (kk : Int) < (nl : Int) := by omega
      obtain ⟨bl, ol, rfl, hbl, hlc⟩ := HL.out.get (by omega)
      have hkl : kk < l.length := by omega
      have hc := (HM.out.bw.cell (p := ⟨bl, ol + kk, none⟩) hbl).trans (hlc kk _ (u8s_at hkl))
      have hx8 := h8 l[kk] (List.getElem_mem hkl)
      have hnx : (l.take (kk + 1)).foldl stepW (0, fun _ => []) = stepW (nw, ts) l[kk] := by rw [runW_succ hkl, HST.out]
      generalize l[kk] = x at hc hx8 hnx
      have HNX := Lib.hid hnx
      clear hnx hlc
      have z0 : wr.cell? ⟨w.heap.size + 1, 0, none⟩ = some (.int .i64 nw) := HM.out.x3.now
      have z1 : wr.cell? ⟨w.heap.size + 1, 1, none⟩ = some (.slice (A 0) (n 0) (c 0)) := HM.out.x3.slot (show 0 < 8 by omega)
      have z2 : wr.cell? ⟨w.heap.size + 1, 2, none⟩ = some (.slice (A 1) (n 1) (c 1)) := HM.out.x3.slot (show 1 < 8 by omega)
      have z3 : wr.cell? ⟨w.heap.size + 1, 3, none⟩ = some (.slice (A 2) (n 2) (c 2)) := HM.out.x3.slot (show 2 < 8 by omega)
      have z4 : wr.cell? ⟨w.heap.size + 1, 4, none⟩ = some (.slice (A 3) (n 3) (c 3)) := HM.out.x3.slot (show 3 < 8 by omega)
      have z5 : wr.cell? ⟨w.heap.size + 1, 5, none⟩ = some (.slice (A 4) (n 4) (c 4)) := HM.out.x3.slot (show 4 < 8 by omega)
      have z6 : wr.cell? ⟨w.heap.size + 1, 6, none⟩ = some (.slice (A 5) (n 5) (c 5)) := HM.out.x3.slot (show 5 < 8 by omega)
      have z7 : wr.cell? ⟨w.heap.size + 1, 7, none⟩ = some (.slice (A 6) (n 6) (c 6)) := HM.out.x3.slot (show 6 < 8 by omega)
      have z8 : wr.cell? ⟨w.heap.size + 1, 8, none⟩ = some (.slice (A 7) (n 7) (c 7)) := HM.out.x3.slot (show 7 < 8 by omega)
      have zf := HM.out.x3.free
      by_cases h0 : x % 4 = 0
      · have hq : (x : Int) % 4 = 0 := by omega
        have hst : stepW (nw, ts) x = (tickN nw ts, tickT nw ts) := by unfold stepW; rw [if_pos h0]
        have HS := Lib.hid hst
        clear hst h0
        obtain ⟨tw, htw⟩ : ∃ t, tickN nw ts = t := ⟨_, rfl⟩
        have HTW := Lib.hid htw
        go_wp2_with (go_at_call 17; refine (rtick_any wr nw A n c ts HM.out.o.rd htot).mono ?_; unfold TickPost; rw [htw]; rintro e w2 ⟨B, m, d, F, fn, fc, rfl, hO, hF, hb⟩; have HN := Lib.hid (HM.out.next (mw := tw) hO hb); have HB2 := Lib.hid (HM.out.x3.below hb); clear hO hF hb htw z0 z1 z2 z3 z4 z5 z6 z7 z8 zf; have z0 := HB2.out.now; have z1 := HB2.out.slot (show 0 < 8 by omega); have z2 := HB2.out.slot (show 1 < 8 by omega); have z3 := HB2.out.slot (show 2 < 8 by omega); have z4 := HB2.out.slot (show 3 < 8 by omega); have z5 := HB2.out.slot (show 4 < 8 by omega); have z6 := HB2.out.slot (show 5 < 8 by omega); have z7 := HB2.out.slot (show 6 < 8 by omega); have z8 := HB2.out.slot (show 7 < 8 by omega); have zf := HB2.out.free)
        clear z0 z1 z2 z3 z4 z5 z6 z7 z8 zf
        go_roundg (min nl 60 - (kk + 1))
        case measure => omega
        case rel =>
          refine ⟨kk + 1, by omega, by omega, by simp, B, m, d, tw, tickT nw ts, ?_⟩
          show Aside _
          rw [HNX.out, HS.out, HTW.out]
          exact ⟨HN.out, rfl⟩
      have hd : Below wr.heap.size wr wr.drew := below_drew (Below.refl _ _)
      obtain ⟨d4, hd4⟩ : ∃ q, x / 4 = q := ⟨_, rfl⟩
      obtain ⟨kq, hkq⟩ : ∃ q, d4 % 8 = q := ⟨_, rfl⟩
      have t4 : (x : Int).tdiv 4 = (d4 : Int) := by rw [Int.tdiv_eq_ediv_of_nonneg (by omega)]; omega
      have t8 : (d4 : Int).tmod 8 = (kq : Int) := by rw [Int.tmod_eq_emod_of_nonneg (by omega)]; omega
      have wx : IntKind.i64.wrap (x : Int) = (x : Int) := by rw [IntKind.wrap_i64]; omega
      have w4 : IntKind.i64.wrap (d4 : Int) = (d4 : Int) := by rw [IntKind.wrap_i64]; omega
      have wk : IntKind.i64.wrap (kq : Int) = (kq : Int) := by rw [IntKind.wrap_i64]; omega
      by_cases h1 : x % 4 = 1
      · have hq : (x : Int) % 4 = 1 := by omega
        have hst : stepW (nw, ts) x = (nw, canT nw ts (kq : Int)) := by unfold stepW; rw [if_neg h0, if_pos h1, hd4, hkq]
        have HS := Lib.hid hst
        clear hst h0 h1 hd4 hkq
        go_upto_region 10 with fail
        refine wp_region_head_tail 8 5 #[true, true, true, true, true, true, true, true, false, false, false, false, false] rfl (by kernel_rfl) (by kernel_rfl) ?_
        simp only [List.take_succ_cons, List.take_zero]
        repeat still_step
        try refine wpStill_nil ?_
        refine wpAnyH_ready (rs := [8]) (by kernel_rfl) (by simp) ?_
        refine AllReadyH.cons (o := _) rfl (fun K hK => ?_) AllReadyH.nil
        go_simp
        (go_at_call 16; refine (rcancel_any wr.drew nw A n c ts (kq : Int) (HM.out.o.rd.below hd) htot).mono ?_; unfold WePost; rintro e w2 ⟨B, m, d, rfl, hO, hb⟩; have hb' : Below wr.heap.size wr w2 := hd.trans hb; have HN := Lib.hid (HM.out.next (mw := nw) (hO.lower (base' := wr.heap.size) (Nat.le_refl _)) hb'); have HB2 := Lib.hid (HM.out.x3.below hb'); clear hO hb hb' z0 z1 z2 z3 z4 z5 z6 z7 z8 zf; have z0 := HB2.out.now; have z1 := HB2.out.slot (show 0 < 8 by omega); have z2 := HB2.out.slot (show 1 < 8 by omega); have z3 := HB2.out.slot (show 2 < 8 by omega); have z4 := HB2.out.slot (show 3 < 8 by omega); have z5 := HB2.out.slot (show 4 < 8 by omega); have z6 := HB2.out.slot (show 5 < 8 by omega); have z7 := HB2.out.slot (show 6 < 8 by omega); have z8 := HB2.out.slot (show 7 < 8 by omega); have zf := HB2.out.free)
        go_wp2_with fail
        refine hK.out _ _ trivial (fun hHeld => ?_)
        clear hK K
        simp only [List.getElem_toArray, List.getElem_cons_succ, List.getElem_cons_zero, Act.put, List.setIfInBounds_toArray, List.set_cons_zero, List.set_cons_succ]
        refine wpAnyH_take (i := 9) (oi := _) (v := ?v9t8) rfl (by kernel_rfl) (by kernel_rfl) (by kernel_rfl) (fun _ _ _ h => h) (Or.inl ⟨by kernel_rfl, ?y9t8⟩) trivial ?r9t8
        case y9t8 => (intro w hSw; go_simp; try (with_reducible rfl))
        case r9t8 =>
          simp only [List.getElem_toArray, List.getElem_cons_succ, List.getElem_cons_zero, Act.put, List.setIfInBounds_toArray, List.set_cons_zero, List.set_cons_succ]
          refine wpAnyH_take (i := 10) (oi := _) (v := ?v10t8) rfl (by kernel_rfl) (by kernel_rfl) (by kernel_rfl) (fun _ _ _ h => h) (Or.inl ⟨by kernel_rfl, ?y10t8⟩) trivial ?r10t8
          case y10t8 => (intro w hSw; go_simp; try (with_reducible rfl))
          case r10t8 =>
            simp only [List.getElem_toArray, List.getElem_cons_succ, List.getElem_cons_zero, Act.put, List.setIfInBounds_toArray, List.set_cons_zero, List.set_cons_succ]
            refine wpAnyH_take (i := 11) (oi := _) (v := ?v11t8) rfl (by kernel_rfl) (by kernel_rfl) (by kernel_rfl) (fun _ _ _ h => h) (Or.inl ⟨by kernel_rfl, ?y11t8⟩) trivial ?r11t8
            case y11t8 => (intro w hSw; go_simp; try (with_reducible rfl))
            case r11t8 =>
              simp only [List.getElem_toArray, List.getElem_cons_succ, List.getElem_cons_zero, Act.put, List.setIfInBounds_toArray, List.set_cons_zero, List.set_cons_succ]
              refine wpAnyH_ready (rs := [12]) (by kernel_rfl) (by simp) ?_
              refine AllReadyH.cons (o := _) rfl (fun K hK => ?_) AllReadyH.nil
              go_simp
              refine hK.out _ _ trivial (fun hHeld => ?_)
              clear hK K
              simp only [List.getElem_toArray, List.getElem_cons_succ, List.getElem_cons_zero, Act.put, List.setIfInBounds_toArray, List.set_cons_zero, List.set_cons_succ]
              refine wpAnyH_done (by kernel_rfl) ?_ _
              go_wp2_with fail
              go_roundg (min nl 60 - (kk + 1))
              case measure => omega
              case rel =>
                refine ⟨kk + 1, by omega, by omega, by simp, B, m, d, nw, canT nw ts (kq : Int), ?_⟩
                show Aside _
                rw [HNX.out, HS.out]
                exact ⟨HN.out, rfl⟩
      · obtain ⟨m21, hm21⟩ : ∃ q, x % 21 = q := ⟨_, rfl⟩
        have t21 : (x : Int).tmod 21 = (m21 : Int) := by rw [Int.tmod_eq_emod_of_nonneg (by omega)]; omega
        have wm : IntKind.i64.wrap (m21 : Int) = (m21 : Int) := by rw [IntKind.wrap_i64]; omega
        have wn : IntKind.i64.wrap (nw + (m21 : Int)) = nw + (m21 : Int) := by rw [IntKind.wrap_i64]; omega
        obtain ⟨q4, hq4⟩ : ∃ q, x % 4 = q := ⟨_, rfl⟩
        have hq : (x : Int) % 4 = (q4 : Int) := by omega
        have hne0 : ((q4 : Int) == 0) = false := by rw [beq_eq_false_iff_ne]; omega
        have hne1 : ((q4 : Int) == 1) = false := by rw [beq_eq_false_iff_ne]; omega
        have hst : stepW (nw, ts) x = (nw, setT nw ts (kq : Int) (nw + (m21 : Int))) := by unfold stepW; rw [if_neg h0, if_neg h1, hd4, hkq, hm21]
        have HS := Lib.hid hst
        clear hst h0 h1 hd4 hkq hm21 hq4
        go_upto_region 6 with fail
        refine wp_region_head_tail 17 5 #[true, true, true, true, true, true, true, true, true, true, true, true, true, true, true, true, true, false, false, false, false, false] rfl (by kernel_rfl) (by kernel_rfl) ?_
        simp only [List.take_succ_cons, List.take_zero]
        repeat still_step
        try refine wpStill_nil ?_
        refine wpAnyH_ready (rs := [17]) (by kernel_rfl) (by simp) ?_
        refine AllReadyH.cons (o := _) rfl (fun K hK => ?_) AllReadyH.nil
        go_simp
        (go_at_call 15; refine (rset_any wr.drew nw A n c ts (kq : Int) (nw + (m21 : Int)) (HM.out.o.rd.below hd) htot).mono ?_; unfold WePost; rintro e w2 ⟨B, m, d, rfl, hO, hb⟩; have hb' : Below wr.heap.size wr w2 := hd.trans hb; have HN := Lib.hid (HM.out.next (mw := nw) (hO.lower (base' := wr.heap.size) (Nat.le_refl _)) hb'); have HB2 := Lib.hid (HM.out.x3.below hb'); clear hO hb hb' z0 z1 z2 z3 z4 z5 z6 z7 z8 zf; have z0 := HB2.out.now; have z1 := HB2.out.slot (show 0 < 8 by omega); have z2 := HB2.out.slot (show 1 < 8 by omega); have z3 := HB2.out.slot (show 2 < 8 by omega); have z4 := HB2.out.slot (show 3 < 8 by omega); have z5 := HB2.out.slot (show 4 < 8 by omega); have z6 := HB2.out.slot (show 5 < 8 by omega); have z7 := HB2.out.slot (show 6 < 8 by omega); have z8 := HB2.out.slot (show 7 < 8 by omega); have zf := HB2.out.free)
        go_wp2_with fail
        refine hK.out _ _ trivial (fun hHeld => ?_)
        clear hK K
        simp only [List.getElem_toArray, List.getElem_cons_succ, List.getElem_cons_zero, Act.put, List.setIfInBounds_toArray, List.set_cons_zero, List.set_cons_succ]
        refine wpAnyH_take (i := 18) (oi := _) (v := ?v18t17) rfl (by kernel_rfl) (by kernel_rfl) (by kernel_rfl) (fun _ _ _ h => h) (Or.inl ⟨by kernel_rfl, ?y18t17⟩) trivial ?r18t17
        case y18t17 => (intro w hSw; go_simp; try (with_reducible rfl))
        case r18t17 =>
          simp only [List.getElem_toArray, List.getElem_cons_succ, List.getElem_cons_zero, Act.put, List.setIfInBounds_toArray, List.set_cons_zero, List.set_cons_succ]
          refine wpAnyH_take (i := 19) (oi := _) (v := ?v19t17) rfl (by kernel_rfl) (by kernel_rfl) (by kernel_rfl) (fun _ _ _ h => h) (Or.inl ⟨by kernel_rfl, ?y19t17⟩) trivial ?r19t17
          case y19t17 => (intro w hSw; go_simp; try (with_reducible rfl))
          case r19t17 =>
            simp only [List.getElem_toArray, List.getElem_cons_succ, List.getElem_cons_zero, Act.put, List.setIfInBounds_toArray, List.set_cons_zero, List.set_cons_succ]
            refine wpAnyH_take (i := 20) (oi := _) (v := ?v20t17) rfl (by kernel_rfl) (by kernel_rfl) (by kernel_rfl) (fun _ _ _ h => h) (Or.inl ⟨by kernel_rfl, ?y20t17⟩) trivial ?r20t17
            case y20t17 => (intro w hSw; go_simp; try (with_reducible rfl))
            case r20t17 =>
              simp only [List.getElem_toArray, List.getElem_cons_succ, List.getElem_cons_zero, Act.put, List.setIfInBounds_toArray, List.set_cons_zero, List.set_cons_succ]
              refine wpAnyH_ready (rs := [21]) (by kernel_rfl) (by simp) ?_
              refine AllReadyH.cons (o := _) rfl (fun K hK => ?_) AllReadyH.nil
              go_simp
              refine hK.out _ _ trivial (fun hHeld => ?_)
              clear hK K
              simp only [List.getElem_toArray, List.getElem_cons_succ, List.getElem_cons_zero, Act.put, List.setIfInBounds_toArray, List.set_cons_zero, List.set_cons_succ]
              refine wpAnyH_done (by kernel_rfl) ?_ _
              go_wp2_with fail
              go_roundg (min nl 60 - (kk + 1))
              case measure => omega
              case rel =>
                refine ⟨kk + 1, by omega, by omega, by simp, B, m, d, nw, setT nw ts (kq : Int) (nw + (m21 : Int)), ?_⟩
                show Aside _
                rw [HNX.out, HS.out]
                exact ⟨HN.out, rfl⟩
    · have hkm : kk = min nl 60 := by omega
      have hfin : madeW l = (nw, ts) := by
        unfold madeW
        rw [← HST.out, hkm, ← ll]
        by_cases h : l.length ≤ 60
        · rw [Nat.min_eq_left h, List.take_of_length_le (by omega), List.take_of_length_le (by omega)]
        · rw [Nat.min_eq_right (by omega)]
      have hlt0 : decide (kk < min nl 60) = false := by simp; omega
      rw [hlt0]
      clear hkm hlt hlt0 hkk hg
      have HF := Lib.hid hfin
      clear hfin
      have z0 : wr.cell? ⟨w.heap.size + 1, 0, none⟩ = some (.int .i64 nw) := HM.out.x3.now
      have z1 : wr.cell? ⟨w.heap.size + 1, 1, none⟩ = some (.slice (A 0) (n 0) (c 0)) := HM.out.x3.slot (show 0 < 8 by omega)
      have z2 : wr.cell? ⟨w.heap.size + 1, 2, none⟩ = some (.slice (A 1) (n 1) (c 1)) := HM.out.x3.slot (show 1 < 8 by omega)
      have z3 : wr.cell? ⟨w.heap.size + 1, 3, none⟩ = some (.slice (A 2) (n 2) (c 2)) := HM.out.x3.slot (show 2 < 8 by omega)
      have z4 : wr.cell? ⟨w.heap.size + 1, 4, none⟩ = some (.slice (A 3) (n 3) (c 3)) := HM.out.x3.slot (show 3 < 8 by omega)
      have z5 : wr.cell? ⟨w.heap.size + 1, 5, none⟩ = some (.slice (A 4) (n 4) (c 4)) := HM.out.x3.slot (show 4 < 8 by omega)
      have z6 : wr.cell? ⟨w.heap.size + 1, 6, none⟩ = some (.slice (A 5) (n 5) (c 5)) := HM.out.x3.slot (show 5 < 8 by omega)
      have z7 : wr.cell? ⟨w.heap.size + 1, 7, none⟩ = some (.slice (A 6) (n 6) (c 6)) := HM.out.x3.slot (show 6 < 8 by omega)
      have z8 : wr.cell? ⟨w.heap.size + 1, 8, none⟩ = some (.slice (A 7) (n 7) (c 7)) := HM.out.x3.slot (show 7 < 8 by omega)
      have r0 := box_at HM.out.x2 0 _ rfl
      have r1 := box_at HM.out.x2 1 _ rfl
      have r2 := box_at HM.out.x2 2 _ rfl
      have r3 := box_at HM.out.x2 3 _ rfl
      have r4 := box_at HM.out.x2 4 _ rfl
      have r5 := box_at HM.out.x2 5 _ rfl
      have r6 := box_at HM.out.x2 6 _ rfl
      have r7 := box_at HM.out.x2 7 _ rfl
      have r8 := box_at HM.out.x2 8 _ rfl
      have rf := box_free HM.out.x2
      go_wp2_with fail
      have nb : ∀ i, i < 8 → ∀ k, (Value.slice (A i) (n i) (c i)).ownBlock = some k → k ≠ w.heap.size := by
        intro i hi k hk
        obtain ⟨cur, hcur⟩ := (HM.out.o.o i hi).typed k hk
        exact blocks_ne (by decide) hcur HM.out.x2
      refine bodyPost_ret (v := .agg #[.int .i64 nw, .slice (A 0) (n 0) (c 0), .slice (A 1) (n 1) (c 1), .slice (A 2) (n 2) (c 2), .slice (A 3) (n 3) (c 3), .slice (A 4) (n 4) (c 4), .slice (A 5) (n 5) (c 5), .slice (A 6) (n 6) (c 6), .slice (A 7) (n 7) (c 7)]) (by simp [results, Try.results10, go_sem, r0, r1, r2, r3, r4, r5, r6, r7, r8]) rfl ?_
      rw [HF.out]
      refine ⟨A, n, c, rfl, ⟨fun i hi => ?_, HM.out.o.ne⟩, ?_⟩
      · exact (((((((((HM.out.o.o i hi).far (nb i hi) _).far (nb i hi) _).far (nb i hi) _).far (nb i hi) _).far (nb i hi) _).far (nb i hi) _).far (nb i hi) _).far (nb i hi) _).far (nb i hi) _
      · exact ((((((((HM.out.bw.setCell (by simp) _).setCell (by simp) _).setCell (by simp) _).setCell (by simp) _).setCell (by simp) _).setCell (by simp) _).setCell (by simp) _).setCell (by simp) _).setCell (by simp) _
end Go.Proofs.Ytnlgmfkgpaampaa
