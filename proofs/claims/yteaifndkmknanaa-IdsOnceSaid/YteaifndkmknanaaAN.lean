/- Contract of lockagelaw02.IdsOnce. -/
import Derived.Test.YteaifndkmknanaaAM
set_option linter.unusedVariables false
set_option linter.unusedSimpArgs false
namespace Go.Proofs.Yteaifndkmknanaa
open Go.RowKit
open Go.Proofs.YteaifndkmknanaaW.PrintWords

theorem made_right {N : Nat} (h1 : 1 ≤ N) (h2 : N ≤ 64) : RightP (made N) := by
  refine ⟨by simp [made]; omega, by simp [made]; omega, by simp [made], ?_, ?_, ?_, ?_⟩
  · rw [List.any_eq_false]
    intro x hx
    simp [made] at hx
    simp [oddS, hx.2]
  · intro x hx
    simp [made] at hx
    obtain ⟨i, hi, rfl⟩ := hx
    simp [freeOk, made, List.getD_eq_getElem?_getD, hi]
  · show ((List.range N).map (fun i : Nat => (i : Int))).Nodup
    rw [List.nodup_iff_pairwise_ne, List.pairwise_map]
    exact List.Pairwise.imp (fun h => by omega) (List.pairwise_lt_range (n := N))
  · intro i hi
    simp [made] at hi
    simp [made, List.getD_eq_getElem?_getD, hi]
    exact ⟨i, hi, rfl⟩
theorem Inv.start {N : Nat} (h1 : 1 ≤ N) (h2 : N ≤ 64) : Inv N 0 (made N) [] [] :=
  ⟨made_right h1 h2, by simp [made], fun i => by by_cases hi : i < N <;> simp [made, List.getD_eq_getElem?_getD, hi], by simp, by simp [made], by simp, by simp⟩
theorem Inv.small {N : Nat} {B : Int} {t : Tab} {all inn : List Int} (h : Inv N B t all inn) : t.small := by
  have h1 := h.right.h2
  have h2 := h.right.h3
  have h3 := h.cnt
  have h4 := h.n
  exact ⟨by omega, by omega, by omega⟩
theorem Inv.more {N : Nat} {B C : Int} {t : Tab} {all inn : List Int} (h : Inv N B t all inn) (hC : B ≤ C) : Inv N C t all inn := ⟨h.right, h.n, fun i => Int.le_trans (h.gen i) hC, h.nodup, h.cnt, h.has, h.old⟩

/-- a new box, and what it holds -/
theorem box_new {N : Nat} {w w2 : World} {vg vb vf : Value} {t : Tab} (hB : Below N w w2) (hN : N ≤ w2.heap.size) (hR : TabR w2 vg vb vf t) :
    Below N w (w2.alloc (.cells #[vg, vb, vf] 25)) ∧ (w2.alloc (.cells #[vg, vb, vf] 25)).heap[w2.heap.size]? = some (.cells #[vg, vb, vf] 25 (0, 0)) ∧ TabR (w2.alloc (.cells #[vg, vb, vf] 25)) vg vb vf t :=
  ⟨hB.alloc hN _, heap_alloc_new w2 (.cells #[vg, vb, vf] 25), hR.below ((Below.refl _ _).alloc (Nat.le_refl _) _)⟩
/-- an older box of one's own, stored into -/
theorem box_old {N : Nat} {w w2 : World} {vg vb vf : Value} {x y z : Value} {t : Tab} (hB : Below N w w2) (hX : w2.heap[N]? = some (.cells #[x, y, z] 25 (0, 0))) (hR : TabR w2 vg vb vf t) (hf : FreshT (N + 1) vg vb vf) :
    Below N w (((w2.setCell ⟨N, 0, none⟩ vg).setCell ⟨N, 1, none⟩ vb).setCell ⟨N, 2, none⟩ vf) ∧
    (((w2.setCell ⟨N, 0, none⟩ vg).setCell ⟨N, 1, none⟩ vb).setCell ⟨N, 2, none⟩ vf).heap[N]? = some (.cells #[vg, vb, vf] 25 (0, 0)) ∧
    TabR (((w2.setCell ⟨N, 0, none⟩ vg).setCell ⟨N, 1, none⟩ vb).setCell ⟨N, 2, none⟩ vf) vg vb vf t ∧ FreshT N vg vb vf :=
  ⟨((hB.setCell (Nat.le_refl _) _).setCell (Nat.le_refl _) _).setCell (Nat.le_refl _) _, box_set3 hX, ((hR.far hf (Nat.lt_succ_self _) _).far hf (Nat.lt_succ_self _) _).far hf (Nat.lt_succ_self _) _,
    fun k hk => Nat.le_of_succ_le (hf.1 k hk), fun k hk => Nat.le_of_succ_le (hf.2.1 k hk), fun k hk => Nat.le_of_succ_le (hf.2.2 k hk)⟩

set_option maxRecDepth 4000 in
set_option maxHeartbeats 4000000 in
theorem idsOnce_any (w : World) (room : Nat) (Al : Option Addr) (nl cl : Nat) (l : List Nat) (hr : room < 256) (hl : Rd w (.slice Al nl cl) (u8s l)) (h8 : ∀ x ∈ l, x < 256) :
    Calls Try.prog 6 #[.int .u8 room, .slice Al nl cl] w fun e w' => e = .returned (.bool true) ∧ Below w.heap.size w w' := by
  have ll := hl.len
  rw [u8s_len] at ll
  have hN : room % 64 < 64 := Nat.mod_lt _ (by omega)
  have hlm : l.length ≤ 9223372036854775807 := by obtain ⟨_, _, _, _, hm, _⟩ := hl; rwa [u8s_len] at hm
  have HL := Lib.hid hl
  clear hl
  go_enter Try.func6, Try.ntmps6
  go_wp2_with fail
  refine (awake_any _).mono ?_
  rintro e w0 ⟨rfl, hB0⟩
  go_wp2_with fail
  refine (new_any _ (1 + (room % 64 : Nat))).mono ?_
  rintro e w1 ⟨A1, n1, c1, A2, n2, c2, A3, n3, c3, rfl, hO1, hb1⟩
  have hB1 := hB0.trans (hb1.mono hB0.size)
  have hnew : newS (1 + (room % 64 : Nat)) = made (1 + room % 64) := by
    unfold newS
    rw [if_neg (by omega)]
    congr 1
  rw [hnew] at hO1
  have HO1 := Lib.hid hO1
  clear hb1 hO1 hnew
  go_wp2_with fail
  go_loopg [7, 8, 9] (min nl 100) (fun gg s7 s8 s9 wr => ∃ kk : Nat, kk ≤ min nl 100 ∧ min nl 100 - kk ≤ gg ∧ s9 = .int .i64 kk ∧ ∃ Aa na ca Ai ni ci, s7 = .slice Aa na ca ∧ s8 = .slice Ai ni ci ∧ ∃ A1 n1 c1 A2 n2 c2 A3 n3 c3 t all inn,
    Aside (Once w wr w1.heap.size (.slice A1 n1 c1) (.slice A2 n2 c2) (.slice A3 n3 c3) (.slice Aa na ca) (.slice Ai ni ci) (1 + room % 64) kk t all inn))
  case atStart =>
    refine ⟨0, Nat.zero_le _, by omega, rfl, none, 0, 0, none, 0, 0, rfl, rfl, A1, n1, c1, A2, n2, c2, A3, n3, c3, made (1 + room % 64), [], [], ?_⟩
    show Aside _
    have al : Below w1.heap.size w1 (w1.alloc (.cells #[.slice A1 n1 c1, .slice A2 n2 c2, .slice A3 n3 c3] 25)) := (Below.refl _ _).alloc (Nat.le_refl _) _
    have no : ∀ (k : Nat), (Value.slice none 0 0).ownBlock = some k → False := fun k hk => by simp [Value.ownBlock] at hk
    exact ⟨⟨hB1.trans (al.mono hB1.size), hB1.size, heap_alloc_new _ _, HO1.out.r.below al, Ow.nil _ _ _, Ow.nil _ _ _, fun k hk => (no k hk).elim, ⟨fun _ k hk => (no k hk).elim, fun _ k hk => (no k hk).elim, fun _ k hk => (no k hk).elim⟩, ⟨fun _ k hk => (no k hk).elim, fun _ k hk => (no k hk).elim, fun _ k hk => (no k hk).elim⟩⟩, Inv.start (by omega) (by omega), by simp⟩
  case round =>
    obtain ⟨kk, hkk, hg, rfl, Aa, na, ca, Ai, ni, ci, rfl, rfl, A1, n1, c1, A2, n2, c2, A3, n3, c3, t, all, inn, HA⟩ := hrel
    have HM := Lib.hid HA.out.1
    have HV := Lib.hid HA.out.2.1
    have lA := HM.out.a.rd.len
    have lI := HM.out.i.rd.len
    rw [ints_len] at lA lI
    have hna : na ≤ 100 := by have := HA.out.2.2; omega
    have HLA := Lib.hid HA.out.2.2
    clear HA
    by_cases hlt : kk < min nl 100
    · have hlt1 : (kk : Int) < (nl : Int) := by omega
      have hlt2 : (kk : Int) < 100 := by omega
      obtain ⟨bl, ol, rfl, hbl, hlc⟩ := HL.out.get (by omega)
      have hkl : kk < l.length := by omega
      have hc := (HM.out.B.cell (p := ⟨bl, ol + kk, none⟩) hbl).trans (hlc kk _ (u8s_at hkl))
      have hx8 := h8 l[kk] (List.getElem_mem hkl)
      generalize l[kk] = x at hc hx8
      clear hlc
      go_upto_if 41 with fail
      go_cut [7, 8] from 26 to 149 (fun s7 s8 wx => ∃ Aa na ca Ai ni ci, s7 = .slice Aa na ca ∧ s8 = .slice Ai ni ci ∧ ∃ A1 n1 c1 A2 n2 c2 A3 n3 c3 t all inn,
        Aside (Once w wx w1.heap.size (.slice A1 n1 c1) (.slice A2 n2 c2) (.slice A3 n3 c3) (.slice Aa na ca) (.slice Ai ni ci) (1 + room % 64) (kk + 1) t all inn))
      case first =>
        have hs := HV.out.small
        have hcnt := HV.out.cnt
        have z0 := box_at HM.out.X 0 _ rfl
        have z1 := box_at HM.out.X 1 _ rfl
        have z2 := box_at HM.out.X 2 _ rfl
        have zf := box_free HM.out.X
        by_cases hx3 : 0 < x % 3
        · have hx3' : (0 : Int) < (x : Int) % 3 := by omega
          cases hf : t.free with
          | nil =>
            have hni : ((ni : Int) == 1 + (room : Int) % 64) = true := by rw [hf] at hcnt; simp at hcnt; simp; omega
            have htk : takeS t = (t, 0, 4) := by unfold takeS; rw [if_pos HV.out.right, hf]
            have HTK := Lib.hid htk
            clear htk hf hcnt
            go_wp2_with fail
            refine (take_any _ _ _ _ _ _ _ _ _ _ t HM.out.R hs).mono ?_
            rw [HTK.out]
            rintro e w2 ⟨B1, m1, d1, B2, m2, d2, B3, m3, d3, rfl, hR2, hb2, hf2⟩
            have HM2 := Lib.hid (HM.out.box hb2 hR2 hf2)
            have hX := keep hb2 HM.out.X
            have hXl := (Array.getElem?_eq_some_iff.1 hX).1
            clear z0 z1 z2 zf hb2 hR2 hf2
            have z0 := box_at hX 0 _ rfl
            have z1 := box_at hX 1 _ rfl
            have z2 := box_at hX 2 _ rfl
            have zf := box_free hX
            clear hX
            go_wp2_with fail
            generalize hW : (((w2.setCell ⟨w1.heap.size, 0, none⟩ (.slice B1 m1 d1)).setCell ⟨w1.heap.size, 1, none⟩ (.slice B2 m2 d2)).setCell ⟨w1.heap.size, 2, none⟩ (.slice B3 m3 d3)) = W at *
            have HM3 := Lib.hid (HM2.out.below ((Below.refl _ _).alloc (Nat.le_refl _) (.cells #[.slice B1 m1 d1, .slice B2 m2 d2, .slice B3 m3 d3] 25)))
            clear hW z0 z1 z2 zf HM2
            generalize hW : (W.alloc (.cells #[.slice B1 m1 d1, .slice B2 m2 d2, .slice B3 m3 d3] 25)) = W3 at *
            clear hW
            go_loopg [13] 1 (fun gg s13 wr' => s13 = .int .i64 0 ∧ wr' = W3)
            case atStart => exact ⟨rfl, rfl⟩
            case round =>
              obtain ⟨rfl, rfl⟩ := hrel
              have hfin : ∃ Aa' na' ca' Ai' ni' ci', Value.slice Aa na ca = .slice Aa' na' ca' ∧ Value.slice Ai ni ci = .slice Ai' ni' ci' ∧ ∃ A1 n1 c1 A2 n2 c2 A3 n3 c3 t all inn,
                  Aside (Once w wr w1.heap.size (.slice A1 n1 c1) (.slice A2 n2 c2) (.slice A3 n3 c3) (.slice Aa' na' ca') (.slice Ai' ni' ci') (1 + room % 64) (kk + 1) t all inn) :=
                ⟨_, _, _, _, _, _, rfl, rfl, B1, m1, d1, B2, m2, d2, B3, m3, d3, t, all, inn, ⟨HM3.out, HV.out.more (by omega), by have := HLA.out; omega⟩⟩
              have HF := Lib.hid hfin
              clear hfin
              by_cases hna0 : (0 : Int) < (na : Int)
              · go_wp2_with fail
                go_meet
                case rel => exact HF.out
              · go_wp2_with fail
                go_meet
                case rel => exact HF.out
          | cons k r =>
            obtain ⟨m, rfl, hml, _⟩ := free_nat HV.out.right (k := k) (by rw [hf]; simp)
            obtain ⟨hI, hnot⟩ := HV.out.take hf
            have hni : ((ni : Int) == 1 + (room : Int) % 64) = false := by rw [hf] at hcnt; simp at hcnt; simp; omega
            have htk : takeS t = (⟨t.gens, t.busy.set m true, r⟩, t.gens.getD m 0 * (1 + room % 64 : Nat) + m, 0) := by unfold takeS; rw [if_pos HV.out.right, hf, HV.out.n]; rfl
            generalize t.gens.getD m 0 * (1 + room % 64 : Nat) + (m : Int) = id at hI hnot htk
            have HTK := Lib.hid htk
            have HI := Lib.hid hI
            have HNOT := Lib.hid hnot
            clear htk hf hcnt hI hnot hml
            go_wp2_with fail
            refine (take_any _ _ _ _ _ _ _ _ _ _ t HM.out.R hs).mono ?_
            rw [HTK.out]
            rintro e w2 ⟨B1, m1, d1, B2, m2, d2, B3, m3, d3, rfl, hR2, hb2, hf2⟩
            have HM2 := Lib.hid (HM.out.box hb2 hR2 hf2)
            have hX := keep hb2 HM.out.X
            have hXl := (Array.getElem?_eq_some_iff.1 hX).1
            clear z0 z1 z2 zf hb2 hR2 hf2
            have z0 := box_at hX 0 _ rfl
            have z1 := box_at hX 1 _ rfl
            have z2 := box_at hX 2 _ rfl
            have zf := box_free hX
            clear hX
            go_wp2_with fail
            generalize hW : (((w2.setCell ⟨w1.heap.size, 0, none⟩ (.slice B1 m1 d1)).setCell ⟨w1.heap.size, 1, none⟩ (.slice B2 m2 d2)).setCell ⟨w1.heap.size, 2, none⟩ (.slice B3 m3 d3)) = W at *
            have HM3 := Lib.hid (HM2.out.below ((Below.refl _ _).alloc (Nat.le_refl _) (.cells #[.slice B1 m1 d1, .slice B2 m2 d2, .slice B3 m3 d3] 25)))
            clear hW z0 z1 z2 zf HM2
            generalize hW : (W.alloc (.cells #[.slice B1 m1 d1, .slice B2 m2 d2, .slice B3 m3 d3] 25)) = W3 at *
            clear hW
            go_loopg [13] na (fun gg s13 wr' => ∃ jj : Nat, jj ≤ na ∧ na - jj ≤ gg ∧ s13 = .int .i64 jj ∧ W3 = wr')
            case atStart => exact ⟨0, Nat.zero_le _, by omega, rfl, rfl⟩
            case round =>
              obtain ⟨jj, hjj, hg2, rfl, rfl⟩ := hrel
              by_cases hj : jj < na
              · have hj1 : (jj : Int) < (na : Int) := by omega
                obtain ⟨ba, oa, rfl, _, hac⟩ := HM3.out.a.rd.get (by omega)
                have hjl : jj < all.length := by omega
                have hc2 := hac jj _ (ints_at hjl)
                have hne : (all[jj] == id) = false := by rw [beq_eq_false_iff_ne]; intro he; exact HNOT.out (he ▸ List.getElem_mem hjl)
                generalize all[jj] = y at hc2 hne
                clear hac
                go_wp2_with fail
                go_roundg (na - (jj + 1))
                case measure => omega
                case rel => exact ⟨jj + 1, by omega, by omega, by simp, rfl⟩
              · have hj1 : ¬ (jj : Int) < (na : Int) := by omega
                have hla := HLA.out
                have hl60 : inn.length ≤ 64 := by have := HV.out.cnt; omega
                go_wp2_with (at_builtin; refine wp_app w.heap.size rfl _ _ 22 3 (.int .i64 0) 8 rfl Try.underlying22 Try.info3 rfl (by omega) (.slice Aa na ca) (.slice (some ⟨_, 0, none⟩) 1 1) (ints all) [.int .i64 id] rfl rfl ?d1 (rd_box _ _ _) ?d2 ?d3 ?d4 ?d5)
                case d1 => exact HM3.out.a.below ((Below.refl _ _).alloc (Nat.le_refl _) _)
                case d2 => simp [Value.oneCell']
                case d3 => simp [ints_len]; omega
                case d4 => have := HM3.out.B.size; simp; omega
                case d5 =>
                  intro v1 w4 hv1 hg1 hat1
                  obtain ⟨A7, n7, c7, rfl⟩ := hv1.slice'
                  have HM4 := Lib.hid (HM3.out.appA (all' := all ++ [id]) hg1 (by rw [ints_app]; exact hv1) (by simpa using hat1))
                  clear hv1 hg1 hat1
                  go_wp2_with (at_builtin; refine wp_app w.heap.size rfl _ _ 22 3 (.int .i64 0) 8 rfl Try.underlying22 Try.info3 rfl (by omega) (.slice Ai ni ci) (.slice (some ⟨_, 0, none⟩) 1 1) (ints inn) [.int .i64 id] rfl rfl ?e1 (rd_box _ _ _) ?e2 ?e3 ?e4 ?e5)
                  case e1 => exact HM4.out.i.below ((Below.refl _ _).alloc (Nat.le_refl _) _)
                  case e2 => simp [Value.oneCell']
                  case e3 => simp [ints_len]; omega
                  case e4 => have := HM4.out.B.size; simp; omega
                  case e5 =>
                    intro v2 w5 hv2 hg2 hat2
                    obtain ⟨A8, n8, c8, rfl⟩ := hv2.slice'
                    have HM5 := Lib.hid (HM4.out.appI (inn' := inn ++ [id]) hg2 (by rw [ints_app]; exact hv2) (by simpa using hat2))
                    clear hv2 hg2 hat2
                    go_wp2_with fail
                    go_meet
                    case rel =>
                      exact ⟨_, _, _, _, _, _, rfl, rfl, B1, m1, d1, B2, m2, d2, B3, m3, d3, _, _, _, ⟨HM5.out, HI.out.more (by omega), by simp; omega⟩⟩
        · have hx3' : (x : Int) % 3 ≤ 0 := by omega
          by_cases hni : ni = 0
          · subst hni
            go_wp2_with fail
            go_meet
            case rel =>
              exact ⟨_, _, _, _, _, _, rfl, rfl, A1, n1, c1, A2, n2, c2, A3, n3, c3, t, all, inn, ⟨HM.out, HV.out.more (by omega), by have := HLA.out; omega⟩⟩
          · have hni1 : (0 : Int) < (ni : Int) := by omega
            have hni2 : ¬ (ni : Int) = 0 := by omega
            have hni64 : ni ≤ 64 := by omega
            obtain ⟨kq, hkq⟩ : ∃ kq, x / 3 % ni = kq := ⟨_, rfl⟩
            have hq : (x : Int) / 3 % (ni : Int) = (kq : Int) := by rw [← hkq]; simp
            have hkl' : kq < ni := by rw [← hkq]; exact Nat.mod_lt _ (by omega)
            have hkq2 : (kq : Int) < (ni : Int) := by omega
            have hkl2 : kq < inn.length := by omega
            obtain ⟨t', hgv, hI', hh'⟩ := HV.out.give (by omega) hkl2
            obtain ⟨bi, oi, rfl, hbi, hic⟩ := HM.out.i.rd.get (by omega)
            have hic1 := hic kq _ (ints_at hkl2)
            generalize inn[kq] = id at hgv hh' hic1
            have HGV := Lib.hid hgv
            have HI' := Lib.hid hI'
            have HH := Lib.hid hh'
            clear hgv hI' hh' hic hkq hcnt
            have hbt : w1.heap.size < wr.heap.size := HM.out.blt
            go_upto_region 24 with fail
            simp only [hq]
            go_cut [15, 16] from 93 to 149 (fun s15 s16 wx => ∃ b15 : Nat, s15 = .pointer (some ⟨b15, 0, none⟩) ∧ s16 = .int .i64 0 ∧ ∃ B1 m1 d1 B2 m2 d2 B3 m3 d3, Aside (Below wr.heap.size wr wx ∧ wr.heap.size ≤ b15 ∧ wx.heap[b15]? = some (.cells #[.slice B1 m1 d1, .slice B2 m2 d2, .slice B3 m3 d3] 25 (0, 0)) ∧
              TabR wx (.slice B1 m1 d1) (.slice B2 m2 d2) (.slice B3 m3 d3) t' ∧ FreshT wr.heap.size (.slice B1 m1 d1) (.slice B2 m2 d2) (.slice B3 m3 d3)))
            case first =>
              go_region_with (first | (go_at_call 14; refine (give_any _ _ _ _ _ _ _ _ _ _ t id (HM.out.R.below (below_drew (Below.refl _ _))) hs).mono ?_; rw [HGV.out]; rintro e w2 ⟨B1, m1, d1, B2, m2, d2, B3, m3, d3, rfl, hR2, hb2, hf2⟩; have HR2 := Lib.hid hR2; have HF2 := Lib.hid (show FreshT wr.heap.size _ _ _ from hf2); have HB2 := Lib.hid ((below_drew (Below.refl wr.heap.size wr)).trans hb2); clear hR2 hb2 hf2 z0 z1 z2 zf) | (go_at_call 14; refine (give_any _ _ _ _ _ _ _ _ _ _ t id (HM.out.R.below (below_drew ((Below.refl _ _).alloc (Nat.le_refl _) (.cells #[.slice none 0 0, .slice none 0 0, .slice none 0 0] 25)))) hs).mono ?_; rw [HGV.out]; rintro e w2 ⟨B1, m1, d1, B2, m2, d2, B3, m3, d3, rfl, hR2, hb2, hf2⟩; have hX15 : w2.heap[wr.heap.size]? = some (.cells #[.slice none 0 0, .slice none 0 0, .slice none 0 0] 25 (0, 0)) := keep hb2 (heap_alloc_new wr (.cells #[.slice none 0 0, .slice none 0 0, .slice none 0 0] 25)); have HR2 := Lib.hid hR2; have HF2 := Lib.hid (show FreshT (wr.heap.size + 1) _ _ _ by simpa using hf2); have HB2 := Lib.hid ((below_drew ((Below.refl wr.heap.size wr).alloc (Nat.le_refl _) (.cells #[.slice none 0 0, .slice none 0 0, .slice none 0 0] 25))).trans (hb2.mono (by simp))); have HX15 := Lib.hid hX15; clear hR2 hb2 hf2 z0 z1 z2 zf; have z0 := box_at hX15 0 _ rfl; have z1 := box_at hX15 1 _ rfl; have z2 := box_at hX15 2 _ rfl; have zf := box_free hX15; clear hX15))
              all_goals go_wp2_with fail
              all_goals go_meet
              all_goals
                first
                  | (have hx15 := HX15.out
                     obtain ⟨k1, k2, k3, k4⟩ := box_old HB2.out hx15 HR2.out HF2.out
                     refine ⟨wr.heap.size, rfl, rfl, B1, m1, d1, B2, m2, d2, B3, m3, d3, ?_⟩
                     show Aside _
                     exact ⟨k1, Nat.le_refl _, k2, k3, k4⟩)
                  | (obtain ⟨k1, k2, k3⟩ := box_new HB2.out HB2.out.size HR2.out
                     refine ⟨w2.heap.size, rfl, rfl, B1, m1, d1, B2, m2, d2, B3, m3, d3, ?_⟩
                     show Aside _
                     exact ⟨k1, HB2.out.size, k2, k3, HF2.out⟩)
            case rest =>
              obtain ⟨b15, rfl, rfl, B1, m1, d1, B2, m2, d2, B3, m3, d3, HA⟩ := hcut
              have HAX := Lib.hid HA.out
              have hBx := HA.out.1
              have hs2 := HI'.out.small
              have hS : S4 wc b15 (.slice B1 m1 d1) (.slice B2 m2 d2) (.slice B3 m3 d3) ⟨bi, oi + kq, none⟩ (.int .i64 id) wc :=
                ⟨box_at HA.out.2.2.1 0 _ rfl, box_at HA.out.2.2.1 1 _ rfl, box_at HA.out.2.2.1 2 _ rfl, (hBx.cell (p := ⟨bi, oi + kq, none⟩) hbi).trans hic1, Below.refl _ _⟩
              have HS := Lib.hid hS
              clear HA z0 z1 z2 zf hc hic1 hS
              go_wp2_with fail
              go_region_held3 (fun w' => w'.cell? ⟨b15, 0, none⟩ = some (.slice B1 m1 d1) ∧ w'.cell? ⟨b15, 1, none⟩ = some (.slice B2 m2 d2) ∧ w'.cell? ⟨b15, 2, none⟩ = some (.slice B3 m3 d3) ∧ w'.cell? ⟨bi, oi + kq, none⟩ = some (.int .i64 id) ∧ Below wc.heap.size wc w')
                (first | exact HS.out.below (below_drew (Below.refl _ _)) | (refine S4.below ?_ ‹_›; assumption))
                (first
                 | (go_at_call 15
                    refine (has_any id _ B1 m1 d1 B2 m2 d2 B3 m3 d3 t' (HAX.out.2.2.2.1.below (‹S4 wc _ _ _ _ _ _ _›).b) hs2).mono ?_
                    rw [HH.out]
                    rintro e w3 ⟨rfl, hb3⟩))
              have hb3 : Below wc.heap.size wc w3 := (below_drew (Below.refl _ _)).trans hb3
              have hx15 := keep hb3 HAX.out.2.2.1
              have z0 := box_at hx15 0 _ rfl
              have z1 := box_at hx15 1 _ rfl
              have z2 := box_at hx15 2 _ rfl
              have HBT := Lib.hid (hBx.trans (hb3.mono hBx.size))
              have hx6 := keep HBT.out HM.out.X
              have y0 := box_at hx6 0 _ rfl
              have y1 := box_at hx6 1 _ rfl
              have y2 := box_at hx6 2 _ rfl
              have yf := box_free hx6
              have hyl := (Array.getElem?_eq_some_iff.1 hx6).1
              have HM2 := Lib.hid (HM.out.box HBT.out (HAX.out.2.2.2.1.below hb3) HAX.out.2.2.2.2)
              clear hx15 hx6 hb3
              go_wp2_with fail
              generalize hW : (((w3.setCell ⟨w1.heap.size, 0, none⟩ (.slice B1 m1 d1)).setCell ⟨w1.heap.size, 1, none⟩ (.slice B2 m2 d2)).setCell ⟨w1.heap.size, 2, none⟩ (.slice B3 m3 d3)) = W at *
              have hIx := HM2.out.i
              clear hW z0 z1 z2 y0 y1 y2 yf hyl
              have hi3' := Try.info3
              obtain ⟨i3, hi3⟩ : ∃ i, Try.prog.info? 3 = some i := by
                cases h : Try.prog.info? 3 with
                | none => rw [h] at hi3'; simp at hi3'
                | some i => exact ⟨i, rfl⟩
              clear hi3'
              have hsl := cut_from (P := Try.prog) 22 3 .i64 Try.underlying22 hi3 1 (by have := Try.info3; rw [hi3] at this; simp at this; exact this.2.1) (some ⟨bi, oi, none⟩) ni ci ((kq : Int) + 1) (by omega) (by omega)
              have hfd := hIx.drop (kq + 1) (by omega)
              have htk := Lib.hid (hIx.take kq (by omega)).rd
              rw [show ((kq : Int) + 1).toNat = kq + 1 by omega, Nat.mul_one] at hsl
              generalize (if ci = kq + 1 then some (⟨bi, oi, none⟩ : Addr) else (some (⟨bi, oi, none⟩ : Addr)).map (fun x => x.add (kq + 1))) = A6 at hsl hfd
              have HFD := Lib.hid hfd.rd
              have HW64 := Lib.hid (w64 (x := (kq : Int) + 1) (by omega) (by omega))
              have hcap : (kq : Int) ≤ (ci : Int) := by have := hIx.cap; omega
              have hkq3 : (kq : Int) + 1 ≤ (ni : Int) := by omega
              have hbytes := Lib.hid (show inn.length ≤ 64 by omega)
              clear hi3 hfd hIx
              have hw64 : IntKind.i64.wrap ((kq : Int) + 1) = (kq : Int) + 1 := by simp [IntKind.wrap, IntKind.bits, IntKind.signed]; omega
              go_region_held3 (fun w' => W.heap.size ≤ w'.heap.size ∧ Below W.heap.size W w')
                (first | exact SM.start _ | (refine SM.step (row := none) ‹SM W _› ‹_› ?_; intro k hk; cases hk) | (refine SM.step ‹SM W _› ‹_› ?_; intro k hk; exact hv1.base k hk))
                (first
                 | (refine wp_app_step W.heap.size (by rfl) _ _ 22 3 (.int .i64 0) 8 (by rfl) Try.underlying22 Try.info3 rfl (by omega) (.slice none 0 0) (.slice (some ⟨bi, oi, none⟩) kq ci) [] ((ints inn).take kq) (by rfl) (by rfl) (Ow.nil _ _ _) (htk.out.below (‹SM W _›).2) (fun u hu => ints_one _ u (List.mem_of_mem_take hu)) (by have := hbytes.out; simp [ints_len]; omega) (‹SM W _›).1 ?_; intro v1 w5 hv1 hg1 hat1; obtain ⟨A5, n5, c5, rfl⟩ := hv1.slice')
                 | (refine wp_app_step W.heap.size (by rfl) _ _ 22 3 (.int .i64 0) 8 (by rfl) Try.underlying22 Try.info3 rfl (by omega) (.slice A5 n5 c5) (.slice A6 (ni - (kq + 1)) (ci - (kq + 1))) ([] ++ (ints inn).take kq) ((ints inn).drop (kq + 1)) (by rfl) (by rfl) hv1 (HFD.out.below (‹SM W _›).2) (fun u hu => ints_one _ u (List.mem_of_mem_drop hu)) (by have := hbytes.out; simp [ints_len]; omega) (‹SM W _›).1 ?_; intro v2 w6 hv2 hg2 hat2; obtain ⟨A7, n7, c7, rfl⟩ := hv2.slice'))
              go_wp2_with fail
              go_meet
              case rel =>
                have b1 : Below W.heap.size W w5 := (below_drew (Below.refl _ _)).trans (below_of_grown hg1)
                have b4 : Below W.heap.size W w6 := b1.grown hg2 b1.size (fun k hk => hv1.base k hk)
                have HM3 := HM2.out.newI (inn' := inn.take kq ++ inn.drop (kq + 1)) b4 (by
                  have := hv2
                  rwa [show [] ++ (ints inn).take kq ++ (ints inn).drop (kq + 1) = ints (inn.take kq ++ inn.drop (kq + 1)) by simp [ints, List.map_take, List.map_drop]] at this)
                exact ⟨_, _, _, _, _, _, rfl, rfl, B1, m1, d1, B2, m2, d2, B3, m3, d3, _, _, _, ⟨HM3, HI'.out.more (by omega), by have := HLA.out; omega⟩⟩
      case rest =>
        obtain ⟨Aa, na, ca, Ai, ni, ci, rfl, rfl, A1, n1, c1, A2, n2, c2, A3, n3, c3, t, all, inn, HA⟩ := hcut
        have HA' := Lib.hid HA.out
        have hs := HA.out.2.1.small
        have lI := HA.out.1.i.rd.len
        rw [ints_len] at lI
        have hcnt : ni ≤ 64 := by have := HA.out.2.1.cnt; omega
        clear HA HM HV HLA lA hna hc
        go_wp2_with fail
        go_loopg [17] ni (fun gg s17 wr' => ∃ jj : Nat, jj ≤ ni ∧ ni - jj ≤ gg ∧ s17 = .int .i64 jj ∧ Below wc.heap.size wc wr')
        case atStart => exact ⟨0, Nat.zero_le _, by omega, rfl, Below.refl _ _⟩
        case round =>
          obtain ⟨jj, hjj, hg2, rfl, hBj⟩ := hrel
          have HM := Lib.hid (HA'.out.1.below hBj)
          have hX := HM.out.X
          by_cases hj : jj < ni
          · have hj1 : (jj : Int) < (ni : Int) := by omega
            obtain ⟨bi, oi, rfl, hbi, hic⟩ := HM.out.i.rd.get (by omega)
            have hjl : jj < inn.length := by omega
            have hc2 := hic jj _ (ints_at hjl)
            have hpb := HA'.out.2.1.has _ (List.getElem_mem hjl)
            generalize inn[jj] = y at hc2 hpb
            have hh : hasB t y = true := by unfold hasB; rw [if_pos HA'.out.2.1.right]; exact hpb
            have HH := Lib.hid hh
            have HS := Lib.hid (show S4 wr w1.heap.size (.slice A1 n1 c1) (.slice A2 n2 c2) (.slice A3 n3 c3) ⟨bi, oi + jj, none⟩ (.int .i64 y) wr from ⟨box_at hX 0 _ rfl, box_at hX 1 _ rfl, box_at hX 2 _ rfl, hc2, Below.refl _ _⟩)
            clear hic hc2 hpb hh hX
            go_wp2_with fail
            go_region_held3 (fun w' => w'.cell? ⟨w1.heap.size, 0, none⟩ = some (.slice A1 n1 c1) ∧ w'.cell? ⟨w1.heap.size, 1, none⟩ = some (.slice A2 n2 c2) ∧ w'.cell? ⟨w1.heap.size, 2, none⟩ = some (.slice A3 n3 c3) ∧ w'.cell? ⟨bi, oi + jj, none⟩ = some (.int .i64 y) ∧ Below wr.heap.size wr w')
              (first | exact HS.out.below (below_drew (Below.refl _ _)) | (refine S4.below ?_ ‹_›; assumption))
              (first
               | (go_at_call 15
                  refine (has_any y _ A1 n1 c1 A2 n2 c2 A3 n3 c3 t (HM.out.R.below (‹S4 wr _ _ _ _ _ _ _›).b) hs).mono ?_
                  rw [HH.out]
                  rintro e w3 ⟨rfl, hb3⟩))
            have hb3 : Below wr.heap.size wr w3 := (below_drew (Below.refl _ _)).trans hb3
            have hb4 := hBj.trans (hb3.mono hBj.size)
            clear hb3 hBj
            go_wp2_with fail
            go_roundg (ni - (jj + 1))
            case measure => omega
            case rel => exact ⟨jj + 1, by omega, by omega, by simp, hb4⟩
          · have hj1 : ¬ (jj : Int) < (ni : Int) := by omega
            have z0 := box_at hX 0 _ rfl
            have z1 := box_at hX 1 _ rfl
            have z2 := box_at hX 2 _ rfl
            have HR := Lib.hid (rightB_yes HA'.out.2.1.right)
            clear hX
            go_wp2_with fail
            refine (right_any _ A1 n1 c1 A2 n2 c2 A3 n3 c3 t HM.out.R hs).mono ?_
            rw [HR.out]
            rintro e w3 ⟨rfl, hb3⟩
            have HM3 := Lib.hid (HM.out.below hb3)
            clear hb3 z0 z1 z2
            go_wp2_with fail
            go_roundg (min nl 100 - (kk + 1))
            case measure => omega
            case rel =>
              exact ⟨kk + 1, by omega, by omega, by simp, _, _, _, _, _, _, rfl, rfl, A1, n1, c1, A2, n2, c2, A3, n3, c3, t, all, inn, ⟨HM3.out, HA'.out.2.1, HA'.out.2.2⟩⟩
    · have hbB := HM.out.B
      clear HM HV HLA
      by_cases hlt1 : (kk : Int) < (nl : Int)
      · have hlt2 : ¬ (kk : Int) < 100 := by omega
        go_wp2_with fail
        go_ret
        exact ⟨by simp, hbB⟩
      · go_wp2_with fail
        go_ret
        exact ⟨by simp, hbB⟩
end Go.Proofs.Yteaifndkmknanaa
