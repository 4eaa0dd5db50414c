/- flight.own, lockageref18.own (printed from H.tpl by wip/lib/tpl.py). -/
import Derived.Test.YtipjhokhflokmaaG
set_option linter.unusedVariables false
set_option linter.unusedSimpArgs false
namespace Go.Proofs.Ytipjhokhflokmaa
open Go.RowKit
open Go.Proofs.YtipjhokhflokmaaW.PrintWords

theorem cell_far {w : World} {b b2 j j2 : Nat} (h : b ≠ b2) (u : Value) : (w.setCell ⟨b2, j2, none⟩ u).cell? ⟨b, j, none⟩ = w.cell? ⟨b, j, none⟩ :=
  World.cell?_of_block (w := w) (w' := w.setCell ⟨b2, j2, none⟩ u) (Below.heap_setCell w ⟨b2, j2, none⟩ u b h)
theorem own_at7 {w : World} {base b off n c : Nat} {zs : List FV} (h : OwE fenc 8 45 w base (.slice (some ⟨b, off, none⟩) n c) zs) {kk : Nat} {y : FV} (hz : zs[kk]? = some y) :
    w.cell? ⟨b, off + kk * 8 + 7, none⟩ = some y.2.v ∧ w.frozen? ⟨b, off + kk * 8 + 7, none⟩ = false := by
  have hl := h.rd.len
  have hk := (List.getElem?_eq_some_iff.1 hz).1
  obtain ⟨b', off', hA, _, _, _, hc, hf⟩ := h.form (by omega)
  injection hA with hA
  injection hA with h1 h2
  subst h1; subst h2
  exact ⟨hc kk 7 y _ hz rfl, hf _⟩
theorem bx_set {w : World} {b : Nat} {r x : Value} {V V' : Value} (h : w.heap[b]? = some (.cells #[r, x, V] 26 (0, 0))) : (w.setCell ⟨b, 2, none⟩ V').heap[b]? = some (.cells #[r, x, V'] 26 (0, 0)) := by
  rw [heap_set h]
  rfl
theorem fs_far {w : World} {base : Nat} {V : Value} {ys : List FV} (h : OwE fenc 8 45 w base V ys) {b : Nat} {cs : Array Value} {T : TypeId} (hb : w.heap[b]? = some (.cells cs T (0, 0))) (hT : T ≠ 45) (j : Nat) (u : Value) : OwE fenc 8 45 (w.setCell ⟨b, j, none⟩ u) base V ys :=
  h.far (fun k hk => by
    obtain ⟨cur, hcur⟩ := h.typed k hk
    exact blocks_ne (Ne.symm hT) hcur hb) _
theorem ts_far {w : World} {base : Nat} {V : Value} {ys : List Tm} (h : OwE tenc 2 47 w base V ys) {b : Nat} {cs : Array Value} {T : TypeId} (hb : w.heap[b]? = some (.cells cs T (0, 0))) (hT : T ≠ 47) (j : Nat) (u : Value) : OwE tenc 2 47 (w.setCell ⟨b, j, none⟩ u) base V ys :=
  h.far (fun k hk => by
    obtain ⟨cur, hcur⟩ := h.typed k hk
    exact blocks_ne (Ne.symm hT) hcur hb) _
theorem OwF.far {w : World} {base : Nat} {V : Value} {ys : List FV} (h : OwF w base V ys) {b : Nat} {cs : Array Value} {T : TypeId} (hb : w.heap[b]? = some (.cells cs T (0, 0))) (hT : T ≠ 45) (hT2 : T ≠ 47) (j : Nat) (u : Value) : OwF (w.setCell ⟨b, j, none⟩ u) base V ys :=
  ⟨fs_far h.o hb hT j u, fun i y hy => ts_far (h.r i y hy) hb hT2 j u, h.ne⟩

set_option maxRecDepth 100000 in
set_option maxHeartbeats 4000000 in
theorem own_any (w : World) (room next : Int) (A : Option Addr) (n c : Nat) (ys : List FV) (hr : RdF w (.slice A n c) ys) (hn : n ≤ 1000) (hw : ∀ (i : Nat) (y : FV), ys[i]? = some y → y.1.ws.length ≤ 1000) :
    Calls Try.prog 22 #[fv room next (.slice A n c)] w (OwnPost w room next ys) := by
  have hl := hr.len
  have hal1 : Below w.heap.size w (w.alloc (.cells #[.int .i64 room, .int .i64 next, .slice A n c] 26)) := (Below.refl _ _).alloc (Nat.le_refl _) _
  have hal : Below w.heap.size w ((w.alloc (.cells #[.int .i64 room, .int .i64 next, .slice A n c] 26)).alloc (.cells #[.int .i64 0, .int .i64 0, .slice none 0 0] 26)) := hal1.alloc (by simp) _
  have x1 : ((w.alloc (.cells #[.int .i64 room, .int .i64 next, .slice A n c] 26)).alloc (.cells #[.int .i64 0, .int .i64 0, .slice none 0 0] 26)).heap[w.heap.size]? = some (.cells #[.int .i64 room, .int .i64 next, .slice A n c] 26 (0, 0)) := keep ((Below.refl _ _).alloc (Nat.le_refl _) _) (heap_alloc_new w _)
  have x2 := heap_alloc_new (w.alloc (.cells #[.int .i64 room, .int .i64 next, .slice A n c] 26)) (.cells #[.int .i64 0, .int .i64 0, .slice none 0 0] 26)
  have s1 : (w.alloc (.cells #[.int .i64 room, .int .i64 next, .slice A n c] 26)).heap.size = w.heap.size + 1 := by simp
  rw [s1] at x2
  have HR := Lib.hid (hr.below hal)
  have HR0 := Lib.hid hr
  have HWL := Lib.hid hw
  clear hr hw s1 hal1
  go_enter Try.func22, Try.ntmps22
  go_upto_region 1 with fail
  generalize (w.alloc (.cells #[.int .i64 room, .int .i64 next, .slice A n c] 26)).alloc (.cells #[.int .i64 0, .int .i64 0, .slice none 0 0] 26) = U at *
  have z2 : U.cell? ⟨w.heap.size, 2, none⟩ = some (.slice A n c) := box_at x1 2 _ rfl
  have HX1 := Lib.hid x1
  have HX2 := Lib.hid x2
  have HAL := Lib.hid hal
  clear x1 x2 hal
  go_upto_region 2 with (go_at_call 45; refine (clone_fls U _ ys HR.out.o (by omega)).mono ?_; rintro e w2 ⟨A1, n1, c1, rfl, hO, hb2⟩; have zf := box_free (keep hb2 HX1.out); have z9 : w2.cell? ⟨w.heap.size, 2, none⟩ = some (.slice A n c) := box_at (keep hb2 HX1.out) 2 _ rfl; have HO := Lib.hid hO; have HB2 := Lib.hid hb2; clear hO hb2)
  have y1 := bx_set (V' := .slice A1 n1 c1) (keep HB2.out HX1.out)
  have y2 : (w2.setCell ⟨w.heap.size, 2, none⟩ (.slice A1 n1 c1)).heap[w.heap.size + 1]? = some (.cells #[.int .i64 0, .int .i64 0, .slice none 0 0] 26 (0, 0)) := by
    rw [Below.heap_setCell _ _ _ _ (by simp)]
    exact keep HB2.out HX2.out
  have hO3 := fs_far HO.out (keep HB2.out HX1.out) (by decide) 2 (.slice A1 n1 c1)
  have hb3 : Below w.heap.size w (w2.setCell ⟨w.heap.size, 2, none⟩ (.slice A1 n1 c1)) := (HAL.out.trans (HB2.out.mono HAL.out.size)).setCell (Nat.le_refl _) _
  have hon := HO.out.rd.len
  have hok : OwnK w (w2.setCell ⟨w.heap.size, 2, none⟩ (.slice A1 n1 c1)) (.slice A1 n1 c1) ys ys 0 :=
    ⟨hO3.lower HAL.out.size, rfl, fun i y hi => absurd hi (Nat.not_lt_zero _), fun i j y z hi => absurd hi (Nat.not_lt_zero _), fun i _ => rfl⟩
  generalize w2.setCell ⟨w.heap.size, 2, none⟩ (.slice A1 n1 c1) = W3 at *
  clear z2 zf z9
  have z3 : W3.cell? ⟨w.heap.size, 2, none⟩ = some (.slice A1 n1 c1) := box_at y1 2 _ rfl
  go_wp2_with fail
  clear z3
  have HY1 := Lib.hid y1
  have HY2 := Lib.hid y2
  have HOK := Lib.hid hok
  have HB3 := Lib.hid hb3
  clear y1 y2 hok hb3 hO3
  go_loopg [12] n1 (fun gg s12 wr => ∃ (kk : Nat) (zs : List FV), kk ≤ n1 ∧ n1 - kk ≤ gg ∧ s12 = .int .i64 kk ∧ Aside (Below w.heap.size w wr ∧ OwnK w wr (.slice A1 n1 c1) ys zs kk ∧ wr.heap[w.heap.size]? = some (.cells #[.int .i64 room, .int .i64 next, .slice A1 n1 c1] 26 (0, 0)) ∧ wr.heap[w.heap.size + 1]? = some (.cells #[.int .i64 0, .int .i64 0, .slice none 0 0] 26 (0, 0))))
  case atStart => exact ⟨0, ys, Nat.zero_le _, by omega, rfl, by show Aside _; exact ⟨HB3.out, HOK.out, HY1.out, HY2.out⟩⟩
  case round =>
    clear HOK HY1 HY2 HB3 HB2 HO HX1 HX2 HAL HR
    obtain ⟨kk, zs, hkk, hg, rfl, HA⟩ := hrel
    obtain ⟨hb, hk, y1, y2⟩ := HA.out
    by_cases hlt : kk < n1
    · have h1 : (kk : Int) < (n1 : Int) := by omega
      have hyk : ys[kk]? = some (ys[kk]'(by omega)) := List.getElem?_eq_getElem _
      generalize ys[kk]'(by omega) = y at hyk
      have hzk : zs[kk]? = some y := by rw [hk.old kk (Nat.le_refl _)]; exact hyk
      have hry := (HR0.out.r kk y hyk).below hb
      have hwl := HWL.out kk y hyk
      obtain ⟨⟨fk, fs, fi, fb, fd, ft, fo, ws⟩, ⟨B, m, d⟩⟩ := y
      obtain ⟨b, off, hA1, hbl, hcell⟩ := hk.o.rd.get (by omega)
      subst hA1
      have k0 : wr.cell? ⟨b, off + kk * 8, none⟩ = some (str fk) := hcell kk 0 _ _ hzk rfl
      have k1 : wr.cell? ⟨b, off + kk * 8 + 1, none⟩ = some (.bool fs) := hcell kk 1 _ _ hzk rfl
      have k2 : wr.cell? ⟨b, off + kk * 8 + 2, none⟩ = some (.int .i64 fi) := hcell kk 2 _ _ hzk rfl
      have k3 : wr.cell? ⟨b, off + kk * 8 + 3, none⟩ = some (.int .i64 fb) := hcell kk 3 _ _ hzk rfl
      have k4 : wr.cell? ⟨b, off + kk * 8 + 4, none⟩ = some (str fd) := hcell kk 4 _ _ hzk rfl
      have k5 : wr.cell? ⟨b, off + kk * 8 + 5, none⟩ = some (.int .i64 ft) := hcell kk 5 _ _ hzk rfl
      have k6 : wr.cell? ⟨b, off + kk * 8 + 6, none⟩ = some (.bool fo) := hcell kk 6 _ _ hzk rfl
      have k7 : wr.cell? ⟨b, off + kk * 8 + 7, none⟩ = some (.slice B m d) := hcell kk 7 _ _ hzk rfl
      have HYK := Lib.hid hyk
      have HZK := Lib.hid hzk
      have HRY := Lib.hid hry
      have HK := Lib.hid hk
      have HB := Lib.hid hb
      have HY1 := Lib.hid y1
      have HY2 := Lib.hid y2
      clear hyk hzk hry hcell hk hb y1 y2 HA
      go_upto_region 5 with fail
      clear k0 k1 k2 k3 k4 k5 k6 k7
      have hal : Below wr.heap.size wr (wr.alloc (.cells #[str fk, .bool fs, .int .i64 fi, .int .i64 fb, str fd, .int .i64 ft, .bool fo, .slice B m d] 45)) := (Below.refl _ _).alloc (Nat.le_refl _) _
      have ht := heap_alloc_new wr (.cells #[str fk, .bool fs, .int .i64 fi, .int .i64 fb, str fd, .int .i64 ft, .bool fo, .slice B m d] 45)
      have t7 : (wr.alloc (.cells #[str fk, .bool fs, .int .i64 fi, .int .i64 fb, str fd, .int .i64 ft, .bool fo, .slice B m d] 45)).cell? ⟨wr.heap.size, 7, none⟩ = some (.slice B m d) := box_at ht 7 _ rfl
      have q2 : (wr.alloc (.cells #[str fk, .bool fs, .int .i64 fi, .int .i64 fb, str fd, .int .i64 ft, .bool fo, .slice B m d] 45)).cell? ⟨w.heap.size, 2, none⟩ = some (.slice (some ⟨b, off, none⟩) n1 c1) := box_at (keep hal HY1.out) 2 _ rfl
      have HAL := Lib.hid hal
      clear hal ht
      generalize hU : wr.alloc (.cells #[str fk, .bool fs, .int .i64 fi, .int .i64 fb, str fd, .int .i64 ft, .bool fo, .slice B m d] 45) = U2 at *
      have hwU : w.heap.size < wr.heap.size := (Array.getElem?_eq_some_iff.1 HY1.out).1
      have hUs : wr.heap.size < U2.heap.size := by rw [← hU]; simp
      clear hU
      have hwl2 : ws.length ≤ 1000 := hwl
      have hry2 : RdE tenc 2 U2.drew (.slice B m d) ws := RdE.below HRY.out (below_drew HAL.out)
      have hkU := HK.out.below (below_drew HAL.out)
      obtain ⟨cb, hcb⟩ := HK.out.o.typed b rfl
      have nb1 : w.heap.size ≠ b := blocks_ne (show (26 : TypeId) ≠ 45 by decide) HY1.out hcb
      have nb2 : wr.heap.size ≠ b := by omega
      have HRU := Lib.hid hry2
      have HKU := Lib.hid hkU
      have HT7 := Lib.hid t7
      have HQ2 := Lib.hid q2
      clear hry2 hkU hcb cb hwl t7 q2
      refine wp_region_held_drew (S := fun W' => W'.cell? ⟨w.heap.size, 2, none⟩ = some (.slice (some ⟨b, off, none⟩) n1 c1) ∧ W'.cell? ⟨wr.heap.size, 7, none⟩ = some (.slice B m d)) (by kernel_rfl) (⟨by simpa using HQ2.out, by simpa using HT7.out⟩) (fun hHeld => ?_)
      refine wpAnyH_take (i := 0) (oi := _) (v := ?v0a) rfl (by kernel_rfl) (by kernel_rfl) (by kernel_rfl) (fun _ _ _ h => h) (Or.inl ⟨by kernel_rfl, ?y0a⟩) (by assumption) ?r0a
      case y0a => (intro w hSw; (try dsimp only at hSw); go_simp; try (with_reducible rfl))
      case r0a =>
        simp only [List.getElem_toArray, List.getElem_cons_succ, List.getElem_cons_zero, Act.put, List.setIfInBounds_toArray, List.set_cons_zero, List.set_cons_succ]
        refine wpAnyH_take (i := 1) (oi := _) (v := ?v1a) rfl (by kernel_rfl) (by kernel_rfl) (by kernel_rfl) (fun _ _ _ h => h) (Or.inl ⟨by kernel_rfl, ?y1a⟩) (by assumption) ?r1a
        case y1a => (intro w hSw; (try dsimp only at hSw); go_simp; try (with_reducible rfl))
        case r1a =>
          simp only [List.getElem_toArray, List.getElem_cons_succ, List.getElem_cons_zero, Act.put, List.setIfInBounds_toArray, List.set_cons_zero, List.set_cons_succ]
          refine wpAnyH_take (i := 2) (oi := _) (v := ?v2a) rfl (by kernel_rfl) (by kernel_rfl) (by kernel_rfl) (fun _ _ _ h => h) (Or.inl ⟨by kernel_rfl, ?y2a⟩) (by assumption) ?r2a
          case y2a => (intro w hSw; (try dsimp only at hSw); go_simp; try (with_reducible rfl))
          case r2a =>
            simp only [List.getElem_toArray, List.getElem_cons_succ, List.getElem_cons_zero, Act.put, List.setIfInBounds_toArray, List.set_cons_zero, List.set_cons_succ]
            refine wpAnyH_take (i := 3) (oi := _) (v := ?v3a) rfl (by kernel_rfl) (by kernel_rfl) (by kernel_rfl) (fun _ _ _ h => h) (Or.inl ⟨by kernel_rfl, ?y3a⟩) (by assumption) ?r3a
            case y3a => (intro w hSw; (try dsimp only at hSw); go_simp; try (with_reducible rfl))
            case r3a =>
              simp only [List.getElem_toArray, List.getElem_cons_succ, List.getElem_cons_zero, Act.put, List.setIfInBounds_toArray, List.set_cons_zero, List.set_cons_succ]
              refine wpAnyH_take (i := 4) (oi := _) (v := ?v4a) rfl (by kernel_rfl) (by kernel_rfl) (by kernel_rfl) (fun _ _ _ h => h) (Or.inl ⟨by kernel_rfl, ?y4a⟩) (by assumption) ?r4a
              case y4a => (intro w hSw; (try dsimp only at hSw); go_simp; try (with_reducible rfl))
              case r4a =>
                simp only [List.getElem_toArray, List.getElem_cons_succ, List.getElem_cons_zero, Act.put, List.setIfInBounds_toArray, List.set_cons_zero, List.set_cons_succ]
                refine wpAnyH_ready (rs := [5]) (by kernel_rfl) (by simp) ?_
                refine AllReadyH.cons (o := _) rfl (fun K hK => ?_) AllReadyH.nil
                go_simp
                (go_at_call 46; refine (clone_tms _ _ ws HRU.out hwl2).mono ?_; rintro e w5 ⟨B5, m5, d5, rfl, hO5, hb5⟩; have hc7 := own_at7 (HKU.out.below hb5).o HZK.out; have hf7 := hc7.2; have hc7 := hc7.1; have HO5 := Lib.hid hO5; have HB5 := Lib.hid hb5; clear hO5 hb5)
                go_wp2_with fail
                refine hK.out _ _ (by first | exact ⟨pw_cell_below HB5.out (show U2.drew.cell? _ = _ from by simpa using HQ2.out), pw_cell_below HB5.out (show U2.drew.cell? _ = _ from by simpa using HT7.out)⟩ | exact ⟨(cell_far nb1 _).trans hHeld.1, (cell_far nb2 _).trans hHeld.2⟩) (fun hHeld => ?_)
                clear hK K
                try simp only [List.getElem_toArray, List.getElem_cons_succ, List.getElem_cons_zero, Act.put, List.setIfInBounds_toArray, List.set_cons_zero, List.set_cons_succ]
                refine wpAnyH_take (i := 6) (oi := _) (v := ?v6a) rfl (by kernel_rfl) (by kernel_rfl) (by kernel_rfl) (fun _ _ _ h => h) (Or.inl ⟨by kernel_rfl, ?y6a⟩) (by assumption) ?r6a
                case y6a => (intro w hSw; (try dsimp only at hSw); go_simp; try (with_reducible rfl))
                case r6a =>
                  simp only [List.getElem_toArray, List.getElem_cons_succ, List.getElem_cons_zero, Act.put, List.setIfInBounds_toArray, List.set_cons_zero, List.set_cons_succ]
                  refine wpAnyH_take (i := 7) (oi := _) (v := ?v7a) rfl (by kernel_rfl) (by kernel_rfl) (by kernel_rfl) (fun _ _ _ h => h) (Or.inl ⟨by kernel_rfl, ?y7a⟩) (by assumption) ?r7a
                  case y7a => (intro w hSw; (try dsimp only at hSw); go_simp; try (with_reducible rfl))
                  case r7a =>
                    simp only [List.getElem_toArray, List.getElem_cons_succ, List.getElem_cons_zero, Act.put, List.setIfInBounds_toArray, List.set_cons_zero, List.set_cons_succ]
                    refine wpAnyH_ready (rs := [8]) (by kernel_rfl) (by simp) ?_
                    refine AllReadyH.cons (o := _) rfl (fun K hK => ?_) AllReadyH.nil
                    go_simp
                    skip
                    go_wp2_with fail
                    refine hK.out _ _ (by first | exact ⟨pw_cell_below HB5.out (show U2.drew.cell? _ = _ from by simpa using HQ2.out), pw_cell_below HB5.out (show U2.drew.cell? _ = _ from by simpa using HT7.out)⟩ | exact ⟨(cell_far nb1 _).trans hHeld.1, (cell_far nb2 _).trans hHeld.2⟩) (fun hHeld => ?_)
                    clear hK K
                    try simp only [List.getElem_toArray, List.getElem_cons_succ, List.getElem_cons_zero, Act.put, List.setIfInBounds_toArray, List.set_cons_zero, List.set_cons_succ]
                    refine wpAnyH_done (by kernel_rfl) ?_ _
                    clear hHeld
                    go_wp2_with fail
                    go_roundg (n1 - (kk + 1))
                    case measure => omega
                    case rel =>
                      have hbw : Below wr.heap.size wr w5 := (below_drew HAL.out).trans (HB5.out.mono (below_drew HAL.out).size)
                      have hO6 : OwE tenc 2 47 w5 wr.heap.size (Sl.v ⟨B5, m5, d5⟩) ws := OwE.lower HO5.out (by have := (below_drew HAL.out).size; exact this)
                      refine ⟨kk + 1, _, by omega, by omega, by go_num, (show Aside _ from ⟨(HB.out.trans (hbw.mono HB.out.size)).setCell ?_ _, HK.out.step HB.out.size HYK.out hbw hO6, ?_, ?_⟩)⟩
                      · exact HK.out.o.lo b rfl
                      · rw [Below.heap_setCell _ _ _ _ nb1]
                        exact keep hbw HY1.out
                      · rw [Below.heap_setCell _ _ _ _ (by
                          obtain ⟨cb, hcb⟩ := HK.out.o.typed b rfl
                          exact blocks_ne (show (26 : TypeId) ≠ 45 by decide) HY2.out hcb)]
                        exact keep hbw HY2.out
      
    · obtain rfl : kk = n1 := by omega
      have h1 : ¬ (kk : Int) < (kk : Int) := by omega
      have z0 := box_at y1 0 _ rfl
      have z1 := box_at y1 1 _ rfl
      have z2 := box_at y1 2 _ rfl
      have r0 := box_at y2 0 _ rfl
      have r1 := box_at y2 1 _ rfl
      have r2 := box_at y2 2 _ rfl
      have rf := box_free y2
      have HK := Lib.hid hk
      have HB := Lib.hid hb
      have HY2 := Lib.hid y2
      clear hk hb y1 y2 HA
      go_wp2_with fail
      refine bodyPost_ret (v := fv room next (.slice A1 kk c1)) (by simp [results, Try.results22, go_sem, r0, r1, r2]) rfl ?_
      refine ⟨A1, kk, c1, zs, rfl, HK.out.f, ?_, ?_⟩
      · exact OwF.far (OwF.far (OwF.far (HK.out.done (by omega)) HY2.out (by decide) (by decide) _ _) (heap_set HY2.out _) (by decide) (by decide) _ _) (heap_set (heap_set HY2.out _) _) (by decide) (by decide) _ _
      · exact ((HB.out.setCell (by simp) _).setCell (by simp) _).setCell (by simp) _
end Go.Proofs.Ytipjhokhflokmaa
