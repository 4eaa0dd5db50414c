/- lockageref18.own. -/
import Derived.Test.YtipjhokhflokmaaH
import Derived.Test.YtipjhokhflokmaaMB
set_option linter.unusedVariables false
set_option linter.unusedSimpArgs false
namespace Go.Proofs.Ytipjhokhflokmaa
open Go.RowKit
open Go.Proofs.YtipjhokhflokmaaW.PrintWords

theorem grown_nil {w w1 : World} {B : Nat} {A : Option Addr} (hg : w.grownBy w1 (Value.slice none 0 0).ownBlock) : Below w.heap.size w w1 := ((Below.refl _ _).grown hg (Nat.le_refl _) (fun k hk => by simp [Value.ownBlock] at hk))
set_option maxRecDepth 100000 in
set_option maxHeartbeats 4000000 in
theorem rown_any (w : World) (room next : Int) (A : Option Addr) (n c : Nat) (ys : List FV) (hr : RdF w (.slice A n c) ys) (hn : n ≤ 1000) (hw : ∀ (i : Nat) (y : FV), ys[i]? = some y → y.1.ws.length ≤ 1000) :
    Calls Try.prog 37 #[fv room next (.slice A n c)] w (OwnPost w room next ys) := by
  have hl := hr.len
  have hal1 : Below w.heap.size w (w.alloc (.cells #[.int .i64 room, .int .i64 next, .slice A n c] 26)) := (Below.refl _ _).alloc (Nat.le_refl _) _
  have hal : Below w.heap.size w ((w.alloc (.cells #[.int .i64 room, .int .i64 next, .slice A n c] 26)).alloc (.cells #[.int .i64 0, .int .i64 0, .slice none 0 0] 26)) := hal1.alloc (by simp) _
  have x1 : ((w.alloc (.cells #[.int .i64 room, .int .i64 next, .slice A n c] 26)).alloc (.cells #[.int .i64 0, .int .i64 0, .slice none 0 0] 26)).heap[w.heap.size]? = some (.cells #[.int .i64 room, .int .i64 next, .slice A n c] 26 (0, 0)) := keep ((Below.refl _ _).alloc (Nat.le_refl _) _) (heap_alloc_new w _)
  have x2 := heap_alloc_new (w.alloc (.cells #[.int .i64 room, .int .i64 next, .slice A n c] 26)) (.cells #[.int .i64 0, .int .i64 0, .slice none 0 0] 26)
  have s1 : (w.alloc (.cells #[.int .i64 room, .int .i64 next, .slice A n c] 26)).heap.size = w.heap.size + 1 := by simp
  rw [s1] at x2
  have HR := Lib.hid (hr.below hal)
  have HR0 := Lib.hid hr
  have HWL := Lib.hid hw
  clear hr hw s1 hal1
  go_enter Try.func37, Try.ntmps37
  go_upto_region 1 with fail
  generalize (w.alloc (.cells #[.int .i64 room, .int .i64 next, .slice A n c] 26)).alloc (.cells #[.int .i64 0, .int .i64 0, .slice none 0 0] 26) = U at *
  have z2 : U.cell? ⟨w.heap.size, 2, none⟩ = some (.slice A n c) := box_at x1 2 _ rfl
  have HX1 := Lib.hid x1
  have HX2 := Lib.hid x2
  have HAL := Lib.hid hal
  clear x1 x2 hal
  go_upto_region 2 with (at_builtin; refine wp_appE U.heap.size rfl _ _ 24 45 (.agg #[.string ⟨#[]⟩, .bool false, .int .i64 0, .int .i64 0, .string ⟨#[]⟩, .int .i64 0, .bool false, .slice none 0 0]) 96 rfl Try.underlying24 Try.info45 rfl (by omega) (by omega) _ _ [] ys rfl rfl (OwE.nil fencL _ _ _) HR.out.o fenc1 (by simp; omega) (Nat.le_refl _) ?_; intro v1 w2 hO hg hat; obtain ⟨A1, n1, c1, rfl⟩ := hO.slice'; have hb2 := grown_nil (B := 0) (A := none) hg; rw [List.nil_append] at hO; have zf := box_free (keep hb2 HX1.out); have z9 : w2.cell? ⟨w.heap.size, 2, none⟩ = some (.slice A n c) := box_at (keep hb2 HX1.out) 2 _ rfl; have HO := Lib.hid hO; have HB2 := Lib.hid hb2; clear hO hb2 hg hat)
  have y1 := bx_set (V' := .slice A1 n1 c1) (keep HB2.out HX1.out)
  have y2 : (w2.setCell ⟨w.heap.size, 2, none⟩ (.slice A1 n1 c1)).heap[w.heap.size + 1]? = some (.cells #[.int .i64 0, .int .i64 0, .slice none 0 0] 26 (0, 0)) := by
    rw [Below.heap_setCell _ _ _ _ (by simp)]
    exact keep HB2.out HX2.out
  have hO3 := fs_far HO.out (keep HB2.out HX1.out) (by decide) 2 (.slice A1 n1 c1)
  have hb3 : Below w.heap.size w (w2.setCell ⟨w.heap.size, 2, none⟩ (.slice A1 n1 c1)) := (HAL.out.trans (HB2.out.mono HAL.out.size)).setCell (Nat.le_refl _) _
  have hon := HO.out.rd.len
  have hok : OwnK w (w2.setCell ⟨w.heap.size, 2, none⟩ (.slice A1 n1 c1)) (.slice A1 n1 c1) ys ys 0 :=
    ⟨hO3.lower HAL.out.size, rfl, fun i y hi => absurd hi (Nat.not_lt_zero _), fun i j y z hi => absurd hi (Nat.not_lt_zero _), fun i _ => rfl⟩
  generalize w2.setCell ⟨w.heap.size, 2, none⟩ (.slice A1 n1 c1) = W3 at *
  clear z2 zf z9
  go_wp2_with fail
  have HY1 := Lib.hid y1
  have HY2 := Lib.hid y2
  have HOK := Lib.hid hok
  have HB3 := Lib.hid hb3
  clear y1 y2 hok hb3 hO3
  go_loopg [3] n1 (fun gg s3 wr => ∃ (kk : Nat) (zs : List FV), kk ≤ n1 ∧ n1 - kk ≤ gg ∧ s3 = .int .i64 kk ∧ Aside (Below w.heap.size w wr ∧ OwnK w wr (.slice A1 n1 c1) ys zs kk ∧ wr.heap[w.heap.size]? = some (.cells #[.int .i64 room, .int .i64 next, .slice A1 n1 c1] 26 (0, 0)) ∧ wr.heap[w.heap.size + 1]? = some (.cells #[.int .i64 0, .int .i64 0, .slice none 0 0] 26 (0, 0))))
  case atStart => exact ⟨0, ys, Nat.zero_le _, by omega, rfl, by show Aside _; exact ⟨HB3.out, HOK.out, HY1.out, HY2.out⟩⟩
  case round =>
    clear HOK HY1 HY2 HB3 HB2 HO HX1 HX2 HAL HR
    obtain ⟨kk, zs, hkk, hg, rfl, HA⟩ := hrel
    obtain ⟨hb, hk, y1, y2⟩ := HA.out
    by_cases hlt : kk < n1
    · have h1 : (kk : Int) < (n1 : Int) := by omega
      have hyk : ys[kk]? = some (ys[kk]'(by omega)) := List.getElem?_eq_getElem _
      generalize ys[kk]'(by omega) = y at hyk
      have hzk : zs[kk]? = some y := by rw [hk.old kk (Nat.le_refl _)]; exact hyk
      have hry := (HR0.out.r kk y hyk).below hb
      have hwl := HWL.out kk y hyk
      obtain ⟨⟨fk, fs, fi, fb, fd, ft, fo, ws⟩, ⟨B, m, d⟩⟩ := y
      obtain ⟨b, off, hA1, hbl, hcell⟩ := hk.o.rd.get (by omega)
      subst hA1
      have k7 : wr.cell? ⟨b, off + kk * 8 + 7, none⟩ = some (.slice B m d) := hcell kk 7 _ _ hzk rfl
      have q2 : wr.cell? ⟨w.heap.size, 2, none⟩ = some (.slice (some ⟨b, off, none⟩) n1 c1) := box_at y1 2 _ rfl
      have HYK := Lib.hid hyk
      have HZK := Lib.hid hzk
      have HK := Lib.hid hk
      have HB := Lib.hid hb
      have HY1 := Lib.hid y1
      have HY2 := Lib.hid y2
      have hwl2 : ws.length ≤ 1000 := hwl
      have hry2 : RdE tenc 2 wr.drew (.slice B m d) ws := RdE.below hry (below_drew (Below.refl _ _))
      have hkU := hk.below (below_drew (Below.refl _ _))
      obtain ⟨cb, hcb⟩ := hk.o.typed b rfl
      have nb1 : w.heap.size ≠ b := blocks_ne (show (26 : TypeId) ≠ 45 by decide) y1 hcb
      have HRU := Lib.hid hry2
      have HKU := Lib.hid hkU
      clear hyk hzk hry hcell hk hb y1 y2 HA hcb cb hwl hry2 hkU
      go_upto_region 5 with fail
      have HT7 := Lib.hid k7
      have HQ2 := Lib.hid q2
      clear k7 q2
      have k7 : wr.drew.cell? ⟨b, off + kk * 8 + 7, none⟩ = some (.slice B m d) := by simpa using HT7.out
      refine wp_region_held_drew (S := fun W' => W'.cell? ⟨w.heap.size, 2, none⟩ = some (.slice (some ⟨b, off, none⟩) n1 c1)) (by kernel_rfl) (by simpa using HQ2.out) (fun hHeld => ?_)
      refine wpAnyH_take (i := 0) (oi := _) (v := ?v0a) rfl (by kernel_rfl) (by kernel_rfl) (by kernel_rfl) (fun _ _ _ h => h) (Or.inl ⟨by kernel_rfl, ?y0a⟩) (by assumption) ?r0a
      case y0a => (intro w hSw; (try dsimp only at hSw); go_simp; try (with_reducible rfl))
      case r0a =>
        simp only [List.getElem_toArray, List.getElem_cons_succ, List.getElem_cons_zero, Act.put, List.setIfInBounds_toArray, List.set_cons_zero, List.set_cons_succ]
        refine wpAnyH_take (i := 1) (oi := _) (v := ?v1a) rfl (by kernel_rfl) (by kernel_rfl) (by kernel_rfl) (fun _ _ _ h => h) (Or.inl ⟨by kernel_rfl, ?y1a⟩) (by assumption) ?r1a
        case y1a => (intro w hSw; (try dsimp only at hSw); go_simp; try (with_reducible rfl))
        case r1a =>
          simp only [List.getElem_toArray, List.getElem_cons_succ, List.getElem_cons_zero, Act.put, List.setIfInBounds_toArray, List.set_cons_zero, List.set_cons_succ]
          refine wpAnyH_take (i := 2) (oi := _) (v := ?v2a) rfl (by kernel_rfl) (by kernel_rfl) (by kernel_rfl) (fun _ _ _ h => h) (Or.inl ⟨by kernel_rfl, ?y2a⟩) (by assumption) ?r2a
          case y2a => (intro w hSw; (try dsimp only at hSw); go_simp; try (with_reducible rfl))
          case r2a =>
            simp only [List.getElem_toArray, List.getElem_cons_succ, List.getElem_cons_zero, Act.put, List.setIfInBounds_toArray, List.set_cons_zero, List.set_cons_succ]
            refine wpAnyH_take (i := 3) (oi := _) (v := ?v3a) rfl (by kernel_rfl) (by kernel_rfl) (by kernel_rfl) (fun _ _ _ h => h) (Or.inl ⟨by kernel_rfl, ?y3a⟩) (by assumption) ?r3a
            case y3a => (intro w hSw; (try dsimp only at hSw); go_simp; try (with_reducible rfl))
            case r3a =>
              simp only [List.getElem_toArray, List.getElem_cons_succ, List.getElem_cons_zero, Act.put, List.setIfInBounds_toArray, List.set_cons_zero, List.set_cons_succ]
              refine wpAnyH_take (i := 4) (oi := _) (v := ?v4a) rfl (by kernel_rfl) (by kernel_rfl) (by kernel_rfl) (fun _ _ _ h => h) (Or.inl ⟨by kernel_rfl, ?y4a⟩) (by assumption) ?r4a
              case y4a => (intro w hSw; (try dsimp only at hSw); go_simp; try (with_reducible rfl))
              case r4a =>
                simp only [List.getElem_toArray, List.getElem_cons_succ, List.getElem_cons_zero, Act.put, List.setIfInBounds_toArray, List.set_cons_zero, List.set_cons_succ]
                refine wpAnyH_take (i := 5) (oi := _) (v := ?v5a) rfl (by kernel_rfl) (by kernel_rfl) (by kernel_rfl) (fun _ _ _ h => h) (Or.inl ⟨by kernel_rfl, ?y5a⟩) (by assumption) ?r5a
                case y5a => (intro w hSw; (try dsimp only at hSw); go_simp; try (with_reducible rfl))
                case r5a =>
                  simp only [List.getElem_toArray, List.getElem_cons_succ, List.getElem_cons_zero, Act.put, List.setIfInBounds_toArray, List.set_cons_zero, List.set_cons_succ]
                  refine wpAnyH_take (i := 6) (oi := _) (v := ?v6a) rfl (by kernel_rfl) (by kernel_rfl) (by kernel_rfl) (fun _ _ _ h => h) (Or.inl ⟨by kernel_rfl, ?y6a⟩) (by assumption) ?r6a
                  case y6a => (intro w hSw; (try dsimp only at hSw); go_simp; try (with_reducible rfl))
                  case r6a =>
                    simp only [List.getElem_toArray, List.getElem_cons_succ, List.getElem_cons_zero, Act.put, List.setIfInBounds_toArray, List.set_cons_zero, List.set_cons_succ]
                    refine wpAnyH_take (i := 7) (oi := _) (v := ?v7a) rfl (by kernel_rfl) (by kernel_rfl) (by kernel_rfl) (fun _ _ _ h => h) (Or.inl ⟨by kernel_rfl, ?y7a⟩) (by assumption) ?r7a
                    case y7a => (intro w hSw; (try dsimp only at hSw); go_simp; try (with_reducible rfl))
                    case r7a =>
                      simp only [List.getElem_toArray, List.getElem_cons_succ, List.getElem_cons_zero, Act.put, List.setIfInBounds_toArray, List.set_cons_zero, List.set_cons_succ]
                      refine wpAnyH_ready (rs := [8]) (by kernel_rfl) (by simp) ?_
                      refine AllReadyH.cons (o := _) rfl (fun K hK => ?_) AllReadyH.nil
                      go_simp
                      skip
                      go_wp2_with fail
                      refine hK.out _ _ (by first | exact (cell_far nb1 _).trans (pw_cell_below HB5.out (show wr.drew.cell? _ = _ from by simpa using HQ2.out)) | exact pw_cell_below HB5.out (show wr.drew.cell? _ = _ from by simpa using HQ2.out) | (simpa using HQ2.out)) (fun hHeld => ?_)
                      clear hK K
                      try simp only [List.getElem_toArray, List.getElem_cons_succ, List.getElem_cons_zero, Act.put, List.setIfInBounds_toArray, List.set_cons_zero, List.set_cons_succ]
                      refine wpAnyH_ready (rs := [9]) (by kernel_rfl) (by simp) ?_
                      refine AllReadyH.cons (o := _) rfl (fun K hK => ?_) AllReadyH.nil
                      (refine wp_app_stepE wr.heap.size (by rfl) _ _ 43 47 (.agg #[.int .i64 0, .int .i64 0]) 16 (by rfl) Try.underlying43 Try.info47 rfl (by omega) (by omega) (.slice none 0 0) (.slice B m d) [] ws (by rfl) (by rfl) (OwE.nil tencL _ _ _) HRU.out tenc1 (by simp; omega) (by simp) ?_; intro v1 w5 hO5 hg5 _; obtain ⟨B5, m5, d5, rfl⟩ := hO5.slice'; rw [List.nil_append] at hO5; have hb5 := grown_nil (B := 0) (A := none) hg5; have hc7 := own_at7 (HKU.out.below hb5).o HZK.out; have hf7 := hc7.2; have hc7 := hc7.1; have HO5 := Lib.hid hO5; have HB5 := Lib.hid hb5; clear hO5 hb5 hg5)
                      refine hK.out _ _ (by first | exact (cell_far nb1 _).trans (pw_cell_below HB5.out (show wr.drew.cell? _ = _ from by simpa using HQ2.out)) | exact pw_cell_below HB5.out (show wr.drew.cell? _ = _ from by simpa using HQ2.out) | (simpa using HQ2.out)) (fun hHeld => ?_)
                      clear hK K
                      try simp only [List.getElem_toArray, List.getElem_cons_succ, List.getElem_cons_zero, Act.put, List.setIfInBounds_toArray, List.set_cons_zero, List.set_cons_succ]
                      refine wpAnyH_take (i := 10) (oi := _) (v := ?v10a) rfl (by kernel_rfl) (by kernel_rfl) (by kernel_rfl) (fun _ _ _ h => h) (Or.inl ⟨by kernel_rfl, ?y10a⟩) (by assumption) ?r10a
                      case y10a => (intro w hSw; (try dsimp only at hSw); go_simp; try (with_reducible rfl))
                      case r10a =>
                        simp only [List.getElem_toArray, List.getElem_cons_succ, List.getElem_cons_zero, Act.put, List.setIfInBounds_toArray, List.set_cons_zero, List.set_cons_succ]
                        refine wpAnyH_take (i := 11) (oi := _) (v := ?v11a) rfl (by kernel_rfl) (by kernel_rfl) (by kernel_rfl) (fun _ _ _ h => h) (Or.inl ⟨by kernel_rfl, ?y11a⟩) (by assumption) ?r11a
                        case y11a => (intro w hSw; (try dsimp only at hSw); go_simp; try (with_reducible rfl))
                        case r11a =>
                          simp only [List.getElem_toArray, List.getElem_cons_succ, List.getElem_cons_zero, Act.put, List.setIfInBounds_toArray, List.set_cons_zero, List.set_cons_succ]
                          refine wpAnyH_ready (rs := [12]) (by kernel_rfl) (by simp) ?_
                          refine AllReadyH.cons (o := _) rfl (fun K hK => ?_) AllReadyH.nil
                          go_simp
                          skip
                          go_wp2_with fail
                          refine hK.out _ _ (by first | exact (cell_far nb1 _).trans (pw_cell_below HB5.out (show wr.drew.cell? _ = _ from by simpa using HQ2.out)) | exact pw_cell_below HB5.out (show wr.drew.cell? _ = _ from by simpa using HQ2.out) | (simpa using HQ2.out)) (fun hHeld => ?_)
                          clear hK K
                          try simp only [List.getElem_toArray, List.getElem_cons_succ, List.getElem_cons_zero, Act.put, List.setIfInBounds_toArray, List.set_cons_zero, List.set_cons_succ]
                          refine wpAnyH_done (by kernel_rfl) ?_ _
                          go_wp2_with fail
                          go_roundg (n1 - (kk + 1))
                          case measure => omega
                          case rel =>
                            have hbw : Below wr.heap.size wr w5 := (below_drew (Below.refl _ _)).trans (HB5.out.mono (below_drew (Below.refl wr.heap.size wr)).size)
                            have hO6 : OwE tenc 2 47 w5 wr.heap.size (Sl.v ⟨B5, m5, d5⟩) ws := HO5.out
                            refine ⟨kk + 1, _, by omega, by omega, by go_num, (show Aside _ from ⟨(HB.out.trans (hbw.mono HB.out.size)).setCell ?_ _, HK.out.step HB.out.size HYK.out hbw hO6, ?_, ?_⟩)⟩
                            · exact HK.out.o.lo b rfl
                            · rw [Below.heap_setCell _ _ _ _ nb1]
                              exact keep hbw HY1.out
                            · rw [Below.heap_setCell _ _ _ _ (by
                                obtain ⟨cb, hcb⟩ := HK.out.o.typed b rfl
                                exact blocks_ne (show (26 : TypeId) ≠ 45 by decide) HY2.out hcb)]
                              exact keep hbw HY2.out
      
    · obtain rfl : kk = n1 := by omega
      have h1 : ¬ (kk : Int) < (kk : Int) := by omega
      have z0 := box_at y1 0 _ rfl
      have z1 := box_at y1 1 _ rfl
      have z2 := box_at y1 2 _ rfl
      have r0 := box_at y2 0 _ rfl
      have r1 := box_at y2 1 _ rfl
      have r2 := box_at y2 2 _ rfl
      have rf := box_free y2
      have HK := Lib.hid hk
      have HB := Lib.hid hb
      have HY2 := Lib.hid y2
      clear hk hb y1 y2 HA
      go_wp2_with fail
      refine bodyPost_ret (v := fv room next (.slice A1 kk c1)) (by simp [results, Try.results37, go_sem, r0, r1, r2]) rfl ?_
      refine ⟨A1, kk, c1, zs, rfl, HK.out.f, ?_, ?_⟩
      · exact OwF.far (OwF.far (OwF.far (HK.out.done (by omega)) HY2.out (by decide) (by decide) _ _) (heap_set HY2.out _) (by decide) (by decide) _ _) (heap_set (heap_set HY2.out _) _) (by decide) (by decide) _ _
      · exact ((HB.out.setCell (by simp) _).setCell (by simp) _).setCell (by simp) _
end Go.Proofs.Ytipjhokhflokmaa
