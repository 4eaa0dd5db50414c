/- Contract of ids.Give. -/
import Derived.Test.YteaifndkmknanaaH
set_option linter.unusedVariables false
namespace Go.Proofs.Yteaifndkmknanaa
open Go.RowKit
open Go.Proofs.YteaifndkmknanaaW.PrintWords

set_option maxHeartbeats 1000000 in
theorem give_no (w : World) (Ag : Option Addr) (ng cg : Nat) (Ab : Option Addr) (nb cb : Nat) (Af : Option Addr) (nf cf : Nat) (t : Tab) (id : Int) (ht : TabR w (.slice Ag ng cg) (.slice Ab nb cb) (.slice Af nf cf) t) (hs : t.small) (hr : rightB t = false) :
    Calls Try.prog 14 #[.agg #[.slice Ag ng cg, .slice Ab nb cb, .slice Af nf cf], .int .i64 id] w (TabPost w t [.int .i64 1]) := by
  have HT := Lib.hid ht
  have HR := Lib.hid hr
  clear ht hr
  go_enter Try.func14, Try.ntmps14
  go_wp2_with (first
    | (go_at_call 22
       refine (of_any _ _ _ _ t (HT.out.below ?_) hs).mono ?_
       · exact ((Below.refl _ _).alloc (Nat.le_refl _) _).alloc (by simp) _
       rintro e w2 ⟨bx, Ag', ng', cg', Ab', nb', cb', Af', nf', cf', rfl, hx, hxl, hO, hb2⟩
       have HO := Lib.hid hO
       clear hO
       obtain ⟨q0, q1, q2, q3, q4⟩ := boxes2 hb2 hx (Below.refl _ _)
       have y0 := box_at q2 0 (.slice Ag ng cg) rfl
       have y1 := box_at q2 1 (.slice Ab nb cb) rfl
       have y2 := box_at q2 2 (.slice Af nf cf) rfl
       clear q1 q2 q3 q4)
    | (go_at_call 16
       refine (right_any _ Ag ng cg Ab nb cb Af nf cf t (HT.out.below q0) hs).mono ?_
       rw [HR.out]
       rintro e w3 ⟨rfl, hb3⟩
       clear y0 y1 y2
       have HO' := Lib.hid ((HO.out.below hb3).lower (base' := w.heap.size + 2) (by simp))
       obtain ⟨q0, q1, q2, q3, q4⟩ := boxes2 hb2 hx hb3
       have HQ := Lib.hid q0
       have hbx2 : w.heap.size + 1 < bx := by simp at hxl; omega
       clear q0 hb2 hb3 hx HO hxl
       have r0 := box_at q3 0 (.slice none 0 0) rfl
       have r1 := box_at q3 1 (.slice none 0 0) rfl
       have r2 := box_at q3 2 (.slice none 0 0) rfl
       have rf := box_free q3
       have z0 := box_at q4 0 (.slice Ag' ng' cg') rfl
       have z1 := box_at q4 1 (.slice Ab' nb' cb') rfl
       have z2 := box_at q4 2 (.slice Af' nf' cf') rfl
       have zf := box_free q4
       have Q4 := Lib.hid q4
       have Q3 := Lib.hid q3
       clear q2 q3 q4))
  refine bodyPost_ret (v := .tuple #[.agg #[.slice Ag' ng' cg', .slice Ab' nb' cb', .slice Af' nf' cf'], .int .i64 1]) (by simp [results, Try.results14, go_sem, r0, r1, r2]) rfl ?_
  refine ⟨Ag', ng', cg', Ab', nb', cb', Af', nf', cf', rfl, ?_, ?_, HO'.out.fresh (by omega)⟩
  · exact ((((HO'.out.below (pw_below_drewN (Below.refl _ _) 0)).far (by simp) _).far (by simp) _).far (by simp) _).r
  · exact (((pw_below_drewN HQ.out 0).setCell (by simp) _).setCell (by simp) _).setCell (by simp) _

set_option maxHeartbeats 1000000 in
theorem give_none (w : World) (Ag : Option Addr) (ng cg : Nat) (Ab : Option Addr) (nb cb : Nat) (Af : Option Addr) (nf cf : Nat) (t : Tab) (id : Int) (ht : TabR w (.slice Ag ng cg) (.slice Ab nb cb) (.slice Af nf cf) t) (hs : t.small) (hp : RightP t) (hb : placeB t id = false) :
    Calls Try.prog 14 #[.agg #[.slice Ag ng cg, .slice Ab nb cb, .slice Af nf cf], .int .i64 id] w (TabPost w t [.int .i64 5]) := by
  have HT := Lib.hid ht
  have HR := Lib.hid (rightB_yes hp)
  have HP := Lib.hid hp
  have HB := Lib.hid hb
  obtain ⟨pi, hi⟩ : ∃ pi, placeI t id = pi := ⟨_, rfl⟩
  have HI := Lib.hid hi
  clear ht hp hb hi
  go_enter Try.func14, Try.ntmps14
  go_wp2_with (first
    | (go_at_call 22
       refine (of_any _ _ _ _ t (HT.out.below ?_) hs).mono ?_
       · exact ((Below.refl _ _).alloc (Nat.le_refl _) _).alloc (by simp) _
       rintro e w2 ⟨bx, Ag', ng', cg', Ab', nb', cb', Af', nf', cf', rfl, hx, hxl, hO, hb2⟩
       have HO := Lib.hid hO
       clear hO
       obtain ⟨q0, q1, q2, q3, q4⟩ := boxes2 hb2 hx (Below.refl _ _)
       have y0 := box_at q2 0 (.slice Ag ng cg) rfl
       have y1 := box_at q2 1 (.slice Ab nb cb) rfl
       have y2 := box_at q2 2 (.slice Af nf cf) rfl
       clear q1 q2 q3 q4)
    | (go_at_call 16
       refine (right_any _ Ag ng cg Ab nb cb Af nf cf t (HT.out.below q0) hs).mono ?_
       rw [HR.out]
       rintro e w3 ⟨rfl, hb3⟩
       clear y0 y1 y2
       have HO' := Lib.hid ((HO.out.below hb3).lower (base' := w.heap.size + 2) (by simp))
       obtain ⟨q0, q1, q2, q3, q4⟩ := boxes2 hb2 hx hb3
       have HQ := Lib.hid q0
       have hbx2 : w.heap.size + 1 < bx := by simp at hxl; omega
       clear q0 hb2 hb3 hx HO hxl
       have r0 := box_at q3 0 (.slice none 0 0) rfl
       have r1 := box_at q3 1 (.slice none 0 0) rfl
       have r2 := box_at q3 2 (.slice none 0 0) rfl
       have rf := box_free q3
       have z0 := box_at q4 0 (.slice Ag' ng' cg') rfl
       have z1 := box_at q4 1 (.slice Ab' nb' cb') rfl
       have z2 := box_at q4 2 (.slice Af' nf' cf') rfl
       have zf := box_free q4
       have Q4 := Lib.hid q4
       have Q3 := Lib.hid q3
       clear q2 q3 q4)
    | (go_at_call 24
       refine (place_any id _ bx _ _ _ t HP.out z0 z1 HO'.out.r).mono ?_
       rw [HI.out, HB.out]
       rintro e w4 ⟨rfl, q, rfl⟩ ))
  refine bodyPost_ret (v := .tuple #[.agg #[.slice Ag' ng' cg', .slice Ab' nb' cb', .slice Af' nf' cf'], .int .i64 5]) (by simp [results, Try.results14, go_sem, r0, r1, r2]) rfl ?_
  refine ⟨Ag', ng', cg', Ab', nb', cb', Af', nf', cf', rfl, ?_, ?_, HO'.out.fresh (by omega)⟩
  · exact ((((HO'.out.below (pw_below_drewN (Below.refl _ _) q)).far (by simp) _).far (by simp) _).far (by simp) _).r
  · exact (((pw_below_drewN HQ.out q).setCell (by simp) _).setCell (by simp) _).setCell (by simp) _

set_option maxHeartbeats 1000000 in
theorem give_big (w : World) (Ag : Option Addr) (ng cg : Nat) (Ab : Option Addr) (nb cb : Nat) (Af : Option Addr) (nf cf : Nat) (t : Tab) (id : Int) (ht : TabR w (.slice Ag ng cg) (.slice Ab nb cb) (.slice Af nf cf) t) (hs : t.small) (hp : RightP t) (hb : placeB t id = true) (i : Nat) (hi : placeI t id = i) (hig : i < t.gens.length) (hg : t.gens[i] = 9007199254740992) :
    Calls Try.prog 14 #[.agg #[.slice Ag ng cg, .slice Ab nb cb, .slice Af nf cf], .int .i64 id] w (TabPost w t [.int .i64 3]) := by
  have HT := Lib.hid ht
  have HR := Lib.hid (rightB_yes hp)
  have HP := Lib.hid hp
  have HB := Lib.hid hb
  have HI := Lib.hid hi
  have HG := Lib.hid hg
  clear ht hp hb hi hg
  go_enter Try.func14, Try.ntmps14
  go_wp2_with (first
    | (go_at_call 22
       refine (of_any _ _ _ _ t (HT.out.below ?_) hs).mono ?_
       · exact ((Below.refl _ _).alloc (Nat.le_refl _) _).alloc (by simp) _
       rintro e w2 ⟨bx, Ag', ng', cg', Ab', nb', cb', Af', nf', cf', rfl, hx, hxl, hO, hb2⟩
       have HO := Lib.hid hO
       clear hO
       obtain ⟨q0, q1, q2, q3, q4⟩ := boxes2 hb2 hx (Below.refl _ _)
       have y0 := box_at q2 0 (.slice Ag ng cg) rfl
       have y1 := box_at q2 1 (.slice Ab nb cb) rfl
       have y2 := box_at q2 2 (.slice Af nf cf) rfl
       clear q1 q2 q3 q4)
    | (go_at_call 16
       refine (right_any _ Ag ng cg Ab nb cb Af nf cf t (HT.out.below q0) hs).mono ?_
       rw [HR.out]
       rintro e w3 ⟨rfl, hb3⟩
       clear y0 y1 y2
       have HO' := Lib.hid ((HO.out.below hb3).lower (base' := w.heap.size + 2) (by simp))
       obtain ⟨q0, q1, q2, q3, q4⟩ := boxes2 hb2 hx hb3
       have HQ := Lib.hid q0
       have hbx2 : w.heap.size + 1 < bx := by simp at hxl; omega
       clear q0 hb2 hb3 hx HO hxl
       have r0 := box_at q3 0 (.slice none 0 0) rfl
       have r1 := box_at q3 1 (.slice none 0 0) rfl
       have r2 := box_at q3 2 (.slice none 0 0) rfl
       have rf := box_free q3
       have z0 := box_at q4 0 (.slice Ag' ng' cg') rfl
       have z1 := box_at q4 1 (.slice Ab' nb' cb') rfl
       have z2 := box_at q4 2 (.slice Af' nf' cf') rfl
       have zf := box_free q4
       have Q4 := Lib.hid q4
       have Q3 := Lib.hid q3
       clear q2 q3 q4
       have hlg := HO'.out.g.rd.len
       rw [ints_len] at hlg
       obtain ⟨bg, og, rfl, hbg, hbg2, _, hgc, hgf⟩ := HO'.out.g.form' (by omega)
       have g0 := hgc i _ (ints_at hig)
       rw [HG.out] at g0
       have hiz : (i : Int) < (ng' : Int) := by omega
       have HLG := Lib.hid hlg
       clear hgc hlg)
    | (go_at_call 24
       refine (place_any id _ bx _ _ _ t HP.out z0 z1 HO'.out.r).mono ?_
       rw [HI.out, HB.out]
       rintro e w4 ⟨rfl, q, rfl⟩ ))
  refine bodyPost_ret (v := .tuple #[.agg #[.slice (some ⟨bg, og, none⟩) ng' cg', .slice Ab' nb' cb', .slice Af' nf' cf'], .int .i64 3]) (by simp [results, Try.results14, go_sem, r0, r1, r2]) rfl ?_
  refine ⟨some ⟨bg, og, none⟩, ng', cg', Ab', nb', cb', Af', nf', cf', rfl, ?_, ?_, HO'.out.fresh (by omega)⟩
  · exact ((((HO'.out.below (pw_below_drewN (Below.refl _ _) q)).far (by simp) _).far (by simp) _).far (by simp) _).r
  · exact (((pw_below_drewN HQ.out q).setCell (by simp) _).setCell (by simp) _).setCell (by simp) _

theorem blocks_ne {w : World} {k k' : Nat} {c c' : Array Value} {e e' : TypeId} (he : e ≠ e') (h1 : w.heap[k]? = some (.cells c e (0, 0))) (h2 : w.heap[k']? = some (.cells c' e' (0, 0))) : ¬ k = k' := by
  rintro rfl
  rw [h1] at h2
  injection h2 with h2
  injection h2 with _ h2
  exact he h2

/-- behind 'x.Busy[i] = false; x.Gens[i]++' -/
theorem give_mid {w3 : World} {bx rb bg og ng cg bb ob nb cb i base : Nat} {vf : Value} {t : Tab} {rs : Array Value} (hO : TabO w3 base (.slice (some ⟨bg, og, none⟩) ng cg) (.slice (some ⟨bb, ob, none⟩) nb cb) vf t) (hg : i < t.gens.length) (hb : i < t.busy.length)
    (hx : w3.heap[bx]? = some (.cells #[.slice (some ⟨bg, og, none⟩) ng cg, .slice (some ⟨bb, ob, none⟩) nb cb, vf] 47 (0, 0))) (hr : w3.heap[rb]? = some (.cells rs 25 (0, 0))) (q : Nat) (y : Int) :
    (((w3.drewN q).setCell ⟨bb, ob + i, none⟩ (.bool false)).setCell ⟨bg, og + i, none⟩ (.int .i64 y)).heap[bx]? = some (.cells #[.slice (some ⟨bg, og, none⟩) ng cg, .slice (some ⟨bb, ob, none⟩) nb cb, vf] 47 (0, 0)) ∧
    (((w3.drewN q).setCell ⟨bb, ob + i, none⟩ (.bool false)).setCell ⟨bg, og + i, none⟩ (.int .i64 y)).heap[rb]? = some (.cells rs 25 (0, 0)) ∧
    TabO (((w3.drewN q).setCell ⟨bb, ob + i, none⟩ (.bool false)).setCell ⟨bg, og + i, none⟩ (.int .i64 y)) base (.slice (some ⟨bg, og, none⟩) ng cg) (.slice (some ⟨bb, ob, none⟩) nb cb) vf ⟨t.gens.set i y, t.busy.set i false, t.free⟩ := by
  obtain ⟨cb0, hcb0⟩ := hO.b.typed bb rfl
  obtain ⟨cg0, hcg0⟩ := hO.g.typed bg rfl
  have ty : ∀ {k k' : Nat} {c c' : Array Value} {e e' : TypeId}, e ≠ e' → w3.heap[k]? = some (.cells c e (0, 0)) → w3.heap[k']? = some (.cells c' e' (0, 0)) → k ≠ k' := by
    rintro k k' c c' e e' he h1 h2 rfl
    rw [h1] at h2
    injection h2 with h2
    injection h2 with _ h2
    exact he h2
  have x1 : bx ≠ bb := ty (by decide) hx hcb0
  have x2 : bx ≠ bg := ty (by decide) hx hcg0
  have r1 : rb ≠ bb := ty (by decide) hr hcb0
  have r2 : rb ≠ bg := ty (by decide) hr hcg0
  have bgb : bb ≠ bg := ty (by decide) hcb0 hcg0
  have h0 := hO.below (pw_below_drewN (Below.refl _ _) q)
  refine ⟨?_, ?_, ⟨?_, ?_, ?_, hO.ne⟩⟩
  · rw [Below.heap_setCell _ _ _ _ x2, Below.heap_setCell _ _ _ _ x1]
    exact hx
  · rw [Below.heap_setCell _ _ _ _ r2, Below.heap_setCell _ _ _ _ r1]
    exact hr
  · have := (h0.g.far (p := ⟨bb, ob + i, none⟩) (fun k hk => by cases hk; exact fun e => bgb e.symm) (.bool false)).set i (by rw [ints_len]; exact hg) (.int .i64 y)
    rwa [show (ints t.gens).set i (.int .i64 y) = ints (t.gens.set i y) by simp [ints, List.map_set]] at this
  · have := (h0.b.set i (by rw [bls_len]; exact hb) (.bool false)).far (p := ⟨bg, og + i, none⟩) (fun k hk => by cases hk; exact bgb) (.int .i64 y)
    rwa [show (bls t.busy).set i (.bool false) = bls (t.busy.set i false) by simp [bls, List.map_set]] at this
  · refine (h0.f.far (fun k hk => ?_) _).far (fun k hk => ?_) _
    · obtain ⟨c, hc⟩ := hO.f.typed k hk
      exact ty (by decide) hc hcb0
    · intro e
      subst e
      exact hO.ne _ rfl hk

/-- behind 'x.Free = append(x.Free, i)' -/
theorem give_end {W w1 : World} {bx rb base : Nat} {vg vb vf v1 : Value} {o : Obj} {t : Tab} {x : Int} {rs : Array Value} (m1 : W.heap[bx]? = some (.cells #[vg, vb, vf] 47 (0, 0))) (m2 : W.heap[rb]? = some (.cells rs 25 (0, 0)))
    (m3 : TabO W base vg vb vf t) (hg : (W.alloc o).grownBy w1 vf.ownBlock) (h1 : Ow 3 w1 base v1 (ints t.free ++ [.int .i64 x])) :
    w1.heap[bx]? = some (.cells #[vg, vb, vf] 47 (0, 0)) ∧ w1.heap[rb]? = some (.cells rs 25 (0, 0)) ∧
    (w1.setCell ⟨bx, 2, none⟩ v1).heap[bx]? = some (.cells #[vg, vb, v1] 47 (0, 0)) ∧ (w1.setCell ⟨bx, 2, none⟩ v1).heap[rb]? = some (.cells rs 25 (0, 0)) ∧
    TabR (w1.setCell ⟨bx, 2, none⟩ v1) vg vb v1 ⟨t.gens, t.busy, t.free ++ [x]⟩ := by
  have lx := (Array.getElem?_eq_some_iff.1 m1).1
  have lr := (Array.getElem?_eq_some_iff.1 m2).1
  have ne : ∀ {k : Nat} {c : Array Value} {e : TypeId}, e ≠ 3 → W.heap[k]? = some (.cells c e (0, 0)) → some k ≠ vf.ownBlock := by
    intro k c e he hk h
    obtain ⟨c', hc'⟩ := m3.f.typed k h.symm
    exact blocks_ne he hk hc' rfl
  have k1 : w1.heap[bx]? = some (.cells #[vg, vb, vf] 47 (0, 0)) := by
    rw [hg.block bx (by simp; omega) (ne (by decide) m1), Below.heap_alloc _ _ _ lx]
    exact m1
  have k2 : w1.heap[rb]? = some (.cells rs 25 (0, 0)) := by
    rw [hg.block rb (by simp; omega) (ne (by decide) m2), Below.heap_alloc _ _ _ lr]
    exact m2
  have al : Below W.heap.size W (W.alloc o) := (Below.refl _ _).alloc (Nat.le_refl _) _
  have og : Ow 3 w1 base vg (ints t.gens) := (m3.g.below al).grown hg (fun k hk h => m3.ne k hk h.symm)
  have ob : Ow 4 w1 base vb (bls t.busy) := (m3.b.below al).grown hg (fun k hk => by
    obtain ⟨c, hc⟩ := m3.b.typed k hk
    exact ne (by decide) hc)
  have fx : ∀ (v : Value) (e : TypeId) (xs : List Value), e ≠ 47 → Ow e w1 base v xs → ∀ k, v.ownBlock = some k → k ≠ bx := by
    intro v e xs he h k hk
    obtain ⟨c, hc⟩ := h.typed k hk
    exact blocks_ne he hc k1
  refine ⟨k1, k2, ?_, ?_, ⟨?_, ?_, ?_⟩⟩
  · rw [heap_set k1]; rfl
  · rw [Below.heap_setCell _ _ _ _ (blocks_ne (by decide) k2 k1)]; exact k2
  · exact (og.far (fx _ 3 _ (by decide) og) _).rd
  · exact (ob.far (fx _ 4 _ (by decide) ob) _).rd
  · have := (h1.far (p := ⟨bx, 2, none⟩) (fx _ 3 _ (by decide) h1) v1).rd
    rwa [show ints t.free ++ [.int .i64 x] = ints (t.free ++ [x]) by simp [ints]] at this

set_option maxHeartbeats 2000000 in
theorem give_ok (w : World) (Ag : Option Addr) (ng cg : Nat) (Ab : Option Addr) (nb cb : Nat) (Af : Option Addr) (nf cf : Nat) (t : Tab) (id : Int) (ht : TabR w (.slice Ag ng cg) (.slice Ab nb cb) (.slice Af nf cf) t) (hs : t.small) (hp : RightP t) (hb : placeB t id = true) (i : Nat) (hi : placeI t id = i) (hig : i < t.gens.length) (g : Int) (hg : t.gens[i] = g) (hg1 : g < 9007199254740992) :
    Calls Try.prog 14 #[.agg #[.slice Ag ng cg, .slice Ab nb cb, .slice Af nf cf], .int .i64 id] w (TabPost w ⟨t.gens.set i (g + 1), t.busy.set i false, t.free ++ [(i : Int)]⟩ [.int .i64 0]) := by
  have hib : i < t.busy.length := by rw [hp.h3]; exact hig
  have hgb := hp.gen hig
  rw [hg] at hgb
  obtain ⟨hg0, _⟩ := hgb
  have hgn : (g == 9007199254740992) = false := by rw [beq_eq_false_iff_ne]; omega
  have HT := Lib.hid ht
  have HR := Lib.hid (rightB_yes hp)
  have HP := Lib.hid hp
  have HB := Lib.hid hb
  have HI := Lib.hid hi
  have HG := Lib.hid hg
  clear ht hp hb hi hg
  go_enter Try.func14, Try.ntmps14
  go_wp2_with (first
    | (go_at_call 22
       refine (of_any _ _ _ _ t (HT.out.below ?_) hs).mono ?_
       · exact ((Below.refl _ _).alloc (Nat.le_refl _) _).alloc (by simp) _
       rintro e w2 ⟨bx, Ag', ng', cg', Ab', nb', cb', Af', nf', cf', rfl, hx, hxl, hO, hb2⟩
       have HO := Lib.hid hO
       clear hO
       obtain ⟨q0, q1, q2, q3, q4⟩ := boxes2 hb2 hx (Below.refl _ _)
       have y0 := box_at q2 0 (.slice Ag ng cg) rfl
       have y1 := box_at q2 1 (.slice Ab nb cb) rfl
       have y2 := box_at q2 2 (.slice Af nf cf) rfl
       clear q1 q2 q3 q4)
    | (go_at_call 16
       refine (right_any _ Ag ng cg Ab nb cb Af nf cf t (HT.out.below q0) hs).mono ?_
       rw [HR.out]
       rintro e w3 ⟨rfl, hb3⟩
       clear y0 y1 y2
       have HO' := Lib.hid ((HO.out.below hb3).lower (base' := w.heap.size + 2) (by simp))
       obtain ⟨q0, q1, q2, q3, q4⟩ := boxes2 hb2 hx hb3
       have HQ := Lib.hid q0
       have hbx2 : w.heap.size + 1 < bx := by simp at hxl; omega
       clear q0 hb2 hb3 hx HO hxl
       have r0 := box_at q3 0 (.slice none 0 0) rfl
       have r1 := box_at q3 1 (.slice none 0 0) rfl
       have r2 := box_at q3 2 (.slice none 0 0) rfl
       have rf := box_free q3
       have z0 := box_at q4 0 (.slice Ag' ng' cg') rfl
       have z1 := box_at q4 1 (.slice Ab' nb' cb') rfl
       have z2 := box_at q4 2 (.slice Af' nf' cf') rfl
       have zf := box_free q4
       have Q4 := Lib.hid q4
       have Q3 := Lib.hid q3
       clear q2 q3 q4
       have hlg := HO'.out.g.rd.len
       rw [ints_len] at hlg
       obtain ⟨bg, og, rfl, hbg, hbg2, _, hgc, hgf⟩ := HO'.out.g.form' (by omega)
       have g0 := hgc i _ (ints_at hig)
       rw [HG.out] at g0
       have hiz : (i : Int) < (ng' : Int) := by omega
       have HLG := Lib.hid hlg
       have hlb := HO'.out.b.rd.len
       rw [bls_len] at hlb
       obtain ⟨bb, ob, rfl, hbb, hbb2, _, hbc, hbf⟩ := HO'.out.b.form' (by omega)
       have b0 := hbc i _ (bls_at hib)
       have hjz : (i : Int) < (nb' : Int) := by omega
       have HLB := Lib.hid hlb
       obtain ⟨c1, hc1⟩ := hbg2
       obtain ⟨c2, hc2⟩ := hbb2
       have n1 : ¬ bg = bb := blocks_ne (by decide) hc1 hc2
       have n2 : ¬ bb = bg := blocks_ne (by decide) hc2 hc1
       have n3 : ¬ bx = bb := blocks_ne (by decide) Q4.out hc2
       have n4 : ¬ bb = bx := blocks_ne (by decide) hc2 Q4.out
       have n5 : ¬ bx = bg := blocks_ne (by decide) Q4.out hc1
       have n6 : ¬ bg = bx := blocks_ne (by decide) hc1 Q4.out
       clear hgc hlg hbc hlb hc1 hc2)
    | (go_at_call 24
       refine (place_any id _ bx _ _ _ t HP.out z0 z1 HO'.out.r).mono ?_
       rw [HI.out, HB.out]
       rintro e w4 ⟨rfl, q, rfl⟩)
    | (at_builtin
       go_loud (
       obtain ⟨m1, m2, m3⟩ := give_mid HO'.out hig hib Q4.out Q3.out q (g + 1)
       have hbel : Below w.heap.size w (((w3.drewN q).setCell ⟨bb, ob + i, none⟩ (.bool false)).setCell ⟨bg, og + i, none⟩ (.int .i64 (g + 1))) := ((pw_below_drewN HQ.out q).setCell (by simp; omega) _).setCell (by simp; omega) _
       clear r0 r1 r2 rf z0 z1 z2 zf g0 hgf b0 hbf Q3 HQ
       have hsz := Lib.hid (show (((w3.drewN q).setCell ⟨bb, ob + i, none⟩ (.bool false)).setCell ⟨bg, og + i, none⟩ (.int .i64 (g + 1))).heap.size = w3.heap.size by simp)
       generalize (((w3.drewN q).setCell ⟨bb, ob + i, none⟩ (.bool false)).setCell ⟨bg, og + i, none⟩ (.int .i64 (g + 1))) = W at *
       refine wp_app (w.heap.size + 2) rfl _ _ 22 3 (.int .i64 0) 8 rfl Try.underlying22 Try.info3 rfl (by omega) (.slice Af' nf' cf') (.slice (some ⟨w3.heap.size, 0, none⟩) 1 1) (ints t.free) [.int .i64 i] rfl rfl ?d1 ?d0 ?d2 ?d3 ?d4 ?d5)))
  case d0 => rw [← hsz.out]; exact rd_box _ _ _
  case d1 => exact m3.f.below ((Below.refl _ _).alloc (Nat.le_refl _) _)
  case d2 => simp [Value.oneCell']
  case d3 => have := hs.f; simp [ints_len]; omega
  case d4 => simp [hsz.out]; omega
  case d5 =>
    intro v1 w1 h1 hg hat
    obtain ⟨A1, n1, c1, rfl⟩ := h1.slice'
    obtain ⟨k1, k2, k3, k4, k5⟩ := give_end m1 m2 m3 hg h1
    have hbel1 : Below w.heap.size w w1 := (hbel.alloc hbel.size _).grown hg (by have := hbel.size; simp; omega) (fun k hk => by have := m3.f.base k hk; omega)
    have z0 := box_at k1 0 _ rfl
    have z1 := box_at k1 1 _ rfl
    have z2 := box_at k1 2 _ rfl
    have zf := box_free k1
    have r0 := box_at k2 0 (.slice none 0 0) rfl
    have r1 := box_at k2 1 (.slice none 0 0) rfl
    have r2 := box_at k2 2 (.slice none 0 0) rfl
    have rf := box_free k2
    have ne1 : ¬ bx = w.heap.size + 1 := by omega
    have ne2 : ¬ w.heap.size + 1 = bx := by omega
    have K5 := Lib.hid k5
    have H1 := Lib.hid h1
    clear hg hat k1 k2 k3 k4 k5 h1 m1 m2 m3 q1 hsz
    go_wp2
    refine bodyPost_ret (v := .tuple #[.agg #[.slice (some ⟨bg, og, none⟩) ng' cg', .slice (some ⟨bb, ob, none⟩) nb' cb', .slice A1 n1 c1], .int .i64 0]) (by simp [results, Try.results14, go_sem, r0, r1, r2, ne1, ne2]) rfl ?_
    refine ⟨some ⟨bg, og, none⟩, ng', cg', some ⟨bb, ob, none⟩, nb', cb', A1, n1, c1, rfl, ?_, ?_, fun k hk => ?_, fun k hk => ?_, fun k hk => by have := H1.out.base k hk; omega⟩
    · refine K5.out.far3 (fun k hk => ?_) (fun k hk => ?_) (fun k hk => ?_) 0 _ _ _
      · have : bg = k := by simpa [Value.ownBlock] using hk
        omega
      · have : bb = k := by simpa [Value.ownBlock] using hk
        omega
      · have := H1.out.base k hk
        omega
    · exact (((hbel1.setCell (by simp; omega) _).setCell (by simp) _).setCell (by simp) _).setCell (by simp) _
    · have : bg = k := by simpa [Value.ownBlock] using hk
      omega
    · have : bb = k := by simpa [Value.ownBlock] using hk
      omega

open Classical in
/-- what Give answers -/
noncomputable def giveS (t : Tab) (id : Int) : Tab × Int :=
  if RightP t then
    if placeB t id = true then
      if t.gens.getD (placeI t id).toNat 0 = 9007199254740992 then (t, 3)
      else (⟨t.gens.set (placeI t id).toNat (t.gens.getD (placeI t id).toNat 0 + 1), t.busy.set (placeI t id).toNat false, t.free ++ [placeI t id]⟩, 0)
    else (t, 5)
  else (t, 1)

theorem place_nat {t : Tab} (hp : RightP t) (id : Int) : ∃ i : Nat, placeI t id = i ∧ i < t.gens.length := by
  have := hp.h1
  unfold placeI
  by_cases h : id < 0
  · rw [if_pos h]; exact ⟨0, rfl, by omega⟩
  · rw [if_neg h]
    have h1 := Int.emod_nonneg id (show (t.gens.length : Int) ≠ 0 by omega)
    have h2 := Int.emod_lt_of_pos id (show (0 : Int) < t.gens.length by omega)
    exact ⟨(id % (t.gens.length : Int)).toNat, by omega, by omega⟩

theorem give_any (w : World) (Ag : Option Addr) (ng cg : Nat) (Ab : Option Addr) (nb cb : Nat) (Af : Option Addr) (nf cf : Nat) (t : Tab) (id : Int) (ht : TabR w (.slice Ag ng cg) (.slice Ab nb cb) (.slice Af nf cf) t) (hs : t.small) :
    Calls Try.prog 14 #[.agg #[.slice Ag ng cg, .slice Ab nb cb, .slice Af nf cf], .int .i64 id] w (TabPost w (giveS t id).1 [.int .i64 (giveS t id).2]) := by
  by_cases hp : RightP t
  · cases hb : placeB t id with
    | false =>
      have hh : giveS t id = (t, 5) := by unfold giveS; rw [if_pos hp, if_neg (by simp [hb])]
      rw [hh]
      exact give_none w Ag ng cg Ab nb cb Af nf cf t id ht hs hp hb
    | true =>
      obtain ⟨i, hi, hig⟩ := place_nat hp id
      have hgd : t.gens.getD i 0 = t.gens[i] := by simp [hig]
      by_cases hg : t.gens[i] = 9007199254740992
      · have hh : giveS t id = (t, 3) := by unfold giveS; rw [if_pos hp, if_pos hb, hi, Int.toNat_natCast, hgd, if_pos hg]
        rw [hh]
        exact give_big w Ag ng cg Ab nb cb Af nf cf t id ht hs hp hb i hi hig hg
      · have hh : giveS t id = (⟨t.gens.set i (t.gens[i] + 1), t.busy.set i false, t.free ++ [(i : Int)]⟩, 0) := by unfold giveS; rw [if_pos hp, if_pos hb, hi, Int.toNat_natCast, hgd, if_neg hg]
        rw [hh]
        have := hp.gen hig
        exact give_ok w Ag ng cg Ab nb cb Af nf cf t id ht hs hp hb i hi hig _ rfl (by omega)
  · have hh : giveS t id = (t, 1) := by unfold giveS; rw [if_neg hp]
    rw [hh]
    exact give_no w Ag ng cg Ab nb cb Af nf cf t id ht hs (rightB_no hp)
end Go.Proofs.Yteaifndkmknanaa
