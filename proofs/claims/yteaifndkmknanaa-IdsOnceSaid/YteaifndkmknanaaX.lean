/- Contract of lockageref02.Give. -/
import Derived.Test.YteaifndkmknanaaV
set_option linter.unusedVariables false
namespace Go.Proofs.Yteaifndkmknanaa
open Go.RowKit
open Go.Proofs.YteaifndkmknanaaW.PrintWords

theorem hasB_place {t : Tab} (hp : RightP t) (id : Int) : hasB t id = placeB t id := by unfold hasB; rw [if_pos hp]

set_option maxHeartbeats 1000000 in
theorem rgive_no (w : World) (Ag : Option Addr) (ng cg : Nat) (Ab : Option Addr) (nb cb : Nat) (Af : Option Addr) (nf cf : Nat) (t : Tab) (id : Int) (ht : TabR w (.slice Ag ng cg) (.slice Ab nb cb) (.slice Af nf cf) t) (hs : t.small) (hid : id ≤ 9223372036854775807) (hr : rightB t = false) :
    Calls Try.prog 18 #[.agg #[.slice Ag ng cg, .slice Ab nb cb, .slice Af nf cf], .int .i64 id] w (TabPostO w t [.int .i64 1]) := by
  have HT := Lib.hid ht
  have HR := Lib.hid hr
  have HH := Lib.hid hr
  clear ht hr
  go_enter Try.func18, Try.ntmps18
  go_wp2_with (first
    | (go_at_call 19
       refine (rright_any _ _ ng cg _ nb cb _ nf cf t (HT.out.below ?_) hs).mono ?_
       · exact ((Below.refl _ _).alloc (Nat.le_refl _) _).alloc (by simp) _
       rw [HR.out]
       rintro e w2 ⟨rfl, hb2⟩
       obtain ⟨q0, q1, q2, q3⟩ := boxes0 hb2
       have y0 := box_at q2 0 _ rfl
       have y1 := box_at q2 1 _ rfl
       have y2 := box_at q2 2 _ rfl)
    | (go_at_call 20
       refine (rhas_any _ _ ng cg _ nb cb _ nf cf t _ (HT.out.below q0) hs hid).mono ?_
       rw [HH.out]
       rintro e w4 ⟨rfl, hb4⟩
       clear y0 y1 y2 q0 q2 q3
       have hb2 := hb2.trans (hb4.mono (Nat.le_trans (by simp) q1))
       clear q1 hb4
       obtain ⟨q0, q1, q2, q3⟩ := boxes0 hb2
       have y0 := box_at q2 0 _ rfl
       have y1 := box_at q2 1 _ rfl
       have y2 := box_at q2 2 _ rfl)
    | (go_at_call 27
       refine (own_any _ _ ng cg _ nb cb _ nf cf t (HT.out.below q0) hs).mono ?_
       rintro e w3 ⟨A1, n1, c1, A2, n2, c2, A3, n3, c3, rfl, hO, hb3⟩
       clear y0 y1 y2
       obtain ⟨p0, p1, p2, p3⟩ := boxes0 (hb2.trans (hb3.mono (Nat.le_trans (by simp) q1)))
       have HO := Lib.hid (hO.lower (base' := w.heap.size + 2) q1)
       have HQ := Lib.hid p0
       clear q0 q1 q2 q3 hO hb2 hb3 p0
       have r0 := box_at p3 0 _ rfl
       have r1 := box_at p3 1 _ rfl
       have r2 := box_at p3 2 _ rfl
       have rf := box_free p3
       have Q2 := Lib.hid p2
       have Q3 := Lib.hid p3
       clear p2 p3))
  refine bodyPost_ret (v := .tuple #[.agg #[.slice A1 n1 c1, .slice A2 n2 c2, .slice A3 n3 c3], .int .i64 1]) (by simp [results, Try.results18, go_sem, r0, r1, r2]) rfl ?_
  refine ⟨A1, n1, c1, A2, n2, c2, A3, n3, c3, rfl, ?_, ?_⟩
  · exact (((HO.out.far (by simp) _).far (by simp) _).far (by simp) _).lower (by simp)
  · exact ((HQ.out.setCell (by simp) _).setCell (by simp) _).setCell (by simp) _

set_option maxHeartbeats 1000000 in
theorem rgive_none (w : World) (Ag : Option Addr) (ng cg : Nat) (Ab : Option Addr) (nb cb : Nat) (Af : Option Addr) (nf cf : Nat) (t : Tab) (id : Int) (ht : TabR w (.slice Ag ng cg) (.slice Ab nb cb) (.slice Af nf cf) t) (hs : t.small) (hid : id ≤ 9223372036854775807) (hp : RightP t) (hb : placeB t id = false) :
    Calls Try.prog 18 #[.agg #[.slice Ag ng cg, .slice Ab nb cb, .slice Af nf cf], .int .i64 id] w (TabPostO w t [.int .i64 5]) := by
  have HT := Lib.hid ht
  have HR := Lib.hid (rightB_yes hp)
  have HH := Lib.hid ((hasB_place hp id).trans hb)
  clear ht hp hb
  go_enter Try.func18, Try.ntmps18
  go_wp2_with (first
    | (go_at_call 19
       refine (rright_any _ _ ng cg _ nb cb _ nf cf t (HT.out.below ?_) hs).mono ?_
       · exact ((Below.refl _ _).alloc (Nat.le_refl _) _).alloc (by simp) _
       rw [HR.out]
       rintro e w2 ⟨rfl, hb2⟩
       obtain ⟨q0, q1, q2, q3⟩ := boxes0 hb2
       have y0 := box_at q2 0 _ rfl
       have y1 := box_at q2 1 _ rfl
       have y2 := box_at q2 2 _ rfl)
    | (go_at_call 20
       refine (rhas_any _ _ ng cg _ nb cb _ nf cf t _ (HT.out.below q0) hs hid).mono ?_
       rw [HH.out]
       rintro e w4 ⟨rfl, hb4⟩
       clear y0 y1 y2 q0 q2 q3
       have hb2 := hb2.trans (hb4.mono (Nat.le_trans (by simp) q1))
       clear q1 hb4
       obtain ⟨q0, q1, q2, q3⟩ := boxes0 hb2
       have y0 := box_at q2 0 _ rfl
       have y1 := box_at q2 1 _ rfl
       have y2 := box_at q2 2 _ rfl)
    | (go_at_call 27
       refine (own_any _ _ ng cg _ nb cb _ nf cf t (HT.out.below q0) hs).mono ?_
       rintro e w3 ⟨A1, n1, c1, A2, n2, c2, A3, n3, c3, rfl, hO, hb3⟩
       clear y0 y1 y2
       obtain ⟨p0, p1, p2, p3⟩ := boxes0 (hb2.trans (hb3.mono (Nat.le_trans (by simp) q1)))
       have HO := Lib.hid (hO.lower (base' := w.heap.size + 2) q1)
       have HQ := Lib.hid p0
       clear q0 q1 q2 q3 hO hb2 hb3 p0
       have r0 := box_at p3 0 _ rfl
       have r1 := box_at p3 1 _ rfl
       have r2 := box_at p3 2 _ rfl
       have rf := box_free p3
       have Q2 := Lib.hid p2
       have Q3 := Lib.hid p3
       clear p2 p3))
  refine bodyPost_ret (v := .tuple #[.agg #[.slice A1 n1 c1, .slice A2 n2 c2, .slice A3 n3 c3], .int .i64 5]) (by simp [results, Try.results18, go_sem, r0, r1, r2]) rfl ?_
  refine ⟨A1, n1, c1, A2, n2, c2, A3, n3, c3, rfl, ?_, ?_⟩
  · exact (((HO.out.far (by simp) _).far (by simp) _).far (by simp) _).lower (by simp)
  · exact ((HQ.out.setCell (by simp) _).setCell (by simp) _).setCell (by simp) _

set_option maxHeartbeats 1000000 in
theorem rgive_big (w : World) (Ag : Option Addr) (ng cg : Nat) (Ab : Option Addr) (nb cb : Nat) (Af : Option Addr) (nf cf : Nat) (t : Tab) (id : Int) (ht : TabR w (.slice Ag ng cg) (.slice Ab nb cb) (.slice Af nf cf) t) (hs : t.small) (hid : id ≤ 9223372036854775807) (hp : RightP t) (hb : placeB t id = true) (i : Nat) (hi : placeI t id = i) (hig : i < t.gens.length) (hg : t.gens[i] = 9007199254740992) :
    Calls Try.prog 18 #[.agg #[.slice Ag ng cg, .slice Ab nb cb, .slice Af nf cf], .int .i64 id] w (TabPostO w t [.int .i64 3]) := by
  have h1 := hp.h1
  have hlg := ht.g.len
  have hlb := ht.b.len
  rw [ints_len] at hlg
  rw [bls_len] at hlb
  have hb3 := hp.h3
  have h0i : 0 ≤ id := by
    have := hb
    simp only [placeB, Bool.and_eq_true, decide_eq_true_eq] at this
    exact this.1.1
  obtain ⟨k, rfl⟩ := Int.eq_ofNat_of_zero_le h0i
  have hlt := Nat.mod_lt k (show ng > 0 by omega)
  obtain rfl : i = k % ng := by
    have h2 : placeI t k = ((k % ng : Nat) : Int) := by unfold placeI; rw [if_neg (by omega), hlg]; simp
    omega
  have hng : ¬ ng = 0 := by omega
  have hz2 : (k : Int) % (ng : Int) < (ng : Int) := by omega
  have hz0 : (0 : Int) ≤ (k : Int) % (ng : Int) := by omega
  obtain ⟨bg0, og0, rfl, hgl0, hgc0⟩ := ht.g.get (by omega)
  have g0 := hgc0 (k % ng) _ (ints_at hig)
  rw [hg] at g0
  have HT := Lib.hid ht
  have HR := Lib.hid (rightB_yes hp)
  have HH := Lib.hid ((hasB_place hp k).trans hb)
  clear ht hp hb hi hg hgc0 hlg hlb hb3 h0i
  go_enter Try.func18, Try.ntmps18
  go_wp2_with (first
    | (go_at_call 19
       refine (rright_any _ _ ng cg _ nb cb _ nf cf t (HT.out.below ?_) hs).mono ?_
       · exact ((Below.refl _ _).alloc (Nat.le_refl _) _).alloc (by simp) _
       rw [HR.out]
       rintro e w2 ⟨rfl, hb2⟩
       obtain ⟨q0, q1, q2, q3⟩ := boxes0 hb2
       have y0 := box_at q2 0 _ rfl
       have y1 := box_at q2 1 _ rfl
       have y2 := box_at q2 2 _ rfl)
    | (go_at_call 20
       refine (rhas_any _ _ ng cg _ nb cb _ nf cf t _ (HT.out.below q0) hs hid).mono ?_
       rw [HH.out]
       rintro e w4 ⟨rfl, hb4⟩
       clear y0 y1 y2 q0 q2 q3
       have hb2 := hb2.trans (hb4.mono (Nat.le_trans (by simp) q1))
       clear q1 hb4
       obtain ⟨q0, q1, q2, q3⟩ := boxes0 hb2
       have y0 := box_at q2 0 _ rfl
       have y1 := box_at q2 1 _ rfl
       have y2 := box_at q2 2 _ rfl
       have g1 := (q0.cell (p := ⟨bg0, og0 + k % ng, none⟩) hgl0).trans g0)
    | (go_at_call 27
       refine (own_any _ _ ng cg _ nb cb _ nf cf t (HT.out.below q0) hs).mono ?_
       rintro e w3 ⟨A1, n1, c1, A2, n2, c2, A3, n3, c3, rfl, hO, hb3⟩
       clear y0 y1 y2 g1
       obtain ⟨p0, p1, p2, p3⟩ := boxes0 (hb2.trans (hb3.mono (Nat.le_trans (by simp) q1)))
       have HO := Lib.hid (hO.lower (base' := w.heap.size + 2) q1)
       have HQ := Lib.hid p0
       clear q0 q1 q2 q3 hO hb2 hb3 p0
       have r0 := box_at p3 0 _ rfl
       have r1 := box_at p3 1 _ rfl
       have r2 := box_at p3 2 _ rfl
       have rf := box_free p3
       have Q2 := Lib.hid p2
       have Q3 := Lib.hid p3
       clear p2 p3))
  refine bodyPost_ret (v := .tuple #[.agg #[.slice A1 n1 c1, .slice A2 n2 c2, .slice A3 n3 c3], .int .i64 3]) (by simp [results, Try.results18, go_sem, r0, r1, r2]) rfl ?_
  refine ⟨A1, n1, c1, A2, n2, c2, A3, n3, c3, rfl, ?_, ?_⟩
  · exact (((HO.out.far (by simp) _).far (by simp) _).far (by simp) _).lower (by simp)
  · exact ((HQ.out.setCell (by simp) _).setCell (by simp) _).setCell (by simp) _


/-- behind 'a := own(t); a.Busy[k] = false; a.Gens[k]++' -/
theorem rgive_mid {w3 : World} {base bg og n1 c1 bb ob n2 c2 i : Nat} {vf : Value} {t : Tab} (hO : TabO w3 base (.slice (some ⟨bg, og, none⟩) n1 c1) (.slice (some ⟨bb, ob, none⟩) n2 c2) vf t) (hg : i < t.gens.length) (hb : i < t.busy.length) (y : Int) (o : Obj) :
    TabO (((w3.setCell ⟨bb, ob + i, none⟩ (.bool false)).setCell ⟨bg, og + i, none⟩ (.int .i64 y)).alloc o) base (.slice (some ⟨bg, og, none⟩) n1 c1) (.slice (some ⟨bb, ob, none⟩) n2 c2) vf ⟨t.gens.set i y, t.busy.set i false, t.free⟩ ∧
    ∀ k, ¬ k = bb → ¬ k = bg → k < w3.heap.size → (((w3.setCell ⟨bb, ob + i, none⟩ (.bool false)).setCell ⟨bg, og + i, none⟩ (.int .i64 y)).alloc o).heap[k]? = w3.heap[k]? := by
  obtain ⟨cb0, hcb0⟩ := hO.b.typed bb rfl
  obtain ⟨cg0, hcg0⟩ := hO.g.typed bg rfl
  have bgb : bb ≠ bg := blocks_ne (by decide) hcb0 hcg0
  have al : ∀ W : World, Below W.heap.size W (W.alloc o) := fun W => (Below.refl _ _).alloc (Nat.le_refl _) _
  refine ⟨⟨?_, ?_, ?_, hO.ne⟩, fun k h1 h2 h3 => ?_⟩
  · have := ((hO.g.far (p := ⟨bb, ob + i, none⟩) (fun k hk => by cases hk; exact fun e => bgb e.symm) (.bool false)).set i (by rw [ints_len]; exact hg) (.int .i64 y)).below (al _)
    rwa [show (ints t.gens).set i (.int .i64 y) = ints (t.gens.set i y) by simp [ints, List.map_set]] at this
  · have := ((hO.b.set i (by rw [bls_len]; exact hb) (.bool false)).far (p := ⟨bg, og + i, none⟩) (fun k hk => by cases hk; exact bgb) (.int .i64 y)).below (al _)
    rwa [show (bls t.busy).set i (.bool false) = bls (t.busy.set i false) by simp [bls, List.map_set]] at this
  · refine ((hO.f.far (fun k hk => ?_) _).far (fun k hk => ?_) _).below (al _)
    · obtain ⟨c, hc⟩ := hO.f.typed k hk
      exact blocks_ne (by decide) hc hcb0
    · intro e
      subst e
      exact hO.ne _ rfl hk
  · rw [Below.heap_alloc _ _ _ (by simpa [World.setCell] using h3), Below.heap_setCell _ _ _ _ h2, Below.heap_setCell _ _ _ _ h1]

/-- behind 'a.Free = append(a.Free, k)' -/
theorem rgive_end {W w1 : World} {bx rb base : Nat} {vg vb vf v1 : Value} {o : Obj} {t : Tab} {x : Int} {rs : Array Value} (m1 : W.heap[bx]? = some (.cells #[vg, vb, vf] 25 (0, 0))) (m2 : W.heap[rb]? = some (.cells rs 25 (0, 0))) (hne : ¬ rb = bx)
    (m3 : TabO W base vg vb vf t) (hg : (W.alloc o).grownBy w1 vf.ownBlock) (h1 : Ow 3 w1 base v1 (ints t.free ++ [.int .i64 x])) (hat : v1.ownBlock = vf.ownBlock ∨ ∃ b, v1.ownBlock = some b ∧ (W.alloc o).heap.size ≤ b) :
    w1.heap[bx]? = some (.cells #[vg, vb, vf] 25 (0, 0)) ∧ w1.heap[rb]? = some (.cells rs 25 (0, 0)) ∧
    TabO (w1.setCell ⟨bx, 2, none⟩ v1) base vg vb v1 ⟨t.gens, t.busy, t.free ++ [x]⟩ := by
  have lx := (Array.getElem?_eq_some_iff.1 m1).1
  have lr := (Array.getElem?_eq_some_iff.1 m2).1
  have ne : ∀ {k : Nat} {c : Array Value} {e : TypeId}, e ≠ 3 → W.heap[k]? = some (.cells c e (0, 0)) → some k ≠ vf.ownBlock := by
    intro k c e he hk h
    obtain ⟨c', hc'⟩ := m3.f.typed k h.symm
    exact blocks_ne he hk hc' rfl
  have k1 : w1.heap[bx]? = some (.cells #[vg, vb, vf] 25 (0, 0)) := by
    rw [hg.block bx (by simp; omega) (ne (by decide) m1), Below.heap_alloc _ _ _ lx]
    exact m1
  have k2 : w1.heap[rb]? = some (.cells rs 25 (0, 0)) := by
    rw [hg.block rb (by simp; omega) (ne (by decide) m2), Below.heap_alloc _ _ _ lr]
    exact m2
  have al : Below W.heap.size W (W.alloc o) := (Below.refl _ _).alloc (Nat.le_refl _) _
  have og : Ow 3 w1 base vg (ints t.gens) := (m3.g.below al).grown hg (fun k hk h => m3.ne k hk h.symm)
  have ob : Ow 4 w1 base vb (bls t.busy) := (m3.b.below al).grown hg (fun k hk => by
    obtain ⟨c, hc⟩ := m3.b.typed k hk
    exact ne (by decide) hc)
  have fx : ∀ (v : Value) (e : TypeId) (xs : List Value), e ≠ 25 → Ow e w1 base v xs → ∀ k, v.ownBlock = some k → k ≠ bx := by
    intro v e xs he h k hk
    obtain ⟨c, hc⟩ := h.typed k hk
    exact blocks_ne he hc k1
  refine ⟨k1, k2, og.far (fx _ 3 _ (by decide) og) _, ob.far (fx _ 4 _ (by decide) ob) _, ?_, fun k hk hk1 => ?_⟩
  · have := h1.far (p := ⟨bx, 2, none⟩) (fx _ 3 _ (by decide) h1) v1
    rwa [show ints t.free ++ [.int .i64 x] = ints (t.free ++ [x]) by simp [ints]] at this
  · rcases hat with h | ⟨b, h, hle⟩
    · exact m3.ne k hk (h ▸ hk1)
    · rw [h] at hk1
      injection hk1 with hk1
      have := m3.g.lt k hk
      simp at hle
      omega

set_option maxHeartbeats 2000000 in
theorem rgive_ok (w : World) (Ag : Option Addr) (ng cg : Nat) (Ab : Option Addr) (nb cb : Nat) (Af : Option Addr) (nf cf : Nat) (t : Tab) (id : Int) (ht : TabR w (.slice Ag ng cg) (.slice Ab nb cb) (.slice Af nf cf) t) (hs : t.small) (hid : id ≤ 9223372036854775807) (hp : RightP t) (hb : placeB t id = true) (i : Nat) (hi : placeI t id = i) (hig : i < t.gens.length) (g : Int) (hg : t.gens[i] = g) (hg1 : g < 9007199254740992) :
    Calls Try.prog 18 #[.agg #[.slice Ag ng cg, .slice Ab nb cb, .slice Af nf cf], .int .i64 id] w (TabPostO w ⟨t.gens.set i (g + 1), t.busy.set i false, t.free ++ [(i : Int)]⟩ [.int .i64 0]) := by
  have h1 := hp.h1
  have hlg := ht.g.len
  have hlb := ht.b.len
  rw [ints_len] at hlg
  rw [bls_len] at hlb
  have hb3 := hp.h3
  have h0i : 0 ≤ id := by
    have := hb
    simp only [placeB, Bool.and_eq_true, decide_eq_true_eq] at this
    exact this.1.1
  obtain ⟨k, rfl⟩ := Int.eq_ofNat_of_zero_le h0i
  have hlt := Nat.mod_lt k (show ng > 0 by omega)
  obtain rfl : i = k % ng := by
    have h2 : placeI t k = ((k % ng : Nat) : Int) := by unfold placeI; rw [if_neg (by omega), hlg]; simp
    omega
  have hng : ¬ ng = 0 := by omega
  have hz2 : (k : Int) % (ng : Int) < (ng : Int) := by omega
  have hz0 : (0 : Int) ≤ (k : Int) % (ng : Int) := by omega
  obtain ⟨bg0, og0, rfl, hgl0, hgc0⟩ := ht.g.get (by omega)
  have g0 := hgc0 (k % ng) _ (ints_at hig)
  rw [hg] at g0
  have hgb := hp.gen hig
  rw [hg] at hgb
  obtain ⟨hg0, _⟩ := hgb
  have hgn : (g == 9007199254740992) = false := by rw [beq_eq_false_iff_ne]; omega
  have hib : k % ng < t.busy.length := by rw [hb3]; exact hig
  have HG := Lib.hid hg
  have HT := Lib.hid ht
  have HR := Lib.hid (rightB_yes hp)
  have HH := Lib.hid ((hasB_place hp k).trans hb)
  have HLG := Lib.hid hlg
  have HB3 := Lib.hid hb3
  clear ht hp hb hi hg hgc0 hlg hlb hb3 h0i
  go_enter Try.func18, Try.ntmps18
  go_wp2_with (first
    | (go_at_call 19
       refine (rright_any _ _ ng cg _ nb cb _ nf cf t (HT.out.below ?_) hs).mono ?_
       · exact ((Below.refl _ _).alloc (Nat.le_refl _) _).alloc (by simp) _
       rw [HR.out]
       rintro e w2 ⟨rfl, hb2⟩
       obtain ⟨q0, q1, q2, q3⟩ := boxes0 hb2
       have y0 := box_at q2 0 _ rfl
       have y1 := box_at q2 1 _ rfl
       have y2 := box_at q2 2 _ rfl)
    | (go_at_call 20
       refine (rhas_any _ _ ng cg _ nb cb _ nf cf t _ (HT.out.below q0) hs hid).mono ?_
       rw [HH.out]
       rintro e w4 ⟨rfl, hb4⟩
       clear y0 y1 y2 q0 q2 q3
       have hb2 := hb2.trans (hb4.mono (Nat.le_trans (by simp) q1))
       clear q1 hb4
       obtain ⟨q0, q1, q2, q3⟩ := boxes0 hb2
       have y0 := box_at q2 0 _ rfl
       have y1 := box_at q2 1 _ rfl
       have y2 := box_at q2 2 _ rfl
       have g1 := (q0.cell (p := ⟨bg0, og0 + k % ng, none⟩) hgl0).trans g0)
    | (go_at_call 27
       refine (own_any _ _ ng cg _ nb cb _ nf cf t (HT.out.below q0) hs).mono ?_
       rintro e w3 ⟨A1, n1, c1, A2, n2, c2, A3, n3, c3, rfl, hO, hb3⟩
       clear y0 y1 y2 g1
       obtain ⟨p0, p1, p2, p3⟩ := boxes0 (hb2.trans (hb3.mono (Nat.le_trans (by simp) q1)))
       have HO := Lib.hid (hO.lower (base' := w.heap.size + 2) q1)
       have HQ := Lib.hid p0
       clear q0 q1 q2 q3 hO hb2 hb3 p0
       have r0 := box_at p3 0 _ rfl
       have r1 := box_at p3 1 _ rfl
       have r2 := box_at p3 2 _ rfl
       have rf := box_free p3
       have Q2 := Lib.hid p2
       have Q3 := Lib.hid p3
       clear p2 p3
       have hln := HO.out.g.rd.len
       rw [ints_len] at hln
       have hlm := HO.out.b.rd.len
       rw [bls_len] at hlm
       obtain ⟨bg, og, rfl, hbg, hbg2, _, hgc, hgf⟩ := HO.out.g.form' (by omega)
       have e0 := hgc (k % ng) _ (ints_at hig)
       rw [HG.out] at e0
       obtain ⟨bb, ob, rfl, hbb, hbb2, _, hbc, hbf⟩ := HO.out.b.form' (by omega)
       have b0 := hbc (k % ng) _ (bls_at hib)
       have hjz : (k : Int) % (ng : Int) < (n2 : Int) := by have := HB3.out; have := HLG.out; omega
       have hiz : (k : Int) % (ng : Int) < (n1 : Int) := by have := HLG.out; omega
       obtain ⟨d1, hd1⟩ := hbg2
       obtain ⟨d2, hd2⟩ := hbb2
       have hl1 := (Array.getElem?_eq_some_iff.1 hd1).1
       have hl2 := (Array.getElem?_eq_some_iff.1 hd2).1
       have x1 : ¬ bg = bb := blocks_ne (by decide) hd1 hd2
       have x2 : ¬ bb = bg := blocks_ne (by decide) hd2 hd1
       have x3 : ¬ w3.heap.size = bb := by omega
       have x4 : ¬ bb = w3.heap.size := by omega
       have x5 : ¬ w3.heap.size = bg := by omega
       have x6 : ¬ bg = w3.heap.size := by omega
       have HLN := Lib.hid hln
       clear hgc hbc hd1 hd2 hln hlm)
    | (at_builtin
       obtain ⟨m1, blk⟩ := rgive_mid HO.out hig hib (g + 1) (Obj.cells #[.slice (some ⟨bg, og, none⟩) n1 c1, .slice (some ⟨bb, ob, none⟩) n2 c2, .slice A3 n3 c3] 25)
       have hbel : Below w.heap.size w (((w3.setCell ⟨bb, ob + k % ng, none⟩ (.bool false)).setCell ⟨bg, og + k % ng, none⟩ (.int .i64 (g + 1))).alloc (Obj.cells #[.slice (some ⟨bg, og, none⟩) n1 c1, .slice (some ⟨bb, ob, none⟩) n2 c2, .slice A3 n3 c3] 25)) := ((HQ.out.setCell (by simp; omega) _).setCell (by simp; omega) _).alloc (by simp; omega) _
       have nbx : (((w3.setCell ⟨bb, ob + k % ng, none⟩ (.bool false)).setCell ⟨bg, og + k % ng, none⟩ (.int .i64 (g + 1))).alloc (Obj.cells #[.slice (some ⟨bg, og, none⟩) n1 c1, .slice (some ⟨bb, ob, none⟩) n2 c2, .slice A3 n3 c3] 25)).heap[w3.heap.size]? = some (.cells #[.slice (some ⟨bg, og, none⟩) n1 c1, .slice (some ⟨bb, ob, none⟩) n2 c2, .slice A3 n3 c3] 25 (0, 0)) := by
         have := heap_alloc_new ((w3.setCell ⟨bb, ob + k % ng, none⟩ (.bool false)).setCell ⟨bg, og + k % ng, none⟩ (.int .i64 (g + 1))) (Obj.cells #[.slice (some ⟨bg, og, none⟩) n1 c1, .slice (some ⟨bb, ob, none⟩) n2 c2, .slice A3 n3 c3] 25)
         simpa [World.setCell] using this
       have p3 := (blk (w.heap.size + 1) (by omega) (by omega) (by omega)).trans Q3.out
       have hsz := Lib.hid (show (((w3.setCell ⟨bb, ob + k % ng, none⟩ (.bool false)).setCell ⟨bg, og + k % ng, none⟩ (.int .i64 (g + 1))).alloc (Obj.cells #[.slice (some ⟨bg, og, none⟩) n1 c1, .slice (some ⟨bb, ob, none⟩) n2 c2, .slice A3 n3 c3] 25)).heap.size = w3.heap.size + 1 by simp)
       clear r0 r1 r2 rf e0 hgf b0 hbf blk HQ Q2 Q3 HO
       generalize (((w3.setCell ⟨bb, ob + k % ng, none⟩ (.bool false)).setCell ⟨bg, og + k % ng, none⟩ (.int .i64 (g + 1))).alloc (Obj.cells #[.slice (some ⟨bg, og, none⟩) n1 c1, .slice (some ⟨bb, ob, none⟩) n2 c2, .slice A3 n3 c3] 25)) = W at *
       refine wp_app (w.heap.size + 2) rfl _ _ 22 3 (.int .i64 0) 8 rfl Try.underlying22 Try.info3 rfl (by omega) (.slice A3 n3 c3) (.slice (some ⟨w3.heap.size + 1, 0, none⟩) 1 1) (ints t.free) [.int .i64 (k % ng : Nat)] rfl rfl ?d1 ?d0 ?d2 ?d3 ?d4 ?d5))
  case d0 =>
    have e : ((k % ng : Nat) : Int) = (k : Int) % (ng : Int) := by simp
    rw [← hsz.out, e]
    exact rd_box _ _ _
  case d1 => exact m1.f.below ((Below.refl _ _).alloc (Nat.le_refl _) _)
  case d2 => simp [Value.oneCell']
  case d3 => have := hs.f; simp [ints_len]; omega
  case d4 => simp [hsz.out]; omega
  case d5 =>
    intro v1 w1 h1 hg hat
    obtain ⟨A4, n4, c4, rfl⟩ := h1.slice'
    obtain ⟨k1, k2, k3⟩ := rgive_end nbx p3 (by omega) m1 hg h1 (by simpa using hat)
    have hbel1 : Below w.heap.size w w1 := (hbel.alloc hbel.size _).grown hg (by have := hbel.size; simp; omega) (fun k hk => by have := m1.f.base k hk; omega)
    have z0 := box_at k1 0 _ rfl
    have z1 := box_at k1 1 _ rfl
    have z2 := box_at k1 2 _ rfl
    have zf := box_free k1
    have r0 := box_at k2 0 _ rfl
    have r1 := box_at k2 1 _ rfl
    have r2 := box_at k2 2 _ rfl
    have rf := box_free k2
    have ne1 : ¬ w3.heap.size = w.heap.size + 1 := by omega
    have ne2 : ¬ w.heap.size + 1 = w3.heap.size := by omega
    have K3 := Lib.hid k3
    clear hg hat k1 k2 k3 h1 m1 nbx p3 hsz
    go_wp2
    refine bodyPost_ret (v := .tuple #[.agg #[.slice (some ⟨bg, og, none⟩) n1 c1, .slice (some ⟨bb, ob, none⟩) n2 c2, .slice A4 n4 c4], .int .i64 0]) (by simp [results, Try.results18, go_sem, r0, r1, r2, ne1, ne2]) rfl ?_
    refine ⟨some ⟨bg, og, none⟩, n1, c1, some ⟨bb, ob, none⟩, n2, c2, A4, n4, c4, rfl, ?_, ?_⟩
    · exact (((K3.out.far (by simp) _).far (by simp) _).far (by simp) _).lower (by simp)
    · exact (((hbel1.setCell (by simp; omega) _).setCell (by simp) _).setCell (by simp) _).setCell (by simp) _


theorem rgive_any (w : World) (Ag : Option Addr) (ng cg : Nat) (Ab : Option Addr) (nb cb : Nat) (Af : Option Addr) (nf cf : Nat) (t : Tab) (id : Int) (ht : TabR w (.slice Ag ng cg) (.slice Ab nb cb) (.slice Af nf cf) t) (hs : t.small) (hid : id ≤ 9223372036854775807) :
    Calls Try.prog 18 #[.agg #[.slice Ag ng cg, .slice Ab nb cb, .slice Af nf cf], .int .i64 id] w (TabPostO w (giveS t id).1 [.int .i64 (giveS t id).2]) := by
  by_cases hp : RightP t
  · cases hb : placeB t id with
    | false =>
      have hh : giveS t id = (t, 5) := by unfold giveS; rw [if_pos hp, if_neg (by simp [hb])]
      rw [hh]
      exact rgive_none w Ag ng cg Ab nb cb Af nf cf t id ht hs hid hp hb
    | true =>
      obtain ⟨i, hi, hig⟩ := place_nat hp id
      have hgd : t.gens.getD i 0 = t.gens[i] := by simp [hig]
      by_cases hg : t.gens[i] = 9007199254740992
      · have hh : giveS t id = (t, 3) := by unfold giveS; rw [if_pos hp, if_pos hb, hi, Int.toNat_natCast, hgd, if_pos hg]
        rw [hh]
        exact rgive_big w Ag ng cg Ab nb cb Af nf cf t id ht hs hid hp hb i hi hig hg
      · have hh : giveS t id = (⟨t.gens.set i (t.gens[i] + 1), t.busy.set i false, t.free ++ [(i : Int)]⟩, 0) := by unfold giveS; rw [if_pos hp, if_pos hb, hi, Int.toNat_natCast, hgd, if_neg hg]
        rw [hh]
        have := hp.gen hig
        exact rgive_ok w Ag ng cg Ab nb cb Af nf cf t id ht hs hid hp hb i hi hig _ rfl (by omega)
  · have hh : giveS t id = (t, 1) := by unfold giveS; rw [if_neg hp]
    rw [hh]
    exact rgive_no w Ag ng cg Ab nb cb Af nf cf t id ht hs hid (rightB_no hp)
end Go.Proofs.Yteaifndkmknanaa
