/- Words of Feed: a whole flight is stored. -/
import Derived.Test.YtipjhokhflokmaaAH
set_option linter.unusedVariables false
set_option linter.unusedSimpArgs false
namespace Go.Proofs.Ytipjhokhflokmaa
open Go.RowKit Go.Maps
open Go.Proofs.YtipjhokhflokmaaW.PrintWords

/-- a whole flight is stored -/
def st8 (w : World) (b o : Nat) (y : FV) : World := (((((((w.setCell ⟨b, o, none⟩ (str y.1.key)).setCell ⟨b, o + 1, none⟩ (.bool y.1.sh)).setCell ⟨b, o + 2, none⟩ (.int .i64 y.1.id)).setCell ⟨b, o + 3, none⟩ (.int .i64 y.1.base)).setCell ⟨b, o + 4, none⟩ (str y.1.data)).setCell ⟨b, o + 5, none⟩ (.int .i64 y.1.tries)).setCell ⟨b, o + 6, none⟩ (.bool y.1.done)).setCell ⟨b, o + 7, none⟩ y.2.v
abbrev fcs (y : FV) : Array Value := #[str y.1.key, .bool y.1.sh, .int .i64 y.1.id, .int .i64 y.1.base, str y.1.data, .int .i64 y.1.tries, .bool y.1.done, y.2.v]
theorem st8_other {w : World} {b o k : Nat} {y : FV} (h : k ≠ b) : (st8 w b o y).heap[k]? = w.heap[k]? := by
  unfold st8
  rw [Below.heap_setCell _ _ _ _ h, Below.heap_setCell _ _ _ _ h, Below.heap_setCell _ _ _ _ h, Below.heap_setCell _ _ _ _ h, Below.heap_setCell _ _ _ _ h, Below.heap_setCell _ _ _ _ h, Below.heap_setCell _ _ _ _ h, Below.heap_setCell _ _ _ _ h]
theorem st8_below {w0 w : World} {B b o : Nat} {y : FV} (h : Below B w0 w) (hb : B ≤ b) : Below B w0 (st8 w b o y) := (((((((h.setCell hb _).setCell hb _).setCell hb _).setCell hb _).setCell hb _).setCell hb _).setCell hb _).setCell hb _
theorem st8_box {w : World} {b : Nat} {x y : FV} (h : w.heap[b]? = some (.cells (fcs x) 45 (0, 0))) : (st8 w b 0 y).heap[b]? = some (.cells (fcs y) 45 (0, 0)) := by
  unfold st8
  have h0 := heap_set (o := 0) h (str y.1.key)
  have h1 := heap_set (o := 1) h0 (.bool y.1.sh)
  have h2 := heap_set (o := 2) h1 (.int .i64 y.1.id)
  have h3 := heap_set (o := 3) h2 (.int .i64 y.1.base)
  have h4 := heap_set (o := 4) h3 (str y.1.data)
  have h5 := heap_set (o := 5) h4 (.int .i64 y.1.tries)
  have h6 := heap_set (o := 6) h5 (.bool y.1.done)
  have h7 := heap_set (o := 7) h6 y.2.v
  simp only [fcs, List.setIfInBounds_toArray, List.set_cons_zero, List.set_cons_succ] at h7
  exact h7
/-- waiters in other memory -/
theorem st8_ts {w : World} {base b o : Nat} {V : Value} {es : List Tm} {y : FV} (h : OwE tenc 2 47 w base V es) (hb : ∃ cs, w.heap[b]? = some (.cells cs 45 (0, 0))) : OwE tenc 2 47 (st8 w b o y) base V es :=
  h.move (fun k hk => by
    obtain ⟨c1, h1⟩ := h.typed k hk
    obtain ⟨c2, h2⟩ := hb
    exact st8_other (blocks_ne (by decide) h1 h2))
theorem st8_is {w : World} {base b o : Nat} {V : Value} {es : List Int} {y : FV} (h : OwE ienc 1 3 w base V es) (hb : ∃ cs, w.heap[b]? = some (.cells cs 45 (0, 0))) : OwE ienc 1 3 (st8 w b o y) base V es :=
  h.move (fun k hk => by
    obtain ⟨c1, h1⟩ := h.typed k hk
    obtain ⟨c2, h2⟩ := hb
    exact st8_other (blocks_ne (by decide) h1 h2))
theorem set_cell_ts {w : World} {base b o : Nat} {V v : Value} {es : List Tm} (h : OwE tenc 2 47 w base V es) (hb : ∃ cs, w.heap[b]? = some (.cells cs 45 (0, 0))) : OwE tenc 2 47 (w.setCell ⟨b, o, none⟩ v) base V es := by
  obtain ⟨c2, h2⟩ := hb
  exact ts_far h h2 (by decide) _ _
/-- the flights, behind it -/
theorem OwF.putAll {w : World} {base b off n c : Nat} {zs : List FV} (h : OwF w base (.slice (some ⟨b, off, none⟩) n c) zs) {k : Nat} {x x' : Fl} {S S' : Sl} (hz : zs[k]? = some (x, S)) (hO : OwE tenc 2 47 w base S'.v x'.ws)
    (hne : ∀ (i : Nat) (y : FV), i ≠ k → zs[i]? = some y → ∀ q, y.2.v.ownBlock = some q → S'.v.ownBlock ≠ some q) :
    OwF (st8 w b (off + k * 8) (x', S')) base (.slice (some ⟨b, off, none⟩) n c) (zs.set k (x', S')) := by
  have hk := (List.getElem?_eq_some_iff.1 hz).1
  have hb : ∃ cs, w.heap[b]? = some (.cells cs 45 (0, 0)) := h.o.typed b rfl
  have one : ∀ {W : World} {zz : List FV} {x1 x2 : Fl} {j : Nat} {v : Value}, OwF W base (.slice (some ⟨b, off, none⟩) n c) zz → OwE tenc 2 47 W base S'.v x'.ws → zz = zs.set k (x1, S) → j < 8 → fenc (x2, S) = (fenc (x1, S)).set j v → x2.ws = x1.ws →
      OwF (W.setCell ⟨b, off + k * 8 + j, none⟩ v) base (.slice (some ⟨b, off, none⟩) n c) (zs.set k (x2, S)) ∧ OwE tenc 2 47 (W.setCell ⟨b, off + k * 8 + j, none⟩ v) base S'.v x'.ws := by
    intro W zz x1 x2 j v hW hT hzz hj hx hw
    subst hzz
    have h1 := hW.put1 (k := k) (x := x1) (x' := x2) (S := S) (by rw [List.getElem?_set_self hk]) j hj hx hw
    rw [List.set_set] at h1
    exact ⟨h1, set_cell_ts hT (hW.o.typed b rfl)⟩
  have a0 := one h hO (set_self hz).symm (show 0 < 8 by decide) (x2 := { x with key := x'.key }) (v := str x'.key) rfl rfl
  have a1 := one a0.1 a0.2 rfl (show 1 < 8 by decide) (x2 := { x with key := x'.key, sh := x'.sh }) (v := .bool x'.sh) rfl rfl
  have a2 := one a1.1 a1.2 rfl (show 2 < 8 by decide) (x2 := { x with key := x'.key, sh := x'.sh, id := x'.id }) (v := .int .i64 x'.id) rfl rfl
  have a3 := one a2.1 a2.2 rfl (show 3 < 8 by decide) (x2 := { x with key := x'.key, sh := x'.sh, id := x'.id, base := x'.base }) (v := .int .i64 x'.base) rfl rfl
  have a4 := one a3.1 a3.2 rfl (show 4 < 8 by decide) (x2 := { x with key := x'.key, sh := x'.sh, id := x'.id, base := x'.base, data := x'.data }) (v := str x'.data) rfl rfl
  have a5 := one a4.1 a4.2 rfl (show 5 < 8 by decide) (x2 := { x with key := x'.key, sh := x'.sh, id := x'.id, base := x'.base, data := x'.data, tries := x'.tries }) (v := .int .i64 x'.tries) rfl rfl
  have a6 := one a5.1 a5.2 rfl (show 6 < 8 by decide) (x2 := { x with key := x'.key, sh := x'.sh, id := x'.id, base := x'.base, data := x'.data, tries := x'.tries, done := x'.done }) (v := .bool x'.done) rfl rfl
  have a7 := a6.1.put7 (k := k) (x' := x') (S' := S') (List.getElem?_set_self hk) rfl a6.2 (fun i y hi hy => by
    rw [List.getElem?_set_ne (Ne.symm hi)] at hy
    exact hne i y hi hy)
  rw [List.set_set] at a7
  exact a7
theorem RfS.put8 {w W : World} {t6 b off n c : Nat} {room next : Int} {V0 : Value} {zs zs' : List FV} (h : RfS w W t6 room next V0 (.slice (some ⟨b, off, none⟩) n c) zs) {o : Nat} {y : FV} (ho : OwF (st8 W b o y) w.heap.size (.slice (some ⟨b, off, none⟩) n c) zs') : RfS w (st8 W b o y) t6 room next V0 (.slice (some ⟨b, off, none⟩) n c) zs' := by
  obtain ⟨cb, hcb⟩ := h.ow.o.typed b rfl
  have nb : ∀ {k : Nat} {cs : Array Value}, W.heap[k]? = some (.cells cs 26 (0, 0)) → (st8 W b o y).heap[k]? = some (.cells cs 26 (0, 0)) := fun hk => by
    rw [st8_other (blocks_ne (show (26 : TypeId) ≠ 45 by decide) hk hcb)]
    exact hk
  exact ⟨nb h.bx, nb h.bz, nb h.tp, ho, st8_below h.bw (h.ow.o.lo b rfl), h.t6⟩
/-- where a flight's waiters lie while bytes come: where they lay, or in memory of the call's own -/
def Nw (W5 : World) (S0 S : Sl) : Prop := S = S0 ∨ ∀ q, S.v.ownBlock = some q → W5.heap.size ≤ q
/-- while bytes come (ref): the box of x -/
structure FdI (w W5 wr : World) (S0 S : Sl) (x : Fl) (L : Value) (out : List Int) : Prop where
  bw : Below W5.heap.size W5 wr
  bx : wr.heap[W5.heap.size]? = some (.cells (fcs (x, S)) 45 (0, 0))
  ow : OwE tenc 2 47 wr w.heap.size S.v x.ws
  nw : Nw W5 S0 S
  is : OwE ienc 1 3 wr W5.heap.size L out
theorem FdI.below {w W5 wr w1 : World} {S0 S : Sl} {x : Fl} {L : Value} {out : List Int} (h : FdI w W5 wr S0 S x L out) (hb : Below wr.heap.size wr w1) : FdI w W5 w1 S0 S x L out :=
  ⟨h.bw.trans (hb.mono h.bw.size), keep hb h.bx, h.ow.below hb, h.nw, h.is.below hb⟩
/-- one field of x is stored -/
theorem FdI.put {w W5 wr : World} {S0 S : Sl} {x x' : Fl} {L : Value} {out : List Int} (h : FdI w W5 wr S0 S x L out) {j : Nat} {v : Value} (hx : (fcs (x, S)).setIfInBounds j v = fcs (x', S)) (hw : x'.ws = x.ws) : FdI w W5 (wr.setCell ⟨W5.heap.size, j, none⟩ v) S0 S x' L out := by
  refine ⟨h.bw.setCell (Nat.le_refl _) _, ?_, ?_, h.nw, ?_⟩
  · rw [heap_set h.bx, hx]
  · rw [hw]
    exact set_cell_ts h.ow ⟨_, h.bx⟩
  · exact ints_far h.is h.bx (by decide) _ _
theorem FdI.put8 {w W5 wr : World} {S0 S : Sl} {x x' : Fl} {L : Value} {out : List Int} (h : FdI w W5 wr S0 S x L out) (hw : x'.ws = x.ws) : FdI w W5 (st8 wr W5.heap.size 0 (x', S)) S0 S x' L out := by
  refine ⟨st8_below h.bw (Nat.le_refl _), st8_box h.bx, ?_, h.nw, ?_⟩
  · rw [hw]
    exact st8_ts h.ow ⟨_, h.bx⟩
  · exact st8_is h.is ⟨_, h.bx⟩
/-- who waits no longer is told -/
theorem FdI.app {w W5 wr w1 : World} {S0 S : Sl} {x : Fl} {L L' : Value} {out out' : List Int} (h : FdI w W5 wr S0 S x L out) (hg : wr.grownBy w1 L.ownBlock) (h1 : OwE ienc 1 3 w1 W5.heap.size L' out') : FdI w W5 w1 S0 S x L' out' := by
  have ne : ∀ (q : Nat) (T : TypeId) (cs : Array Value), T ≠ 3 → wr.heap[q]? = some (.cells cs T (0, 0)) → some q ≠ L.ownBlock := fun q T cs hT hq he => by
    obtain ⟨c1, hc1⟩ := h.is.typed q he.symm
    exact blocks_ne hT hq hc1 rfl
  refine ⟨h.bw.grown hg h.bw.size (fun q hq => h.is.lo q hq), gb_box hg h.bx (ne _ _ _ (by decide) h.bx), h.ow.grown hg (fun q hq => ?_), h.nw, h1⟩
  obtain ⟨c2, hc2⟩ := h.ow.typed q hq
  exact ne _ _ _ (by decide) hc2
theorem ts_grown {wr w1 : World} {base B : Nat} {V L : Value} {es : List Tm} {out : List Int} (h : OwE tenc 2 47 wr base V es) (ho : OwE ienc 1 3 wr B L out) (hg : wr.grownBy w1 L.ownBlock) : OwE tenc 2 47 w1 base V es :=
  h.grown hg (fun q hq he => by
    obtain ⟨c1, hc1⟩ := ho.typed q he.symm
    obtain ⟨c2, hc2⟩ := h.typed q hq
    exact blocks_ne (by decide) hc2 hc1 rfl)
/-- who is fast enough waits on -/
theorem FdI.putW {w W5 wr : World} {S0 S S' : Sl} {x x' : Fl} {L : Value} {out : List Int} {B : Nat} (h : FdI w W5 wr S0 S x L out) (hx : (fcs (x, S)).setIfInBounds 7 S'.v = fcs (x', S')) (hO : OwE tenc 2 47 wr B S'.v x'.ws) (hB : W5.heap.size ≤ B) (hw : w.heap.size ≤ W5.heap.size) : FdI w W5 (wr.setCell ⟨W5.heap.size, 7, none⟩ S'.v) S0 S' x' L out := by
  refine ⟨h.bw.setCell (Nat.le_refl _) _, ?_, ?_, .inr (fun q hq => Nat.le_trans hB (hO.lo q hq)), ?_⟩
  · rw [heap_set h.bx, hx]
  · exact (set_cell_ts hO ⟨_, h.bx⟩).lower (Nat.le_trans hw hB)
  · exact ints_far h.is h.bx (by decide) _ _
/-- two lists of one's own, one of which grows -/
theorem two_app {α : Type} {enc : α → List Value} {m : Nat} {e : TypeId} {W w1 : World} {base : Nat} {v u v1 : Value} {ys : List α} (hu : OwE enc m e W base u ys) (hg : W.grownBy w1 v.ownBlock) (hne : ∀ q, v.ownBlock = some q → u.ownBlock ≠ some q)
    (hat : v1.ownBlock = v.ownBlock ∨ ∃ b, v1.ownBlock = some b ∧ W.heap.size ≤ b) : OwE enc m e w1 base u ys ∧ (∀ q, v1.ownBlock = some q → u.ownBlock ≠ some q) := by
  refine ⟨hu.grown hg (fun k hk he => hne k he.symm hk), fun q hq hu2 => ?_⟩
  rcases hat with h | ⟨b, h, hl⟩
  · rw [h] at hq
    exact hne q hq hu2
  · rw [h] at hq
    injection hq with hq
    have := hu.lt q hu2
    omega
end Go.Proofs.Ytipjhokhflokmaa
