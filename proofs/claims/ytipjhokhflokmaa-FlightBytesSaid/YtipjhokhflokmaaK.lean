/- Words on slices of one-cell elements: read (Rd) and owned (Ow); append; kept facts. -/
import Derived.Test.YtipjhokhflokmaaProg
import Derived.Test.YtipjhokhflokmaaWWords
import Derived.WalkKit
import Derived.Deep.LoopGhost
import Derived.Deep.Draws
import Derived.Deep.QuietTactic
import Derived.BigQuiet
import Derived.WalkSpells
import Derived.Lib.Hide
import Derived.Lib.SliceRun
import Derived.Shelf.Abstract
import Derived.BigRegion
import Derived.Deep.RegionHeld3
import Derived.StillTailTactics
set_option linter.unusedVariables false
namespace Go.Proofs.Ytipjhokhflokmaa
open Go.RowKit
open Go.Proofs.YtipjhokhflokmaaW.PrintWords

/-- v reads as the list xs of one-cell elements. -/
def Rd (w : World) (v : Value) (xs : List Value) : Prop :=
  ∃ A c, v = .slice A xs.length c ∧ xs.length ≤ c ∧ xs.length ≤ 9223372036854775807 ∧ (0 < xs.length → ∃ b off, A = some ⟨b, off, none⟩ ∧ b < w.heap.size ∧ ∀ j x, xs[j]? = some x → w.cell? ⟨b, off + j, none⟩ = some x)

/-- v is a slice of the call's own (from block base on), of elements of type e. -/
def Ow (e : TypeId) (w : World) (base : Nat) (v : Value) (xs : List Value) : Prop := QRow w base e 1 v xs.length xs

theorem Rd.mk' {w : World} {b off n c : Nat} {xs : List Value} (hn : xs.length = n) (hc : n ≤ c) (hm : n ≤ 9223372036854775807) (hb : 0 < n → b < w.heap.size) (h : ∀ j x, xs[j]? = some x → w.cell? ⟨b, off + j, none⟩ = some x) : Rd w (.slice (some ⟨b, off, none⟩) n c) xs := by
  subst hn
  exact ⟨_, c, rfl, hc, hm, fun hp => ⟨b, off, rfl, hb hp, h⟩⟩

theorem Rd.below {w w1 : World} {v : Value} {xs : List Value} (h : Rd w v xs) (hb : Below w.heap.size w w1) : Rd w1 v xs := by
  obtain ⟨A, c, rfl, hl, hm, hr⟩ := h
  refine ⟨A, c, rfl, hl, hm, fun hp => ?_⟩
  obtain ⟨b, off, rfl, hlt, hc⟩ := hr hp
  exact ⟨b, off, rfl, Nat.lt_of_lt_of_le hlt hb.size, fun j x hj => (hb.cell (p := ⟨b, off + j, none⟩) hlt).trans (hc j x hj)⟩

theorem Rd.nil (w : World) (A : Option Addr) (c : Nat) : Rd w (.slice A 0 c) [] := ⟨A, c, rfl, Nat.zero_le _, by simp, fun h => absurd h (by simp)⟩

theorem Rd.len {w : World} {A : Option Addr} {n c : Nat} {xs : List Value} (h : Rd w (.slice A n c) xs) : xs.length = n := by
  obtain ⟨A', c', he, _⟩ := h
  injection he with _ h2 _
  exact h2.symm

/-- Element i: where it lies, what is there. -/
theorem Rd.get {w : World} {A : Option Addr} {n c : Nat} {xs : List Value} (h : Rd w (.slice A n c) xs) (hp : 0 < n) :
    ∃ b off, A = some ⟨b, off, none⟩ ∧ b < w.heap.size ∧ ∀ j x, xs[j]? = some x → w.cell? ⟨b, off + j, none⟩ = some x := by
  have hl := h.len
  obtain ⟨A', c', he, _, _, hr⟩ := h
  injection he with h1 h2 h3
  subst h1
  exact hr (by omega)

theorem Ow.rd {e : TypeId} {w : World} {base : Nat} {v : Value} {xs : List Value} (h : Ow e w base v xs) : Rd w v xs := by
  unfold Ow at h
  obtain ⟨A, c, rfl, hle⟩ := q_slice h
  refine ⟨A, c, rfl, hle, q_max h, fun hp => ?_⟩
  obtain ⟨ad, rfl, hc⟩ := q_cells h hp
  rcases h.2 with ⟨h0, _⟩ | ⟨g, off, cap, cur, he, hg, hh, _⟩
  · omega
  · injection he with he _ _
    injection he with he
    subst he
    exact ⟨g, off * 1, rfl, (Array.getElem?_eq_some_iff.1 hh).1, fun j x hj => by have := hc j x hj; rwa [add_at] at this⟩

theorem Ow.move {e : TypeId} {w w1 : World} {base : Nat} {v : Value} {xs : List Value} (h : Ow e w base v xs) (hm : ∀ k, v.ownBlock = some k → w1.heap[k]? = w.heap[k]?) : Ow e w1 base v xs := q_move h hm
theorem Ow.lt {e : TypeId} {w : World} {base : Nat} {v : Value} {xs : List Value} (h : Ow e w base v xs) : ∀ k, v.ownBlock = some k → k < w.heap.size := fun k hk => q_lt h k hk
theorem Ow.base {e : TypeId} {w : World} {base : Nat} {v : Value} {xs : List Value} (h : Ow e w base v xs) : ∀ k, v.ownBlock = some k → base ≤ k := fun k hk => (q_typed h k hk).1
theorem Ow.typed {e : TypeId} {w : World} {base : Nat} {v : Value} {xs : List Value} (h : Ow e w base v xs) : ∀ k, v.ownBlock = some k → ∃ cells, w.heap[k]? = some (.cells cells e (0, 0)) := fun k hk => (q_typed h k hk).2
theorem Ow.lower {e : TypeId} {w : World} {base base' : Nat} {v : Value} {xs : List Value} (h : Ow e w base v xs) (hb : base' ≤ base) : Ow e w base' v xs := q_lower h hb
theorem Ow.below {e : TypeId} {w w1 : World} {base : Nat} {v : Value} {xs : List Value} (h : Ow e w base v xs) (hb : Below w.heap.size w w1) : Ow e w1 base v xs := h.move fun k hk => hb.block k (h.lt k hk)
theorem Ow.nil (e : TypeId) (w : World) (base : Nat) : Ow e w base (.slice none 0 0) [] := ⟨rfl, .inl ⟨rfl, none, rfl, fun a h => by cases h⟩⟩
theorem Ow.slice {e : TypeId} {w : World} {base : Nat} {v : Value} {xs : List Value} (h : Ow e w base v xs) : ∃ A c, v = .slice A xs.length c ∧ xs.length ≤ c := q_slice h
theorem Ow.slice' {e : TypeId} {w : World} {base : Nat} {v : Value} {xs : List Value} (h : Ow e w base v xs) : ∃ A n c, v = .slice A n c := by
  obtain ⟨A, c, h, _⟩ := h.slice
  exact ⟨A, _, c, h⟩
/-- another row has been written, which is not this one -/
theorem Ow.grown {e : TypeId} {w w1 : World} {base : Nat} {v : Value} {xs : List Value} {row : Option Nat} (h : Ow e w base v xs) (hg : w.grownBy w1 row) (hne : ∀ k, v.ownBlock = some k → some k ≠ row) : Ow e w1 base v xs :=
  h.move fun k hk => hg.block k (h.lt k hk) (hne k hk)
theorem Rd.grown {w w1 : World} {v : Value} {xs : List Value} {row : Option Nat} (h : Rd w v xs) (hg : w.grownBy w1 row) (hne : ∀ k, v.ownBlock = some k → some k ≠ row) : Rd w1 v xs := by
  obtain ⟨A, c, rfl, hl, hm, hr⟩ := h
  refine ⟨A, c, rfl, hl, hm, fun hp => ?_⟩
  obtain ⟨b, off, rfl, hlt, hc⟩ := hr hp
  exact ⟨b, off, rfl, Nat.lt_of_lt_of_le hlt hg.size, fun j x hj => (hg.cell (hc j x hj) (hne b rfl))⟩

/-- append(v, src...) -/
theorem run_app {P : Program} (w : World) (base : Nat) (t ty e : TypeId) (z : Value) (bytes : Nat) (ht : P.underlying t = some (.slice e)) (hinfo : (P.info? e).map (fun i => (i.zero, i.size, i.bytes)) = some (some z, 1, bytes)) (hz : z.cells.size = 1)
    {v src : Value} {xs ys : List Value} (hown : Ow e w base v xs) (hsrc : Rd w src ys) (h1 : ∀ u ∈ ys, u.oneCell' = true)
    (hbytes : (xs.length + ys.length) * bytes ≤ 140737488355328) (hb0 : 0 < bytes) (hbase : base ≤ w.heap.size) :
    ∃ v' w', (Builtin.append_ #[t, t] ty #[v, src]).run P w = .ok v' w' ∧ Ow e w' base v' (xs ++ ys) ∧ w.grownBy w' v.ownBlock ∧ (v'.ownBlock = v.ownBlock ∨ ∃ b, v'.ownBlock = some b ∧ w.heap.size ≤ b) := by
  obtain ⟨i0, hi, hzz⟩ := Option.map_eq_some_iff.1 hinfo
  simp only [Prod.mk.injEq] at hzz
  obtain ⟨hz0, hz1, hz2⟩ := hzz
  have hlen : xs.length + ys.length ≤ 140737488355328 := Nat.le_trans (Nat.le_mul_of_pos_right _ hb0) hbytes
  obtain ⟨A, c, rfl, hl, hm, hr⟩ := hsrc
  rcases Nat.eq_zero_or_pos ys.length with h0 | hp
  · obtain rfl : ys = [] := List.eq_nil_of_length_eq_zero h0
    refine ⟨v, w, ?_, by rw [List.append_nil]; exact hown, ⟨rfl, rfl, rfl, Nat.le_refl _, fun _ _ _ => rfl⟩, .inl rfl⟩
    obtain ⟨A', c', rfl, hle⟩ := hown.slice
    have hld : ∀ (a : Addr) (W : World), (loadCells a 0).run P W = .ok #[] W := fun a W => by simp [loadCells, loadCellsFrom]
    cases A <;> cases A' <;> simp [Builtin.append_, run_underlying ht, sizeOf, typeInfo, hi, Builtin.lenOf, Builtin.firstCells, storeCells, hle, hld]
  · obtain ⟨b, off, rfl, hlt, hc⟩ := hr hp
    obtain ⟨v', w', hrun, ho, hg, hat⟩ := q_append (P := P) w base t ty e i0 z 1 bytes ht hi hz0 hz1 hz2 hz (by omega) v xs.length xs hown ⟨b, off, none⟩ ys.length c ys (by simp) (fun j u hj => by rw [add_at]; exact hc j u hj) h1 hp
      (by simp only [maxLen]; omega) hbytes hbase
    refine ⟨v', w', hrun, ?_, hg, hat⟩
    unfold Ow
    rw [List.length_append]
    exact ho

section
variable {P : Program} {ops : Array Oper} {rest : List Oper} {o : Oper} {a : Act} {Q : Exit → Act → World → Prop}
theorem wp_app {W : World} (base : Nat) (hgd : o.guard = none) (s x : Operand) (t e : TypeId) (z : Value) (bytes : Nat)
    (ho : o.op = .call { callee := .builtin .append, args := #[s, x], argTypes := #[t, t] })
    (ht : P.underlying t = some (.slice e)) (hinfo : (P.info? e).map (fun i => (i.zero, i.size, i.bytes)) = some (some z, 1, bytes)) (hz : z.cells.size = 1) (hb0 : 0 < bytes)
    (v src : Value) (xs ys : List Value) (hs : a.eval s = v) (hx : a.eval x = src)
    (hown : Ow e W base v xs) (hsrc : Rd W src ys) (h1 : ∀ u ∈ ys, u.oneCell' = true) (hbytes : (xs.length + ys.length) * bytes ≤ 140737488355328) (hbase : base ≤ W.heap.size)
    (h : ∀ v1 w1, Ow e w1 base v1 (xs ++ ys) → W.grownBy w1 v.ownBlock → (v1.ownBlock = v.ownBlock ∨ ∃ b, v1.ownBlock = some b ∧ W.heap.size ≤ b) → wpList P ops Q rest (a.put o.dst v1) w1) :
    wpList P ops Q (o :: rest) a W := by
  obtain ⟨v1, w1, hr1, h2, hg, hat⟩ := run_app (P := P) W base t o.type e z bytes ht hinfo hz hown hsrc h1 hbytes hb0 hbase
  refine wpList_plain hgd fun K hK => ?_
  unfold Oper.wp execOp
  simp only [ho, resolve, invoke, builtin, Sem.run_bind, Sem.run_pure, Result.andThen_ok, List.map_toArray, List.map_cons, List.map_nil, hs, hx, hr1]
  exact hK _ _ (h v1 w1 h2 hg hat)
end

section
variable {P : Program} {ops : Array Oper} {o : Oper} {a : Act} {Q' : Exit → Act → World → Prop} {Kc : Act → World → Prop}
/-- append as one step of a region that draws its order -/
theorem wp_app_step {W : World} (base : Nat) (hw : Region.wanted o (yielded ops a.tmps) = true) (s x : Operand) (t e : TypeId) (z : Value) (bytes : Nat)
    (ho : o.op = .call { callee := .builtin .append, args := #[s, x], argTypes := #[t, t] })
    (ht : P.underlying t = some (.slice e)) (hinfo : (P.info? e).map (fun i => (i.zero, i.size, i.bytes)) = some (some z, 1, bytes)) (hz : z.cells.size = 1) (hb0 : 0 < bytes)
    (v src : Value) (xs ys : List Value) (hs : a.eval s = v) (hx : a.eval x = src)
    (hown : Ow e W base v xs) (hsrc : Rd W src ys) (h1 : ∀ u ∈ ys, u.oneCell' = true) (hbytes : (xs.length + ys.length) * bytes ≤ 140737488355328) (hbase : base ≤ W.heap.size)
    (h : ∀ v1 w1, Ow e w1 base v1 (xs ++ ys) → W.grownBy w1 v.ownBlock → (v1.ownBlock = v.ownBlock ∨ ∃ b, v1.ownBlock = some b ∧ W.heap.size ≤ b) → Kc (a.put o.dst v1) w1) :
    if Region.wanted o (yielded ops a.tmps) = true then Oper.wp P o a W Kc Q' else Kc (a.put o.dst undef) W := by
  obtain ⟨v1, w1, hr1, h2, hg, hat⟩ := run_app (P := P) W base t o.type e z bytes ht hinfo hz hown hsrc h1 hbytes hb0 hbase
  rw [if_pos hw]
  unfold Oper.wp execOp
  simp only [ho, resolve, invoke, builtin, Sem.run_bind, Sem.run_pure, Result.andThen_ok, List.map_toArray, List.map_cons, List.map_nil, hs, hx, hr1]
  exact h v1 w1 h2 hg hat
end

/-- the variadic's box: one element -/
theorem rd_box (W : World) (x : Value) (e : TypeId) : Rd (W.alloc (.cells #[x] e)) (.slice (some ⟨W.heap.size, 0, none⟩) 1 1) [x] :=
  Rd.mk' rfl (Nat.le_refl _) (by omega) (fun _ => by simp) (fun j u hj => by
    obtain rfl : j = 0 := by
      rcases Nat.eq_zero_or_pos j with h | h
      · exact h
      · rw [List.getElem?_eq_none (by simp; omega)] at hj; cases hj
    have hj : some x = some u := hj
    injection hj with hj
    subst hj
    simp)

theorem below_grown' {B : Nat} {a w w' : World} {row : Option Nat} (h : Below B a w) (hg : w.grownBy w' row) (hB : B ≤ w.heap.size) (hr : ∀ k, row = some k → B ≤ k) : Below B a w' := h.grown hg hB hr

theorem Ow.form {e : TypeId} {w : World} {base : Nat} {v : Value} {xs : List Value} (h : Ow e w base v xs) (hp : 0 < xs.length) :
    ∃ b off c cur, v = .slice (some ⟨b, off, none⟩) xs.length c ∧ base ≤ b ∧ w.heap[b]? = some (.cells cur e (0, 0)) ∧ xs.length ≤ c ∧ off + c ≤ 9223372036854775807 ∧ cur.size = off + c ∧ (cur.toList.drop off).take xs.length = xs := by
  rcases h.2 with ⟨h0, _⟩ | ⟨g, off, cap, cur, rfl, hb, hh, hnc, hm, hcs, ht⟩
  · omega
  · simp only [Nat.mul_one] at hcs ht ⊢
    simp only [maxLen] at hm
    exact ⟨g, off, cap, cur, rfl, hb, hh, hnc, by omega, hcs, ht⟩
theorem Ow.form' {e : TypeId} {w : World} {base n c : Nat} {A : Option Addr} {xs : List Value} (h : Ow e w base (.slice A n c) xs) (hp : 0 < n) :
    ∃ b off, A = some ⟨b, off, none⟩ ∧ base ≤ b ∧ (∃ cur, w.heap[b]? = some (.cells cur e (0, 0))) ∧ n ≤ c ∧ (∀ j x, xs[j]? = some x → w.cell? ⟨b, off + j, none⟩ = some x) ∧ (∀ j, w.frozen? ⟨b, j, none⟩ = false) := by
  have hl : xs.length = n := h.rd.len
  obtain ⟨b, off, hA, hlt, hc⟩ := h.rd.get hp
  subst hA
  have hb := h.base b rfl
  obtain ⟨cur, hcur⟩ := h.typed b rfl
  obtain ⟨A', c', he, hle⟩ := h.slice
  injection he with _ _ h3
  exact ⟨b, off, rfl, hb, ⟨cur, hcur⟩, by omega, hc, fun j => by simp [World.frozen?, hcur]⟩
theorem Ow.mk {e : TypeId} {w : World} {base b off c : Nat} {cur : Array Value} {xs : List Value} (hb : base ≤ b) (hh : w.heap[b]? = some (.cells cur e (0, 0))) (hnc : xs.length ≤ c) (hm : off + c ≤ 9223372036854775807) (hcs : cur.size = off + c)
    (ht : (cur.toList.drop off).take xs.length = xs) : Ow e w base (.slice (some ⟨b, off, none⟩) xs.length c) xs :=
  ⟨by simp, .inr ⟨b, off, c, cur, by simp, hb, hh, hnc, by simp only [maxLen]; omega, by simpa using hcs, by simpa using ht⟩⟩
theorem heap_set {w : World} {b o : Nat} {cur : Array Value} {e : TypeId} {fr : Nat × Nat} (h : w.heap[b]? = some (.cells cur e fr)) (v : Value) :
    (w.setCell ⟨b, o, none⟩ v).heap[b]? = some (.cells (cur.setIfInBounds o v) e fr) := by
  show (w.heap.modify b _)[b]? = _
  rw [Array.getElem?_modify, if_pos rfl, h]
  rfl
theorem Ow.far {e : TypeId} {w : World} {base : Nat} {v : Value} {xs : List Value} (h : Ow e w base v xs) {p : Addr} (hne : ∀ k, v.ownBlock = some k → k ≠ p.block) (u : Value) : Ow e (w.setCell p u) base v xs :=
  h.move fun k hk => Below.heap_setCell w p u k (hne k hk)
/-- v[i] = x -/
theorem Ow.set {e : TypeId} {w : World} {base b off n c : Nat} {xs : List Value} (h : Ow e w base (.slice (some ⟨b, off, none⟩) n c) xs) (i : Nat) (hi : i < xs.length) (x : Value) :
    Ow e (w.setCell ⟨b, off + i, none⟩ x) base (.slice (some ⟨b, off, none⟩) n c) (xs.set i x) := by
  obtain ⟨b', off', c', cur, he, hb, hh, hnc, hm, hcs, ht⟩ := h.form (by omega)
  injection he with h1 h2 h3
  injection h1 with h1
  injection h1 with h1 h4
  subst h1; subst h2; subst h3; subst h4
  have := Ow.mk (xs := xs.set i x) (c := c) (off := off) hb (heap_set hh x (o := off + i)) (by simpa using hnc) hm (by simpa using hcs) (by
    rw [Array.toList_setIfInBounds, List.length_set, List.drop_set, if_neg (by omega), List.take_set, ht]
    congr 1
    omega)
  rwa [List.length_set] at this
/-- v[k:], k ≤ len -/
theorem Ow.drop {e : TypeId} {w : World} {base n c : Nat} {A : Option Addr} {xs : List Value} (h : Ow e w base (.slice A n c) xs) (k : Nat) (hk : k ≤ n) :
    Ow e w base (.slice (if c = k then A else A.map (·.add k)) (n - k) (c - k)) (xs.drop k) := by
  have hl : xs.length = n := h.rd.len
  unfold Ow at h ⊢
  rw [hl] at h
  have := q_drop h hk
  rw [List.length_drop, hl]
  simpa using this
theorem Ow.take {e : TypeId} {w : World} {base n c : Nat} {A : Option Addr} {xs : List Value} (h : Ow e w base (.slice A n c) xs) (k : Nat) (hk : k ≤ n) : Ow e w base (.slice A k c) (xs.take k) := by
  have hl : xs.length = n := h.rd.len
  unfold Ow at h ⊢
  rw [hl] at h
  have := q_take h hk
  rw [List.length_take, hl, Nat.min_eq_left hk]
  simpa using this
theorem Rd.far {w : World} {v : Value} {xs : List Value} (h : Rd w v xs) {p : Addr} (hne : ∀ k, v.ownBlock = some k → k ≠ p.block) (u : Value) : Rd (w.setCell p u) v xs := by
  obtain ⟨A, c, rfl, hl, hm, hr⟩ := h
  refine ⟨A, c, rfl, hl, hm, fun hp => ?_⟩
  obtain ⟨b, off, rfl, hlt, hc⟩ := hr hp
  refine ⟨b, off, rfl, by simpa [World.setCell] using hlt, fun j x hj => ?_⟩
  have : (w.setCell p u).heap[b]? = w.heap[b]? := Below.heap_setCell w p u b (hne b rfl)
  rw [World.cell?_of_block (w := w) (w' := w.setCell p u) this]
  exact hc j x hj
theorem Rd.drewN {w : World} {v : Value} {xs : List Value} (h : Rd w v xs) (q : Nat) : Rd (w.drewN q) v xs := h.below (pw_below_drewN (Below.refl _ _) q)
theorem box_at {w : World} {b : Nat} {cs : Array Value} {T : TypeId} {fr : Nat × Nat} (h : w.heap[b]? = some (.cells cs T fr)) (j : Nat) (v : Value) (hv : cs[j]? = some v) : w.cell? ⟨b, j, none⟩ = some v := by
  simp [World.cell?, h, hv]
theorem box_free {w : World} {b : Nat} {cs : Array Value} {T : TypeId} (h : w.heap[b]? = some (.cells cs T (0, 0))) (j : Nat) : w.frozen? ⟨b, j, none⟩ = false := by
  simp [World.frozen?, h]

theorem bcell {W w1 : World} (hb : Below W.heap.size W w1) : (∀ b o, b < W.heap.size → w1.cell? ⟨b, o, none⟩ = W.cell? ⟨b, o, none⟩) ∧ (∀ b o, b < W.heap.size → w1.frozen? ⟨b, o, none⟩ = W.frozen? ⟨b, o, none⟩) :=
  ⟨fun b o h => hb.cell (p := ⟨b, o, none⟩) h, fun b o h => hb.frozen (p := ⟨b, o, none⟩) h⟩

/-- what a cell holds, whatever that is -/
def cellv (w : World) (b o : Nat) : Value := (w.cell? ⟨b, o, none⟩).getD undef
theorem cellv_of {w : World} {b o : Nat} {v : Value} (h : w.cell? ⟨b, o, none⟩ = some v) : w.cell? ⟨b, o, none⟩ = some (cellv w b o) := by simp [cellv, h]
theorem cellv_set {w : World} {b o : Nat} {v : Value} (h : w.cell? ⟨b, o, none⟩ = some v) (p : Addr) (u : Value) : (w.setCell p u).cell? ⟨b, o, none⟩ = some (cellv (w.setCell p u) b o) := by
  unfold cellv
  by_cases hb : b = p.block
  · subst hb
    cases hh : w.heap[p.block]? with
    | none => simp [World.cell?, hh] at h
    | some ob =>
      cases ob with
      | cells c e fr =>
        have h2 : (w.setCell p u).heap[p.block]? = some (.cells (if p.spot.isSome then c else c.setIfInBounds p.off u) e fr) := by
          show (w.heap.modify p.block _)[p.block]? = _
          rw [Array.getElem?_modify, if_pos rfl, hh]
          rfl
        have h3 : c[o]? = some v := by simpa [World.cell?, hh] using h
        have ho : o < c.size := (Array.getElem?_eq_some_iff.1 h3).1
        simp only [World.cell?, h2, Option.isSome_none]
        have : ∀ a : Array Value, o < a.size → a[o]? = some (a[o]?.getD undef) := fun a ha => by simp [ha]
        split
        · rename_i h; simp at h
        · exact this _ (by split <;> simpa using ho)
      | _ => simp [World.cell?, hh] at h
  · have h2 : (w.setCell p u).heap[b]? = w.heap[b]? := Below.heap_setCell w p u b hb
    rw [World.cell?_of_block (w := w) (w' := w.setCell p u) h2, h]
    rfl
theorem frozen_set {w : World} {b o : Nat} (p : Addr) (u : Value) : (w.setCell p u).frozen? ⟨b, o, none⟩ = w.frozen? ⟨b, o, none⟩ := World.frozen?_setCell _ _ _ _
/-- behind a call: what lay, lies (told of a whole block) -/
theorem keep {w w1 : World} {b : Nat} {o : Obj} (hb : Below w.heap.size w w1) (h : w.heap[b]? = some o) : w1.heap[b]? = some o := (hb.block b (Array.getElem?_eq_some_iff.1 h).1).trans h
/-- behind a call made over a new block: the block, and all that is elder -/
theorem alloc1 {w w1 : World} {o : Obj} (hb : Below (w.alloc o).heap.size (w.alloc o) w1) : Below w.heap.size w w1 ∧ w1.heap[w.heap.size]? = some o :=
  ⟨((Below.refl _ _).alloc (Nat.le_refl _) _).trans (hb.mono (by simp)), by rw [hb.block _ (by simp)]; exact heap_alloc_new _ _⟩
theorem below_of_grown {w w1 : World} (hg : w.grownBy w1 none) : Below w.heap.size w w1 := ⟨hg.os, hg.tape, hg.output, hg.size, fun k hk => hg.block k hk (by simp)⟩

def ints (xs : List Int) : List Value := xs.map (Value.int .i64)
def bls (xs : List Bool) : List Value := xs.map Value.bool
theorem ints_len (xs : List Int) : (ints xs).length = xs.length := by simp [ints]
theorem bls_len (xs : List Bool) : (bls xs).length = xs.length := by simp [bls]
theorem ints_at {xs : List Int} {i : Nat} (h : i < xs.length) : (ints xs)[i]? = some (.int .i64 xs[i]) := by simp [ints, h]
theorem bls_at {xs : List Bool} {i : Nat} (h : i < xs.length) : (bls xs)[i]? = some (.bool xs[i]) := by simp [bls, h]
theorem ints_one (xs : List Int) : ∀ u ∈ ints xs, u.oneCell' = true := by simp [ints, Value.oneCell']
theorem bls_one (xs : List Bool) : ∀ u ∈ bls xs, u.oneCell' = true := fun u hu => by
  obtain ⟨x, _, rfl⟩ := List.mem_map.1 hu
  rfl
theorem ints_app (xs ys : List Int) : ints (xs ++ ys) = ints xs ++ ints ys := by simp [ints]
theorem bls_app (xs ys : List Bool) : bls (xs ++ ys) = bls xs ++ bls ys := by simp [bls]
end Go.Proofs.Ytipjhokhflokmaa
