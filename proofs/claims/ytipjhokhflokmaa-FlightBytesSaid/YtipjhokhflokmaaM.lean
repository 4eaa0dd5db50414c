/- Words on slices whose elements are of m cells: read (RdE) and owned (OwE); append; what stays. -/
import Derived.Test.YtipjhokhflokmaaK
set_option linter.unusedVariables false
namespace Go.Proofs.Ytipjhokhflokmaa
open Go.RowKit
open Go.Proofs.YtipjhokhflokmaaW.PrintWords

section lists
variable {α : Type} {enc : α → List Value} {m : Nat}
theorem fm_len (h : ∀ a, (enc a).length = m) (es : List α) : (es.flatMap enc).length = es.length * m := by
  induction es with
  | nil => simp
  | cons a r ih => rw [List.flatMap_cons, List.length_append, h, ih, List.length_cons, Nat.add_mul]; omega
theorem fm_at (h : ∀ a, (enc a).length = m) {es : List α} {i j : Nat} {e : α} {x : Value} (he : es[i]? = some e) (hx : (enc e)[j]? = some x) : (es.flatMap enc)[i * m + j]? = some x := by
  induction es generalizing i with
  | nil => simp at he
  | cons a r ih =>
    have hj : j < m := by rw [← h e]; exact (List.getElem?_eq_some_iff.1 hx).1
    cases i with
    | zero =>
      simp only [List.getElem?_cons_zero, Option.some.injEq] at he
      subst he
      rw [List.flatMap_cons, Nat.zero_mul, Nat.zero_add, List.getElem?_append_left (by rw [h]; exact hj)]
      exact hx
    | succ i =>
      rw [List.flatMap_cons, List.getElem?_append_right (by rw [h, Nat.succ_mul]; omega), h, Nat.succ_mul, show i * m + m + j - m = i * m + j by omega]
      exact ih (by simpa using he)
theorem fm_of (h : ∀ a, (enc a).length = m) {es : List α} {q : Nat} {x : Value} (hx : (es.flatMap enc)[q]? = some x) : ∃ i j e, q = i * m + j ∧ es[i]? = some e ∧ (enc e)[j]? = some x := by
  induction es generalizing q with
  | nil => simp at hx
  | cons a r ih =>
    rw [List.flatMap_cons] at hx
    by_cases hq : q < m
    · rw [List.getElem?_append_left (by rw [h]; exact hq)] at hx
      exact ⟨0, q, a, by omega, rfl, hx⟩
    · rw [List.getElem?_append_right (by rw [h]; omega), h] at hx
      obtain ⟨i, j, e, hq2, he, hj⟩ := ih hx
      exact ⟨i + 1, j, e, by rw [Nat.succ_mul]; omega, by simpa using he, hj⟩
theorem fm_take (h : ∀ a, (enc a).length = m) (es : List α) (k : Nat) : (es.flatMap enc).take (k * m) = (es.take k).flatMap enc := by
  induction es generalizing k with
  | nil => simp
  | cons a r ih =>
    cases k with
    | zero => simp
    | succ k =>
      rw [List.flatMap_cons, List.take_succ_cons, List.flatMap_cons, Nat.succ_mul, List.take_append, h, List.take_of_length_le (by rw [h]; omega), show k * m + m - m = k * m by omega, ih]
theorem fm_drop (h : ∀ a, (enc a).length = m) (es : List α) (k : Nat) : (es.flatMap enc).drop (k * m) = (es.drop k).flatMap enc := by
  induction es generalizing k with
  | nil => simp
  | cons a r ih =>
    cases k with
    | zero => simp
    | succ k =>
      rw [List.flatMap_cons, List.drop_succ_cons, Nat.succ_mul, List.drop_append, h, List.drop_of_length_le (by rw [h]; omega), show k * m + m - m = k * m by omega, ih, List.nil_append]
theorem fm_set (h : ∀ a, (enc a).length = m) {es : List α} {i j : Nat} {e e' : α} {x : Value} (he : es[i]? = some e) (hj : j < m) (hx : enc e' = (enc e).set j x) : (es.flatMap enc).set (i * m + j) x = (es.set i e').flatMap enc := by
  induction es generalizing i with
  | nil => simp at he
  | cons a r ih =>
    cases i with
    | zero =>
      simp only [List.getElem?_cons_zero, Option.some.injEq] at he
      subst he
      rw [List.flatMap_cons, Nat.zero_mul, Nat.zero_add, List.set_append_left _ _ (by rw [h]; exact hj), List.set_cons_zero, List.flatMap_cons, hx]
    | succ i =>
      rw [List.flatMap_cons, List.set_append_right _ _ (by rw [h, Nat.succ_mul]; omega), h, Nat.succ_mul, show i * m + m + j - m = i * m + j by omega, ih (by simpa using he), List.set_cons_succ, List.flatMap_cons]
end lists

section
variable {α : Type} {enc : α → List Value} {m : Nat} {e : TypeId} {w w1 : World} {base : Nat} {v : Value} {es : List α}

/-- v reads as the elements es, each of m cells -/
def RdE (enc : α → List Value) (m : Nat) (w : World) (v : Value) (es : List α) : Prop :=
  ∃ A c, v = .slice A es.length c ∧ es.length ≤ c ∧ es.length ≤ 9223372036854775807 ∧ (0 < es.length → ∃ b off, A = some ⟨b, off, none⟩ ∧ b < w.heap.size ∧ ∀ i j x y, es[i]? = some x → (enc x)[j]? = some y → w.cell? ⟨b, off + i * m + j, none⟩ = some y)
/-- v is a slice of the call's own (from block base on) -/
def OwE (enc : α → List Value) (m : Nat) (e : TypeId) (w : World) (base : Nat) (v : Value) (es : List α) : Prop := (∀ a, (enc a).length = m) ∧ QRow w base e m v es.length (es.flatMap enc)

theorem RdE.below (h : RdE enc m w v es) (hb : Below w.heap.size w w1) : RdE enc m w1 v es := by
  obtain ⟨A, c, rfl, hl, hm, hr⟩ := h
  refine ⟨A, c, rfl, hl, hm, fun hp => ?_⟩
  obtain ⟨b, off, rfl, hlt, hc⟩ := hr hp
  exact ⟨b, off, rfl, Nat.lt_of_lt_of_le hlt hb.size, fun i j x y hx hy => (hb.cell (p := ⟨b, off + i * m + j, none⟩) hlt).trans (hc i j x y hx hy)⟩
theorem RdE.nil (w : World) (A : Option Addr) (c : Nat) : RdE enc m w (.slice A 0 c) [] := ⟨A, c, rfl, Nat.zero_le _, by simp, fun h => absurd h (by simp)⟩
theorem RdE.len {A : Option Addr} {n c : Nat} (h : RdE enc m w (.slice A n c) es) : es.length = n := by
  obtain ⟨A', c', he, _⟩ := h
  injection he with _ h2 _
  exact h2.symm
theorem RdE.max (h : RdE enc m w v es) : es.length ≤ 9223372036854775807 := by
  obtain ⟨_, _, _, _, hm, _⟩ := h
  exact hm
theorem RdE.slice (h : RdE enc m w v es) : ∃ A c, v = .slice A es.length c := by
  obtain ⟨A, c, rfl, _⟩ := h
  exact ⟨A, c, rfl⟩
theorem RdE.get {A : Option Addr} {n c : Nat} (h : RdE enc m w (.slice A n c) es) (hp : 0 < n) :
    ∃ b off, A = some ⟨b, off, none⟩ ∧ b < w.heap.size ∧ ∀ i j x y, es[i]? = some x → (enc x)[j]? = some y → w.cell? ⟨b, off + i * m + j, none⟩ = some y := by
  have hl := h.len
  obtain ⟨A', c', he, _, _, hr⟩ := h
  injection he with h1 h2 h3
  subst h1
  exact hr (by omega)
theorem RdE.olt (h : RdE enc m w v es) (hx : es ≠ []) : ∀ k, v.ownBlock = some k → k < w.heap.size := by
  intro k hk
  obtain ⟨A, c, rfl, _, _, hr⟩ := h
  obtain ⟨b, o, rfl, hb, _⟩ := hr (List.length_pos_iff.2 hx)
  simp [Value.ownBlock] at hk
  omega
theorem RdE.grown {row : Option Nat} (h : RdE enc m w v es) (hg : w.grownBy w1 row) (hne : ∀ k, v.ownBlock = some k → some k ≠ row) : RdE enc m w1 v es := by
  obtain ⟨A, c, rfl, hl, hm, hr⟩ := h
  refine ⟨A, c, rfl, hl, hm, fun hp => ?_⟩
  obtain ⟨b, off, rfl, hlt, hc⟩ := hr hp
  exact ⟨b, off, rfl, Nat.lt_of_lt_of_le hlt hg.size, fun i j x y hx hy => (hg.cell (hc i j x y hx hy) (hne b rfl))⟩
theorem RdE.far (h : RdE enc m w v es) {p : Addr} (hne : ∀ k, v.ownBlock = some k → k ≠ p.block) (u : Value) : RdE enc m (w.setCell p u) v es := by
  obtain ⟨A, c, rfl, hl, hm, hr⟩ := h
  refine ⟨A, c, rfl, hl, hm, fun hp => ?_⟩
  obtain ⟨b, off, rfl, hlt, hc⟩ := hr hp
  refine ⟨b, off, rfl, by simpa [World.setCell] using hlt, fun i j x y hx hy => ?_⟩
  have : (w.setCell p u).heap[b]? = w.heap[b]? := Below.heap_setCell w p u b (hne b rfl)
  rw [World.cell?_of_block (w := w) (w' := w.setCell p u) this]
  exact hc i j x y hx hy

theorem OwE.wid (h : OwE enc m e w base v es) : ∀ a, (enc a).length = m := h.1
theorem OwE.rd (h : OwE enc m e w base v es) : RdE enc m w v es := by
  obtain ⟨hm, h⟩ := h
  obtain ⟨A, c, rfl, hle⟩ := q_slice h
  refine ⟨A, c, rfl, hle, q_max h, fun hp => ?_⟩
  obtain ⟨ad, rfl, hc⟩ := q_cells h hp
  rcases h.2 with ⟨h0, _⟩ | ⟨g, off, cap, cur, he, hg, hh, _⟩
  · omega
  · injection he with he _ _
    injection he with he
    subst he
    refine ⟨g, off * m, rfl, (Array.getElem?_eq_some_iff.1 hh).1, fun i j x y hx hy => ?_⟩
    have := hc (i * m + j) y (fm_at hm hx hy)
    rwa [add_at, ← Nat.add_assoc] at this
theorem OwE.move (h : OwE enc m e w base v es) (hm : ∀ k, v.ownBlock = some k → w1.heap[k]? = w.heap[k]?) : OwE enc m e w1 base v es := ⟨h.1, q_move h.2 hm⟩
theorem OwE.lt (h : OwE enc m e w base v es) : ∀ k, v.ownBlock = some k → k < w.heap.size := fun k hk => q_lt h.2 k hk
theorem OwE.lo (h : OwE enc m e w base v es) : ∀ k, v.ownBlock = some k → base ≤ k := fun k hk => (q_typed h.2 k hk).1
theorem OwE.typed (h : OwE enc m e w base v es) : ∀ k, v.ownBlock = some k → ∃ cells, w.heap[k]? = some (.cells cells e (0, 0)) := fun k hk => (q_typed h.2 k hk).2
theorem OwE.lower {base' : Nat} (h : OwE enc m e w base v es) (hb : base' ≤ base) : OwE enc m e w base' v es := ⟨h.1, q_lower h.2 hb⟩
theorem OwE.below (h : OwE enc m e w base v es) (hb : Below w.heap.size w w1) : OwE enc m e w1 base v es := h.move fun k hk => hb.block k (h.lt k hk)
theorem OwE.nil (hm : ∀ a, (enc a).length = m) (e : TypeId) (w : World) (base : Nat) : OwE enc m e w base (.slice none 0 0) [] := ⟨hm, by simp, .inl ⟨rfl, none, rfl, fun a h => by cases h⟩⟩
theorem OwE.slice (h : OwE enc m e w base v es) : ∃ A c, v = .slice A es.length c ∧ es.length ≤ c := q_slice h.2
theorem OwE.slice' (h : OwE enc m e w base v es) : ∃ A n c, v = .slice A n c := by
  obtain ⟨A, c, h, _⟩ := h.slice
  exact ⟨A, _, c, h⟩
theorem OwE.grown {row : Option Nat} (h : OwE enc m e w base v es) (hg : w.grownBy w1 row) (hne : ∀ k, v.ownBlock = some k → some k ≠ row) : OwE enc m e w1 base v es := h.move fun k hk => hg.block k (h.lt k hk) (hne k hk)
theorem OwE.far (h : OwE enc m e w base v es) {p : Addr} (hne : ∀ k, v.ownBlock = some k → k ≠ p.block) (u : Value) : OwE enc m e (w.setCell p u) base v es := h.move fun k hk => Below.heap_setCell w p u k (hne k hk)
theorem OwE.form {A : Option Addr} {n c : Nat} (h : OwE enc m e w base (.slice A n c) es) (hp : 0 < n) :
    ∃ b off, A = some ⟨b, off, none⟩ ∧ base ≤ b ∧ (∃ cur, w.heap[b]? = some (.cells cur e (0, 0))) ∧ n ≤ c ∧ (∀ i j x y, es[i]? = some x → (enc x)[j]? = some y → w.cell? ⟨b, off + i * m + j, none⟩ = some y) ∧ (∀ j, w.frozen? ⟨b, j, none⟩ = false) := by
  have hl : es.length = n := h.rd.len
  obtain ⟨b, off, hA, hlt, hc⟩ := h.rd.get hp
  subst hA
  have hb := h.lo b rfl
  obtain ⟨cur, hcur⟩ := h.typed b rfl
  obtain ⟨A', c', he, hle⟩ := h.slice
  injection he with _ _ h3
  exact ⟨b, off, rfl, hb, ⟨cur, hcur⟩, by omega, hc, fun j => by simp [World.frozen?, hcur]⟩
/-- v[i].field j = x -/
theorem OwE.set {b off n c : Nat} (h : OwE enc m e w base (.slice (some ⟨b, off, none⟩) n c) es) {i j : Nat} {y y' : α} {x : Value} (hy : es[i]? = some y) (hj : j < m) (hx : enc y' = (enc y).set j x) :
    OwE enc m e (w.setCell ⟨b, off + i * m + j, none⟩ x) base (.slice (some ⟨b, off, none⟩) n c) (es.set i y') := by
  obtain ⟨hm, h⟩ := h
  have hl := h.1
  have hi := (List.getElem?_eq_some_iff.1 hy).1
  rcases h.2 with ⟨h0, A, hv, _⟩ | ⟨g, o, cap, cur, hv, hb, hh, hnc, hmx, hcs, ht⟩
  · injection hv with _ hv _
    omega
  · injection hv with h1 h2 h3
    injection h1 with h1
    injection h1 with h1 h4
    subst h1; subst h4; subst h3; subst h2
    refine ⟨hm, by rw [fm_len hm, List.length_set], .inr ⟨b, o, c, cur.setIfInBounds (o * m + i * m + j) x, by simp, hb, heap_set hh x, by simpa using hnc, hmx, by simpa using hcs, ?_⟩⟩
    have hin : o * m + i * m + j < cur.size := by
      rw [hcs, Nat.add_mul]
      have : (i + 1) * m ≤ c * m := Nat.mul_le_mul_right _ (by omega)
      rw [Nat.succ_mul] at this
      omega
    rw [Array.toList_setIfInBounds, List.length_set, ← fm_set hm hy hj hx, ← ht, List.drop_set, if_neg (by omega), List.take_set]
    congr 1
    omega
theorem OwE.take {A : Option Addr} {n c : Nat} (h : OwE enc m e w base (.slice A n c) es) (k : Nat) (hk : k ≤ n) : OwE enc m e w base (.slice A k c) (es.take k) := by
  have hl := h.rd.len
  obtain ⟨hm, h⟩ := h
  rw [hl] at h
  have := q_take h hk
  rw [fm_take hm] at this
  refine ⟨hm, ?_⟩
  rwa [List.length_take, hl, Nat.min_eq_left hk]
theorem OwE.drop {A : Option Addr} {n c : Nat} (h : OwE enc m e w base (.slice A n c) es) (k : Nat) (hk : k ≤ n) : OwE enc m e w base (.slice (if c = k then A else A.map (·.add (k * m))) (n - k) (c - k)) (es.drop k) := by
  have hl := h.rd.len
  obtain ⟨hm, h⟩ := h
  rw [hl] at h
  have := q_drop h hk
  rw [fm_drop hm] at this
  refine ⟨hm, ?_⟩
  rwa [List.length_drop, hl]
end

/-- append(v, src...) -/
theorem run_appE {α : Type} {enc : α → List Value} {m : Nat} {P : Program} (w : World) (base : Nat) (t ty e : TypeId) (z : Value) (bytes : Nat) (ht : P.underlying t = some (.slice e)) (hinfo : (P.info? e).map (fun i => (i.zero, i.size, i.bytes)) = some (some z, m, bytes)) (hz : z.cells.size = m) (hm0 : 0 < m)
    {v src : Value} {xs ys : List α} (hown : OwE enc m e w base v xs) (hsrc : RdE enc m w src ys) (h1 : ∀ a, ∀ u ∈ enc a, u.oneCell' = true)
    (hbytes : (xs.length + ys.length) * bytes ≤ 140737488355328) (hb0 : 0 < bytes) (hbase : base ≤ w.heap.size) :
    ∃ v' w', (Builtin.append_ #[t, t] ty #[v, src]).run P w = .ok v' w' ∧ OwE enc m e w' base v' (xs ++ ys) ∧ w.grownBy w' v.ownBlock ∧ (v'.ownBlock = v.ownBlock ∨ ∃ b, v'.ownBlock = some b ∧ w.heap.size ≤ b) := by
  obtain ⟨i0, hi, hzz⟩ := Option.map_eq_some_iff.1 hinfo
  simp only [Prod.mk.injEq] at hzz
  obtain ⟨hz0, hz1, hz2⟩ := hzz
  have hlen : xs.length + ys.length ≤ 140737488355328 := Nat.le_trans (Nat.le_mul_of_pos_right _ hb0) hbytes
  obtain ⟨A, c, rfl, hl, hmx, hr⟩ := hsrc
  have hm := hown.1
  rcases Nat.eq_zero_or_pos ys.length with h0 | hp
  · obtain rfl : ys = [] := List.eq_nil_of_length_eq_zero h0
    refine ⟨v, w, ?_, by rw [List.append_nil]; exact hown, ⟨rfl, rfl, rfl, Nat.le_refl _, fun _ _ _ => rfl⟩, .inl rfl⟩
    obtain ⟨A', c', rfl, hle⟩ := hown.slice
    have hld : ∀ (a : Addr) (W : World), (loadCells a 0).run P W = .ok #[] W := fun a W => by simp [loadCells, loadCellsFrom]
    cases A <;> cases A' <;> simp [Builtin.append_, run_underlying ht, sizeOf, typeInfo, hi, Builtin.lenOf, Builtin.firstCells, storeCells, hle, hld]
  · obtain ⟨b, off, rfl, hlt, hc⟩ := hr hp
    obtain ⟨v', w', hrun, ho, hg, hat⟩ := q_append (P := P) w base t ty e i0 z m bytes ht hi hz0 hz1 hz2 hz hm0 v xs.length (xs.flatMap enc) hown.2 ⟨b, off, none⟩ ys.length c (ys.flatMap enc) (fm_len hm ys)
      (fun q u hj => by
        obtain ⟨i, j, y, rfl, hy, hu⟩ := fm_of hm hj
        rw [add_at, ← Nat.add_assoc]
        exact hc i j y u hy hu)
      (fun u hu => by
        obtain ⟨a, _, ha⟩ := List.mem_flatMap.1 hu
        exact h1 a u ha) hp (by simp only [maxLen]; omega) hbytes hbase
    refine ⟨v', w', hrun, ⟨hm, ?_⟩, hg, hat⟩
    rw [List.length_append, List.flatMap_append]
    exact ho

section
variable {α : Type} {enc : α → List Value} {m : Nat} {P : Program} {ops : Array Oper} {rest : List Oper} {o : Oper} {a : Act} {Q : Exit → Act → World → Prop}
theorem wp_appE {W : World} (base : Nat) (hgd : o.guard = none) (s x : Operand) (t e : TypeId) (z : Value) (bytes : Nat)
    (ho : o.op = .call { callee := .builtin .append, args := #[s, x], argTypes := #[t, t] })
    (ht : P.underlying t = some (.slice e)) (hinfo : (P.info? e).map (fun i => (i.zero, i.size, i.bytes)) = some (some z, m, bytes)) (hz : z.cells.size = m) (hm0 : 0 < m) (hb0 : 0 < bytes)
    (v src : Value) (xs ys : List α) (hs : a.eval s = v) (hx : a.eval x = src)
    (hown : OwE enc m e W base v xs) (hsrc : RdE enc m W src ys) (h1 : ∀ a, ∀ u ∈ enc a, u.oneCell' = true) (hbytes : (xs.length + ys.length) * bytes ≤ 140737488355328) (hbase : base ≤ W.heap.size)
    (h : ∀ v1 w1, OwE enc m e w1 base v1 (xs ++ ys) → W.grownBy w1 v.ownBlock → (v1.ownBlock = v.ownBlock ∨ ∃ b, v1.ownBlock = some b ∧ W.heap.size ≤ b) → wpList P ops Q rest (a.put o.dst v1) w1) :
    wpList P ops Q (o :: rest) a W := by
  obtain ⟨v1, w1, hr1, h2, hg, hat⟩ := run_appE (P := P) W base t o.type e z bytes ht hinfo hz hm0 hown hsrc h1 hbytes hb0 hbase
  refine wpList_plain hgd fun K hK => ?_
  unfold Oper.wp execOp
  simp only [ho, resolve, invoke, builtin, Sem.run_bind, Sem.run_pure, Result.andThen_ok, List.map_toArray, List.map_cons, List.map_nil, hs, hx, hr1]
  exact hK _ _ (h v1 w1 h2 hg hat)
end
theorem blocks_ne {w : World} {k k' : Nat} {c c' : Array Value} {e e' : TypeId} (he : e ≠ e') (h1 : w.heap[k]? = some (.cells c e (0, 0))) (h2 : w.heap[k']? = some (.cells c' e' (0, 0))) : ¬ k = k' := by
  rintro rfl
  rw [h1] at h2
  injection h2 with h2
  injection h2 with _ h2
  exact he h2
/-- a block of another type stays where a row is appended to -/
theorem app_stays {W w1 : World} {bx : Nat} {cs : Array Value} {T e : TypeId} {v : Value} {base : Nat} {xs : List Value} {o : Obj} (hT : T ≠ e) (hx : W.heap[bx]? = some (.cells cs T (0, 0))) (hv : Ow e W base v xs) (hg : (W.alloc o).grownBy w1 v.ownBlock) :
    w1.heap[bx]? = some (.cells cs T (0, 0)) := by
  have lx := (Array.getElem?_eq_some_iff.1 hx).1
  rw [hg.block bx (by simp; omega) (fun h => by
    obtain ⟨c', hc'⟩ := hv.typed bx h.symm
    exact blocks_ne hT hx hc' rfl), Below.heap_alloc _ _ _ lx]
  exact hx
theorem app_staysE {α : Type} {enc : α → List Value} {m : Nat} {W w1 : World} {bx : Nat} {cs : Array Value} {T e : TypeId} {v : Value} {base : Nat} {xs : List α} {o : Obj} (hT : T ≠ e) (hx : W.heap[bx]? = some (.cells cs T (0, 0))) (hv : OwE enc m e W base v xs) (hg : (W.alloc o).grownBy w1 v.ownBlock) :
    w1.heap[bx]? = some (.cells cs T (0, 0)) := by
  have lx := (Array.getElem?_eq_some_iff.1 hx).1
  rw [hg.block bx (by simp; omega) (fun h => by
    obtain ⟨c', hc'⟩ := hv.typed bx h.symm
    exact blocks_ne hT hx hc' rfl), Below.heap_alloc _ _ _ lx]
  exact hx
/-- a box that holds one element -/
theorem rd_boxE {α : Type} {enc : α → List Value} {m : Nat} (W : World) (x : α) (e : TypeId) : RdE enc m (W.alloc (.cells (enc x).toArray e)) (.slice (some ⟨W.heap.size, 0, none⟩) 1 1) [x] := by
  refine ⟨_, 1, rfl, Nat.le_refl _, by simp, fun _ => ⟨_, 0, rfl, by simp, fun i j y u hi hu => ?_⟩⟩
  cases i with
  | zero =>
    simp only [List.getElem?_cons_zero, Option.some.injEq] at hi
    subst hi
    exact box_at (heap_alloc_new W (.cells (enc x).toArray e)) _ u (by rw [Nat.zero_add, Nat.zero_mul, Nat.zero_add, List.getElem?_toArray]; exact hu)
  | succ i => simp at hi
end Go.Proofs.Ytipjhokhflokmaa
