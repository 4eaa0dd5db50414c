/- clear() behind an own row's end. For any program. -/
import Derived.Test.YtipjhokhflokmaaMB
import Derived.Lib.SliceRun
set_option linter.unusedVariables false
namespace Go.Proofs.Ytipjhokhflokmaa
open Go.RowKit
open Go.Proofs.YtipjhokhflokmaaW.PrintWords

theorem run_clearE {α : Type} {enc : α → List Value} {m : Nat} {P : Program} (w : World) (base : Nat) (t e ty : TypeId) (z : Value) (ht : P.underlying t = some (.slice e)) (hv : ∀ w, (zeroValue e).run P w = .ok z w) (hz : z.cells.size = m) (h1 : ∀ u ∈ z.cells.toList, u.oneCell' = true)
    {b off n c : Nat} {xs : List α} (hown : OwE enc m e w base (.slice (some ⟨b, off, none⟩) n c) xs) {q d : Nat} (hq : n + q ≤ c) :
    ∃ w', (Builtin.clear_ #[t] ty #[.slice (some ⟨b, off + n * m, none⟩) q d]).run P w = .ok (.tuple #[]) w' ∧ OwE enc m e w' base (.slice (some ⟨b, off, none⟩) n c) xs ∧ w.grownBy w' (some b) := by
  cases q with
  | zero => exact ⟨w, by simp [Builtin.clear_, run_underlying ht], hown, ⟨rfl, rfl, rfl, Nat.le_refl _, fun _ _ _ => rfl⟩⟩
  | succ q =>
    obtain ⟨hm, hQ⟩ := hown
    have hl := hQ.1
    rcases hQ.2 with ⟨h0, A, hA, _⟩ | ⟨g, o, cap, cur, he, hb, hh, hnc, hmx, hcs, htk⟩
    · injection hA with _ _ h3
      omega
    · injection he with he1 he2 he3
      injection he1 with he1
      injection he1 with he1 he4
      subst he1; subst he4; subst he3; subst he2
      have hzl : (Builtin.zeroCells z.cells (q + 1)).toList.length = (q + 1) * m := by simp [Builtin.zeroCells, hz]
      have hin : o * m + xs.length * m + (q + 1) * m ≤ cur.size := by
        rw [hcs, ← Nat.add_mul, ← Nat.add_mul]
        exact Nat.mul_le_mul_right _ (by omega)
      have hin2 : o * m + xs.length * m ≤ cur.size := by
        rw [hcs, ← Nat.add_mul]
        exact Nat.mul_le_mul_right _ (by omega)
      have hz1 : ∀ u ∈ (Builtin.zeroCells z.cells (q + 1)).toList, u.oneCell' = true := by
        intro u hu
        simp only [Builtin.zeroCells, Array.toList_map, List.mem_map, Array.mem_toList_iff, Array.mem_range] at hu
        obtain ⟨i, hi, rfl⟩ := hu
        have hp : 0 < z.cells.size := by
          rcases Nat.eq_zero_or_pos z.cells.size with h | h
          · rw [h] at hi; simp at hi
          · exact h
        have hlt := Nat.mod_lt i hp
        rw [getElem!_pos z.cells _ hlt]
        exact h1 _ (by simp)
      have hst := run_storeCells_cells (P := P) b (o * m + xs.length * m) (Builtin.zeroCells z.cells (q + 1)).toList 0 w
        (by
          intro j hj
          rw [hzl] at hj
          rw [cell_of_row w b _ cur e (0, 0) hh]
          simp
          omega) (fun j _ => blk_frozen hh _) hz1
      obtain ⟨cur', h3, h4, h5⟩ := setCells_row (Builtin.zeroCells z.cells (q + 1)).toList (o * m + xs.length * m) w cur hh (by rw [hzl]; exact hin)
      obtain ⟨s1, s2, s3, s4⟩ := setCells_same b (Builtin.zeroCells z.cells (q + 1)).toList (o * m + xs.length * m) w
      simp only [Nat.add_zero] at hst
      refine ⟨_, by simp [Builtin.clear_, run_underlying ht, hv, hst], ⟨hm, hl, .inr ⟨b, o, c, cur', rfl, hb, h3, hnc, hmx, by rw [h4, hcs], ?_⟩⟩, ⟨s1, s2, s3, by rw [s4]; exact Nat.le_refl _, fun k _ hk => setCells_far _ _ k (fun he => hk (by rw [he]))⟩⟩
      rw [h5, List.append_assoc, List.drop_append_of_le_length (by rw [List.length_take, Array.length_toList]; exact Nat.le_min.2 ⟨Nat.le_add_right _ _, Nat.le_trans (Nat.le_add_right _ _) hin2⟩), List.drop_take]
      rw [show o * m + xs.length * m - o * m = xs.length * m by omega, List.take_append_of_le_length (by rw [List.length_take, List.length_drop, Array.length_toList]; exact Nat.le_min.2 ⟨Nat.le_refl _, Nat.le_sub_of_add_le (by rw [Nat.add_comm]; exact hin2)⟩), List.take_take, Nat.min_self]
      exact htk

section
variable {α : Type} {enc : α → List Value} {m : Nat} {P : Program} {ops : Array Oper} {rest : List Oper} {o : Oper} {a : Act} {Q : Exit → Act → World → Prop}
theorem wp_clearE {W : World} (base : Nat) (hgd : o.guard = none) (x : Operand) (t e : TypeId) (z : Value)
    (ho : o.op = .call { callee := .builtin .clear, args := #[x], argTypes := #[t] })
    (ht : P.underlying t = some (.slice e)) (hv : ∀ w, (zeroValue e).run P w = .ok z w) (hz : z.cells.size = m) (h1 : ∀ u ∈ z.cells.toList, u.oneCell' = true)
    {b off n c : Nat} {xs : List α} (hown : OwE enc m e W base (.slice (some ⟨b, off, none⟩) n c) xs) {q d : Nat} (hq : n + q ≤ c) (hx : a.eval x = .slice (some ⟨b, off + n * m, none⟩) q d)
    (h : ∀ w1, OwE enc m e w1 base (.slice (some ⟨b, off, none⟩) n c) xs → W.grownBy w1 (some b) → wpList P ops Q rest (a.put o.dst (.tuple #[])) w1) :
    wpList P ops Q (o :: rest) a W := by
  obtain ⟨w1, hr1, h2, hg⟩ := run_clearE (P := P) W base t e o.type z ht hv hz h1 hown (d := d) hq
  refine wpList_plain hgd fun K hK => ?_
  unfold Oper.wp execOp
  simp only [ho, resolve, invoke, builtin, Sem.run_bind, Sem.run_pure, Result.andThen_ok, List.map_toArray, List.map_cons, List.map_nil, hx, hr1]
  exact hK _ _ (h w1 h2 hg)
end

/-- append where there is room: the row itself -/
theorem run_appE_room {α : Type} {enc : α → List Value} {m : Nat} {P : Program} (w : World) (base : Nat) (t ty e : TypeId) (z : Value) (bytes : Nat) (ht : P.underlying t = some (.slice e)) (hinfo : (P.info? e).map (fun i => (i.zero, i.size, i.bytes)) = some (some z, m, bytes)) (hm0 : 0 < m)
    {b off n c : Nat} {src : Value} {xs ys : List α} (hown : OwE enc m e w base (.slice (some ⟨b, off, none⟩) n c) xs) (hsrc : RdE enc m w src ys) (h1 : ∀ a, ∀ u ∈ enc a, u.oneCell' = true) (hroom : n + ys.length ≤ c) :
    ∃ w', (Builtin.append_ #[t, t] ty #[.slice (some ⟨b, off, none⟩) n c, src]).run P w = .ok (.slice (some ⟨b, off, none⟩) (n + ys.length) c) w' ∧ OwE enc m e w' base (.slice (some ⟨b, off, none⟩) (n + ys.length) c) (xs ++ ys) ∧ w.grownBy w' (some b) := by
  obtain ⟨i0, hi, hzz⟩ := Option.map_eq_some_iff.1 hinfo
  simp only [Prod.mk.injEq] at hzz
  obtain ⟨hz0, hz1, hz2⟩ := hzz
  have hown0 := hown
  obtain ⟨A, d, rfl, hl, hmx, hr⟩ := hsrc
  have hm := hown.1
  rcases Nat.eq_zero_or_pos ys.length with h0 | hp
  · obtain rfl : ys = [] := List.eq_nil_of_length_eq_zero h0
    refine ⟨w, ?_, by rw [List.append_nil]; exact hown, ⟨rfl, rfl, rfl, Nat.le_refl _, fun _ _ _ => rfl⟩⟩
    have hld : ∀ (a : Addr) (W : World), (loadCells a 0).run P W = .ok #[] W := fun a W => by simp [loadCells, loadCellsFrom]
    have hnc : n ≤ c := by simpa using hroom
    cases A <;> simp [Builtin.append_, run_underlying ht, sizeOf, typeInfo, hi, Builtin.lenOf, Builtin.firstCells, storeCells, hnc, hld]
  · obtain ⟨sb, so, rfl, hlt, hc⟩ := hr hp
    obtain ⟨hm, hQ⟩ := hown
    have hxl := hQ.1
    rcases hQ.2 with ⟨h0, A, hA, hA2⟩ | ⟨g, o, cap, cur, he, hb, hh, hnc, hmx2, hcs, htk⟩
    · injection hA with _ _ h3
      omega
    · injection he with he1 he2 he3
      injection he1 with he1
      injection he1 with he1 he4
      subst he1; subst he4; subst he3; subst he2
      have hnl := fm_len hm ys
      have hfit : o * m + xs.length * m + (ys.flatMap enc).length ≤ cur.size := by
        rw [hnl, hcs, ← Nat.add_mul, ← Nat.add_mul]
        exact Nat.mul_le_mul_right _ (by omega)
      subst hz1
      have hrun := run_append_room_cells (P := P) (w := w) t ty e i0 ht hi b (o * i0.size) xs.length c ⟨sb, so, none⟩ ys.length d (ys.flatMap enc) hnl
        (fun q u hj => by
          obtain ⟨i, j, y, rfl, hy, hu⟩ := fm_of hm hj
          rw [add_at, ← Nat.add_assoc]
          exact hc i j y u hy hu)
        (fun u hu => by
          obtain ⟨a, _, ha⟩ := List.mem_flatMap.1 hu
          exact h1 a u ha) hroom
        (fun j hj => by rw [cell_of_row w b _ cur e (0, 0) hh]; simp; omega) (fun j _ => blk_frozen hh _)
      obtain ⟨cur', h3, h4, h5⟩ := setCells_row (ys.flatMap enc) (o * i0.size + xs.length * i0.size) w cur hh hfit
      obtain ⟨s1, s2, s3, s4⟩ := setCells_same b (ys.flatMap enc) (o * i0.size + xs.length * i0.size) w
      refine ⟨_, hrun, ⟨hm, by rw [List.length_append, List.flatMap_append, List.length_append, hxl, hnl, Nat.add_mul], .inr ⟨b, o, c, cur', by rw [List.length_append], hb, h3, by rw [List.length_append]; exact hroom, hmx2, by rw [h4, hcs], ?_⟩⟩,
        ⟨s1, s2, s3, by rw [s4]; exact Nat.le_refl _, fun k _ hk => setCells_far _ _ k (fun he => hk (by rw [he]))⟩⟩
      have h6 : o * i0.size + xs.length * i0.size ≤ cur.size := Nat.le_trans (Nat.le_add_right _ _) hfit
      rw [h5, List.append_assoc, List.drop_append_of_le_length (by rw [List.length_take, Array.length_toList]; exact Nat.le_min.2 ⟨Nat.le_add_right _ _, Nat.le_trans (Nat.le_add_right _ _) h6⟩), List.drop_take]
      rw [show o * i0.size + xs.length * i0.size - o * i0.size = xs.length * i0.size by omega, htk]
      rw [← List.append_assoc, List.flatMap_append]
      exact List.take_left' (by rw [List.length_append, hxl, hnl, List.length_append, Nat.add_mul])
section
variable {α : Type} {enc : α → List Value} {m : Nat} {P : Program} {ops : Array Oper} {rest : List Oper} {o : Oper} {a : Act} {Q : Exit → Act → World → Prop}
theorem wp_appE_room {W : World} (base : Nat) (hgd : o.guard = none) (s x : Operand) (t e : TypeId) (z : Value) (bytes : Nat)
    (ho : o.op = .call { callee := .builtin .append, args := #[s, x], argTypes := #[t, t] })
    (ht : P.underlying t = some (.slice e)) (hinfo : (P.info? e).map (fun i => (i.zero, i.size, i.bytes)) = some (some z, m, bytes)) (hm0 : 0 < m)
    {b off n c : Nat} (src : Value) (xs ys : List α) (hs : a.eval s = .slice (some ⟨b, off, none⟩) n c) (hx : a.eval x = src)
    (hown : OwE enc m e W base (.slice (some ⟨b, off, none⟩) n c) xs) (hsrc : RdE enc m W src ys) (h1 : ∀ a, ∀ u ∈ enc a, u.oneCell' = true) (hroom : n + ys.length ≤ c)
    (h : ∀ w1, OwE enc m e w1 base (.slice (some ⟨b, off, none⟩) (n + ys.length) c) (xs ++ ys) → W.grownBy w1 (some b) → wpList P ops Q rest (a.put o.dst (.slice (some ⟨b, off, none⟩) (n + ys.length) c)) w1) :
    wpList P ops Q (o :: rest) a W := by
  obtain ⟨w1, hr1, h2, hg⟩ := run_appE_room (P := P) W base t o.type e z bytes ht hinfo hm0 hown hsrc h1 hroom
  refine wpList_plain hgd fun K hK => ?_
  unfold Oper.wp execOp
  simp only [ho, resolve, invoke, builtin, Sem.run_bind, Sem.run_pure, Result.andThen_ok, List.map_toArray, List.map_cons, List.map_nil, hs, hx, hr1]
  exact hK _ _ (h w1 h2 hg)
end
end Go.Proofs.Ytipjhokhflokmaa
