/- Words on sets (map[K]struct{}) that a call makes: LSet. -/
import Derived.Test.YtipjhokhflokmaaK
import Derived.Maps.OwnSet
set_option linter.unusedVariables false
namespace Go.Proofs.Ytipjhokhflokmaa
open Go.RowKit Go.Maps

/-- block b is a set, filled with the keys ls in this order (repeats and all). -/
def LSet (P : Program) (k : TypeId) (w : World) (b : Nat) (ls : List Lit) : Prop :=
  w.ownsMap P k (unitElem (H := Unit)) b ls.length (setOf (.agg []) ls) ∧ (∀ x ∈ ls, WideAt.IsKeyLit x)

theorem LSet.made (w : World) (P : Program) (k : TypeId) : LSet P k (w.alloc (.map #[] 0)) w.heap.size [] :=
  ⟨World.ownsMap_made w P k _, fun x hx => by cases hx⟩
theorem LSet.lt {P : Program} {k : TypeId} {w : World} {b : Nat} {ls : List Lit} (h : LSet P k w b ls) : b < w.heap.size := h.1.lt
theorem LSet.grown {P : Program} {k : TypeId} {w w' : World} {b : Nat} {ls : List Lit} {row : Option Nat} (h : LSet P k w b ls) (hg : w.grownBy w' row) (hne : some b ≠ row) : LSet P k w' b ls := ⟨h.1.kept hg hne, h.2⟩
theorem LSet.below {P : Program} {k : TypeId} {w w' : World} {b : Nat} {ls : List Lit} (h : LSet P k w b ls) (hb : Below w.heap.size w w') : LSet P k w' b ls :=
  h.grown (row := none) ⟨hb.os, hb.tape, hb.output, hb.size, fun i hi _ => hb.block i hi⟩ (by simp)
theorem LSet.alloc {P : Program} {k : TypeId} {w : World} {b : Nat} {ls : List Lit} (h : LSet P k w b ls) (o : Obj) : LSet P k (w.alloc o) b ls := ⟨h.1.alloc o, h.2⟩
theorem LSet.setCell {P : Program} {k : TypeId} {w : World} {b : Nat} {ls : List Lit} (h : LSet P k w b ls) {a : Addr} (ha : b ≠ a.block) (u : Value) : LSet P k (w.setCell a u) b ls := ⟨h.1.setCell ha u, h.2⟩

/-- how many different keys there are -/
def dcount (ls : List Lit) : Nat := (ls.foldl addKey []).length
def hasKey (ls : List Lit) (x : Lit) : Bool := ls.any (fun y => y.sameKey x)

section
variable {P : Program} {ops : Array Oper} {rest : List Oper} {o : Oper} {a : Act} {Q : Exit → Act → World → Prop} {W : World}
theorem wp_set_put (hg : o.guard = none) (m x v : Operand) (t : TypeId) (hop : o.op = Op.mapUpdate t m x v)
    (k e : TypeId) (K : Keyed P k) (ht : P.underlying t = some (.map k e)) (b : Nat) (ls : List Lit)
    (hm : a.eval m = .map (some b)) (hs : LSet P k W b ls) (hn : ls.length < 1000000) (key : Value) (kl : Lit) (hx : a.eval x = key) (hv : a.eval v = .agg #[]) (hkey : keyOf P k key = some kl)
    (hK : ∀ w', LSet P k w' b (ls ++ [kl]) → W.grownBy w' (some b) → wpList P ops Q rest (a.put o.dst undef) w') :
    wpList P ops Q (o :: rest) a W := by
  refine wpList_mapUpdate_own W hg m x v t hop k e K ht _ b ls.length _ hm hs.1 (by simp only [maxLen]; omega) key (.agg #[]) kl hx hv hkey (.agg []) [] unitElem_mk ?_
  intro w' h1 h2
  refine hK w' ⟨?_, fun y hy => ?_⟩ h2
  · rw [setOf_snoc, List.length_append]
    exact h1
  · rcases List.mem_append.1 hy with hy | hy
    · exact hs.2 y hy
    · rw [List.mem_singleton.1 hy]; exact K.key hkey

theorem wp_set_look (hg : o.guard = none) (m x : Operand) (t : TypeId) (hop : o.op = Op.lookup t m x true)
    (k e : TypeId) (K : Keyed P k) (ht : P.underlying t = some (.map k e)) (hz : (zeroValue e).run P W = .ok (.agg #[]) W) (b : Nat) (ls : List Lit)
    (hm : a.eval m = .map (some b)) (hs : LSet P k W b ls) (key : Value) (kl : Lit) (hx : a.eval x = key) (hkey : keyOf P k key = some kl)
    (hK : wpList P ops Q rest (a.put o.dst (.tuple #[.agg #[], .bool (hasKey ls kl)])) W) :
    wpList P ops Q (o :: rest) a W := by
  refine wpList_lookup_own_unit W hg m x t hop k e K ht hz b ls.length _ hm hs.1 key kl hx hkey ?_
  rw [has_setOf _ _ _ hs.2]
  exact hK

theorem wp_set_len (hg : o.guard = none) (m : Operand) (t : TypeId) (hop : o.op = Op.call { callee := Callee.builtin Builtin.len, args := #[m], argTypes := #[t] })
    (k e : TypeId) (ht : P.underlying t = some (.map k e)) (b : Nat) (ls : List Lit) (hm : a.eval m = .map (some b)) (hs : LSet P k W b ls)
    (hK : wpList P ops Q rest (a.put o.dst (.int .i64 (dcount ls))) W) :
    wpList P ops Q (o :: rest) a W := by
  refine wpList_len_own W hg m t hop k e ht _ b ls.length _ hm hs.1 ?_
  rw [size_setOf _ _ hs.2]
  exact hK
end

/-! plain: how many different ones -/
theorem addKey_len (L : List Lit) (x : Lit) : (addKey L x).length = L.length + if L.any (fun y => y.sameKey x) then 0 else 1 := by unfold addKey; split <;> simp
theorem mem_addKey {L : List Lit} {x y : Lit} (hx : WideAt.IsKeyLit x) : y ∈ addKey L x ↔ y ∈ L ∨ y = x := by
  unfold addKey
  split
  · rename_i h
    obtain ⟨z, hz, hzx⟩ := List.any_eq_true.1 h
    have := WideAt.sameKey_eq hzx
    subst this
    constructor
    · exact .inl
    · rintro (h | rfl)
      · exact h
      · exact hz
  · simp
theorem fold_addKey (ls : List Lit) : ∀ L : List Lit, (∀ x ∈ ls, WideAt.IsKeyLit x) → L.Nodup →
    (ls.foldl addKey L).Nodup ∧ (∀ y, y ∈ ls.foldl addKey L ↔ y ∈ L ∨ y ∈ ls) ∧ (ls.foldl addKey L).length ≤ L.length + ls.length ∧ ((ls.foldl addKey L).length = L.length + ls.length ↔ ls.Nodup ∧ ∀ x ∈ ls, x ∉ L) := by
  induction ls with
  | nil => intro L _ hL; simp [hL]
  | cons x r ih =>
    intro L hk hL
    have hx := hk x (by simp)
    have hany : L.any (fun y => y.sameKey x) = true ↔ x ∈ L := by
      rw [List.any_eq_true]
      constructor
      · rintro ⟨z, hz, hzx⟩; rw [← WideAt.sameKey_eq hzx]; exact hz
      · exact fun h => ⟨x, h, WideAt.sameKey_self hx⟩
    have hnd : (addKey L x).Nodup := by
      unfold addKey
      split
      · exact hL
      · rename_i h
        rw [List.nodup_append]
        refine ⟨hL, by simp, fun a ha b hb => ?_⟩
        rw [List.mem_singleton.1 hb]
        rintro rfl
        exact h (hany.2 ha)
    obtain ⟨h1, h2, h3, h4⟩ := ih (addKey L x) (fun y hy => hk y (by simp [hy])) hnd
    have hl := addKey_len L x
    refine ⟨h1, fun y => ?_, ?_, ?_⟩
    · rw [List.foldl_cons, h2, mem_addKey hx, List.mem_cons]
      constructor
      · rintro ((h | h) | h)
        · exact .inl h
        · exact .inr (.inl h)
        · exact .inr (.inr h)
      · rintro (h | h | h)
        · exact .inl (.inl h)
        · exact .inl (.inr h)
        · exact .inr h
    · rw [List.foldl_cons, List.length_cons]
      split at hl <;> omega
    · rw [List.foldl_cons, List.length_cons]
      by_cases hin : x ∈ L
      · rw [if_pos (hany.2 hin)] at hl
        constructor
        · intro h; omega
        · rintro ⟨_, h⟩; exact absurd hin (h x (by simp))
      · rw [if_neg (fun h => hin (hany.1 h))] at hl
        rw [show L.length + (r.length + 1) = (addKey L x).length + r.length by omega, h4, List.nodup_cons]
        constructor
        · rintro ⟨ha, hb⟩
          refine ⟨⟨fun hxr => (hb x hxr) ((mem_addKey hx).2 (.inr rfl)), ha⟩, fun y hy hyL => ?_⟩
          rcases List.mem_cons.1 hy with rfl | hy
          · exact hin hyL
          · exact hb y hy ((mem_addKey hx).2 (.inl hyL))
        · rintro ⟨⟨ha, hb⟩, hc⟩
          refine ⟨hb, fun y hy hyL => ?_⟩
          rcases (mem_addKey hx).1 hyL with h | rfl
          · exact hc y (by simp [hy]) h
          · exact ha hy
theorem dcount_eq {ls : List Lit} (hk : ∀ x ∈ ls, WideAt.IsKeyLit x) : dcount ls = ls.length ↔ ls.Nodup := by
  have h := fold_addKey ls [] hk List.nodup_nil
  simpa [dcount] using h.2.2.2
theorem dcount_le {ls : List Lit} (hk : ∀ x ∈ ls, WideAt.IsKeyLit x) : dcount ls ≤ ls.length := by
  have h := fold_addKey ls [] hk List.nodup_nil
  simpa [dcount] using h.2.2.1
def iLits (xs : List Int) : List Lit := xs.map (Lit.int .i64)
theorem iLits_key (xs : List Int) : ∀ x ∈ iLits xs, WideAt.IsKeyLit x := fun x hx => by
  obtain ⟨y, _, rfl⟩ := List.mem_map.1 hx
  trivial
theorem iLits_nodup (xs : List Int) : (iLits xs).Nodup ↔ xs.Nodup := by
  unfold iLits
  induction xs with
  | nil => simp
  | cons x r ih => simp [List.nodup_cons, ih]
theorem iLits_has (xs : List Int) (x : Int) : hasKey (iLits xs) (.int .i64 x) = xs.contains x := by
  unfold hasKey iLits
  rw [List.any_map, List.contains_eq_any_beq]
  congr 1
  funext y
  show decide (IntKind.i64 = IntKind.i64 ∧ y = x) = (x == y)
  by_cases h : y = x
  · subst h; simp
  · have h' : ¬ x = y := fun e => h e.symm
    simp [h, h']
theorem iLits_app (xs ys : List Int) : iLits (xs ++ ys) = iLits xs ++ iLits ys := by simp [iLits]
theorem iLits_len (xs : List Int) : (iLits xs).length = xs.length := by simp [iLits]
end Go.Proofs.Ytipjhokhflokmaa
