/- Opening a slice of structs as a slice of elements of m cells. For any program. -/
import Derived.Test.YtipjhokhflokmaaM
import Derived.Test.YtipjhokhflokmaaQ
import Derived.Deep.Slices
set_option linter.unusedVariables false
namespace Go.Proofs.Ytipjhokhflokmaa
open Go.ChangeShapes Go.WideShapes Go.ChangeAt Go.RowKit Go.Joins
open Go.Proofs.YtipjhokhflokmaaW.PrintWords

variable {H : Type} {enc : TypeId × Value → H} {P : Program} {w : World} {base : Nat} {spare : Nat → Bool} {held : Bool}

theorem mapM_all {α β : Type} {p : β → Prop} {f : α → β → Prop} {n : Nat} (g : Nat → α) (h : ∀ i, i < n → ∃ b, p b ∧ f (g i) b) : ∃ l : List β, l.length = n ∧ (∀ b ∈ l, p b) ∧ ∀ i b, l[i]? = some b → f (g i) b := by
  induction n with
  | zero => exact ⟨[], rfl, by simp, by simp⟩
  | succ n ih =>
    obtain ⟨l, hl, hp, hf⟩ := ih fun i hi => h i (by omega)
    obtain ⟨b, hb, hfb⟩ := h n (by omega)
    refine ⟨l ++ [b], by simp [hl], fun c hc => ?_, fun i c hc => ?_⟩
    · rcases List.mem_append.1 hc with hc | hc
      · exact hp c hc
      · simp at hc
        subst hc
        exact hb
    · rw [List.getElem?_append] at hc
      split at hc
      · exact hf i c hc
      · have : i - l.length = 0 := by
          have := (List.getElem?_eq_some_iff.1 hc).1
          simp at this
          omega
        rw [this] at hc
        simp at hc
        subst hc
        have : i = n := by omega
        subst this
        exact hfb

theorem open_rdE {α : Type} {en : α → List Value} {m : Nat} {p : α → Prop} {t e : TypeId} {fuel : Nat} {v : Value} {y : DataW H × List MemPlace} (ht : P.underlying t = some (.slice e)) (hc : P.cellsOf e = m) (hm0 : 0 < m) (hw : ∀ a, (en a).length = m)
    (hel : ∀ fuel cs x, DataW.trod enc P w base spare held fuel e cs = some x → ∃ a, p a ∧ cs = en a)
    (h : DataW.trod enc P w base spare held fuel t [v] = some y) :
    ∃ (A : Option Addr) (n c : Nat) (xs : List α), v = .slice A n c ∧ RdE en m w (.slice A n c) xs ∧ ∀ x ∈ xs, p x := by
  rcases _root_.Go.Deep.open_slice ht h with ⟨hcs, _⟩ | ⟨a, n, c, mm, k, D, Pl, hcs, hb, hl, hm, hmm, _, hx⟩
  · injection hcs with hcs _
    exact ⟨_, _, _, [], hcs, RdE.nil _ _ _, by simp⟩
  · injection hcs with hcs _
    have hle : n ≤ mm := by rw [hmm]; split <;> omega
    have each : ∀ i, i < n → ∃ b, p b ∧ w.cells? base (a.add (i * m)) m = some (en b) := by
      intro i hi
      obtain ⟨cs', h1, h2⟩ := hx i (by omega)
      obtain ⟨b, hpb, rfl⟩ := hel _ _ _ h2
      rw [hc] at h1
      exact ⟨b, hpb, h1⟩
    obtain ⟨xs, hxl, hxp, hxc⟩ := mapM_all (f := fun i b => w.cells? base (a.add (i * m)) m = some (en b)) id each
    subst hxl
    have hcell : ∀ i j x u, xs[i]? = some x → (en x)[j]? = some u → w.cell? (a.add (i * m + j)) = some u := by
      intro i j x u h1 h2
      have hj := (List.getElem?_eq_some_iff.1 h2).1
      rw [hw] at hj
      have := (World.cells?_some (hxc i x h1)).2.2 j hj
      rw [_root_.Go.Deep.add_add] at this
      rw [show a.add (i * m + j) = a.add (id i * m + j) from rfl, this, h2]
    refine ⟨_, _, _, xs, hcs, ⟨_, c, rfl, hl, Nat.le_trans hl (Nat.le_trans hm (by decide)), fun hp => ?_⟩, hxp⟩
    have h0 := hcell 0 0 _ _ (List.getElem?_eq_getElem hp) (List.getElem?_eq_getElem (by rw [hw]; exact hm0))
    obtain ⟨b, off, spot⟩ := a
    have hs : spot = none := by
      cases spot with
      | none => rfl
      | some k =>
        simp only [World.cell?, Addr.add] at h0
        split at h0 <;> simp at h0
    subst hs
    refine ⟨b, off, rfl, (by simpa [add_at] using World.block_lt_of_cell? w _ h0), fun i j x u hi hj => ?_⟩
    rw [← hcell i j x u hi hj]
    rw [add_at, Nat.add_assoc]
end Go.Proofs.Ytipjhokhflokmaa
