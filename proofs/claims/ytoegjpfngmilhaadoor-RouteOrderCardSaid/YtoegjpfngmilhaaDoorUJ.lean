/- What the listed tables and the world's shape give the rows. -/
import Derived.Test.YtoegjpfngmilhaaDoorRows
import Derived.Test.YtoegjpfngmilhaaDoorQ
import Derived.LaidMore
import Derived.Lay
import Derived.OpenShut
import Derived.Stop.Joined
import Derived.HandedShaped
import Derived.Handed
import Derived.Shelf.Vars
import Derived.Test.YtoegjpfngmilhaaDoorYG
import Derived.SizedLaws
set_option linter.unusedVariables false
namespace Go.Proofs.YtoegjpfngmilhaaDoor
open Go.ChangeShapes Go.WideShapes Go.ChangeAt Go.RowKit Go.Joins

theorem own : ownKnob Tryd.prog.godebug = none := by kernel_rfl
theorem laidOut : laidOutB Tryd.prog = true := by kernel_rfl
def laid3 : List (String × DataW Unit) := [("unicode/utf8.acceptRanges", Rows.laid_unicode_utf8_acceptRanges), ("unicode/utf8.first", Rows.laid_unicode_utf8_first)]
/-- a contract under listed tables that reads a variable of the library's own -/
theorem handed_shaped {H : Type} {enc : TypeId × Value → H} {a : Assume} {C : Checked} {os : Os} {f : FuncId} {fn : Func} {s : ChangeSpec} {conds : List PathCond} {apart fresh handsOn again : Bool} {X : World → Array Value → Prop}
    (own : ownKnob C.prog.godebug = none) (started : os.Started) (noInit : C.prog.inits.idxOf? f = none) (hfn : C.prog.funcs[f]? = some fn)
    (witness : ∃ (w : World) (tape : Tape) (i : Input), w.os = os ∧ (w.forCall tape i).Shaped C.prog ∧ i.vars = [] ∧ Input.okWide C.prog (w.forCall tape i) .any w.heap.size f i ∧
      ((s.pre enc C.prog fn conds apart (w.forCall tape i).memory i.args ∧ X (w.forCall tape i).memory i.args) ∧ sizedMet enc C.prog fn (OpenSpec.ofChange s) apart (w.forCall tape i).memory i.args) ∧ a.holds C.prog (lone (Frame.enter C.prog f i.args .normal) [] (w.forCall tape i)))
    (contract : ∀ (W : World) (base : Nat) (args : Array Value) (ds gs : List (DataW H)) (before : List MemPlace),
      (∀ (j : Nat) t v, fn.params[j]? = some t → args[j]? = some v → Value.okWide C.prog W .any base t v) →
      DataW.Whole enc C.prog fn.params.toList s.vars apart W args.toList ds gs before →
      W.ShapedOpen C.prog →
      (DataW.weightsEach C.prog (fn.params.toList ++ (OpenSpec.ofChange s).bare.plain.varTypes C.prog) (ds ++ gs)).all (· ≤ reachBytes) = true →
      Calls C.prog f args W fun e W' => ∃ v, e = .returned v ∧ s.post enc C.prog fn apart fresh handsOn again W args v W') :
    ReturnsInHanded a C os f .any (fun w args => (s.pre enc C.prog fn conds apart w args ∧ X w args) ∧ sizedMet enc C.prog fn (OpenSpec.ofChange s) apart w args) (s.post enc C.prog fn apart fresh handsOn again) := by
  refine returnsInHanded_of_calls own started noInit witness ?_
  intro w tape i _ hsh _ hok hpre _
  obtain ⟨_, _, _, fn', hfn', _, _, _, _, hval⟩ := hok
  have e : fn' = fn := Option.some.inj (hfn'.symm.trans hfn)
  subst e
  obtain ⟨⟨⟨ds, gs, before, hw, hc⟩, hx⟩, hz⟩ := hpre
  have hw' := DataW.Whole.of_heap (w' := w.forCall tape i) (by rfl) hw
  refine (contract (w.forCall tape i) w.heap.size i.args ds gs before hval hw' hsh (hz.weights hw)).mono fun e W' ⟨v, he, hp⟩ => ?_
  subst he
  exact ChangeSpec.post_blind hp

open Go.Proofs.YtoegjpfngmilhaaDoorW.PrintWords
section
variable {H : Type} {enc : TypeId × Value → H} {P : Program} {w : World} {base : Nat} {spare : Nat → Bool} {held : Bool}
/-- a slice of structs that comes in; each element's own datum -/
theorem open_rdW {α : Type} {en : α → List Value} {m : Nat} {p : α → DataW H → Prop} {t e : TypeId} {fuel : Nat} {v : Value} {y : DataW H × List MemPlace} (ht : P.underlying t = some (.slice e)) (hc : P.cellsOf e = m) (hm0 : 0 < m) (hw : ∀ a, (en a).length = m)
    (hel : ∀ fuel cs x, DataW.trod enc P w base spare held fuel e cs = some x → ∃ a, p a x.1 ∧ cs = en a)
    (h : DataW.trod enc P w base spare held fuel t [v] = some y) :
    ∃ (A : Option Addr) (n c : Nat) (xs : List α), v = .slice A n c ∧ RdE en m w (.slice A n c) xs ∧ ∀ x ∈ xs, ∃ d el sp, y.1 = .slice el sp ∧ d ∈ el ∧ p x d := by
  rcases _root_.Go.Deep.open_slice ht h with ⟨hcs, _⟩ | ⟨a, n, c, mm, k, D, Pl, hcs, hb, hl, hm, hmm, hy, hx⟩
  · injection hcs with hcs _
    exact ⟨_, _, _, [], hcs, RdE.nil _ _ _, by simp⟩
  · injection hcs with hcs _
    have hle : n ≤ mm := by rw [hmm]; split <;> omega
    have each : ∀ i, i < n → ∃ b, (∃ d el sp, y.1 = .slice el sp ∧ d ∈ el ∧ p b d) ∧ w.cells? base (a.add (i * m)) m = some (en b) := by
      intro i hi
      obtain ⟨cs', h1, h2⟩ := hx i (by omega)
      obtain ⟨b, hpb, rfl⟩ := hel _ _ _ h2
      rw [hc] at h1
      exact ⟨b, ⟨D i, _, _, by rw [hy], List.mem_map.2 ⟨i, List.mem_range.2 hi, rfl⟩, hpb⟩, h1⟩
    obtain ⟨xs, hxl, hxp, hxc⟩ := mapM_all (f := fun i b => w.cells? base (a.add (i * m)) m = some (en b)) id each
    subst hxl
    have hcell : ∀ i j x u, xs[i]? = some x → (en x)[j]? = some u → w.cell? (a.add (i * m + j)) = some u := by
      intro i j x u h1 h2
      have hj := (List.getElem?_eq_some_iff.1 h2).1
      rw [hw] at hj
      have := (World.cells?_some (hxc i x h1)).2.2 j hj
      rw [_root_.Go.Deep.add_add] at this
      rw [show a.add (i * m + j) = a.add (id i * m + j) from rfl, this, h2]
    refine ⟨_, _, _, xs, hcs, ⟨_, c, rfl, hl, Nat.le_trans hl (Nat.le_trans hm (by decide)), fun hp => ?_⟩, hxp⟩
    have h0 := hcell 0 0 _ _ (List.getElem?_eq_getElem hp) (List.getElem?_eq_getElem (by rw [hw]; exact hm0))
    obtain ⟨b, off, spot⟩ := a
    have hs : spot = none := by
      cases spot with
      | none => rfl
      | some k =>
        simp only [World.cell?, Addr.add] at h0
        split at h0 <;> simp at h0
    subst hs
    refine ⟨b, off, rfl, (by simpa [add_at] using World.block_lt_of_cell? w _ h0), fun i j x u hi hj => ?_⟩
    rw [← hcell i j x u hi hj]
    rw [add_at, Nat.add_assoc]
end
theorem weightsAll_mem {H : Type} {P : Program} {e : TypeId} : ∀ {l : List (DataW H)} {d : DataW H}, d ∈ l → ∀ n ∈ d.weights P e, n ∈ DataW.weightsAll P e l
  | d' :: r, d, hd, n, hn => by
    simp only [DataW.weightsAll, List.mem_append]
    rcases List.mem_cons.1 hd with rfl | h
    · exact Or.inl hn
    · exact Or.inr (weightsAll_mem h n hn)
end Go.Proofs.YtoegjpfngmilhaaDoor
