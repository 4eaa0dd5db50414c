/- own: flights in memory of the call's own. -/
import Derived.Test.YtipjhokhflokmaaF
set_option linter.unusedVariables false
set_option linter.unusedSimpArgs false
namespace Go.Proofs.Ytipjhokhflokmaa
open Go.RowKit
open Go.Proofs.YtipjhokhflokmaaW.PrintWords

/-- the first kk flights have waiters of their own -/
structure OwnK (w0 wr : World) (V : Value) (ys zs : List FV) (kk : Nat) : Prop where
  o : OwE fenc 8 45 wr w0.heap.size V zs
  f : fls zs = fls ys
  r : ∀ (i : Nat) (y : FV), i < kk → zs[i]? = some y → OwE tenc 2 47 wr w0.heap.size y.2.v y.1.ws
  ne : ∀ (i j : Nat) (y z : FV), i < kk → j < kk → i ≠ j → zs[i]? = some y → zs[j]? = some z → ∀ k, y.2.v.ownBlock = some k → z.2.v.ownBlock ≠ some k
  old : ∀ (i : Nat), kk ≤ i → zs[i]? = ys[i]?
theorem OwnK.below {w0 wr w1 : World} {V : Value} {ys zs : List FV} {kk : Nat} (h : OwnK w0 wr V ys zs kk) (hb : Below wr.heap.size wr w1) : OwnK w0 w1 V ys zs kk :=
  ⟨h.o.below hb, h.f, fun i y hi hy => (h.r i y hi hy).below hb, h.ne, h.old⟩
theorem OwnK.done {w0 wr : World} {V : Value} {ys zs : List FV} {kk : Nat} (h : OwnK w0 wr V ys zs kk) (hk : ys.length ≤ kk) : OwF wr w0.heap.size V zs := by
  have hl : zs.length = ys.length := by have := congrArg List.length h.f; simpa [fls] using this
  have hi : ∀ {i : Nat} {y : FV}, zs[i]? = some y → i < kk := fun hy => by have := (List.getElem?_eq_some_iff.1 hy).1; omega
  exact ⟨h.o, fun i y hy => h.r i y (hi hy) hy, fun i j y z hij hy hz => h.ne i j y z (hi hy) (hi hz) hij hy hz⟩
theorem OwnK.step {w0 wr w2 : World} {b off n c : Nat} {ys zs : List FV} {kk : Nat} (h : OwnK w0 wr (.slice (some ⟨b, off, none⟩) n c) ys zs kk) (hws : w0.heap.size ≤ wr.heap.size) {y : FV} (hy : ys[kk]? = some y) (hb : Below wr.heap.size wr w2) {S : Sl} (hO : OwE tenc 2 47 w2 wr.heap.size S.v y.1.ws) :
    OwnK w0 (w2.setCell ⟨b, off + kk * 8 + 7, none⟩ S.v) (.slice (some ⟨b, off, none⟩) n c) ys (zs.set kk (y.1, S)) (kk + 1) := by
  have hzy : zs[kk]? = some y := by rw [h.old kk (Nat.le_refl _)]; exact hy
  have hkl := (List.getElem?_eq_some_iff.1 hzy).1
  have h2 := h.below hb
  obtain ⟨cur, hcur⟩ := h2.o.typed b rfl
  have far : ∀ {v : Value} {es : List Tm} {base : Nat}, OwE tenc 2 47 w2 base v es → OwE tenc 2 47 (w2.setCell ⟨b, off + kk * 8 + 7, none⟩ S.v) base v es := fun hv => hv.far (fun k hk => by
    obtain ⟨cur', hcur'⟩ := hv.typed k hk
    exact blocks_ne (by decide) hcur' hcur) _
  refine ⟨h2.o.set hzy (by decide) rfl, ?_, fun i z hi hz => ?_, fun i j z z' hi hj hij hz hz' k hk => ?_, fun i hi => ?_⟩
  · show (zs.set kk (y.1, S)).map (·.1) = _
    rw [List.map_set, ← h.f]
    apply List.ext_getElem?
    intro i
    rw [List.getElem?_set]
    split
    · rename_i hik
      subst hik
      rw [if_pos (by simpa using hkl)]
      simp [hzy]
    · rfl
  · by_cases hik : i = kk
    · subst hik
      rw [List.getElem?_set_self hkl] at hz
      injection hz with hz
      subst hz
      exact far (hO.lower hws)
    · rw [List.getElem?_set_ne (Ne.symm hik)] at hz
      exact far (h2.r i z (by omega) hz)
  · by_cases hik : i = kk
    · subst hik
      rw [List.getElem?_set_self hkl] at hz
      injection hz with hz
      subst hz
      rw [List.getElem?_set_ne hij] at hz'
      intro hk2
      have a1 := hO.lo k hk
      have a2 := (h.r j z' (by omega) hz').lt k hk2
      omega
    · rw [List.getElem?_set_ne (Ne.symm hik)] at hz
      by_cases hjk : j = kk
      · subst hjk
        rw [List.getElem?_set_self hkl] at hz'
        injection hz' with hz'
        subst hz'
        intro hk2
        have a1 := hO.lo k hk2
        have a2 := (h.r i z (by omega) hz).lt k hk
        omega
      · rw [List.getElem?_set_ne (Ne.symm hjk)] at hz'
        exact h.ne i j z z' (by omega) (by omega) hij hz hz' k hk
  · rw [List.getElem?_set_ne (by omega)]
    exact h.old i (by omega)
def OwnPost (w : World) (room next : Int) (ys : List FV) (e : Ending) (w' : World) : Prop :=
  ∃ A n c zs, e = .returned (fv room next (.slice A n c)) ∧ fls zs = fls ys ∧ OwF w' w.heap.size (.slice A n c) zs ∧ Below w.heap.size w w'
end Go.Proofs.Ytipjhokhflokmaa
