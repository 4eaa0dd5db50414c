/- Contract of lockagelaw02.IdsOnce. -/
import Derived.Test.YteaifndkmknanaaAL
import Derived.Test.YteaifndkmknanaaAH
set_option linter.unusedVariables false
set_option linter.unusedSimpArgs false
namespace Go.Proofs.Yteaifndkmknanaa
open Go.RowKit
open Go.Proofs.YteaifndkmknanaaW.PrintWords

/-- a row that is not this one's (of the empty row nothing is asked) -/
def NeR (xs : List Value) (u v : Value) : Prop := xs ≠ [] → ∀ k, v.ownBlock = some k → u.ownBlock ≠ some k
theorem Rd.grown' {w w1 : World} {u v : Value} {xs : List Value} (h : Rd w u xs) (hg : w.grownBy w1 v.ownBlock) (hne : NeR xs u v) : Rd w1 u xs := by
  by_cases hx : xs = []
  · subst hx
    obtain ⟨A, c, rfl, _⟩ := h
    exact Rd.nil _ _ _
  · exact h.grown hg fun k hk he => hne hx k he.symm hk
theorem Rd.olt {w : World} {u : Value} {xs : List Value} (h : Rd w u xs) (hx : xs ≠ []) : ∀ k, u.ownBlock = some k → k < w.heap.size := by
  intro k hk
  obtain ⟨A, c, rfl, _, _, hr⟩ := h
  obtain ⟨b, o, rfl, hb, _⟩ := hr (List.length_pos_iff.2 hx)
  simp [Value.ownBlock] at hk
  omega
theorem NeR.app {w : World} {u v v1 : Value} {xs : List Value} (hu : Rd w u xs) (h : NeR xs u v) (hat : v1.ownBlock = v.ownBlock ∨ ∃ b, v1.ownBlock = some b ∧ w.heap.size ≤ b) : NeR xs u v1 := by
  intro hx k hk hk2
  rcases hat with he | ⟨b, he, hb⟩
  · exact h hx k (he ▸ hk) hk2
  · rw [hk] at he
    injection he with he
    have := hu.olt hx k hk2
    omega
theorem NeR.low {B : Nat} {u v : Value} {xs : List Value} (hu : ∀ k, u.ownBlock = some k → B ≤ k) (hv : ∀ k, v.ownBlock = some k → k < B) : NeR xs u v := by
  intro _ k hk hk2
  have := hu k hk2
  have := hv k hk
  omega
theorem NeR.high {w : World} {u v : Value} {xs : List Value} (hu : Rd w u xs) (hv : ∀ k, v.ownBlock = some k → w.heap.size ≤ k) : NeR xs u v := by
  intro hx k hk hk2
  have := hu.olt hx k hk2
  have := hv k hk
  omega
def Ne3 (t : Tab) (vg vb vf v : Value) : Prop := NeR (ints t.gens) vg v ∧ NeR (bls t.busy) vb v ∧ NeR (ints t.free) vf v
def NeV (v u : Value) : Prop := ∀ k, v.ownBlock = some k → u.ownBlock ≠ some k
theorem NeV.symm {v u : Value} (h : NeV v u) : NeV u v := fun k hk hk2 => h k hk2 hk
theorem NeV.app {w : World} {u v v1 : Value} (hu : ∀ k, u.ownBlock = some k → k < w.heap.size) (h : NeV u v) (hat : v1.ownBlock = v.ownBlock ∨ ∃ b, v1.ownBlock = some b ∧ w.heap.size ≤ b) : NeV u v1 := by
  intro k hk hk2
  rcases hat with he | ⟨b, he, hb⟩
  · exact h k hk (he ▸ hk2)
  · rw [hk2] at he
    injection he with he
    have := hu k hk
    omega

/-- the loop's memory -/
structure Mem (w wr : World) (bt : Nat) (vg vb vf va vi : Value) (t : Tab) (all inn : List Int) : Prop where
  B : Below w.heap.size w wr
  lo : w.heap.size ≤ bt
  X : wr.heap[bt]? = some (.cells #[vg, vb, vf] 25 (0, 0))
  R : TabR wr vg vb vf t
  a : Ow 3 wr w.heap.size va (ints all)
  i : Ow 3 wr w.heap.size vi (ints inn)
  ai : NeV va vi
  ta : Ne3 t vg vb vf va
  ti : Ne3 t vg vb vf vi
theorem Mem.below {w wr W : World} {bt : Nat} {vg vb vf va vi : Value} {t : Tab} {all inn : List Int} (h : Mem w wr bt vg vb vf va vi t all inn) (hb : Below wr.heap.size wr W) : Mem w W bt vg vb vf va vi t all inn :=
  ⟨h.B.trans (hb.mono h.B.size), h.lo, keep hb h.X, h.R.below hb, h.a.below hb, h.i.below hb, h.ai, h.ta, h.ti⟩
theorem Mem.blt {w wr : World} {bt : Nat} {vg vb vf va vi : Value} {t : Tab} {all inn : List Int} (h : Mem w wr bt vg vb vf va vi t all inn) : bt < wr.heap.size := (Array.getElem?_eq_some_iff.1 h.X).1
/-- t = u, of a call's answer -/
theorem Mem.box {w wr w2 : World} {bt : Nat} {vg vb vf va vi vg' vb' vf' : Value} {t u : Tab} {all inn : List Int} (h : Mem w wr bt vg vb vf va vi t all inn) (hb : Below wr.heap.size wr w2) (hR : TabR w2 vg' vb' vf' u) (hf : FreshT wr.heap.size vg' vb' vf') :
    Mem w (((w2.setCell ⟨bt, 0, none⟩ vg').setCell ⟨bt, 1, none⟩ vb').setCell ⟨bt, 2, none⟩ vf') bt vg' vb' vf' va vi u all inn := by
  have h2 := h.below hb
  have hlt := h.blt
  have na := ne25 (by decide) h2.X h2.a
  have ni := ne25 (by decide) h2.X h2.i
  exact ⟨((h2.B.setCell h.lo _).setCell h.lo _).setCell h.lo _, h.lo, box_set3 h2.X, ((hR.far hf hlt _).far hf hlt _).far hf hlt _, ((h2.a.far na _).far na _).far na _, ((h2.i.far ni _).far ni _).far ni _, h.ai,
    ⟨NeR.low hf.1 h.a.lt, NeR.low hf.2.1 h.a.lt, NeR.low hf.2.2 h.a.lt⟩, ⟨NeR.low hf.1 h.i.lt, NeR.low hf.2.1 h.i.lt, NeR.low hf.2.2 h.i.lt⟩⟩
/-- all = append(all, ..) -/
theorem Mem.appA {w W w4 : World} {bt : Nat} {vg vb vf va vi v1 : Value} {t : Tab} {all all' inn : List Int} {o : Obj} (h : Mem w W bt vg vb vf va vi t all inn) (hg : (W.alloc o).grownBy w4 va.ownBlock) (h1 : Ow 3 w4 w.heap.size v1 (ints all'))
    (hat : v1.ownBlock = va.ownBlock ∨ ∃ b, v1.ownBlock = some b ∧ (W.alloc o).heap.size ≤ b) : Mem w w4 bt vg vb vf v1 vi t all' inn := by
  have h2 := h.below ((Below.refl _ _).alloc (Nat.le_refl _) o)
  exact ⟨h2.B.grown hg h2.B.size (fun k hk => h.a.base k hk), h.lo, app_stays (by decide) h.X h.a hg, ⟨h2.R.g.grown' hg h.ta.1, h2.R.b.grown' hg h.ta.2.1, h2.R.f.grown' hg h.ta.2.2⟩, h1,
    h2.i.grown hg (fun k hk he => h.ai k he.symm hk), (NeV.app h2.i.lt h.ai.symm hat).symm, ⟨h.ta.1.app h2.R.g hat, h.ta.2.1.app h2.R.b hat, h.ta.2.2.app h2.R.f hat⟩, h.ti⟩
/-- in = append(in, ..) -/
theorem Mem.appI {w W w4 : World} {bt : Nat} {vg vb vf va vi v1 : Value} {t : Tab} {all inn inn' : List Int} {o : Obj} (h : Mem w W bt vg vb vf va vi t all inn) (hg : (W.alloc o).grownBy w4 vi.ownBlock) (h1 : Ow 3 w4 w.heap.size v1 (ints inn'))
    (hat : v1.ownBlock = vi.ownBlock ∨ ∃ b, v1.ownBlock = some b ∧ (W.alloc o).heap.size ≤ b) : Mem w w4 bt vg vb vf va v1 t all inn' := by
  have h2 := h.below ((Below.refl _ _).alloc (Nat.le_refl _) o)
  exact ⟨h2.B.grown hg h2.B.size (fun k hk => h.i.base k hk), h.lo, app_stays (by decide) h.X h.i hg, ⟨h2.R.g.grown' hg h.ti.1, h2.R.b.grown' hg h.ti.2.1, h2.R.f.grown' hg h.ti.2.2⟩,
    h2.a.grown hg (fun k hk he => h.ai k hk he.symm), h1, NeV.app h2.a.lt h.ai hat, h.ta, ⟨h.ti.1.app h2.R.g hat, h.ti.2.1.app h2.R.b hat, h.ti.2.2.app h2.R.f hat⟩⟩
/-- in = a list of its own, new -/
theorem Mem.newI {w W w4 : World} {bt : Nat} {vg vb vf va vi v1 : Value} {t : Tab} {all inn inn' : List Int} (h : Mem w W bt vg vb vf va vi t all inn) (hb : Below W.heap.size W w4) (h1 : Ow 3 w4 W.heap.size v1 (ints inn')) : Mem w w4 bt vg vb vf va v1 t all inn' := by
  have h2 := h.below hb
  exact ⟨h2.B, h2.lo, h2.X, h2.R, h2.a, h1.lower h.B.size, fun k hk hk2 => by have := h1.base k hk2; have := h.a.lt k hk; omega, h2.ta, ⟨NeR.high h.R.g h1.base, NeR.high h.R.b h1.base, NeR.high h.R.f h1.base⟩⟩

/-- the loop's state -/
def Once (w wr : World) (bt : Nat) (vg vb vf va vi : Value) (N kk : Nat) (t : Tab) (all inn : List Int) : Prop :=
  Mem w wr bt vg vb vf va vi t all inn ∧ Inv N kk t all inn ∧ all.length ≤ kk

end Go.Proofs.Yteaifndkmknanaa
