/- The boxes of Set, Cancel, Tick: the state of their walks. -/
import Derived.Test.YtnlgmfkgpaampaaI
import Derived.Test.YtnlgmfkgpaampaaE
import Derived.Test.YtnlgmfkgpaampaaF
set_option linter.unusedVariables false
set_option linter.unusedSimpArgs false
namespace Go.Proofs.Ytnlgmfkgpaampaa
open Go.RowKit
open Go.Proofs.YtnlgmfkgpaampaaW.PrintWords

/-- the argument's box, the result's, the own wheel's -/
structure St (w W : World) (b3 : Nat) (nw : Int) (S0 : Nat → Value) (mw : Int) (A : Nat → Option Addr) (n c : Nat → Nat) (ts : Nat → List Tm) : Prop where
  x1 : BoxW W w.heap.size nw S0
  x2 : W.heap[w.heap.size + 1]? = some (.cells #[.int .i64 0, .slice none 0 0, .slice none 0 0, .slice none 0 0, .slice none 0 0, .slice none 0 0, .slice none 0 0, .slice none 0 0, .slice none 0 0] 25 (0, 0))
  x3 : BoxW W b3 mw (fun i => .slice (A i) (n i) (c i))
  o : WhO W w.heap.size A n c ts
  bw : Below w.heap.size w W
  l : w.heap.size + 2 ≤ b3
theorem St.below {w W W1 : World} {b3 : Nat} {nw mw : Int} {S0 : Nat → Value} {A : Nat → Option Addr} {n c : Nat → Nat} {ts : Nat → List Tm} (h : St w W b3 nw S0 mw A n c ts) (hb : Below W.heap.size W W1) : St w W1 b3 nw S0 mw A n c ts :=
  ⟨h.x1.below hb, keep hb h.x2, h.x3.below hb, h.o.below hb, h.bw.trans (hb.mono h.bw.size), h.l⟩
theorem BoxW.ne {W : World} {bx base : Nat} {nw : Int} {S : Nat → Value} {v : Value} {es : List Tm} (h : BoxW W bx nw S) (hv : OwE tenc 2 34 W base v es) : some bx ≠ v.ownBlock := by
  intro he
  obtain ⟨cur, hc, _⟩ := h
  obtain ⟨cur', hc'⟩ := hv.typed bx he.symm
  exact blocks_ne (show (25 : TypeId) ≠ 34 by decide) hc hc' rfl
/-- one slot of the own wheel appended to -/
theorem St.app {w W w5 : World} {b3 : Nat} {nw mw : Int} {S0 : Nat → Value} {A : Nat → Option Addr} {n c : Nat → Nat} {ts : Nat → List Tm} (h : St w W b3 nw S0 mw A n c ts) {k : Nat} (hk : k < 8) {o : Obj} {B : Option Addr} {m d : Nat} {us : List Tm}
    (hg : (W.alloc o).grownBy w5 (Value.slice (A k) (n k) (c k)).ownBlock) (hv : OwE tenc 2 34 w5 w.heap.size (.slice B m d) us)
    (hat : (Value.slice B m d).ownBlock = (Value.slice (A k) (n k) (c k)).ownBlock ∨ ∃ b, (Value.slice B m d).ownBlock = some b ∧ (W.alloc o).heap.size ≤ b) :
    St w (w5.setCell ⟨b3, 1 + k, none⟩ (.slice B m d)) b3 nw S0 mw (upd A k B) (upd n k m) (upd c k d) (upd ts k us) := by
  have hal : Below W.heap.size W (W.alloc o) := (Below.refl _ _).alloc (Nat.le_refl _) _
  have ha := h.below hal
  have hok := ha.o.o k hk
  have y1 := ha.x1.grown hg (ha.x1.ne hok)
  have y3 := ha.x3.grown hg (ha.x3.ne hok)
  have y2 : w5.heap[w.heap.size + 1]? = some (.cells #[.int .i64 0, .slice none 0 0, .slice none 0 0, .slice none 0 0, .slice none 0 0, .slice none 0 0, .slice none 0 0, .slice none 0 0, .slice none 0 0] 25 (0, 0)) := by
    rw [hg.block _ (Array.getElem?_eq_some_iff.1 ha.x2).1 (fun he => by
      obtain ⟨cur', hc'⟩ := hok.typed _ he.symm
      exact blocks_ne (show (25 : TypeId) ≠ 34 by decide) ha.x2 hc' rfl)]
    exact ha.x2
  have yw : Below w.heap.size w w5 := ha.bw.grown hg ha.bw.size (fun j hj => hok.lo j hj)
  have hl := h.l
  have far : ∀ {v : Value} {es : List Tm} {base : Nat}, OwE tenc 2 34 w5 base v es → OwE tenc 2 34 (w5.setCell ⟨b3, 1 + k, none⟩ (.slice B m d)) base v es := fun hv => hv.far (fun j hj => by
    rintro rfl
    exact y3.ne hv hj.symm) _
  refine ⟨y1.far (by simp; omega) _, ?_, ?_, ⟨fun i hi => ?_, fun i j hi hj hij q hq => ?_⟩, yw.setCell (by simp; omega) _, hl⟩
  · rw [Below.heap_setCell _ _ _ _ (by simp; omega)]
    exact y2
  · have := y3.set hk (.slice B m d)
    have he : (fun j => if j = k then Value.slice B m d else Value.slice (A j) (n j) (c j)) = fun i => Value.slice (upd A k B i) (upd n k m i) (upd c k d i) := by
      funext j
      by_cases hj : j = k
      · subst hj; simp [upd_at]
      · rw [if_neg hj, upd_ne _ _ hj, upd_ne _ _ hj, upd_ne _ _ hj]
    rw [he] at this
    exact this
  · by_cases hik : i = k
    · subst hik
      rw [upd_at, upd_at, upd_at, upd_at]
      exact far hv
    · rw [upd_ne _ _ hik, upd_ne _ _ hik, upd_ne _ _ hik, upd_ne _ _ hik]
      exact far ((ha.o.o i hi).grown hg fun q hq he => ha.o.ne i k hi hk hik q hq he.symm)
  · by_cases hik : i = k
    · subst hik
      have hji : j ≠ i := Ne.symm hij
      rw [upd_at, upd_at, upd_at] at hq
      rw [upd_ne _ _ hji, upd_ne _ _ hji, upd_ne _ _ hji]
      rcases hat with hat | ⟨b, hb, hbs⟩
      · rw [hat] at hq
        exact ha.o.ne i j hi hj hij q hq
      · rw [hb] at hq
        injection hq with hq
        subst hq
        intro he
        have := (ha.o.o j hj).lt _ he
        omega
    · rw [upd_ne _ _ hik, upd_ne _ _ hik, upd_ne _ _ hik] at hq
      by_cases hjk : j = k
      · subst hjk
        rw [upd_at, upd_at, upd_at]
        rcases hat with hat | ⟨b, hb, hbs⟩
        · rw [hat]
          exact ha.o.ne i j hi hj hij q hq
        · rw [hb]
          intro he
          injection he with he
          subst he
          have := (ha.o.o i hi).lt _ hq
          omega
      · rw [upd_ne _ _ hjk, upd_ne _ _ hjk, upd_ne _ _ hjk]
        exact ha.o.ne i j hi hj hij q hq
/-- the result's box stored into -/
theorem St.fin {w W : World} {b3 : Nat} {nw mw : Int} {S0 : Nat → Value} {A : Nat → Option Addr} {n c : Nat → Nat} {ts : Nat → List Tm} (h : St w W b3 nw S0 mw A n c ts) :
    WhO (((((((((W.setCell ⟨w.heap.size + 1, 0, none⟩ (.int .i64 mw)).setCell ⟨w.heap.size + 1, 1, none⟩ (.slice (A 0) (n 0) (c 0))).setCell ⟨w.heap.size + 1, 2, none⟩ (.slice (A 1) (n 1) (c 1))).setCell ⟨w.heap.size + 1, 3, none⟩ (.slice (A 2) (n 2) (c 2))).setCell ⟨w.heap.size + 1, 4, none⟩ (.slice (A 3) (n 3) (c 3))).setCell ⟨w.heap.size + 1, 5, none⟩ (.slice (A 4) (n 4) (c 4))).setCell ⟨w.heap.size + 1, 6, none⟩ (.slice (A 5) (n 5) (c 5))).setCell ⟨w.heap.size + 1, 7, none⟩ (.slice (A 6) (n 6) (c 6))).setCell ⟨w.heap.size + 1, 8, none⟩ (.slice (A 7) (n 7) (c 7))) w.heap.size A n c ts ∧ Below w.heap.size w (((((((((W.setCell ⟨w.heap.size + 1, 0, none⟩ (.int .i64 mw)).setCell ⟨w.heap.size + 1, 1, none⟩ (.slice (A 0) (n 0) (c 0))).setCell ⟨w.heap.size + 1, 2, none⟩ (.slice (A 1) (n 1) (c 1))).setCell ⟨w.heap.size + 1, 3, none⟩ (.slice (A 2) (n 2) (c 2))).setCell ⟨w.heap.size + 1, 4, none⟩ (.slice (A 3) (n 3) (c 3))).setCell ⟨w.heap.size + 1, 5, none⟩ (.slice (A 4) (n 4) (c 4))).setCell ⟨w.heap.size + 1, 6, none⟩ (.slice (A 5) (n 5) (c 5))).setCell ⟨w.heap.size + 1, 7, none⟩ (.slice (A 6) (n 6) (c 6))).setCell ⟨w.heap.size + 1, 8, none⟩ (.slice (A 7) (n 7) (c 7))) := by
  have nb : ∀ i, i < 8 → ∀ k, (Value.slice (A i) (n i) (c i)).ownBlock = some k → k ≠ w.heap.size + 1 := by
    intro i hi k hk
    obtain ⟨cur, hcur⟩ := (h.o.o i hi).typed k hk
    exact blocks_ne (by decide) hcur h.x2
  refine ⟨⟨fun i hi => ?_, h.o.ne⟩, ?_⟩
  · exact (((((((((h.o.o i hi).far (nb i hi) _).far (nb i hi) _).far (nb i hi) _).far (nb i hi) _).far (nb i hi) _).far (nb i hi) _).far (nb i hi) _).far (nb i hi) _).far (nb i hi) _
  · exact ((((((((h.bw.setCell (by simp) _).setCell (by simp) _).setCell (by simp) _).setCell (by simp) _).setCell (by simp) _).setCell (by simp) _).setCell (by simp) _).setCell (by simp) _).setCell (by simp) _

noncomputable def setE (nw : Int) (ts : Nat → List Tm) (id a : Int) : Nat := by
  classical exact if ¬ (RightW nw ts ∧ 0 ≤ id ∧ nw < a ∧ a ≤ 9007199254740992) then 1 else if ∃ t ∈ allT ts 8, t.id = id then 6 else if 64 ≤ (allT ts 8).length then 4 else 0
noncomputable def setT (nw : Int) (ts : Nat → List Tm) (id a : Int) : Nat → List Tm := by
  classical exact if setE nw ts id a = 0 then upd ts (a.toNat % 8) (ts (a.toNat % 8) ++ [⟨id, a⟩]) else ts
theorem setE_arg {nw : Int} {ts : Nat → List Tm} {id a : Int} (h : ¬ (RightW nw ts ∧ 0 ≤ id ∧ nw < a ∧ a ≤ 9007199254740992)) : setE nw ts id a = 1 ∧ setT nw ts id a = ts := by
  have h1 : setE nw ts id a = 1 := by unfold setE; rw [if_pos h]
  exact ⟨h1, by unfold setT; rw [if_neg (by omega)]⟩
theorem setE_busy {nw : Int} {ts : Nat → List Tm} {id a : Int} (h : RightW nw ts ∧ 0 ≤ id ∧ nw < a ∧ a ≤ 9007199254740992) (h2 : ∃ t ∈ allT ts 8, t.id = id) : setE nw ts id a = 6 ∧ setT nw ts id a = ts := by
  have h1 : setE nw ts id a = 6 := by unfold setE; rw [if_neg (by simpa using h), if_pos h2]
  exact ⟨h1, by unfold setT; rw [if_neg (by omega)]⟩
theorem setE_full {nw : Int} {ts : Nat → List Tm} {id a : Int} (h : RightW nw ts ∧ 0 ≤ id ∧ nw < a ∧ a ≤ 9007199254740992) (h2 : ¬ ∃ t ∈ allT ts 8, t.id = id) (h3 : 64 ≤ (allT ts 8).length) : setE nw ts id a = 4 ∧ setT nw ts id a = ts := by
  have h1 : setE nw ts id a = 4 := by unfold setE; rw [if_neg (by simpa using h), if_neg h2, if_pos h3]
  exact ⟨h1, by unfold setT; rw [if_neg (by omega)]⟩
theorem setE_ok {nw : Int} {ts : Nat → List Tm} {id a : Int} (h : RightW nw ts ∧ 0 ≤ id ∧ nw < a ∧ a ≤ 9007199254740992) (h2 : ¬ ∃ t ∈ allT ts 8, t.id = id) (h3 : ¬ 64 ≤ (allT ts 8).length) : setE nw ts id a = 0 ∧ setT nw ts id a = upd ts (a.toNat % 8) (ts (a.toNat % 8) ++ [⟨id, a⟩]) := by
  have h1 : setE nw ts id a = 0 := by unfold setE; rw [if_neg (by simpa using h), if_neg h2, if_neg h3]
  exact ⟨h1, by unfold setT; rw [if_pos h1]⟩
/-- a wheel and an error are told -/
def WePost (w : World) (nw : Int) (ts : Nat → List Tm) (er : Nat) (e : Ending) (w' : World) : Prop :=
  ∃ A n c, e = .returned (.tuple #[.agg #[.int .i64 nw, .slice (A 0) (n 0) (c 0), .slice (A 1) (n 1) (c 1), .slice (A 2) (n 2) (c 2), .slice (A 3) (n 3) (c 3), .slice (A 4) (n 4) (c 4), .slice (A 5) (n 5) (c 5), .slice (A 6) (n 6) (c 6), .slice (A 7) (n 7) (c 7)], .int .i64 (er : Int)]) ∧ WhO w' w.heap.size A n c ts ∧ Below w.heap.size w w'
end Go.Proofs.Ytnlgmfkgpaampaa
