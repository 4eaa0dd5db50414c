/- The state of Cancel's and Tick's walks; what Cancel does. -/
import Derived.Test.YtnlgmfkgpaampaaO
set_option linter.unusedVariables false
set_option linter.unusedSimpArgs false
namespace Go.Proofs.Ytnlgmfkgpaampaa
open Go.RowKit
open Go.Proofs.YtnlgmfkgpaampaaW.PrintWords

/-- the own wheel in the argument's box; the result's box -/
structure St2 (w W : World) (mw : Int) (A : Nat → Option Addr) (n c : Nat → Nat) (ts : Nat → List Tm) : Prop where
  x2 : W.heap[w.heap.size + 1]? = some (.cells #[.int .i64 0, .slice none 0 0, .slice none 0 0, .slice none 0 0, .slice none 0 0, .slice none 0 0, .slice none 0 0, .slice none 0 0, .slice none 0 0] 25 (0, 0))
  x3 : BoxW W w.heap.size mw (fun i => .slice (A i) (n i) (c i))
  o : WhO W w.heap.size A n c ts
  bw : Below w.heap.size w W
theorem St2.below {w W W1 : World} {mw : Int} {A : Nat → Option Addr} {n c : Nat → Nat} {ts : Nat → List Tm} (h : St2 w W mw A n c ts) (hb : Below W.heap.size W W1) : St2 w W1 mw A n c ts :=
  ⟨keep hb h.x2, h.x3.below hb, h.o.below hb, h.bw.trans (hb.mono h.bw.size)⟩
/-- one slot of the own wheel appended to -/
theorem St2.put {w W w5 : World} {mw : Int} {A : Nat → Option Addr} {n c : Nat → Nat} {ts : Nat → List Tm} (h : St2 w W mw A n c ts) {k : Nat} (hk : k < 8) {B : Option Addr} {m d : Nat} {us : List Tm}
    (hg : W.grownBy w5 (Value.slice (A k) (n k) (c k)).ownBlock) (hv : OwE tenc 2 34 w5 w.heap.size (.slice B m d) us)
    (hat : (Value.slice B m d).ownBlock = (Value.slice (A k) (n k) (c k)).ownBlock ∨ ∃ b, (Value.slice B m d).ownBlock = some b ∧ W.heap.size ≤ b) :
    St2 w (w5.setCell ⟨w.heap.size, 1 + k, none⟩ (.slice B m d)) mw (upd A k B) (upd n k m) (upd c k d) (upd ts k us) := by
  have ha := h
  have hok := ha.o.o k hk
  have y3 := ha.x3.grown hg (ha.x3.ne hok)
  have y2 : w5.heap[w.heap.size + 1]? = some (.cells #[.int .i64 0, .slice none 0 0, .slice none 0 0, .slice none 0 0, .slice none 0 0, .slice none 0 0, .slice none 0 0, .slice none 0 0, .slice none 0 0] 25 (0, 0)) := by
    rw [hg.block _ (Array.getElem?_eq_some_iff.1 ha.x2).1 (fun he => by
      obtain ⟨cur', hc'⟩ := hok.typed _ he.symm
      exact blocks_ne (show (25 : TypeId) ≠ 34 by decide) ha.x2 hc' rfl)]
    exact ha.x2
  have yw : Below w.heap.size w w5 := ha.bw.grown hg ha.bw.size (fun j hj => hok.lo j hj)
  have far : ∀ {v : Value} {es : List Tm} {base : Nat}, OwE tenc 2 34 w5 base v es → OwE tenc 2 34 (w5.setCell ⟨w.heap.size, 1 + k, none⟩ (.slice B m d)) base v es := fun hv => hv.far (fun j hj => by
    rintro rfl
    exact y3.ne hv hj.symm) _
  refine ⟨?_, ?_, ⟨fun i hi => ?_, fun i j hi hj hij q hq => ?_⟩, yw.setCell (by simp) _⟩
  · rw [Below.heap_setCell _ _ _ _ (by simp)]
    exact y2
  · have := y3.set hk (.slice B m d)
    have he : (fun j => if j = k then Value.slice B m d else Value.slice (A j) (n j) (c j)) = fun i => Value.slice (upd A k B i) (upd n k m i) (upd c k d i) := by
      funext j
      by_cases hj : j = k
      · subst hj; simp [upd_at]
      · rw [if_neg hj, upd_ne _ _ hj, upd_ne _ _ hj, upd_ne _ _ hj]
    rw [he] at this
    exact this
  · by_cases hik : i = k
    · subst hik
      rw [upd_at, upd_at, upd_at, upd_at]
      exact far hv
    · rw [upd_ne _ _ hik, upd_ne _ _ hik, upd_ne _ _ hik, upd_ne _ _ hik]
      exact far ((ha.o.o i hi).grown hg fun q hq he => ha.o.ne i k hi hk hik q hq he.symm)
  · by_cases hik : i = k
    · subst hik
      have hji : j ≠ i := Ne.symm hij
      rw [upd_at, upd_at, upd_at] at hq
      rw [upd_ne _ _ hji, upd_ne _ _ hji, upd_ne _ _ hji]
      rcases hat with hat | ⟨b, hb, hbs⟩
      · rw [hat] at hq
        exact ha.o.ne i j hi hj hij q hq
      · rw [hb] at hq
        injection hq with hq
        subst hq
        intro he
        have := (ha.o.o j hj).lt _ he
        omega
    · rw [upd_ne _ _ hik, upd_ne _ _ hik, upd_ne _ _ hik] at hq
      by_cases hjk : j = k
      · subst hjk
        rw [upd_at, upd_at, upd_at]
        rcases hat with hat | ⟨b, hb, hbs⟩
        · rw [hat]
          exact ha.o.ne i j hi hj hij q hq
        · rw [hb]
          intro he
          injection he with he
          subst he
          have := (ha.o.o i hi).lt _ hq
          omega
      · rw [upd_ne _ _ hjk, upd_ne _ _ hjk, upd_ne _ _ hjk]
        exact ha.o.ne i j hi hj hij q hq
/-- the result's box stored into -/
theorem St2.fin {w W : World} {mw : Int} {A : Nat → Option Addr} {n c : Nat → Nat} {ts : Nat → List Tm} (h : St2 w W mw A n c ts) :
    WhO (((((((((W.setCell ⟨w.heap.size + 1, 0, none⟩ (.int .i64 mw)).setCell ⟨w.heap.size + 1, 1, none⟩ (.slice (A 0) (n 0) (c 0))).setCell ⟨w.heap.size + 1, 2, none⟩ (.slice (A 1) (n 1) (c 1))).setCell ⟨w.heap.size + 1, 3, none⟩ (.slice (A 2) (n 2) (c 2))).setCell ⟨w.heap.size + 1, 4, none⟩ (.slice (A 3) (n 3) (c 3))).setCell ⟨w.heap.size + 1, 5, none⟩ (.slice (A 4) (n 4) (c 4))).setCell ⟨w.heap.size + 1, 6, none⟩ (.slice (A 5) (n 5) (c 5))).setCell ⟨w.heap.size + 1, 7, none⟩ (.slice (A 6) (n 6) (c 6))).setCell ⟨w.heap.size + 1, 8, none⟩ (.slice (A 7) (n 7) (c 7))) w.heap.size A n c ts ∧ Below w.heap.size w (((((((((W.setCell ⟨w.heap.size + 1, 0, none⟩ (.int .i64 mw)).setCell ⟨w.heap.size + 1, 1, none⟩ (.slice (A 0) (n 0) (c 0))).setCell ⟨w.heap.size + 1, 2, none⟩ (.slice (A 1) (n 1) (c 1))).setCell ⟨w.heap.size + 1, 3, none⟩ (.slice (A 2) (n 2) (c 2))).setCell ⟨w.heap.size + 1, 4, none⟩ (.slice (A 3) (n 3) (c 3))).setCell ⟨w.heap.size + 1, 5, none⟩ (.slice (A 4) (n 4) (c 4))).setCell ⟨w.heap.size + 1, 6, none⟩ (.slice (A 5) (n 5) (c 5))).setCell ⟨w.heap.size + 1, 7, none⟩ (.slice (A 6) (n 6) (c 6))).setCell ⟨w.heap.size + 1, 8, none⟩ (.slice (A 7) (n 7) (c 7))) := by
  have nb : ∀ i, i < 8 → ∀ k, (Value.slice (A i) (n i) (c i)).ownBlock = some k → k ≠ w.heap.size + 1 := by
    intro i hi k hk
    obtain ⟨cur, hcur⟩ := (h.o.o i hi).typed k hk
    exact blocks_ne (by decide) hcur h.x2
  refine ⟨⟨fun i hi => ?_, h.o.ne⟩, ?_⟩
  · exact (((((((((h.o.o i hi).far (nb i hi) _).far (nb i hi) _).far (nb i hi) _).far (nb i hi) _).far (nb i hi) _).far (nb i hi) _).far (nb i hi) _).far (nb i hi) _).far (nb i hi) _
  · exact ((((((((h.bw.setCell (by simp) _).setCell (by simp) _).setCell (by simp) _).setCell (by simp) _).setCell (by simp) _).setCell (by simp) _).setCell (by simp) _).setCell (by simp) _).setCell (by simp) _


/-- St: a slot put anew -/
theorem St.put {w W w5 : World} {b3 : Nat} {nw mw : Int} {S0 : Nat → Value} {A : Nat → Option Addr} {n c : Nat → Nat} {ts : Nat → List Tm} (h : St w W b3 nw S0 mw A n c ts) {k : Nat} (hk : k < 8) {B : Option Addr} {m d : Nat} {us : List Tm}
    (hg : W.grownBy w5 (Value.slice (A k) (n k) (c k)).ownBlock) (hv : OwE tenc 2 34 w5 w.heap.size (.slice B m d) us)
    (hat : (Value.slice B m d).ownBlock = (Value.slice (A k) (n k) (c k)).ownBlock ∨ ∃ b, (Value.slice B m d).ownBlock = some b ∧ W.heap.size ≤ b) :
    St w (w5.setCell ⟨b3, 1 + k, none⟩ (.slice B m d)) b3 nw S0 mw (upd A k B) (upd n k m) (upd c k d) (upd ts k us) := by
  have ha := h
  have hok := ha.o.o k hk
  have y1 := ha.x1.grown hg (ha.x1.ne hok)
  have y3 := ha.x3.grown hg (ha.x3.ne hok)
  have y2 : w5.heap[w.heap.size + 1]? = some (.cells #[.int .i64 0, .slice none 0 0, .slice none 0 0, .slice none 0 0, .slice none 0 0, .slice none 0 0, .slice none 0 0, .slice none 0 0, .slice none 0 0] 25 (0, 0)) := by
    rw [hg.block _ (Array.getElem?_eq_some_iff.1 ha.x2).1 (fun he => by
      obtain ⟨cur', hc'⟩ := hok.typed _ he.symm
      exact blocks_ne (show (25 : TypeId) ≠ 34 by decide) ha.x2 hc' rfl)]
    exact ha.x2
  have yw : Below w.heap.size w w5 := ha.bw.grown hg ha.bw.size (fun j hj => hok.lo j hj)
  have hl := h.l
  have far : ∀ {v : Value} {es : List Tm} {base : Nat}, OwE tenc 2 34 w5 base v es → OwE tenc 2 34 (w5.setCell ⟨b3, 1 + k, none⟩ (.slice B m d)) base v es := fun hv => hv.far (fun j hj => by
    rintro rfl
    exact y3.ne hv hj.symm) _
  refine ⟨y1.far (by simp; omega) _, ?_, ?_, ⟨fun i hi => ?_, fun i j hi hj hij q hq => ?_⟩, yw.setCell (by simp; omega) _, hl⟩
  · rw [Below.heap_setCell _ _ _ _ (by simp; omega)]
    exact y2
  · have := y3.set hk (.slice B m d)
    have he : (fun j => if j = k then Value.slice B m d else Value.slice (A j) (n j) (c j)) = fun i => Value.slice (upd A k B i) (upd n k m i) (upd c k d i) := by
      funext j
      by_cases hj : j = k
      · subst hj; simp [upd_at]
      · rw [if_neg hj, upd_ne _ _ hj, upd_ne _ _ hj, upd_ne _ _ hj]
    rw [he] at this
    exact this
  · by_cases hik : i = k
    · subst hik
      rw [upd_at, upd_at, upd_at, upd_at]
      exact far hv
    · rw [upd_ne _ _ hik, upd_ne _ _ hik, upd_ne _ _ hik, upd_ne _ _ hik]
      exact far ((ha.o.o i hi).grown hg fun q hq he => ha.o.ne i k hi hk hik q hq he.symm)
  · by_cases hik : i = k
    · subst hik
      have hji : j ≠ i := Ne.symm hij
      rw [upd_at, upd_at, upd_at] at hq
      rw [upd_ne _ _ hji, upd_ne _ _ hji, upd_ne _ _ hji]
      rcases hat with hat | ⟨b, hb, hbs⟩
      · rw [hat] at hq
        exact ha.o.ne i j hi hj hij q hq
      · rw [hb] at hq
        injection hq with hq
        subst hq
        intro he
        have := (ha.o.o j hj).lt _ he
        omega
    · rw [upd_ne _ _ hik, upd_ne _ _ hik, upd_ne _ _ hik] at hq
      by_cases hjk : j = k
      · subst hjk
        rw [upd_at, upd_at, upd_at]
        rcases hat with hat | ⟨b, hb, hbs⟩
        · rw [hat]
          exact ha.o.ne i j hi hj hij q hq
        · rw [hb]
          intro he
          injection he with he
          subst he
          have := (ha.o.o i hi).lt _ hq
          omega
      · rw [upd_ne _ _ hjk, upd_ne _ _ hjk, upd_ne _ _ hjk]
        exact ha.o.ne i j hi hj hij q hq
theorem FindIs.uniq {ts : Nat → List Tm} {id r s r' s' : Int} (h : FindIs ts id r s) (h' : FindIs ts id r' s') : r = r' ∧ s = s' := by
  rcases h with ⟨rfl, rfl, hn⟩ | ⟨i, k, t, rfl, rfl, hi, ht, hti, hk1, hi1⟩
  · rcases h' with ⟨rfl, rfl, _⟩ | ⟨i, k, t, rfl, rfl, hi, ht, hti, _, _⟩
    · exact ⟨rfl, rfl⟩
    · exact absurd hti (hn i hi t (List.mem_of_getElem? ht))
  · rcases h' with ⟨rfl, rfl, hn⟩ | ⟨i', k', t', rfl, rfl, hi', ht', hti', hk1', hi1'⟩
    · exact absurd hti (hn i hi t (List.mem_of_getElem? ht))
    · have h1 : i = i' := by
        rcases Nat.lt_trichotomy i i' with h | h | h
        · exact absurd hti (hi1' i h t (List.mem_of_getElem? ht))
        · exact h
        · exact absurd hti' (hi1 i' h t' (List.mem_of_getElem? ht'))
      subst h1
      have h2 : k = k' := by
        rcases Nat.lt_trichotomy k k' with h | h | h
        · exact absurd hti (hk1' k t h ht)
        · exact h
        · exact absurd hti' (hk1 k' t' h ht')
      subst h2
      exact ⟨rfl, rfl⟩
noncomputable def findP (ts : Nat → List Tm) (id : Int) : Int × Int := by
  classical exact if h : ∃ p : Int × Int, FindIs ts id p.1 p.2 then h.choose else (0, 0)
theorem findP_eq {ts : Nat → List Tm} {id r s : Int} (h : FindIs ts id r s) : findP ts id = (r, s) := by
  have hx : ∃ p : Int × Int, FindIs ts id p.1 p.2 := ⟨(r, s), h⟩
  unfold findP
  rw [dif_pos hx]
  have := hx.choose_spec.uniq h
  exact Prod.ext this.1 this.2
noncomputable def canE (nw : Int) (ts : Nat → List Tm) (id : Int) : Nat := by
  classical exact if ¬ RightW nw ts then 1 else if (findP ts id).1 < 0 then 5 else 0
noncomputable def canT (nw : Int) (ts : Nat → List Tm) (id : Int) : Nat → List Tm := by
  classical exact if canE nw ts id = 0 then upd ts (findP ts id).1.toNat ((ts (findP ts id).1.toNat).take (findP ts id).2.toNat ++ (ts (findP ts id).1.toNat).drop ((findP ts id).2.toNat + 1)) else ts
theorem canE_arg {nw : Int} {ts : Nat → List Tm} {id : Int} (h : ¬ RightW nw ts) : canE nw ts id = 1 ∧ canT nw ts id = ts := by
  have h1 : canE nw ts id = 1 := by unfold canE; rw [if_pos h]
  exact ⟨h1, by unfold canT; rw [if_neg (by omega)]⟩
theorem canE_none {nw : Int} {ts : Nat → List Tm} {id r s : Int} (h : RightW nw ts) (hf : FindIs ts id r s) (hr : r < 0) : canE nw ts id = 5 ∧ canT nw ts id = ts := by
  have h1 : canE nw ts id = 5 := by unfold canE; rw [if_neg (by simpa using h), findP_eq hf, if_pos hr]
  exact ⟨h1, by unfold canT; rw [if_neg (by omega)]⟩
theorem canE_ok {nw : Int} {ts : Nat → List Tm} {id : Int} {i k : Nat} (h : RightW nw ts) (hf : FindIs ts id i k) : canE nw ts id = 0 ∧ canT nw ts id = upd ts i ((ts i).take k ++ (ts i).drop (k + 1)) := by
  have h1 : canE nw ts id = 0 := by unfold canE; rw [if_neg (by simpa using h), findP_eq hf, if_neg (by simp only; omega)]
  exact ⟨h1, by unfold canT; rw [if_pos h1, findP_eq hf]; simp only [Int.toNat_natCast]⟩
end Go.Proofs.Ytnlgmfkgpaampaa
