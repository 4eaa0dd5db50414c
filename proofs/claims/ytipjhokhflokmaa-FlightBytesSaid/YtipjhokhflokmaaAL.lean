/- Join: what it does, and words of its memory. -/
import Derived.Test.YtipjhokhflokmaaAK
set_option linter.unusedVariables false
set_option linter.unusedSimpArgs false
namespace Go.Proofs.Ytipjhokhflokmaa
open Go.RowKit Go.Maps
open Go.Proofs.YtipjhokhflokmaaW.PrintWords

/-- the first flight that one may join -/
def openF (fs : List Fl) (key : List UInt8) (share : Bool) : Int := findG (fun x => share && joinsF key x) fs
structure JR where
  fs : List Fl
  next : Int
  id : Int
  fresh : Bool
  er : Int
def newF (key : List UInt8) (share : Bool) (next wt : Int) : Fl := ⟨key, share, next, 0, [], 1, false, [⟨wt, 0⟩]⟩
def badJ (room next : Int) (fs : List Fl) (key : List UInt8) (wt : Int) : Prop := rightS room next fs = false ∨ wt < 0 ∨ 2000 < (key.length : Int)
instance (room next : Int) (fs : List Fl) (key : List UInt8) (wt : Int) : Decidable (badJ room next fs key wt) := by unfold badJ; infer_instance
def joinOp (room next : Int) (fs : List Fl) (key : List UInt8) (wt : Int) (share : Bool) : JR :=
  if badJ room next fs key wt then ⟨fs, next, 0, false, 1⟩
  else if 0 ≤ (waitsS fs wt).1 then ⟨fs, next, 0, false, 6⟩
  else if openF fs key share < 0 then
    (if 8 ≤ (fs.length : Int) then ⟨fs, next, 0, false, 4⟩ else if next = 9007199254740992 then ⟨fs, next, 0, false, 3⟩ else ⟨fs ++ [newF key share next wt], next + 1, next, true, 0⟩)
  else match fs[(openF fs key share).toNat]? with
    | none => ⟨fs, next, 0, false, 1⟩
    | some x => ⟨fs.set (openF fs key share).toNat { x with ws := x.ws ++ [⟨wt, 0⟩] }, next, x.id, false, 0⟩
section
variable {room next : Int} {fs : List Fl} {key : List UInt8} {wt : Int} {share : Bool}
theorem joinOp1 (h : badJ room next fs key wt) : joinOp room next fs key wt share = ⟨fs, next, 0, false, 1⟩ := if_pos h
theorem joinOp6 (h : ¬ badJ room next fs key wt) (h2 : 0 ≤ (waitsS fs wt).1) : joinOp room next fs key wt share = ⟨fs, next, 0, false, 6⟩ := (if_neg h).trans (if_pos h2)
theorem joinOpN (h : ¬ badJ room next fs key wt) (h2 : ¬ 0 ≤ (waitsS fs wt).1) (h3 : openF fs key share < 0) : joinOp room next fs key wt share = if 8 ≤ (fs.length : Int) then ⟨fs, next, 0, false, 4⟩ else if next = 9007199254740992 then ⟨fs, next, 0, false, 3⟩ else ⟨fs ++ [newF key share next wt], next + 1, next, true, 0⟩ := (if_neg h).trans ((if_neg h2).trans (if_pos h3))
theorem joinOpJ (h : ¬ badJ room next fs key wt) (h2 : ¬ 0 ≤ (waitsS fs wt).1) {k : Nat} {x : Fl} (h3 : openF fs key share = (k : Int)) (hx : fs[k]? = some x) : joinOp room next fs key wt share = ⟨fs.set k { x with ws := x.ws ++ [⟨wt, 0⟩] }, next, x.id, false, 0⟩ := by
  unfold joinOp
  rw [if_neg h, if_neg h2, if_neg (by omega), h3, Int.toNat_natCast, hx]
end
theorem findG_none {α : Type} {p : α → Bool} {xs : List α} (h : ∀ (j : Nat) (x : α), xs[j]? = some x → p x = false) : findG p xs < 0 := by
  by_cases hh : findG p xs < 0
  · exact hh
  · obtain ⟨k, x, _, hx, hp⟩ := findG_at hh
    rw [h k x hx] at hp
    cases hp
theorem findG_some {α : Type} {p : α → Bool} {xs : List α} {k : Nat} {x : α} (hx : xs[k]? = some x) (hp : p x = true) (h : ∀ (j : Nat) (y : α), j < k → xs[j]? = some y → p y = false) : findG p xs = (k : Int) := (findG_is (.inr ⟨k, x, rfl, hx, hp, h⟩)).symm
theorem OwF.addW {w w1 : World} {base b off n c : Nat} {zs : List FV} (h : OwF w base (.slice (some ⟨b, off, none⟩) n c) zs) {k : Nat} {x : Fl} {S S' : Sl} (hz : zs[k]? = some (x, S)) {ws' : List Tm} (hO : OwE tenc 2 47 w1 base S'.v ws') (hg : w.grownBy w1 S.v.ownBlock)
    (hat : S'.v.ownBlock = S.v.ownBlock ∨ ∃ q, S'.v.ownBlock = some q ∧ w.heap.size ≤ q) :
    OwF (w1.setCell ⟨b, off + k * 8 + 7, none⟩ S'.v) base (.slice (some ⟨b, off, none⟩) n c) (zs.set k ({ x with ws := ws' }, S')) := by
  obtain ⟨cur, hcur⟩ := h.o.typed b rfl
  refine OwF.put7' (S' := S') (h.o.grown hg (fun q hq he => ?_)) (fun i y hik hy => (h.r i y hy).grown hg (fun q hq he => ?_)) (fun i j y z _ _ hij hy hz2 q hq => h.ne i j y z hij hy hz2 q hq) hz rfl hO (fun i y hik hy q hq => ?_)
  · obtain ⟨c1, h1⟩ := h.o.typed q hq
    obtain ⟨c2, h2⟩ := (h.r k _ hz).typed q he.symm
    exact blocks_ne (by decide) h1 h2 rfl
  · exact h.ne i k y _ hik hy hz q hq he.symm
  · intro h2
    rcases hat with h3 | ⟨q2, h3, h4⟩
    · rw [h3] at h2
      exact h.ne i k y _ hik hy hz q hq h2
    · rw [h3] at h2
      injection h2 with h2
      have := (h.r i y hy).lt q hq
      omega
theorem OwF.snoc {w w1 : World} {base : Nat} {V V' : Value} {zs : List FV} {x : Fl} {S : Sl} (h : OwF w base V zs) (hO : OwE fenc 8 45 w1 base V' (zs ++ [(x, S)])) (hg : w.grownBy w1 V.ownBlock) (hS : OwE tenc 2 47 w base S.v x.ws)
    (hne : ∀ (i : Nat) (y : FV), zs[i]? = some y → ∀ q, y.2.v.ownBlock = some q → S.v.ownBlock ≠ some q) : OwF w1 base V' (zs ++ [(x, S)]) := by
  have nt : ∀ {U : Value} {es : List Tm}, OwE tenc 2 47 w base U es → OwE tenc 2 47 w1 base U es := fun hU => hU.grown hg (fun q hq he => by
    obtain ⟨c1, h1⟩ := hU.typed q hq
    obtain ⟨c2, h2⟩ := h.o.typed q he.symm
    exact blocks_ne (by decide) h1 h2 rfl)
  have at2 : ∀ {i : Nat} {y : FV}, (zs ++ [(x, S)])[i]? = some y → zs[i]? = some y ∨ (i = zs.length ∧ y = (x, S)) := by
    intro i y hy
    rw [List.getElem?_append] at hy
    split at hy
    · exact .inl hy
    · rename_i hi
      have : i - zs.length = 0 := by
        rcases Nat.eq_zero_or_pos (i - zs.length) with h0 | h0
        · exact h0
        · rw [List.getElem?_eq_none (by simp; omega)] at hy
          cases hy
      rw [this] at hy
      simp at hy
      exact .inr ⟨by omega, hy.symm⟩
  refine ⟨hO, fun i y hy => ?_, fun i j y z hij hy hz q hq => ?_⟩
  · rcases at2 hy with h1 | ⟨_, rfl⟩
    · exact nt (h.r i y h1)
    · exact nt hS
  · rcases at2 hy with h1 | ⟨e1, rfl⟩
    · rcases at2 hz with h2 | ⟨_, rfl⟩
      · exact h.ne i j y z hij h1 h2 q hq
      · exact hne i y h1 q hq
    · rcases at2 hz with h2 | ⟨e2, rfl⟩
      · intro h3
        exact hne j z h2 q h3 hq
      · omega
theorem OwF.cell7g {w w1 : World} {base b off n c : Nat} {zs : List FV} (h : OwF w base (.slice (some ⟨b, off, none⟩) n c) zs) {k : Nat} {x : Fl} {S : Sl} (hz : zs[k]? = some (x, S)) (hg : w.grownBy w1 S.v.ownBlock) :
    w1.cell? ⟨b, off + k * 8 + 7, none⟩ = some S.v ∧ w1.frozen? ⟨b, off + k * 8 + 7, none⟩ = false := by
  obtain ⟨cur, hcur⟩ := h.o.typed b rfl
  have hb : w1.heap[b]? = w.heap[b]? := hg.block b (Array.getElem?_eq_some_iff.1 hcur).1 (fun he => by
    obtain ⟨c2, h2⟩ := (h.r k _ hz).typed b he.symm
    exact blocks_ne (show (45 : TypeId) ≠ 47 by decide) hcur h2 rfl)
  have hc := h.cell hz (j := 7) (v := S.v) rfl
  refine ⟨(World.cell?_of_block (w := w) (w' := w1) hb).trans hc.1, ?_⟩
  have h2 := hcur
  rw [← hb] at h2
  exact box_free h2 _
theorem cs3 {w : World} {p : Addr} {v a b c : Value} {q i j k : Nat} (h : w.cell? p = some v) (hne : ¬ p.block = q) : (((w.setCell ⟨q, i, none⟩ a).setCell ⟨q, j, none⟩ b).setCell ⟨q, k, none⟩ c).cell? p = some v := cell_set (cell_set (cell_set h hne) hne) hne
theorem app_box {w W1 : World} {base : Nat} {V : Value} {zs : List FV} (h : OwF w base V zs) {k : Nat} {x : Fl} {S : Sl} (hz : zs[k]? = some (x, S)) (hg : w.grownBy W1 S.v.ownBlock) {q : Nat} {cs : Array Value} {T : TypeId} (hq : w.heap[q]? = some (.cells cs T (0, 0))) (h47 : T ≠ 47) : W1.heap[q]? = some (.cells cs T (0, 0)) :=
  gb_box hg hq (fun he => by
    obtain ⟨c2, h2⟩ := (h.r k _ hz).typed q he.symm
    exact blocks_ne h47 hq h2 rfl)
/-- other boxes, behind it -/
theorem addW_box {w W1 : World} {base b off n c : Nat} {zs : List FV} (h : OwF w base (.slice (some ⟨b, off, none⟩) n c) zs) {k : Nat} {x : Fl} {S : Sl} (hz : zs[k]? = some (x, S)) (hg : w.grownBy W1 S.v.ownBlock) {q : Nat} {cs : Array Value} {T : TypeId} (hq : w.heap[q]? = some (.cells cs T (0, 0))) (h45 : T ≠ 45) (h47 : T ≠ 47) (j : Nat) (v : Value) :
    (W1.setCell ⟨b, j, none⟩ v).heap[q]? = some (.cells cs T (0, 0)) := by
  obtain ⟨cur, hcur⟩ := h.o.typed b rfl
  rw [Below.heap_setCell _ _ _ _ (blocks_ne h45 hq hcur)]
  exact gb_box hg hq (fun he => by
    obtain ⟨c2, h2⟩ := (h.r k _ hz).typed q he.symm
    exact blocks_ne h47 hq h2 rfl)
theorem IpS.addW {w W W1 : World} {b off n c : Nat} {room next : Int} {zs : List FV} (h : IpS w W room next (.slice (some ⟨b, off, none⟩) n c) zs) {k : Nat} {x : Fl} {S S' : Sl} (hz : zs[k]? = some (x, S)) {ws' : List Tm} (hO : OwE tenc 2 47 W1 w.heap.size S'.v ws') (hg : W.grownBy W1 S.v.ownBlock)
    (hat : S'.v.ownBlock = S.v.ownBlock ∨ ∃ q, S'.v.ownBlock = some q ∧ W.heap.size ≤ q) : IpS w (W1.setCell ⟨b, off + k * 8 + 7, none⟩ S'.v) room next (.slice (some ⟨b, off, none⟩) n c) (zs.set k ({ x with ws := ws' }, S')) :=
  ⟨addW_box h.ow hz hg h.bx (by decide) (by decide) _ _, addW_box h.ow hz hg h.bz (by decide) (by decide) _ _, h.ow.addW hz hO hg hat, (h.bw.grown hg h.bw.size (fun q hq => (h.ow.r k _ hz).lo q hq)).setCell (h.ow.o.lo b rfl) _⟩
theorem RfS.addW {w W W1 : World} {b off n c t6 : Nat} {room next : Int} {V0 : Value} {zs : List FV} (h : RfS w W t6 room next V0 (.slice (some ⟨b, off, none⟩) n c) zs) {k : Nat} {x : Fl} {S S' : Sl} (hz : zs[k]? = some (x, S)) {ws' : List Tm} (hO : OwE tenc 2 47 W1 w.heap.size S'.v ws') (hg : W.grownBy W1 S.v.ownBlock)
    (hat : S'.v.ownBlock = S.v.ownBlock ∨ ∃ q, S'.v.ownBlock = some q ∧ W.heap.size ≤ q) : RfS w (W1.setCell ⟨b, off + k * 8 + 7, none⟩ S'.v) t6 room next V0 (.slice (some ⟨b, off, none⟩) n c) (zs.set k ({ x with ws := ws' }, S')) :=
  ⟨addW_box h.ow hz hg h.bx (by decide) (by decide) _ _, addW_box h.ow hz hg h.bz (by decide) (by decide) _ _, addW_box h.ow hz hg h.tp (by decide) (by decide) _ _, h.ow.addW hz hO hg hat, (h.bw.grown hg h.bw.size (fun q hq => (h.ow.r k _ hz).lo q hq)).setCell (h.ow.o.lo b rfl) _, h.t6⟩
/-- what Join leaves -/
def JoinPost (w : World) (room : Int) (r : JR) (e : Ending) (w' : World) : Prop := OpPost w room r.next r.fs [.int .i64 r.id, .bool r.fresh, .int .i64 r.er] e w'
end Go.Proofs.Ytipjhokhflokmaa
