/- Contracts of place at a right table; of ids.Has. -/
import Derived.Test.YteaifndkmknanaaE
import Derived.Test.YteaifndkmknanaaF
set_option linter.unusedVariables false
namespace Go.Proofs.Yteaifndkmknanaa
open Go.RowKit
open Go.Proofs.YteaifndkmknanaaW.PrintWords

theorem RightP.gen {t : Tab} (h : RightP t) {i : Nat} (hi : i < t.gens.length) : 0 ≤ t.gens[i] ∧ t.gens[i] ≤ 9007199254740992 := by
  have := List.any_eq_false.1 h.h4 t.gens[i] (List.getElem_mem hi)
  simp [oddS] at this
  omega

def placeI (t : Tab) (id : Int) : Int := if id < 0 then 0 else id % (t.gens.length : Int)
def placeB (t : Tab) (id : Int) : Bool :=
  decide (0 ≤ id) && t.busy.getD (id % (t.gens.length : Int)).toNat false && (t.gens.getD (id % (t.gens.length : Int)).toNat 0 * t.gens.length + id % (t.gens.length : Int) == id)

theorem place_any (id : Int) (w : World) (bx : Nat) (vg vb vf : Value) (t : Tab) (hp : RightP t) (c0 : w.cell? ⟨bx, 0, none⟩ = some vg) (c1 : w.cell? ⟨bx, 1, none⟩ = some vb) (ht : TabR w vg vb vf t) :
    Calls Try.prog 24 #[.pointer (some ⟨bx, 0, none⟩), .int .i64 id] w fun e w' => e = .returned (.tuple #[.int .i64 (placeI t id), .bool (placeB t id)]) ∧ ∃ q, w' = w.drewN q := by
  by_cases hn : id < 0
  · have h1 : placeI t id = 0 := by simp [placeI, hn]
    have h2 : placeB t id = false := by simp [placeB]; omega
    rw [h1, h2]
    exact place_neg id w _ hn
  · obtain ⟨k, rfl⟩ := Int.eq_ofNat_of_zero_le (show 0 ≤ id by omega)
    have hpos := hp.h1
    have hmod : ((k : Int) % (t.gens.length : Int)) = ((k % t.gens.length : Nat) : Int) := by simp
    have hlt := Nat.mod_lt k (show t.gens.length > 0 by omega)
    obtain ⟨Ag, cg, rfl, _⟩ := ht.g
    obtain ⟨Ab, cb, rfl, _⟩ := ht.b
    have lg : (ints t.gens).length = t.gens.length := ints_len _
    have lb : (bls t.busy).length = t.gens.length := by rw [bls_len, hp.h3]
    obtain ⟨bb, ob, rfl, _, hbc⟩ := ht.b.get (by omega)
    obtain ⟨bg, og, rfl, _, hgc⟩ := ht.g.get (by omega)
    have hbl : k % t.gens.length < t.busy.length := by rw [hp.h3]; exact hlt
    have hb := hbc _ _ (bls_at hbl)
    have hg := hgc _ _ (ints_at hlt)
    rw [lg] at c0
    have e1 : placeI t k = ((k % t.gens.length : Nat) : Int) := by unfold placeI; rw [if_neg (by omega), hmod]
    have e2 : placeB t k = (t.busy[k % t.gens.length] && (t.gens[k % t.gens.length] * t.gens.length + (k % t.gens.length : Nat) == (k : Int))) := by
      unfold placeB
      rw [hmod, Int.toNat_natCast, List.getD_eq_getElem?_getD, List.getD_eq_getElem?_getD, List.getElem?_eq_getElem hlt, List.getElem?_eq_getElem hbl]
      simp
    rw [e1, e2]
    cases hq : t.busy[k % t.gens.length] with
    | false =>
      rw [hq] at hb
      rw [Bool.false_and]
      exact place_idle k w bx t.gens.length _ cg bb ob _ cb (by omega) hp.h2 lb c0 c1 hb
    | true =>
      rw [hq] at hb
      rw [Bool.true_and]
      have := hp.gen hlt
      exact place_busy k w bx t.gens.length bg og cg bb ob _ cb _ (by omega) hp.h2 lb this.1 this.2 c0 c1 hb hg


open Classical in
noncomputable def hasB (t : Tab) (id : Int) : Bool := if RightP t then placeB t id else false

set_option maxHeartbeats 400000 in
theorem has_any (id : Int) (w : World) (Ag : Option Addr) (ng cg : Nat) (Ab : Option Addr) (nb cb : Nat) (Af : Option Addr) (nf cf : Nat) (t : Tab) (ht : TabR w (.slice Ag ng cg) (.slice Ab nb cb) (.slice Af nf cf) t) (hs : t.small) :
    Calls Try.prog 15 #[.agg #[.slice Ag ng cg, .slice Ab nb cb, .slice Af nf cf], .int .i64 id] w fun e w' => e = .returned (.bool (hasB t id)) ∧ Below w.heap.size w w' := by
  have HT := Lib.hid ht
  clear ht
  by_cases hp : RightP t
  · have hr := rightB_yes hp
    have hh : hasB t id = placeB t id := by unfold hasB; rw [if_pos hp]
    rw [hh]
    have HR := Lib.hid hr
    have HP := Lib.hid hp
    clear hr hp hh
    go_enter Try.func15, Try.ntmps15
    go_wp2_with (first
      | (go_at_call 16; refine (right_any _ Ag ng cg Ab nb cb Af nf cf t (HT.out.below ?_) hs).mono ?_; (exact (Below.refl _ _).alloc (Nat.le_refl _) _); rw [HR.out]; rintro e w1 ⟨rfl, hb⟩; obtain ⟨hb0, hsz, x0, x1, x2⟩ := box3 hb; clear hb)
      | (go_at_call 22; refine (of_any _ _ _ _ t (HT.out.below hb0) hs).mono ?_; rintro e w2 ⟨bx, Ag', ng', cg', Ab', nb', cb', Af', nf', cf', rfl, hx, hxl, hO, hb2⟩; have HO := Lib.hid hO; have HX := Lib.hid hx; clear hO hx; have HK := Lib.hid (place_any id _ bx _ _ _ t HP.out (box_at HX.out 0 _ rfl) (box_at HX.out 1 _ rfl) HO.out.r))
      | (go_at_call 24; go_loud (refine (HK.out).mono ?_); rintro e w3 ⟨rfl, q, rfl⟩))
    go_ret
    exact ⟨rfl, pw_below_drewN (hb0.trans (hb2.mono hb0.size)) _⟩
  · have hr := rightB_no hp
    have hh : hasB t id = false := by unfold hasB; rw [if_neg hp]
    rw [hh]
    have HR := Lib.hid hr
    clear hr hp hh
    go_enter Try.func15, Try.ntmps15
    go_wp2_with (go_at_call 16; refine (right_any _ Ag ng cg Ab nb cb Af nf cf t (HT.out.below ?_) hs).mono ?_; (exact (Below.refl _ _).alloc (Nat.le_refl _) _); rw [HR.out]; rintro e w1 ⟨rfl, hb⟩; obtain ⟨hb0, hsz, x0, x1, x2⟩ := box3 hb; clear hb)
    go_ret
    exact ⟨rfl, hb0⟩
end Go.Proofs.Yteaifndkmknanaa
