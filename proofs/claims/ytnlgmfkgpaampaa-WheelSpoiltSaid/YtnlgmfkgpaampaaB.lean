/- Timers, wheels: what they are; slices.IndexFunc, ContainsFunc, Clone at timers. -/
import Derived.Test.YtnlgmfkgpaampaaMB
import Derived.Test.YtnlgmfkgpaampaaP
set_option linter.unusedVariables false
set_option linter.unusedSimpArgs false
namespace Go.Proofs.Ytnlgmfkgpaampaa
open Go.RowKit
open Go.Proofs.YtnlgmfkgpaampaaW.PrintWords

structure Tm where
  id : Int
  at' : Int
deriving DecidableEq
def tenc (t : Tm) : List Value := [.int .i64 t.id, .int .i64 t.at']
theorem tencL : ∀ t, (tenc t).length = 2 := fun _ => rfl
theorem tenc1 : ∀ t, ∀ u ∈ tenc t, u.oneCell' = true := by
  intro t u hu
  simp [tenc] at hu
  rcases hu with rfl | rfl <;> rfl
def Tm.v (t : Tm) : Value := .agg #[.int .i64 t.id, .int .i64 t.at']

/-- a box that holds a wheel -/
def BoxW (w : World) (bx : Nat) (nw : Int) (S : Nat → Value) : Prop := ∃ cur, w.heap[bx]? = some (.cells cur 25 (0, 0)) ∧ cur.size = 9 ∧ cur[0]? = some (.int .i64 nw) ∧ ∀ i, i < 8 → cur[1 + i]? = some (S i)
theorem BoxW.lt {w : World} {bx : Nat} {nw : Int} {S : Nat → Value} (h : BoxW w bx nw S) : bx < w.heap.size := by
  obtain ⟨cur, hc, _⟩ := h
  exact (Array.getElem?_eq_some_iff.1 hc).1
theorem BoxW.now {w : World} {bx : Nat} {nw : Int} {S : Nat → Value} (h : BoxW w bx nw S) : w.cell? ⟨bx, 0, none⟩ = some (.int .i64 nw) := by
  obtain ⟨cur, hc, hs, h0, _⟩ := h
  exact box_at hc 0 _ h0
theorem BoxW.slot {w : World} {bx : Nat} {nw : Int} {S : Nat → Value} (h : BoxW w bx nw S) {i : Nat} (hi : i < 8) : w.cell? ⟨bx, 1 + i, none⟩ = some (S i) := by
  obtain ⟨cur, hc, hs, h0, h1⟩ := h
  exact box_at hc _ _ (h1 i hi)
theorem BoxW.free {w : World} {bx : Nat} {nw : Int} {S : Nat → Value} (h : BoxW w bx nw S) : ∀ j, w.frozen? ⟨bx, j, none⟩ = false := by
  obtain ⟨cur, hc, _⟩ := h
  exact box_free hc
theorem BoxW.below {w w1 : World} {bx : Nat} {nw : Int} {S : Nat → Value} (h : BoxW w bx nw S) (hb : Below w.heap.size w w1) : BoxW w1 bx nw S := by
  obtain ⟨cur, hc, h2⟩ := h
  exact ⟨cur, keep hb hc, h2⟩
theorem BoxW.set {w : World} {bx : Nat} {nw : Int} {S : Nat → Value} (h : BoxW w bx nw S) {i : Nat} (hi : i < 8) (v : Value) : BoxW (w.setCell ⟨bx, 1 + i, none⟩ v) bx nw (fun j => if j = i then v else S j) := by
  obtain ⟨cur, hc, hs, h0, h1⟩ := h
  refine ⟨_, heap_set hc v, by simpa using hs, ?_, fun j hj => ?_⟩
  · rw [Array.getElem?_setIfInBounds, if_neg (by omega)]
    exact h0
  · rw [Array.getElem?_setIfInBounds]
    split
    · rename_i he
      have hij : j = i := by omega
      subst hij
      simp only [if_true]
      rw [if_pos (by omega)]
    · rename_i he
      have hij : ¬ j = i := by omega
      simp only [if_neg hij]
      exact h1 j hj
theorem BoxW.setNow {w : World} {bx : Nat} {nw : Int} {S : Nat → Value} (h : BoxW w bx nw S) (m : Int) : BoxW (w.setCell ⟨bx, 0, none⟩ (.int .i64 m)) bx m S := by
  obtain ⟨cur, hc, hs, h0, h1⟩ := h
  refine ⟨_, heap_set hc _, by simpa using hs, ?_, fun j hj => ?_⟩
  · rw [Array.getElem?_setIfInBounds, if_pos rfl, if_pos (by omega)]
  · rw [Array.getElem?_setIfInBounds, if_neg (by omega)]
    exact h1 j hj
theorem BoxW.alloc (w : World) (nw : Int) (S : Nat → Value) : BoxW (w.alloc (.cells #[.int .i64 nw, S 0, S 1, S 2, S 3, S 4, S 5, S 6, S 7] 25)) w.heap.size nw S := by
  refine ⟨_, heap_alloc_new w _, rfl, rfl, fun i hi => ?_⟩
  obtain rfl | rfl | rfl | rfl | rfl | rfl | rfl | rfl : i = 0 ∨ i = 1 ∨ i = 2 ∨ i = 3 ∨ i = 4 ∨ i = 5 ∨ i = 6 ∨ i = 7 := by omega
  all_goals rfl
theorem BoxW.far {w : World} {bx : Nat} {nw : Int} {S : Nat → Value} (h : BoxW w bx nw S) {p : Addr} (hp : bx ≠ p.block) (v : Value) : BoxW (w.setCell p v) bx nw S := by
  obtain ⟨cur, hc, h2⟩ := h
  refine ⟨cur, ?_, h2⟩
  rw [Below.heap_setCell _ _ _ _ hp]
  exact hc

set_option maxHeartbeats 400000 in
theorem indexFunc_tms (g : Nat) (lb : Array Value) (eg : ∀ args w, (callFunc g args).run Try.prog w = .ok (.enter g args) w) (p : Tm → Bool) (w : World) (v : Value) (xs : List Tm)
    (hr : RdE tenc 2 w v xs) (hp : PredB Try.prog g lb Tm.v p w) :
    Calls Try.prog 24 #[v, .func (.func g) #[] lb] w fun e w' => ∃ r, e = .returned (.int .i64 r) ∧ IdxIs p xs r ∧ Below w.heap.size w w' := by
  obtain ⟨A, c, rfl, _, hm, hr⟩ := hr
  have HP := Lib.hid hp
  clear hp
  go_enter Try.func24, Try.ntmps24
  go_wp2
  go_loopg [5, 8] xs.length (fun gg _ s8 wr => ∃ kk : Nat, kk ≤ xs.length ∧ xs.length - kk ≤ gg ∧ s8 = .int .i64 kk ∧ Below w.heap.size w wr ∧ Aside (∀ j x, j < kk → xs[j]? = some x → p x = false))
  case atStart => exact ⟨0, Nat.zero_le _, by omega, rfl, Below.refl _ _, by show Aside _; exact fun j x hj => absurd hj (Nat.not_lt_zero _)⟩
  case round =>
    obtain ⟨kk, hkk, hg, rfl, hB, HA⟩ := hrel
    by_cases hlt : kk < xs.length
    · obtain ⟨b, off, rfl, hbl, hc⟩ := hr (by omega)
      have hcs : ∀ j y, (tenc xs[kk])[j]? = some y → wr.cell? ⟨b, off + kk * 2 + j, none⟩ = some y := fun j y hy => (hB.cell (p := ⟨b, off + kk * 2 + j, none⟩) hbl).trans (hc kk j xs[kk] y (List.getElem?_eq_getElem hlt) hy)
      have hltz : (kk : Int) < (xs.length : Int) := by omega
      have hcall := HP.out wr xs[kk] hB
      have hat : xs[kk]? = some xs[kk] := List.getElem?_eq_getElem hlt
      clear hc hr
      generalize xs[kk] = y at hcs hcall hat
      obtain ⟨yo, yr⟩ := y
      have k0 : wr.cell? ⟨b, off + kk * 2, none⟩ = some (.int .i64 yo) := hcs 0 _ rfl
      have k1 : wr.cell? ⟨b, off + kk * 2 + 1, none⟩ = some (.int .i64 yr) := hcs 1 _ rfl
      clear hcs
      have HY := Lib.hid hat; clear hat
      cases hq : p ⟨yo, yr⟩ with
      | true =>
        rw [hq] at hcall
        have HQ := Lib.hid hq; clear hq
        have HC := Lib.hid hcall; clear hcall
        go_wp2_with (go_at_fn g; refine (HC.out).mono ?_; rintro e w' ⟨rfl, hb'⟩)
        go_ret
        exact ⟨_, rfl, .inr ⟨kk, _, rfl, HY.out, HQ.out, HA.out⟩, hB.trans (hb'.mono hB.size)⟩
      | false =>
        rw [hq] at hcall
        have HQ := Lib.hid hq; clear hq
        have HC := Lib.hid hcall; clear hcall
        go_wp2_with (go_at_fn g; refine (HC.out).mono ?_; rintro e w' ⟨rfl, hb'⟩)
        go_roundg (xs.length - (kk + 1))
        case measure => omega
        case rel =>
          refine ⟨kk + 1, by omega, by omega, by go_num, hB.trans (hb'.mono hB.size), (show Aside _ from fun j x hj hx => ?_)⟩
          rcases Nat.lt_or_ge j kk with h | h
          · exact HA.out j x h hx
          · obtain rfl : j = kk := by omega
            rw [HY.out] at hx
            injection hx with hx
            subst hx
            exact HQ.out
    · have hltz : ¬ (kk : Int) < (xs.length : Int) := by omega
      go_wp2
      go_ret
      exact ⟨_, rfl, .inl ⟨rfl, fun j x hx => HA.out j x (by have := (List.getElem?_eq_some_iff.1 hx).1; omega) hx⟩, hB⟩

set_option maxHeartbeats 400000 in
theorem containsFunc_tms (g : Nat) (lb : Array Value) (eg : ∀ args w, (callFunc g args).run Try.prog w = .ok (.enter g args) w) (p : Tm → Bool) (w : World) (v : Value) (xs : List Tm)
    (hr : RdE tenc 2 w v xs) (hp : PredB Try.prog g lb Tm.v p w) :
    Calls Try.prog 28 #[v, .func (.func g) #[] lb] w fun e w' => e = .returned (.bool (xs.any p)) ∧ Below w.heap.size w w' := by
  have HR := Lib.hid hr
  have HP := Lib.hid hp
  clear hr hp
  go_enter Try.func28, Try.ntmps28
  go_wp2_with (go_at_call 24; refine (indexFunc_tms g lb eg p w v xs HR.out HP.out).mono ?_; rintro e w' ⟨r, rfl, hr, hb⟩)
  go_ret
  exact ⟨ret_bool hr.any, hb⟩


theorem Try.info34 : (Try.prog.info? 34).map (fun i => (i.zero, i.size, i.bytes)) = some (some (.agg #[.int .i64 0, .int .i64 0]), 2, 16) := by kernel_rfl
set_option maxHeartbeats 400000 in
theorem clone_tms (w : World) (v : Value) (xs : List Tm) (hr : RdE tenc 2 w v xs) (hl : xs.length ≤ 1000) :
    Calls Try.prog 32 #[v] w fun e w' => ∃ A n c, e = .returned (.slice A n c) ∧ OwE tenc 2 34 w' w.heap.size (.slice A n c) xs ∧ Below w.heap.size w w' := by
  have hr0 := Lib.hid hr
  obtain ⟨A, c, rfl, hc, hm, hrr⟩ := hr
  have qT : ∀ (w : World) (a : Option Addr) (n c n' c' : Nat), (binOp .eql 22 (.slice a n c) (.slice none n' c')).run Try.prog w = .ok (.bool a.isNone) w := fun w a n c n' c' => Lib.run_eql_slice_nil w _ _ a n c n' c' Try.underlying22
  cases A with
  | none =>
    have h0 : xs.length = 0 := by
      rcases Nat.eq_zero_or_pos xs.length with h | h
      · exact h
      · obtain ⟨b, off, h, _⟩ := hrr h; cases h
    have H0 := Lib.hid h0
    clear h0 hrr
    go_enter Try.func32, Try.ntmps32
    go_wp2
    go_ret
    refine ⟨_, _, _, rfl, ?_, Below.refl _ _⟩
    have : xs = [] := List.eq_nil_of_length_eq_zero H0.out
    rw [this]
    exact OwE.nil tencL _ _ _
  | some ad =>
    clear hrr
    go_enter Try.func32, Try.ntmps32
    go_wp2_with (at_builtin; refine wp_appE w.heap.size rfl _ _ 22 34 (.agg #[.int .i64 0, .int .i64 0]) 16 rfl Try.underlying22 Try.info34 rfl (by omega) (by omega) _ _ [] xs rfl rfl ?c1 ?c2 tenc1 ?c3 ?c4 ?c5)
    case c1 => exact ⟨tencL, rfl, .inl ⟨rfl, _, rfl, fun a ha => by cases ha; exact ⟨Nat.le_refl _, #[], heap_alloc_new _ _⟩⟩⟩
    case c2 => exact hr0.out.below ((Below.refl _ _).alloc (Nat.le_refl _) _)
    case c3 => simp; omega
    case c4 => simp
    case c5 =>
      intro v1 w1 h1 hg hat
      obtain ⟨A1, c1, rfl, _⟩ := h1.slice
      go_wp2
      go_ret
      refine ⟨_, _, _, rfl, h1, ?_⟩
      exact ((Below.refl _ _).alloc (Nat.le_refl _) _).grown hg (by simp) (fun k hk => by simp [Value.ownBlock] at hk; omega)
end Go.Proofs.Ytnlgmfkgpaampaa
