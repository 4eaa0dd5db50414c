/- slices.IndexFunc, slices.ContainsFunc at []int. -/
import Derived.Test.YteaifndkmknanaaP
set_option linter.unusedVariables false
namespace Go.Proofs.Yteaifndkmknanaa
open Go.RowKit
set_option maxHeartbeats 400000 in
theorem indexFunc_ints (g : Nat) (lb : Array Value) (eg : ∀ args w, (callFunc g args).run Try.prog w = .ok (.enter g args) w) (p : Int → Bool) (w : World) (v : Value) (xs : List Int)
    (hr : Rd w v (xs.map (Value.int .i64))) (hp : PredB Try.prog g lb (Value.int .i64) p w) :
    Calls Try.prog 30 #[v, .func (.func g) #[] lb] w fun e w' => ∃ r, e = .returned (.int .i64 r) ∧ IdxIs p xs r ∧ Below w.heap.size w w' := by
  obtain ⟨A, c, rfl, _, hm, hr⟩ := hr
  rw [List.length_map] at hm hr ⊢
  have HP := Lib.hid hp
  clear hp
  go_enter Try.func30, Try.ntmps30
  go_wp2
  go_loopg [5, 8] xs.length (fun gg _ s8 wr => ∃ kk : Nat, kk ≤ xs.length ∧ xs.length - kk ≤ gg ∧ s8 = .int .i64 kk ∧ Below w.heap.size w wr ∧ Aside (∀ j x, j < kk → xs[j]? = some x → p x = false))
  case atStart => exact ⟨0, Nat.zero_le _, by omega, rfl, Below.refl _ _, by show Aside _; exact fun j x hj => absurd hj (Nat.not_lt_zero _)⟩
  case round =>
    obtain ⟨kk, hkk, hg, rfl, hB, HA⟩ := hrel
    by_cases hlt : kk < xs.length
    · obtain ⟨b, off, rfl, hbl, hc⟩ := hr (by omega)
      have hcell : wr.cell? ⟨b, off + kk, none⟩ = some ((Value.int .i64) xs[kk]) := (hB.cell (p := ⟨b, off + kk, none⟩) hbl).trans (hc kk _ (by simp [hlt]))
      have hltz : (kk : Int) < (xs.length : Int) := by omega
      have hcall := HP.out wr xs[kk] hB
      have hat : xs[kk]? = some xs[kk] := List.getElem?_eq_getElem hlt
      clear hc hr
      generalize xs[kk] = y at hcell hcall hat
      have HY := Lib.hid hat; clear hat
      cases hq : p y with
      | true =>
        rw [hq] at hcall
        have HQ := Lib.hid hq; clear hq
        have HC := Lib.hid hcall; clear hcall
        go_wp2_with (go_at_fn g; refine (HC.out).mono ?_; rintro e w' ⟨rfl, hb'⟩)
        go_ret
        exact ⟨_, rfl, .inr ⟨kk, y, rfl, HY.out, HQ.out, HA.out⟩, hB.trans (hb'.mono hB.size)⟩
      | false =>
        rw [hq] at hcall
        have HQ := Lib.hid hq; clear hq
        have HC := Lib.hid hcall; clear hcall
        go_wp2_with (go_at_fn g; refine (HC.out).mono ?_; rintro e w' ⟨rfl, hb'⟩)
        go_roundg (xs.length - (kk + 1))
        case measure => omega
        case rel =>
          refine ⟨kk + 1, by omega, by omega, by go_num, hB.trans (hb'.mono hB.size), (show Aside _ from fun j x hj hx => ?_)⟩
          rcases Nat.lt_or_ge j kk with h | h
          · exact HA.out j x h hx
          · obtain rfl : j = kk := by omega
            rw [HY.out] at hx
            injection hx with hx
            subst hx
            exact HQ.out
    · have hltz : ¬ (kk : Int) < (xs.length : Int) := by omega
      go_wp2
      go_ret
      exact ⟨_, rfl, .inl ⟨rfl, fun j x hx => HA.out j x (by have := (List.getElem?_eq_some_iff.1 hx).1; omega) hx⟩, hB⟩

set_option maxHeartbeats 400000 in
theorem containsFunc_ints (g : Nat) (lb : Array Value) (eg : ∀ args w, (callFunc g args).run Try.prog w = .ok (.enter g args) w) (p : Int → Bool) (w : World) (v : Value) (xs : List Int)
    (hr : Rd w v (xs.map (Value.int .i64))) (hp : PredB Try.prog g lb (Value.int .i64) p w) :
    Calls Try.prog 26 #[v, .func (.func g) #[] lb] w fun e w' => e = .returned (.bool (xs.any p)) ∧ Below w.heap.size w w' := by
  have HR := Lib.hid hr
  have HP := Lib.hid hp
  clear hr hp
  go_enter Try.func26, Try.ntmps26
  go_wp2_with (go_at_call 30; refine (indexFunc_ints g lb eg p w v xs HR.out HP.out).mono ?_; rintro e w' ⟨r, rfl, hr, hb⟩)
  go_ret
  exact ⟨ret_bool hr.any, hb⟩

end Go.Proofs.Yteaifndkmknanaa
