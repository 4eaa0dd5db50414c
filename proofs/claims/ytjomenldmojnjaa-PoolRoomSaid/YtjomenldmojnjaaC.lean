/- slices.IndexFunc, ContainsFunc, Clone at backends; pool.own. -/
import Derived.Test.YtjomenldmojnjaaB
set_option linter.unusedVariables false
set_option linter.unusedSimpArgs false
namespace Go.Proofs.Ytjomenldmojnjaa
open Go.RowKit
open Go.Proofs.YtjomenldmojnjaaW.PrintWords

set_option maxHeartbeats 400000 in
theorem indexFunc_bks (g : Nat) (lb : Array Value) (eg : ∀ args w, (callFunc g args).run Try.prog w = .ok (.enter g args) w) (p : Bk → Bool) (w : World) (v : Value) (xs : List Bk)
    (hr : RdE enc 4 w v xs) (hp : PredB Try.prog g lb Bk.v p w) :
    Calls Try.prog 33 #[v, .func (.func g) #[] lb] w fun e w' => ∃ r, e = .returned (.int .i64 r) ∧ IdxIs p xs r ∧ Below w.heap.size w w' := by
  obtain ⟨A, c, rfl, _, hm, hr⟩ := hr
  have HP := Lib.hid hp
  clear hp
  go_enter Try.func33, Try.ntmps33
  go_wp2
  go_loopg [5, 8] xs.length (fun gg _ s8 wr => ∃ kk : Nat, kk ≤ xs.length ∧ xs.length - kk ≤ gg ∧ s8 = .int .i64 kk ∧ Below w.heap.size w wr ∧ Aside (∀ j x, j < kk → xs[j]? = some x → p x = false))
  case atStart => exact ⟨0, Nat.zero_le _, by omega, rfl, Below.refl _ _, by show Aside _; exact fun j x hj => absurd hj (Nat.not_lt_zero _)⟩
  case round =>
    obtain ⟨kk, hkk, hg, rfl, hB, HA⟩ := hrel
    by_cases hlt : kk < xs.length
    · obtain ⟨b, off, rfl, hbl, hc⟩ := hr (by omega)
      have hcs : ∀ j y, (enc xs[kk])[j]? = some y → wr.cell? ⟨b, off + kk * 4 + j, none⟩ = some y := fun j y hy => (hB.cell (p := ⟨b, off + kk * 4 + j, none⟩) hbl).trans (hc kk j xs[kk] y (List.getElem?_eq_getElem hlt) hy)
      have hltz : (kk : Int) < (xs.length : Int) := by omega
      have hcall := HP.out wr xs[kk] hB
      have hat : xs[kk]? = some xs[kk] := List.getElem?_eq_getElem hlt
      clear hc hr
      generalize xs[kk] = y at hcs hcall hat
      obtain ⟨yo, yr, yi, yf⟩ := y
      have k0 : wr.cell? ⟨b, off + kk * 4, none⟩ = some (.int .i64 yo) := hcs 0 _ rfl
      have k1 : wr.cell? ⟨b, off + kk * 4 + 1, none⟩ = some (.int .i64 yr) := hcs 1 _ rfl
      have k2 : wr.cell? ⟨b, off + kk * 4 + 2, none⟩ = some (.int .i64 yi) := hcs 2 _ rfl
      have k3 : wr.cell? ⟨b, off + kk * 4 + 3, none⟩ = some (.int .i64 yf) := hcs 3 _ rfl
      clear hcs
      have HY := Lib.hid hat; clear hat
      cases hq : p ⟨yo, yr, yi, yf⟩ with
      | true =>
        rw [hq] at hcall
        have HQ := Lib.hid hq; clear hq
        have HC := Lib.hid hcall; clear hcall
        go_wp2_with (go_at_fn g; refine (HC.out).mono ?_; rintro e w' ⟨rfl, hb'⟩)
        go_ret
        exact ⟨_, rfl, .inr ⟨kk, _, rfl, HY.out, HQ.out, HA.out⟩, hB.trans (hb'.mono hB.size)⟩
      | false =>
        rw [hq] at hcall
        have HQ := Lib.hid hq; clear hq
        have HC := Lib.hid hcall; clear hcall
        go_wp2_with (go_at_fn g; refine (HC.out).mono ?_; rintro e w' ⟨rfl, hb'⟩)
        go_roundg (xs.length - (kk + 1))
        case measure => omega
        case rel =>
          refine ⟨kk + 1, by omega, by omega, by go_num, hB.trans (hb'.mono hB.size), (show Aside _ from fun j x hj hx => ?_)⟩
          rcases Nat.lt_or_ge j kk with h | h
          · exact HA.out j x h hx
          · obtain rfl : j = kk := by omega
            rw [HY.out] at hx
            injection hx with hx
            subst hx
            exact HQ.out
    · have hltz : ¬ (kk : Int) < (xs.length : Int) := by omega
      go_wp2
      go_ret
      exact ⟨_, rfl, .inl ⟨rfl, fun j x hx => HA.out j x (by have := (List.getElem?_eq_some_iff.1 hx).1; omega) hx⟩, hB⟩

set_option maxHeartbeats 400000 in
theorem containsFunc_bks (g : Nat) (lb : Array Value) (eg : ∀ args w, (callFunc g args).run Try.prog w = .ok (.enter g args) w) (p : Bk → Bool) (w : World) (v : Value) (xs : List Bk)
    (hr : RdE enc 4 w v xs) (hp : PredB Try.prog g lb Bk.v p w) :
    Calls Try.prog 22 #[v, .func (.func g) #[] lb] w fun e w' => e = .returned (.bool (xs.any p)) ∧ Below w.heap.size w w' := by
  have HR := Lib.hid hr
  have HP := Lib.hid hp
  clear hr hp
  go_enter Try.func22, Try.ntmps22
  go_wp2_with (go_at_call 33; refine (indexFunc_bks g lb eg p w v xs HR.out HP.out).mono ?_; rintro e w' ⟨r, rfl, hr, hb⟩)
  go_ret
  exact ⟨ret_bool hr.any, hb⟩


theorem Try.info32 : (Try.prog.info? 32).map (fun i => (i.zero, i.size, i.bytes)) = some (some (.agg #[.int .i64 0, .int .i64 0, .int .i64 0, .int .i64 0]), 4, 32) := by kernel_rfl
set_option maxHeartbeats 400000 in
theorem clone_bks (w : World) (v : Value) (xs : List Bk) (hr : RdE enc 4 w v xs) (hl : xs.length ≤ 1000) :
    Calls Try.prog 35 #[v] w fun e w' => ∃ A n c, e = .returned (.slice A n c) ∧ OwE enc 4 32 w' w.heap.size (.slice A n c) xs ∧ Below w.heap.size w w' := by
  have hr0 := Lib.hid hr
  obtain ⟨A, c, rfl, hc, hm, hrr⟩ := hr
  have qT : ∀ (w : World) (a : Option Addr) (n c n' c' : Nat), (binOp .eql 22 (.slice a n c) (.slice none n' c')).run Try.prog w = .ok (.bool a.isNone) w := fun w a n c n' c' => Lib.run_eql_slice_nil w _ _ a n c n' c' Try.underlying22
  cases A with
  | none =>
    have h0 : xs.length = 0 := by
      rcases Nat.eq_zero_or_pos xs.length with h | h
      · exact h
      · obtain ⟨b, off, h, _⟩ := hrr h; cases h
    have H0 := Lib.hid h0
    clear h0 hrr
    go_enter Try.func35, Try.ntmps35
    go_wp2
    go_ret
    refine ⟨_, _, _, rfl, ?_, Below.refl _ _⟩
    have : xs = [] := List.eq_nil_of_length_eq_zero H0.out
    rw [this]
    exact OwE.nil encL _ _ _
  | some ad =>
    clear hrr
    go_enter Try.func35, Try.ntmps35
    go_wp2_with (at_builtin; refine wp_appE w.heap.size rfl _ _ 22 32 (.agg #[.int .i64 0, .int .i64 0, .int .i64 0, .int .i64 0]) 32 rfl Try.underlying22 Try.info32 rfl (by omega) (by omega) _ _ [] xs rfl rfl ?c1 ?c2 enc1 ?c3 ?c4 ?c5)
    case c1 => exact ⟨encL, rfl, .inl ⟨rfl, _, rfl, fun a ha => by cases ha; exact ⟨Nat.le_refl _, #[], heap_alloc_new _ _⟩⟩⟩
    case c2 => exact hr0.out.below ((Below.refl _ _).alloc (Nat.le_refl _) _)
    case c3 => simp; omega
    case c4 => simp
    case c5 =>
      intro v1 w1 h1 hg hat
      obtain ⟨A1, c1, rfl, _⟩ := h1.slice
      go_wp2
      go_ret
      refine ⟨_, _, _, rfl, h1, ?_⟩
      exact ((Below.refl _ _).alloc (Nat.le_refl _) _).grown hg (by simp) (fun k hk => by simp [Value.ownBlock] at hk; omega)
end Go.Proofs.Ytjomenldmojnjaa
