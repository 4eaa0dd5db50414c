/- slices.Clone and IndexFunc at flights, slices.Index; find. -/
import Derived.Test.YtipjhokhflokmaaB
set_option linter.unusedVariables false
set_option linter.unusedSimpArgs false
namespace Go.Proofs.Ytipjhokhflokmaa
open Go.RowKit
open Go.Proofs.YtipjhokhflokmaaW.PrintWords

theorem Try.info45 : (Try.prog.info? 45).map (fun i => (i.zero, i.size, i.bytes)) = some (some (.agg #[.string ⟨#[]⟩, .bool false, .int .i64 0, .int .i64 0, .string ⟨#[]⟩, .int .i64 0, .bool false, .slice none 0 0]), 8, 96) := by kernel_rfl
set_option maxHeartbeats 400000 in
theorem clone_fls (w : World) (v : Value) (ys : List FV) (hr : RdE fenc 8 w v ys) (hl : ys.length ≤ 1000) :
    Calls Try.prog 45 #[v] w fun e w' => ∃ A n c, e = .returned (.slice A n c) ∧ OwE fenc 8 45 w' w.heap.size (.slice A n c) ys ∧ Below w.heap.size w w' := by
  have hr0 := Lib.hid hr
  obtain ⟨A, c, rfl, hc, hm, hrr⟩ := hr
  have qT : ∀ (w : World) (a : Option Addr) (n c n' c' : Nat), (binOp .eql 24 (.slice a n c) (.slice none n' c')).run Try.prog w = .ok (.bool a.isNone) w := fun w a n c n' c' => Lib.run_eql_slice_nil w _ _ a n c n' c' Try.underlying24
  cases A with
  | none =>
    have h0 : ys.length = 0 := by
      rcases Nat.eq_zero_or_pos ys.length with h | h
      · exact h
      · obtain ⟨b, off, h, _⟩ := hrr h; cases h
    have H0 := Lib.hid h0
    clear h0 hrr
    go_enter Try.func45, Try.ntmps45
    go_wp2
    go_ret
    refine ⟨_, _, _, rfl, ?_, Below.refl _ _⟩
    have : ys = [] := List.eq_nil_of_length_eq_zero H0.out
    rw [this]
    exact OwE.nil fencL _ _ _
  | some ad =>
    clear hrr
    go_enter Try.func45, Try.ntmps45
    go_wp2_with (at_builtin; refine wp_appE w.heap.size rfl _ _ 24 45 (.agg #[.string ⟨#[]⟩, .bool false, .int .i64 0, .int .i64 0, .string ⟨#[]⟩, .int .i64 0, .bool false, .slice none 0 0]) 96 rfl Try.underlying24 Try.info45 rfl (by omega) (by omega) _ _ [] ys rfl rfl ?c1 ?c2 fenc1 ?c3 ?c4 ?c5)
    case c1 => exact ⟨fencL, rfl, .inl ⟨rfl, _, rfl, fun a ha => by cases ha; exact ⟨Nat.le_refl _, #[], heap_alloc_new _ _⟩⟩⟩
    case c2 => exact hr0.out.below ((Below.refl _ _).alloc (Nat.le_refl _) _)
    case c3 => simp; omega
    case c4 => simp
    case c5 =>
      intro v1 w1 h1 hg hat
      obtain ⟨A1, c1, rfl, _⟩ := h1.slice
      go_wp2
      go_ret
      refine ⟨_, _, _, rfl, h1, ?_⟩
      exact ((Below.refl _ _).alloc (Nat.le_refl _) _).grown hg (by simp) (fun k hk => by simp [Value.ownBlock] at hk; omega)

set_option maxHeartbeats 400000 in
theorem indexFunc_fls (g : Nat) (lb : Array Value) (eg : ∀ args w, (callFunc g args).run Try.prog w = .ok (.enter g args) w) (p : FV → Bool) (w : World) (v : Value) (xs : List FV)
    (hr : RdE fenc 8 w v xs) (hp : PredB Try.prog g lb FV.v p w) :
    Calls Try.prog 58 #[v, .func (.func g) #[] lb] w fun e w' => ∃ r, e = .returned (.int .i64 r) ∧ IdxIs p xs r ∧ Below w.heap.size w w' := by
  obtain ⟨A, c, rfl, _, hm, hr⟩ := hr
  have HP := Lib.hid hp
  clear hp
  go_enter Try.func58, Try.ntmps58
  go_wp2
  go_loopg [5, 8] xs.length (fun gg _ s8 wr => ∃ kk : Nat, kk ≤ xs.length ∧ xs.length - kk ≤ gg ∧ s8 = .int .i64 kk ∧ Below w.heap.size w wr ∧ Aside (∀ j x, j < kk → xs[j]? = some x → p x = false))
  case atStart => exact ⟨0, Nat.zero_le _, by omega, rfl, Below.refl _ _, by show Aside _; exact fun j x hj => absurd hj (Nat.not_lt_zero _)⟩
  case round =>
    obtain ⟨kk, hkk, hg, rfl, hB, HA⟩ := hrel
    by_cases hlt : kk < xs.length
    · obtain ⟨b, off, rfl, hbl, hc⟩ := hr (by omega)
      have hcs : ∀ j y, (fenc xs[kk])[j]? = some y → wr.cell? ⟨b, off + kk * 8 + j, none⟩ = some y := fun j y hy => (hB.cell (p := ⟨b, off + kk * 8 + j, none⟩) hbl).trans (hc kk j xs[kk] y (List.getElem?_eq_getElem hlt) hy)
      have hltz : (kk : Int) < (xs.length : Int) := by omega
      have hcall := HP.out wr xs[kk] hB
      have hat : xs[kk]? = some xs[kk] := List.getElem?_eq_getElem hlt
      clear hc hr
      generalize xs[kk] = y at hcs hcall hat
      have k0 : wr.cell? ⟨b, off + kk * 8, none⟩ = some (str y.1.key) := hcs 0 _ rfl
      have k1 : wr.cell? ⟨b, off + kk * 8 + 1, none⟩ = some (.bool y.1.sh) := hcs 1 _ rfl
      have k2 : wr.cell? ⟨b, off + kk * 8 + 2, none⟩ = some (.int .i64 y.1.id) := hcs 2 _ rfl
      have k3 : wr.cell? ⟨b, off + kk * 8 + 3, none⟩ = some (.int .i64 y.1.base) := hcs 3 _ rfl
      have k4 : wr.cell? ⟨b, off + kk * 8 + 4, none⟩ = some (str y.1.data) := hcs 4 _ rfl
      have k5 : wr.cell? ⟨b, off + kk * 8 + 5, none⟩ = some (.int .i64 y.1.tries) := hcs 5 _ rfl
      have k6 : wr.cell? ⟨b, off + kk * 8 + 6, none⟩ = some (.bool y.1.done) := hcs 6 _ rfl
      have k7 : wr.cell? ⟨b, off + kk * 8 + 7, none⟩ = some y.2.v := hcs 7 _ rfl
      clear hcs
      have HY := Lib.hid hat; clear hat
      cases hq : p y with
      | true =>
        rw [hq] at hcall
        have HQ := Lib.hid hq; clear hq
        have HC := Lib.hid hcall; clear hcall
        go_wp2_with (go_at_fn g; refine (HC.out).mono ?_; rintro e w' ⟨rfl, hb'⟩)
        go_ret
        exact ⟨_, rfl, .inr ⟨kk, _, rfl, HY.out, HQ.out, HA.out⟩, hB.trans (hb'.mono hB.size)⟩
      | false =>
        rw [hq] at hcall
        have HQ := Lib.hid hq; clear hq
        have HC := Lib.hid hcall; clear hcall
        go_wp2_with (go_at_fn g; refine (HC.out).mono ?_; rintro e w' ⟨rfl, hb'⟩)
        go_roundg (xs.length - (kk + 1))
        case measure => omega
        case rel =>
          refine ⟨kk + 1, by omega, by omega, by go_num, hB.trans (hb'.mono hB.size), (show Aside _ from fun j x hj hx => ?_)⟩
          rcases Nat.lt_or_ge j kk with h | h
          · exact HA.out j x h hx
          · obtain rfl : j = kk := by omega
            rw [HY.out] at hx
            injection hx with hx
            subst hx
            exact HQ.out
    · have hltz : ¬ (kk : Int) < (xs.length : Int) := by omega
      go_wp2
      go_ret
      exact ⟨_, rfl, .inl ⟨rfl, fun j x hx => HA.out j x (by have := (List.getElem?_eq_some_iff.1 hx).1; omega) hx⟩, hB⟩

/-- a flight's place -/
def findI (p : Fl → Bool) : List Fl → Int
  | [] => -1
  | x :: r => if p x then 0 else if findI p r < 0 then -1 else findI p r + 1
theorem findI_is {p : Fl → Bool} {ys : List FV} {r : Int} (h : IdxIs (fun y : FV => p y.1) ys r) : r = findI p (fls ys) := by
  induction ys generalizing r with
  | nil =>
    rcases h with ⟨rfl, _⟩ | ⟨k, y, _, hy, _⟩
    · rfl
    · simp at hy
  | cons a l ih =>
    show r = findI p (a.1 :: fls l)
    unfold findI
    by_cases ha : p a.1 = true
    · rw [if_pos ha]
      rcases h with ⟨_, h⟩ | ⟨k, y, rfl, hy, hp, hb⟩
      · have h0 : p a.1 = false := h 0 a rfl
        rw [h0] at ha; cases ha
      · cases k with
        | zero => rfl
        | succ k =>
          have h0 : p a.1 = false := hb 0 a (by omega) rfl
          rw [h0] at ha; cases ha
    · rw [if_neg ha]
      rcases h with ⟨rfl, h⟩ | ⟨k, y, rfl, hy, hp, hb⟩
      · have := ih (r := -1) (.inl ⟨rfl, fun j x hx => h (j + 1) x hx⟩)
        rw [← this]
        rfl
      · cases k with
        | zero =>
          simp only [List.getElem?_cons_zero, Option.some.injEq] at hy
          subst hy
          exact absurd hp ha
        | succ k =>
          have := ih (r := (k : Int)) (.inr ⟨k, y, rfl, hy, hp, fun j x hj hx => hb (j + 1) x (by omega) hx⟩)
          rw [← this, if_neg (by omega)]
          omega
theorem findI_lt {p : Fl → Bool} {xs : List Fl} : findI p xs < (xs.length : Int) ∧ -1 ≤ findI p xs := by
  induction xs with
  | nil => simp [findI]
  | cons a l ih =>
    unfold findI
    simp only [List.length_cons]
    split
    · omega
    · split <;> omega
/-- where it is -/
theorem findI_at {p : Fl → Bool} {xs : List Fl} (h : ¬ findI p xs < 0) : ∃ (k : Nat) (x : Fl), findI p xs = k ∧ xs[k]? = some x ∧ p x = true := by
  induction xs with
  | nil => simp [findI] at h
  | cons a l ih =>
    unfold findI at h ⊢
    by_cases ha : p a = true
    · rw [if_pos ha]
      exact ⟨0, a, rfl, rfl, ha⟩
    · rw [if_neg ha] at h ⊢
      by_cases hl : findI p l < 0
      · rw [if_pos hl] at h; omega
      · rw [if_neg hl]
        obtain ⟨k, x, hk, hx, hp⟩ := ih hl
        exact ⟨k + 1, x, by rw [hk]; rfl, hx, hp⟩

set_option maxHeartbeats 400000 in
theorem find1_any (w : World) (bx : Nat) (id : Int) (hb : w.heap[bx]? = some (.cells #[.int .i64 id] 3 (0, 0))) : PredB Try.prog 59 #[.pointer (some ⟨bx, 0, none⟩)] FV.v (fun y => y.1.id == id) w := by
  intro W y hB
  have hlt := (Array.getElem?_eq_some_iff.1 hb).1
  have z0 : W.cell? ⟨bx, 0, none⟩ = some (.int .i64 id) := box_at (keep hB hb) 0 _ rfl
  have zold : ∀ o, (W.alloc o).cell? ⟨bx, 0, none⟩ = some (.int .i64 id) := fun o => pw_cell_below ((Below.refl _ _).alloc (Nat.le_refl _) _) z0
  have z1 := zold (.cells #[str y.1.key, .bool y.1.sh, .int .i64 y.1.id, .int .i64 y.1.base, str y.1.data, .int .i64 y.1.tries, .bool y.1.done, y.2.v] 45)
  have n0 := heap_alloc_new W (.cells #[str y.1.key, .bool y.1.sh, .int .i64 y.1.id, .int .i64 y.1.base, str y.1.data, .int .i64 y.1.tries, .bool y.1.done, y.2.v] 45)
  have n2 := box_at n0 2 _ rfl
  clear zold
  go_enter Try.func59, Try.ntmps59
  go_wp2_with fail
  go_ret
  exact ⟨ret_bool (by first | rfl | simp | exact beq_eq_decide ..), (Below.refl _ _).alloc (Nat.le_refl _) _⟩
end Go.Proofs.Ytipjhokhflokmaa
