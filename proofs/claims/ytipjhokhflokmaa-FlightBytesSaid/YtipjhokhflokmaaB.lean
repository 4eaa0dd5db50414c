/- Timers, wheels: what they are; slices.IndexFunc, ContainsFunc, Clone at timers. -/
import Derived.Test.YtipjhokhflokmaaMB
import Derived.Test.YtipjhokhflokmaaP
set_option linter.unusedVariables false
set_option linter.unusedSimpArgs false
namespace Go.Proofs.Ytipjhokhflokmaa
open Go.RowKit
open Go.Proofs.YtipjhokhflokmaaW.PrintWords

structure Tm where
  id : Int
  at' : Int
deriving DecidableEq
def tenc (t : Tm) : List Value := [.int .i64 t.id, .int .i64 t.at']
theorem tencL : ∀ t, (tenc t).length = 2 := fun _ => rfl
theorem tenc1 : ∀ t, ∀ u ∈ tenc t, u.oneCell' = true := by
  intro t u hu
  simp [tenc] at hu
  rcases hu with rfl | rfl <;> rfl
def Tm.v (t : Tm) : Value := .agg #[.int .i64 t.id, .int .i64 t.at']

abbrev str (l : List UInt8) : Value := .string ⟨l.toArray⟩
/-- a flight -/
structure Fl where
  key : List UInt8
  sh : Bool
  id : Int
  base : Int
  data : List UInt8
  tries : Int
  done : Bool
  ws : List Tm
deriving DecidableEq
/-- a slice's value -/
structure Sl where
  A : Option Addr
  n : Nat
  c : Nat
abbrev Sl.v (s : Sl) : Value := .slice s.A s.n s.c
/-- a flight, and where who waits for it lies -/
abbrev FV := Fl × Sl
def fenc (y : FV) : List Value := [str y.1.key, .bool y.1.sh, .int .i64 y.1.id, .int .i64 y.1.base, str y.1.data, .int .i64 y.1.tries, .bool y.1.done, y.2.v]
theorem fencL : ∀ y, (fenc y).length = 8 := fun _ => rfl
theorem fenc1 : ∀ y, ∀ u ∈ fenc y, u.oneCell' = true := by
  intro y u hu
  simp [fenc] at hu
  rcases hu with rfl | rfl | rfl | rfl | rfl | rfl | rfl | rfl <;> rfl
abbrev FV.v (y : FV) : Value := .agg #[str y.1.key, .bool y.1.sh, .int .i64 y.1.id, .int .i64 y.1.base, str y.1.data, .int .i64 y.1.tries, .bool y.1.done, y.2.v]
abbrev fls (ys : List FV) : List Fl := ys.map (·.1)
/-- flights that are read -/
structure RdF (w : World) (V : Value) (ys : List FV) : Prop where
  o : RdE fenc 8 w V ys
  r : ∀ (i : Nat) (y : FV), ys[i]? = some y → RdE tenc 2 w y.2.v y.1.ws
/-- flights of the call's own -/
structure OwF (w : World) (base : Nat) (V : Value) (ys : List FV) : Prop where
  o : OwE fenc 8 45 w base V ys
  r : ∀ (i : Nat) (y : FV), ys[i]? = some y → OwE tenc 2 47 w base y.2.v y.1.ws
  ne : ∀ (i j : Nat) (y z : FV), i ≠ j → ys[i]? = some y → ys[j]? = some z → ∀ k, y.2.v.ownBlock = some k → z.2.v.ownBlock ≠ some k
theorem OwF.rd {w : World} {base : Nat} {V : Value} {ys : List FV} (h : OwF w base V ys) : RdF w V ys := ⟨h.o.rd, fun i y hy => (h.r i y hy).rd⟩
theorem RdF.below {w w1 : World} {V : Value} {ys : List FV} (h : RdF w V ys) (hb : Below w.heap.size w w1) : RdF w1 V ys := ⟨h.o.below hb, fun i y hy => (h.r i y hy).below hb⟩
theorem OwF.below {w w1 : World} {base : Nat} {V : Value} {ys : List FV} (h : OwF w base V ys) (hb : Below w.heap.size w w1) : OwF w1 base V ys := ⟨h.o.below hb, fun i y hy => (h.r i y hy).below hb, h.ne⟩
theorem OwF.lower {w : World} {base base' : Nat} {V : Value} {ys : List FV} (h : OwF w base V ys) (hb : base' ≤ base) : OwF w base' V ys := ⟨h.o.lower hb, fun i y hy => (h.r i y hy).lower hb, h.ne⟩
theorem RdF.nil (w : World) (A : Option Addr) (c : Nat) : RdF w (.slice A 0 c) [] := ⟨RdE.nil w A c, fun i y h => by simp at h⟩
theorem OwF.nil (w : World) (base : Nat) : OwF w base (.slice none 0 0) [] := ⟨OwE.nil fencL _ _ _, fun i y h => by simp at h, fun i j y z _ h => by simp at h⟩
/-- a flight at its place -/
structure FlAt (w : World) (b o : Nat) (y : FV) : Prop where
  lt : b < w.heap.size
  c0 : w.cell? ⟨b, o, none⟩ = some (str y.1.key)
  c1 : w.cell? ⟨b, o + 1, none⟩ = some (.bool y.1.sh)
  c2 : w.cell? ⟨b, o + 2, none⟩ = some (.int .i64 y.1.id)
  c3 : w.cell? ⟨b, o + 3, none⟩ = some (.int .i64 y.1.base)
  c4 : w.cell? ⟨b, o + 4, none⟩ = some (str y.1.data)
  c5 : w.cell? ⟨b, o + 5, none⟩ = some (.int .i64 y.1.tries)
  c6 : w.cell? ⟨b, o + 6, none⟩ = some (.bool y.1.done)
  c7 : w.cell? ⟨b, o + 7, none⟩ = some y.2.v
  r : RdE tenc 2 w y.2.v y.1.ws
theorem FlAt.below {w w1 : World} {b o : Nat} {y : FV} (h : FlAt w b o y) (hb : Below w.heap.size w w1) : FlAt w1 b o y := by
  have k : ∀ j x, w.cell? ⟨b, j, none⟩ = some x → w1.cell? ⟨b, j, none⟩ = some x := fun j x hx => (hb.cell (p := ⟨b, j, none⟩) h.lt).trans hx
  exact ⟨Nat.lt_of_lt_of_le h.lt hb.size, k _ _ h.c0, k _ _ h.c1, k _ _ h.c2, k _ _ h.c3, k _ _ h.c4, k _ _ h.c5, k _ _ h.c6, k _ _ h.c7, h.r.below hb⟩
theorem RdF.at_ {w : World} {A : Option Addr} {n c : Nat} {ys : List FV} (h : RdF w (.slice A n c) ys) {i : Nat} {y : FV} (hy : ys[i]? = some y) : ∃ b off, A = some ⟨b, off, none⟩ ∧ FlAt w b (off + i * 8) y := by
  have hl := h.o.len
  have hi := (List.getElem?_eq_some_iff.1 hy).1
  obtain ⟨b, off, rfl, hb, hc⟩ := h.o.get (by omega)
  exact ⟨b, off, rfl, hb, hc i 0 y _ hy rfl, hc i 1 y _ hy rfl, hc i 2 y _ hy rfl, hc i 3 y _ hy rfl, hc i 4 y _ hy rfl, hc i 5 y _ hy rfl, hc i 6 y _ hy rfl, hc i 7 y _ hy rfl, h.r i y hy⟩
theorem RdF.len {w : World} {A : Option Addr} {n c : Nat} {ys : List FV} (h : RdF w (.slice A n c) ys) : ys.length = n := h.o.len
theorem RdF.slice {w : World} {V : Value} {ys : List FV} (h : RdF w V ys) : ∃ A c, V = .slice A ys.length c := h.o.slice
/-- flights, as they are handed on -/
abbrev fv (room next : Int) (V : Value) : Value := .agg #[.int .i64 room, .int .i64 next, V]
/-- a box that holds them -/
def Bx3 (w : World) (bx : Nat) (room next : Int) (V : Value) : Prop := w.heap[bx]? = some (.cells #[.int .i64 room, .int .i64 next, V] 26 (0, 0))

set_option maxHeartbeats 400000 in
theorem indexFunc_tms (g : Nat) (lb : Array Value) (eg : ∀ args w, (callFunc g args).run Try.prog w = .ok (.enter g args) w) (p : Tm → Bool) (w : World) (v : Value) (xs : List Tm)
    (hr : RdE tenc 2 w v xs) (hp : PredB Try.prog g lb Tm.v p w) :
    Calls Try.prog 57 #[v, .func (.func g) #[] lb] w fun e w' => ∃ r, e = .returned (.int .i64 r) ∧ IdxIs p xs r ∧ Below w.heap.size w w' := by
  obtain ⟨A, c, rfl, _, hm, hr⟩ := hr
  have HP := Lib.hid hp
  clear hp
  go_enter Try.func57, Try.ntmps57
  go_wp2
  go_loopg [5, 8] xs.length (fun gg _ s8 wr => ∃ kk : Nat, kk ≤ xs.length ∧ xs.length - kk ≤ gg ∧ s8 = .int .i64 kk ∧ Below w.heap.size w wr ∧ Aside (∀ j x, j < kk → xs[j]? = some x → p x = false))
  case atStart => exact ⟨0, Nat.zero_le _, by omega, rfl, Below.refl _ _, by show Aside _; exact fun j x hj => absurd hj (Nat.not_lt_zero _)⟩
  case round =>
    obtain ⟨kk, hkk, hg, rfl, hB, HA⟩ := hrel
    by_cases hlt : kk < xs.length
    · obtain ⟨b, off, rfl, hbl, hc⟩ := hr (by omega)
      have hcs : ∀ j y, (tenc xs[kk])[j]? = some y → wr.cell? ⟨b, off + kk * 2 + j, none⟩ = some y := fun j y hy => (hB.cell (p := ⟨b, off + kk * 2 + j, none⟩) hbl).trans (hc kk j xs[kk] y (List.getElem?_eq_getElem hlt) hy)
      have hltz : (kk : Int) < (xs.length : Int) := by omega
      have hcall := HP.out wr xs[kk] hB
      have hat : xs[kk]? = some xs[kk] := List.getElem?_eq_getElem hlt
      clear hc hr
      generalize xs[kk] = y at hcs hcall hat
      obtain ⟨yo, yr⟩ := y
      have k0 : wr.cell? ⟨b, off + kk * 2, none⟩ = some (.int .i64 yo) := hcs 0 _ rfl
      have k1 : wr.cell? ⟨b, off + kk * 2 + 1, none⟩ = some (.int .i64 yr) := hcs 1 _ rfl
      clear hcs
      have HY := Lib.hid hat; clear hat
      cases hq : p ⟨yo, yr⟩ with
      | true =>
        rw [hq] at hcall
        have HQ := Lib.hid hq; clear hq
        have HC := Lib.hid hcall; clear hcall
        go_wp2_with (go_at_fn g; refine (HC.out).mono ?_; rintro e w' ⟨rfl, hb'⟩)
        go_ret
        exact ⟨_, rfl, .inr ⟨kk, _, rfl, HY.out, HQ.out, HA.out⟩, hB.trans (hb'.mono hB.size)⟩
      | false =>
        rw [hq] at hcall
        have HQ := Lib.hid hq; clear hq
        have HC := Lib.hid hcall; clear hcall
        go_wp2_with (go_at_fn g; refine (HC.out).mono ?_; rintro e w' ⟨rfl, hb'⟩)
        go_roundg (xs.length - (kk + 1))
        case measure => omega
        case rel =>
          refine ⟨kk + 1, by omega, by omega, by go_num, hB.trans (hb'.mono hB.size), (show Aside _ from fun j x hj hx => ?_)⟩
          rcases Nat.lt_or_ge j kk with h | h
          · exact HA.out j x h hx
          · obtain rfl : j = kk := by omega
            rw [HY.out] at hx
            injection hx with hx
            subst hx
            exact HQ.out
    · have hltz : ¬ (kk : Int) < (xs.length : Int) := by omega
      go_wp2
      go_ret
      exact ⟨_, rfl, .inl ⟨rfl, fun j x hx => HA.out j x (by have := (List.getElem?_eq_some_iff.1 hx).1; omega) hx⟩, hB⟩

set_option maxHeartbeats 400000 in
theorem containsFunc_tms (g : Nat) (lb : Array Value) (eg : ∀ args w, (callFunc g args).run Try.prog w = .ok (.enter g args) w) (p : Tm → Bool) (w : World) (v : Value) (xs : List Tm)
    (hr : RdE tenc 2 w v xs) (hp : PredB Try.prog g lb Tm.v p w) :
    Calls Try.prog 40 #[v, .func (.func g) #[] lb] w fun e w' => e = .returned (.bool (xs.any p)) ∧ Below w.heap.size w w' := by
  have HR := Lib.hid hr
  have HP := Lib.hid hp
  clear hr hp
  go_enter Try.func40, Try.ntmps40
  go_wp2_with (go_at_call 57; refine (indexFunc_tms g lb eg p w v xs HR.out HP.out).mono ?_; rintro e w' ⟨r, rfl, hr, hb⟩)
  go_ret
  exact ⟨ret_bool hr.any, hb⟩


theorem Try.info47 : (Try.prog.info? 47).map (fun i => (i.zero, i.size, i.bytes)) = some (some (.agg #[.int .i64 0, .int .i64 0]), 2, 16) := by kernel_rfl
set_option maxHeartbeats 400000 in
theorem clone_tms (w : World) (v : Value) (xs : List Tm) (hr : RdE tenc 2 w v xs) (hl : xs.length ≤ 1000) :
    Calls Try.prog 46 #[v] w fun e w' => ∃ A n c, e = .returned (.slice A n c) ∧ OwE tenc 2 47 w' w.heap.size (.slice A n c) xs ∧ Below w.heap.size w w' := by
  have hr0 := Lib.hid hr
  obtain ⟨A, c, rfl, hc, hm, hrr⟩ := hr
  have qT : ∀ (w : World) (a : Option Addr) (n c n' c' : Nat), (binOp .eql 43 (.slice a n c) (.slice none n' c')).run Try.prog w = .ok (.bool a.isNone) w := fun w a n c n' c' => Lib.run_eql_slice_nil w _ _ a n c n' c' Try.underlying43
  cases A with
  | none =>
    have h0 : xs.length = 0 := by
      rcases Nat.eq_zero_or_pos xs.length with h | h
      · exact h
      · obtain ⟨b, off, h, _⟩ := hrr h; cases h
    have H0 := Lib.hid h0
    clear h0 hrr
    go_enter Try.func46, Try.ntmps46
    go_wp2
    go_ret
    refine ⟨_, _, _, rfl, ?_, Below.refl _ _⟩
    have : xs = [] := List.eq_nil_of_length_eq_zero H0.out
    rw [this]
    exact OwE.nil tencL _ _ _
  | some ad =>
    clear hrr
    go_enter Try.func46, Try.ntmps46
    go_wp2_with (at_builtin; refine wp_appE w.heap.size rfl _ _ 43 47 (.agg #[.int .i64 0, .int .i64 0]) 16 rfl Try.underlying43 Try.info47 rfl (by omega) (by omega) _ _ [] xs rfl rfl ?c1 ?c2 tenc1 ?c3 ?c4 ?c5)
    case c1 => exact ⟨tencL, rfl, .inl ⟨rfl, _, rfl, fun a ha => by cases ha; exact ⟨Nat.le_refl _, #[], heap_alloc_new _ _⟩⟩⟩
    case c2 => exact hr0.out.below ((Below.refl _ _).alloc (Nat.le_refl _) _)
    case c3 => simp; omega
    case c4 => simp
    case c5 =>
      intro v1 w1 h1 hg hat
      obtain ⟨A1, c1, rfl, _⟩ := h1.slice
      go_wp2
      go_ret
      refine ⟨_, _, _, rfl, h1, ?_⟩
      exact ((Below.refl _ _).alloc (Nat.le_refl _) _).grown hg (by simp) (fun k hk => by simp [Value.ownBlock] at hk; omega)
end Go.Proofs.Ytipjhokhflokmaa
