/- ring.Right, ring.parts, ring.Data. -/
import Derived.Test.YtkajmoiehabnmaaB
import Derived.RangeFuncNested
import Derived.RangeFuncBound
import Derived.RangeFuncCalls
import Derived.RangeFuncLeaves
import Derived.Shelf.Abstract
import Derived.Shelf.RegionOpen
import Derived.WalkKit
import Derived.OwnWalkIn
import Derived.TacticsInMore
import Derived.LoopNIn
import Derived.LoopIn
set_option linter.unusedVariables false
set_option linter.unusedSimpArgs false
namespace Go.Proofs.Ytkajmoiehabnmaa
open Go.RowKit Go.Lib Go.Shelf
open Go.Proofs.YtkajmoiehabnmaaW.PrintWords
attribute [local go_sem] Oper.semAt_some

def rightP (n : Nat) (f m : Int) : Prop := (0 < n ∧ n ≤ 4096) ∧ (0 ≤ f ∧ f < n) ∧ 0 ≤ m ∧ m ≤ n

set_option maxHeartbeats 1000000 in
theorem right_yes (w : World) (A : Option Addr) (n c f m : Nat) (hn : 0 < n) (hn4 : n ≤ 4096) (hf : f < n) (hm : m ≤ n) :
    Calls Try.prog 8 #[.agg #[.slice A n c, .int .i64 f, .int .i64 m]] w fun e w' => e = .returned (.bool true) ∧ Below w.heap.size w w' := by
  have h1 : (0 : Int) < (n : Int) := by omega
  have h2 : (n : Int) ≤ 4096 := by omega
  have h3 : (0 : Int) ≤ (f : Int) := by omega
  have h4 : (f : Int) < (n : Int) := by omega
  have h5 : (0 : Int) ≤ (m : Int) := by omega
  have h6 : (m : Int) ≤ (n : Int) := by omega
  go_enter Try.func8, Try.ntmps8
  go_wp2_with fail
  go_ret
  exact ⟨rfl, (Below.refl _ _).alloc (Nat.le_refl _) _⟩
theorem right_no (w : World) (A : Option Addr) (c : Nat) (f m : Int) :
    Calls Try.prog 8 #[.agg #[.slice A 0 c, .int .i64 f, .int .i64 m]] w fun e w' => e = .returned (.bool false) ∧ Below w.heap.size w w' := by
  go_enter Try.func8, Try.ntmps8
  go_wp2_with fail
  go_ret
  exact ⟨rfl, (Below.refl _ _).alloc (Nat.le_refl _) _⟩

/-- what a round of parts is handed: a slice that reads as some bytes in w, ahead of B -/
def PartOk (w : World) (x : (Addr × Nat × Nat) × List UInt8) : Prop := Rd w (.slice (some x.1.1) x.1.2.1 x.1.2.2) (byteCells x.2) ∧ x.1.1.block < w.heap.size ∧ x.1.2.1 ≤ 4096
abbrev Part (w : World) := { x : (Addr × Nat × Nat) × List UInt8 // PartOk w x }
abbrev pencs (w : World) (x : Part w) : Array Value := #[.slice (some x.1.1.1) x.1.1.2.1 x.1.1.2.2]
def dataOf (buf : List UInt8) (f m : Nat) : List UInt8 := if f + m ≤ buf.length then (buf.drop f).take m else buf.drop f ++ buf.take (f + m - buf.length)
def bytesOf {w : World} (xs : List (Part w)) : List UInt8 := xs.flatMap (fun x => x.1.2)

theorem byteCells_drop (l : List UInt8) (k : Nat) : (byteCells l).drop k = byteCells (l.drop k) := by simp [byteCells, List.map_drop]
theorem byteCells_take (l : List UInt8) (k : Nat) : (byteCells l).take k = byteCells (l.take k) := by simp [byteCells, List.map_take]
theorem Rd.sub {w : World} {b off n c : Nat} {xs : List Value} (h : Rd w (.slice (some ⟨b, off, none⟩) n c) xs) (i k : Nat) (hik : i + k ≤ n) (hb : b < w.heap.size) : Rd w (.slice (some ⟨b, off + i, none⟩) k (c - i)) ((xs.drop i).take k) := by
  have hl := h.len
  have hcap : n ≤ c := by
    obtain ⟨A', c', he, hc, _⟩ := h
    injection he with _ h2 h3
    omega
  have hmax : n ≤ 9223372036854775807 := by
    obtain ⟨A', c', he, _, hm, _⟩ := h
    omega
  refine Rd.mk' ?_ (by omega) (by omega) (fun _ => hb) fun j x hx => ?_
  · rw [List.length_take, List.length_drop]
    omega
  · have hj : j < k := by
      have := (List.getElem?_eq_some_iff.1 hx).1
      rw [List.length_take] at this
      omega
    obtain ⟨b', off', hA, _, hc⟩ := h.get (by omega)
    injection hA with hA
    injection hA with h1 h2
    subst h1; subst h2
    rw [List.getElem?_take_of_lt hj, List.getElem?_drop] at hx
    have := hc _ _ hx
    rwa [show off + i + j = off + (i + j) by omega]

set_option maxRecDepth 100000 in
set_option maxHeartbeats 2000000 in
theorem parts_stops (F : Fence) (k : Nat) (h17 : F.fn 17) (hro : F.round = none) (hk : 1 ≤ k) (w0 w : World) (bx b off n c f m : Nat) (buf : List UInt8) (hr : Rd w0 (.slice (some ⟨b, off, none⟩) n c) (byteCells buf)) (hb : b < w0.heap.size) (hn : 0 < n) (hn4 : n ≤ 4096) (hf : f < n) (hm : m ≤ n)
    (hw : Below w0.heap.size w0 w) (hbx : w.heap[bx]? = some (.cells #[.slice (some ⟨b, off, none⟩) n c, .int .i64 f, .int .i64 m] 25 (0, 0))) (hB : w0.heap.size ≤ bx) :
    SeqStopsK F k Try.prog 17 #[.pointer (some ⟨bx, 0, none⟩)] (pencs w0) (fun A B => B.heap[bx]? = A.heap[bx]?) (fun xs => bytesOf xs = dataOf buf f m) (fun _ => True) 2 w := fun l J Jx W hW _ _ hY h0 => by
  have hbl : buf.length = n := by have := hr.len; rwa [byteCells_length] at this
  have hx := keep hW hbx
  have z0 := box_at hx 0 _ rfl
  have z1 := box_at hx 1 _ rfl
  have z2 := box_at hx 2 _ rfl
  have hcap : n ≤ c := by
    obtain ⟨A', c', he, hc, _⟩ := hr
    injection he with _ h2 h3
    omega
  have hlt : bx < w.heap.size := (Array.getElem?_eq_some_iff.1 hbx).1
  have e1 : IntKind.i64.wrap ((f : Int) + (m : Int)) = (f : Int) + (m : Int) := by rw [IntKind.wrap_i64]; omega
  have i0 : (0 : Int) ≤ (f : Int) := by omega
  have i1 : (f : Int) ≤ (n : Int) := by omega
  have i2 : (n : Int) ≤ (c : Int) := by omega
  have i3 : (f : Int) ≤ (f : Int) + (m : Int) := by omega
  by_cases hfm : f + m ≤ n
  · have hfm1 : (f : Int) + (m : Int) ≤ (n : Int) := by omega
    have i4 : (f : Int) + (m : Int) ≤ (c : Int) := by omega
    have hd : dataOf buf f m = (buf.drop f).take m := by unfold dataOf; rw [if_pos (by omega)]
    have hsub := hr.sub f m hfm hb
    rw [byteCells_drop, byteCells_take] at hsub
    refine callsIn_of_wp Try.func17 rfl h17 ?_ hro
    simp only [Try.ntmps17, List.size_toArray, List.length_cons, List.length_nil, Nat.reduceAdd, Nat.reduceSub, Array.replicate_succ, Array.replicate_zero, List.push_toArray, List.append_toArray, List.nil_append, List.cons_append]
    obtain ⟨f1, t1, a1, b1, hy1, hR1⟩ := hY [] ⟨((⟨b, off + f, none⟩, m, c - f), (buf.drop f).take m), hsub, hb, by simp only; omega⟩ W h0 (by simp)
    dsimp only [pencs] at hy1
    gi_wp2
    refine hR1.mono ?_
    rintro e W1 (⟨rfl, hJ1, _⟩ | ⟨rfl, hx1⟩)
    · gi_wp2
      first | go_end0 | refine bodyPost_ret (results_none rfl _ _ _) rfl ?_
      exact ⟨⟨_, rfl⟩, .inl ⟨_, by simp [bytesOf, hd], hJ1⟩⟩
    · gi_wp2
      first | go_end0 | refine bodyPost_ret (results_none rfl _ _ _) rfl ?_
      exact ⟨⟨_, rfl⟩, .inr ⟨_, trivial, hx1⟩⟩
  · have hfm1 : ¬ (f : Int) + (m : Int) ≤ (n : Int) := by omega
    have e2 : IntKind.i64.wrap ((f : Int) + (m : Int) - (n : Int)) = (f : Int) + (m : Int) - (n : Int) := by rw [IntKind.wrap_i64]; omega
    obtain ⟨r, hrn⟩ : ∃ r : Nat, r = f + m - n := ⟨_, rfl⟩
    have e3 : (f : Int) + (m : Int) - (n : Int) = (r : Int) := by omega
    have j0 : (0 : Int) ≤ (r : Int) := by omega
    have j1 : (r : Int) ≤ (c : Int) := by omega
    have hd : dataOf buf f m = buf.drop f ++ buf.take r := by unfold dataOf; rw [if_neg (by omega), hbl, hrn]
    have hs1 := hr.sub f (n - f) (by omega) hb
    have hs2 := hr.sub 0 r (by omega) hb
    rw [byteCells_drop, byteCells_take, List.take_of_length_le (by rw [List.length_drop]; omega)] at hs1
    rw [byteCells_drop, byteCells_take, List.drop_zero, Nat.add_zero, Nat.sub_zero] at hs2
    have hr4 : r ≤ 4096 := by omega
    clear hrn
    refine callsIn_of_wp Try.func17 rfl h17 ?_ hro
    simp only [Try.ntmps17, List.size_toArray, List.length_cons, List.length_nil, Nat.reduceAdd, Nat.reduceSub, Array.replicate_succ, Array.replicate_zero, List.push_toArray, List.append_toArray, List.nil_append, List.cons_append]
    obtain ⟨f1, t1, a1, b1, hy1, hR1⟩ := hY [] ⟨((⟨b, off + f, none⟩, n - f, c - f), buf.drop f), hs1, hb, by simp only; omega⟩ W h0 (by simp)
    dsimp only [pencs] at hy1
    gi_wp2
    refine hR1.mono ?_
    rintro e W1 (⟨rfl, hJ1, hb1⟩ | ⟨rfl, hx1⟩)
    · have hx := hb1.trans hx
      clear z0 z1 z2
      have z0 := box_at hx 0 _ rfl
      have z1 := box_at hx 1 _ rfl
      have z2 := box_at hx 2 _ rfl
      obtain ⟨f2, t2, a2, b2, hy2, hR2⟩ := hY _ ⟨((⟨b, off, none⟩, r, c), buf.take r), hs2, hb, hr4⟩ W1 hJ1 (by simp)
      dsimp only [pencs] at hy2
      gi_wp2
      refine hR2.mono ?_
      rintro e W2 (⟨rfl, hJ2, _⟩ | ⟨rfl, hx2⟩)
      · gi_wp2
        first | go_end0 | refine bodyPost_ret (results_none rfl _ _ _) rfl ?_
        exact ⟨⟨_, rfl⟩, .inl ⟨_, by simp [bytesOf, hd], hJ2⟩⟩
      · gi_wp2
        first | go_end0 | refine bodyPost_ret (results_none rfl _ _ _) rfl ?_
        exact ⟨⟨_, rfl⟩, .inr ⟨_, trivial, hx2⟩⟩
    · gi_wp2
      refine ⟨fun _ h => (by cases h), ?_⟩
      gi_wp2
      first | go_end0 | refine bodyPost_ret (results_none rfl _ _ _) rfl ?_
      exact ⟨⟨_, rfl⟩, .inr ⟨_, trivial, hx1⟩⟩

theorem parts_in (F : Fence) (k : Nat) (h12 : F.fn 12) (hro : F.round = none) (A : Option Addr) (n c : Nat) (f m : Int) (w : World) :
    CallsIn F k Try.prog 12 #[.agg #[.slice A n c, .int .i64 f, .int .i64 m]] w fun e w' => e = .returned (.func (.func 17) #[] #[.pointer (some ⟨w.heap.size, 0, none⟩)]) ∧ w' = w.alloc (.cells #[.slice A n c, .int .i64 f, .int .i64 m] 25) := by
  refine callsIn_of_wp Try.func12 rfl h12 ?_ hro
  simp only [Try.ntmps12, List.size_toArray, List.length_cons, List.length_nil, Nat.reduceAdd, Nat.reduceSub, Array.replicate_succ, Array.replicate_zero, List.push_toArray, List.append_toArray, List.nil_append, List.cons_append]
  gi_wp2
  go_ret
  exact ⟨rfl, rfl⟩

theorem dataOf_len (buf : List UInt8) (f m : Nat) : (dataOf buf f m).length ≤ m + buf.length := by
  unfold dataOf
  split
  · simp; omega
  · simp; omega
theorem bytesOf_len {w : World} (xs : List (Part w)) : (bytesOf xs).length ≤ 4096 * xs.length := by
  induction xs with
  | nil => simp [bytesOf]
  | cons x r ih =>
    have h1 : (bytesOf (x :: r)).length = x.1.2.length + (bytesOf r).length := by simp [bytesOf]
    have h2 : x.1.2.length ≤ 4096 := by
      have := x.2.1.len
      rw [byteCells_length] at this
      have := x.2.2.2
      omega
    rw [h1, List.length_cons]
    omega
theorem builder_kept {b : Nat} {bs : List Value} {A B : World} {row : Option Nat} (h : IsBuilder 38 5 b b bs A) (hg : A.grownBy B row) (hr : ∀ r, row = some r → ∃ o : Obj, A.heap[r]? = some o ∧ o.isCells = false) : IsBuilder 38 5 b b bs B := by
  have one : ∀ p, BuilderAt 38 5 b b p bs A → BuilderAt 38 5 b b p bs B := by
    rintro p ⟨h1, v, hb, hown, hne⟩
    have hlt := (Array.getElem?_eq_some_iff.1 hb).1
    refine ⟨h1, v, (hg.block b hlt ?_).trans hb, hown.kept hg ?_, hne⟩
    · rintro rfl
      obtain ⟨o, ho, hc⟩ := hr b rfl
      rw [hb] at ho
      injection ho with ho
      subst ho
      simp [Obj.isCells] at hc
    · rcases hown.2 with ⟨rfl, _⟩ | ⟨g, cap, cur, rfl, _, hgg, _⟩
      · exact .inl rfl
      · refine .inr ?_
        intro hv
        simp [Value.ownBlock] at hv
        obtain ⟨o, ho, hc⟩ := hr g hv.symm
        rw [hgg] at ho
        injection ho with ho
        subst ho
        simp [Obj.isCells] at hc
  exact h.imp (one _) (one _)
theorem cells_keep {A B : World} {row : Option Nat} {k : Nat} {cs : Array Value} {e : TypeId} {fz : Nat × Nat} (h : A.heap[k]? = some (.cells cs e fz)) (hg : A.grownBy B row) (hr : ∀ r, row = some r → ∃ o : Obj, A.heap[r]? = some o ∧ o.isCells = false) : B.heap[k]? = some (.cells cs e fz) := by
  refine (hg.block k (Array.getElem?_eq_some_iff.1 h).1 ?_).trans h
  rintro rfl
  obtain ⟨o, ho, hc⟩ := hr k rfl
  rw [h] at ho
  injection ho with ho
  subst ho
  simp [Obj.isCells] at hc
theorem ownFrom_world {β : Type} {B : Nat} {I : World → Prop} (h : ∀ W W' row, I W → W.grownBy W' row → (∀ r, row = some r → B ≤ r ∧ ∃ o : Obj, W.heap[r]? = some o ∧ o.isCells = false) → I W') : OwnFrom B (fun (_ : β) W => I W) := fun _ W W' row hs hg hr => h W W' row hs hg hr

set_option maxRecDepth 100000 in
set_option maxHeartbeats 4000000 in
theorem data_any (w : World) (A : Option Addr) (n c f m : Nat) (buf : List UInt8) (hr : Rd w (.slice A n c) (byteCells buf)) (hn : 0 < n) (hn4 : n ≤ 4096) (hf : f < n) (hm : m ≤ n) :
    Calls Try.prog 9 #[.agg #[.slice A n c, .int .i64 f, .int .i64 m]] w fun e w' => e = .returned (.string ⟨(dataOf buf f m).toArray⟩) ∧ Below w.heap.size w w' := by
  have hbl : buf.length = n := by have := hr.len; rwa [byteCells_length] at this
  obtain ⟨b, off, rfl, hb, _⟩ := hr.get hn
  have HR := Lib.hid hr
  clear hr
  refine (callsIn_wide (n := 5)).1 ?_
  refine callsIn_of_wp_marks Try.func9 rfl trivial ?_ rfl
  simp only [Try.ntmps9, List.size_toArray, List.length_cons, List.length_nil, Nat.reduceAdd, Nat.reduceSub, Array.replicate_succ, Array.replicate_zero, List.push_toArray, List.append_toArray, List.nil_append, List.cons_append]
  gi_wp2_with (first
    | (refine ⟨trivial, ?_⟩; gi_at_call 8; refine (callsIn_wide.2 (right_yes _ _ n c f m hn hn4 hf hm)).mono ?_; rintro e w1 ⟨rfl, hb1⟩; obtain ⟨hw1, hx⟩ := alloc1 hb1; have hlt1 := (Array.getElem?_eq_some_iff.1 hx).1; have z0 : w1.cell? ⟨w.heap.size, 0, none⟩ = some (.slice (some ⟨b, off, none⟩) n c) := box_at hx 0 _ rfl; have z1 : w1.cell? ⟨w.heap.size, 1, none⟩ = some (.int .i64 f) := box_at hx 1 _ rfl; have z2 : w1.cell? ⟨w.heap.size, 2, none⟩ = some (.int .i64 m) := box_at hx 2 _ rfl; clear hb1)
    | (refine ⟨trivial, ?_⟩; gi_at_call 12; refine (parts_in Fence.wide 4 trivial rfl _ n c f m _).mono ?_; rintro e w2 ⟨rfl, rfl⟩))
  clear z0 z1 z2 hx hlt1
  have hal1 : Below w.heap.size w (w1.alloc (.cells #[.pointer none, .slice none 0 0] 38)) := hw1.alloc hw1.size _
  have hsz : (w1.alloc (.cells #[.pointer none, .slice none 0 0] 38)).heap.size = w1.heap.size + 1 := by simp
  have hbx := heap_alloc_new (w1.alloc (.cells #[.pointer none, .slice none 0 0] 38)) (.cells #[.slice (some ⟨b, off, none⟩) n c, .int .i64 f, .int .i64 m] 25)
  rw [hsz] at hbx
  have hsz2 : ((w1.alloc (.cells #[.pointer none, .slice none 0 0] 38)).alloc (.cells #[.slice (some ⟨b, off, none⟩) n c, .int .i64 f, .int .i64 m] 25)).heap.size = w1.heap.size + 2 := by simp
  have hal2 : Below w.heap.size w ((w1.alloc (.cells #[.pointer none, .slice none 0 0] 38)).alloc (.cells #[.slice (some ⟨b, off, none⟩) n c, .int .i64 f, .int .i64 m] 25)) := hal1.alloc hal1.size _
  have hbd : IsBuilder 38 5 w1.heap.size w1.heap.size [] ((w1.alloc (.cells #[.pointer none, .slice none 0 0] 38)).alloc (.cells #[.slice (some ⟨b, off, none⟩) n c, .int .i64 f, .int .i64 m] 25)) := by
    refine .inl ⟨Nat.le_refl _, .slice none 0 0, ?_, ⟨rfl, .inl ⟨rfl, rfl⟩⟩, by simp [Value.ownBlock]⟩
    exact (Below.heap_alloc _ _ _ (by simp)).trans (heap_alloc_new _ _)
  have hw1s := hw1.size
  generalize ((w1.alloc (.cells #[.pointer none, .slice none 0 0] 38)).alloc (.cells #[.slice (some ⟨b, off, none⟩) n c, .int .i64 f, .int .i64 m] 25)) = W1 at *
  generalize w1.heap.size = bd at *
  clear hal1 hsz hw1
  refine wpIn_rangeFunc_ownF (w0 := W1) rfl (by decide) (gf := 17) (lb := #[.pointer (some ⟨bd + 1, 0, none⟩)]) rfl trivial (enters_of Try.func17 (by kernel_rfl) rfl)
    (parts_stops Fence.wide 4 trivial rfl (by decide) w W1 (bd + 1) b off n c f m buf HR.out hb hn hn4 hf hm hal2 hbx (by omega)) (fun h k => k.trans h) (fun W l o o' hl _ _ _ => World.putObj_heap_other (by omega)) (Below.refl _ _) (fun _ => rfl)
    (fun pre W => (IsBuilder 38 5 bd bd (byteCells (bytesOf pre)) W ∧ W.heap[bd + 1]? = some (.cells #[.slice (some ⟨b, off, none⟩) n c, .int .i64 f, .int .i64 m] 25 (0, 0))) ∧ Below w.heap.size w W)
    (fun _ _ _ => False)
    (OwnFrom.and (Own.from (I := fun (pre : List (Part w)) W => IsBuilder 38 5 bd bd (byteCells (bytesOf pre)) W ∧ W.heap[bd + 1]? = some (.cells #[.slice (some ⟨b, off, none⟩) n c, .int .i64 f, .int .i64 m] 25 (0, 0))) (fun s A B row hs hg hr => ⟨builder_kept hs.1 hg hr, cells_keep hs.2 hg hr⟩) _) (ownFrom_below (Nat.le_refl _) (by omega)))
    (fun _ _ _ _ _ hs _ _ => hs)
    ⟨⟨by simpa [bytesOf, byteCells] using hbd, hbx⟩, hal2⟩
    (fun x => { tmps := #[.agg #[.slice (some ⟨b, off, none⟩) n c, .int .i64 f, .int .i64 m], .pointer (some ⟨w.heap.size, 0, none⟩), .string ⟨#[]⟩, .pointer (some ⟨bd, 0, none⟩), .slice (some x.1.1.1) x.1.1.2.1 x.1.1.2.2, .agg #[.slice (some ⟨b, off, none⟩) n c, .int .i64 f, .int .i64 m], .bool true, .bool false, .agg #[.slice (some ⟨b, off, none⟩) n c, .int .i64 f, .int .i64 m], .func (.func 17) #[] #[.pointer (some ⟨bd + 1, 0, none⟩)], .slice (some x.1.1.1) x.1.1.2.1 x.1.1.2.2, undef, undef, undef], defers := [] }) ?assign ?body ?done ?stop
  case assign =>
    intro l x W K hK
    gi_wp2
    exact hK
  case body =>
    rintro l pre x W ⟨⟨hI, hbW⟩, hB⟩ hpre
    obtain ⟨⟨⟨A, k, cp⟩, ps⟩, hx⟩ := x
    have hlen := bytesOf_len pre
    obtain ⟨hx1, hx2, hx3⟩ := hx
    simp only at hx1 hx2 hx3
    have hls : bd ≤ W.heap.size := by
      rcases hI with h | h <;> exact Nat.le_of_lt h.lt
    gi_wp2_with (refine ⟨trivial, ?_⟩; gi_at_call 13; refine (CallsIn.inRound l (callsIn_wide.2 (write_any bd bd (bytesOf pre) ps W A k cp hI (hx1.below hB) (by omega) (by omega) hls))).mono ?_; rintro e W2 ⟨rfl, h1, h2, h3, h4⟩)
    have hb5 := h4 (bd + 1) _ hbW (by simp) (fun _ _ h => by cases h)
    exact ⟨h3, hb5.trans hbW.symm, ⟨⟨.inr (by simpa [bytesOf] using h1), hb5⟩, hB.trans (h2.mono hw1s)⟩⟩
  case done =>
    rintro D ys W hD hS ⟨⟨hI, hbW⟩, hB⟩ hK
    have hls : bd ≤ W.heap.size := by
      rcases hI with h | h <;> exact Nat.le_of_lt h.lt
    gi_wp2_with (refine ⟨trivial, ?_⟩; gi_at_call 14; refine (callsIn_wide.2 (Try.Builder_String_any_k bd bd (bytesOf ys) W (IsBuilderF.of hI) hls)).mono ?_; rintro e W2 ⟨rfl, h1, h2, h3⟩)
    have hK2 := h3 D _ hK (by simp; omega) (fun _ _ h => by cases h)
    refine ⟨by simp, .inl ⟨_, _, rfl, run_takeDeferred hK2, ?_⟩⟩
    refine ⟨_, results_tmp rfl _ _ _, rfl, ?_⟩
    exact (hB.trans (h2.mono hw1s)).trans (belowK_b (w := w) (Nat.le_refl _) W2 D _ _ (by omega) hK2 rfl rfl)
  case stop =>
    rintro D c pre W _ _ h _
    exact h.elim
end Go.Proofs.Ytkajmoiehabnmaa
