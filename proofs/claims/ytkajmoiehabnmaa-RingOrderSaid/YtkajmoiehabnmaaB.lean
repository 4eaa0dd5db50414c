/- strings.Builder's copyCheck and Write; slices.Clone at bytes. -/
import Derived.Test.YtkajmoiehabnmaaShelf
import Derived.Test.YtkajmoiehabnmaaLU
import Derived.Test.YtkajmoiehabnmaaP
import Derived.Lib.BufferWrite
import Derived.RangeFuncOwn
import Derived.Lib.OthersKept
set_option linter.unusedVariables false
set_option linter.unusedSimpArgs false
namespace Go.Proofs
open Go.Shelf
def Try.lays240_ren : Go.Shelf.Ren := ⟨fun | 240 => 18 | 276 => 20 | n => n, fun | 70 => 36 | 9 => 9 | 0 => 0 | 4 => 4 | 20 => 20 | 72 => 38 | 37 => 22 | 127 => 50 | 3 => 3 | 5 => 5 | 164 => 51 | n => n, fun | n => n⟩
theorem Try.lays240 : Go.Proofs.Lays.n240 Try.prog Try.lays240_ren := {
  mixed := by kernel_rfl
  f240 := Try.func18.trans (congrArg some (by kernel_rfl))
  f276 := Try.func20.trans (congrArg some (by kernel_rfl))
  t0 := Try.underlying0
  a0 := Try.isAgg0
  z0 := Try.sizeOf0
  v0 := Try.zeroValue0
  t4 := Try.underlying4
  a4 := Try.isAgg4
  z4 := Try.sizeOf4
  v4 := Try.zeroValue4
  t9 := Try.underlying9
  a9 := Try.isAgg9
  z9 := Try.sizeOf9
  v9 := Try.zeroValue9
  t20 := by kernel_rfl
  a20 := by intro w; kernel_rfl
  z20 := by intro w; kernel_rfl
  v20 := by intro w; kernel_rfl
  t70 := Try.underlying36
  a70 := Try.isAgg36
  z70 := Try.sizeOf36
  v70 := Try.zeroValue36
  t72 := Try.underlying38
  a72 := Try.isAgg38
  z72 := Try.sizeOf38
  v72 := Try.zeroValue38
  t164 := Try.underlying51
  a164 := Try.isAgg51
  z164 := Try.sizeOf51
  v164 := Try.zeroValue51 }
theorem Try.Builder_X72_240 : Builder.X72 Try.prog Try.lays240_ren := {
  sizeBuilder := by kernel_rfl
  liesBuilder := by kernel_rfl }
end Go.Proofs
namespace Go.Proofs.Ytkajmoiehabnmaa
open Go.RowKit Go.Lib
open Go.Proofs.YtkajmoiehabnmaaW.PrintWords

theorem cc_any (B b : Nat) (bs : List Value) (w : World) (h : IsBuilder 38 5 B b bs w) :
    Calls Try.prog 18 #[.pointer (some ⟨b, 0, none⟩)] w fun e w' => e = .returned (.tuple #[]) ∧ BuilderAt 38 5 B b (.pointer (some ⟨b, 0, none⟩)) bs w' ∧ Below B w w' ∧ KeepsOthers w w' ∧ OthersKept 5 (some b) w w' := by
  rcases h with h | h
  · refine (Any.Builder_copyCheck_fresh Try.lays240 Try.Builder_X72_240 b w h.cell0 h.shape h.frozen0).mono ?_
    rintro e w' ⟨rfl, rfl⟩
    exact ⟨rfl, h.used _, (Below.refl B w).setCell (p := ⟨b, 0, none⟩) h.1 _, KeepsOthers.setCell _ _ _, (OthersKept.refl _ (some b) _).setCell ⟨b, 0, none⟩ rfl _⟩
  · refine (Any.Builder_copyCheck_used Try.lays240 Try.Builder_X72_240 b w h.cell0).mono ?_
    rintro e w' ⟨rfl, rfl⟩
    exact ⟨rfl, h, Below.refl B _, KeepsOthers.refl _, OthersKept.refl _ _ _⟩

theorem Try.info5 : (Try.prog.info? 5).map (fun i => (i.zero, i.size, i.bytes)) = some (some (.int .u8 0), 1, 1) := by kernel_rfl

set_option maxHeartbeats 2000000 in
theorem write_any (B b : Nat) (bs ps : List UInt8) (w : World) (A : Addr) (n c : Nat) (h : IsBuilder 38 5 B b (byteCells bs) w) (hp : Rd w (.slice (some A) n c) (byteCells ps)) (hA : A.block < B) (hlen : bs.length + n ≤ 140737488355328) (hBw : B ≤ w.heap.size) :
    Calls Try.prog 13 #[.pointer (some ⟨b, 0, none⟩), .slice (some A) n c] w fun e w' => e = .returned (.tuple #[.int .i64 n, .nilIface]) ∧ BuilderAt 38 5 B b (.pointer (some ⟨b, 0, none⟩)) (byteCells (bs ++ ps)) w' ∧ Below B w w' ∧ KeepsOthers w w' ∧ OthersKept 5 (some b) w w' := by
  have hpl := hp.len
  rw [byteCells_length] at hpl
  have HP := Lib.hid hp
  have HI := Lib.hid h
  clear hp h
  obtain ⟨i0, hi, hz0, hz1, hz2⟩ := info_parts Try.info5
  go_enter Try.func13, Try.ntmps13
  go_wp2_with (go_at_call 18; refine (cc_any B b _ _ HI.out).mono ?_)
  rintro e w1 ⟨rfl, h1, hb1, hk1, ho1⟩
  obtain ⟨hB, v, hbk, hown, hne⟩ := h1
  have c0 : w1.cell? ⟨b, 0, none⟩ = some (.pointer (some ⟨b, 0, none⟩)) := by rw [cell_of_heap hbk]; rfl
  have c1 : w1.cell? ⟨b, 1, none⟩ = some v := by rw [cell_of_heap hbk]; rfl
  go_wp2_with (at_builtin; refine wpList_append_own _ rfl _ _ 22 rfl B 5 i0 (.int .u8 0) 1 1 Try.underlying22 hi hz0 hz1 hz2 rfl (by decide) v _ _ rfl hown A n c (byteCells ps) rfl ?c1 ?c2 (byteCells_one _) ?c3 ?c4 ?c5 ?_)
  case c1 => rw [byteCells_length]; omega
  case c2 =>
    intro j u hu
    have hj : j < n := by have := (List.getElem?_eq_some_iff.1 hu).1; rw [byteCells_length] at this; omega
    obtain ⟨bb, off, hAe, hbl, hcell⟩ := HP.out.get (by omega)
    injection hAe with hAe
    subst hAe
    rw [add_at]
    exact (hb1.cell (p := ⟨bb, off + j, none⟩) hA).trans (hcell j u hu)
  case c3 => rw [byteCells_length]; unfold maxLen; omega
  case c4 => rw [byteCells_length]; omega
  case c5 => have := hb1.size; omega
  intro v' w2 hown' hgrow _
  have hlt : b < w1.heap.size := (Array.getElem?_eq_some_iff.1 hbk).1
  have hb2 : w2.heap[b]? = some (.cells #[.pointer (some ⟨b, 0, none⟩), v] 38 (0, 0)) := by
    rw [hgrow.block b hlt (fun e => hne e.symm)]
    exact hbk
  have d0 : w2.cell? ⟨b, 0, none⟩ = some (.pointer (some ⟨b, 0, none⟩)) := by rw [cell_of_heap hb2]; rfl
  have d1 : w2.cell? ⟨b, 1, none⟩ = some v := by rw [cell_of_heap hb2]; rfl
  have f1 : w2.frozen? ⟨b, 1, none⟩ = false := frozen_of_heap hb2 1
  obtain ⟨ao, n', cap, rfl⟩ : ∃ ao n' cap, v' = .slice ao n' cap := by
    rcases hown'.2 with ⟨hv, _⟩ | ⟨g, cap, cur, hv, _⟩
    · exact ⟨_, _, _, hv⟩
    · exact ⟨_, _, _, hv⟩
  have HX := Lib.hid hown'
  clear hown'
  go_wp2
  go_ret2
  have hrow : ∀ (j : Nat) (o : Obj), v.ownBlock = some j → w1.heap[j]? = some o → o.isCells = true := by
    intro j o hj ho
    rcases hown.2 with ⟨rfl, _⟩ | ⟨g, cap, cur, rfl, _, hg, _⟩
    · simp [Value.ownBlock] at hj
    · simp [Value.ownBlock] at hj
      subst hj
      rw [hg] at ho
      injection ho with ho
      subst ho
      rfl
  have hrow2 : ∀ g, v.ownBlock = some g → ∃ c fz, w1.heap[g]? = some (.cells c 5 fz) := by
    intro j hj
    rcases hown.2 with ⟨rfl, _⟩ | ⟨g, cap, cur, rfl, _, hg, _⟩
    · simp [Value.ownBlock] at hj
    · simp [Value.ownBlock] at hj
      subst hj
      exact ⟨_, _, hg⟩
  have hlo : ∀ k, v.ownBlock = some k → B ≤ k := by
    intro k hk
    rcases hown.2 with ⟨rfl, _⟩ | ⟨g, cap, cur, rfl, hg, _⟩
    · simp [Value.ownBlock] at hk
    · simp [Value.ownBlock] at hk
      omega
  refine ⟨rfl, ?_, ?_, (hk1.trans (KeepsOthers.of_grownBy hgrow hrow)).trans (KeepsOthers.setCell _ _ _), (ho1.grown hgrow hrow2).setCell ⟨b, 1, none⟩ rfl _⟩
  · refine BuilderAt.put (T := 38) (e := 5) hB hb2 (bs' := byteCells (bs ++ ps)) ?_ (by decide)
    have := HX.out
    rw [byteCells_append]
    simpa [byteCells_length, hpl] using this
  · exact (hb1.grown hgrow (by have := hb1.size; omega) hlo).setCell (p := ⟨b, 1, none⟩) hB _

/-- slices.Clone -/
theorem clone_any (w : World) (A : Option Addr) (n c : Nat) (xs : List Value) (h1 : ∀ u ∈ xs, u.oneCell' = true) (hr : Rd w (.slice A n c) xs) (hl : n ≤ 5000) :
    Calls Try.prog 16 #[.slice A n c] w fun e w' => ∃ A n c, e = .returned (.slice A n c) ∧ Ow 5 w' w.heap.size (.slice A n c) xs ∧ Below w.heap.size w w' := by
  have hr0 := Lib.hid hr
  have hln := hr.len
  have qT : ∀ (w : World) (a : Option Addr) (n c n' c' : Nat), (binOp .eql 22 (.slice a n c) (.slice none n' c')).run Try.prog w = .ok (.bool a.isNone) w := fun w a n c n' c' => Lib.run_eql_slice_nil w _ _ a n c n' c' Try.underlying22
  cases A with
  | none =>
    have h0 : n = 0 := by
      rcases Nat.eq_zero_or_pos n with h | h
      · exact h
      · obtain ⟨b, off, h, _⟩ := hr.get h; cases h
    have H0 := Lib.hid h0
    have HL := Lib.hid hln
    clear h0 hr hln
    go_enter Try.func16, Try.ntmps16
    go_wp2
    go_ret
    refine ⟨_, _, _, rfl, ?_, Below.refl _ _⟩
    have : xs = [] := List.eq_nil_of_length_eq_zero (HL.out.trans H0.out)
    rw [this]
    exact Ow.nil _ _ _
  | some ad =>
    clear hr
    go_enter Try.func16, Try.ntmps16
    go_wp2_with (at_builtin; refine wp_app w.heap.size rfl _ _ 22 5 (.int .u8 0) 1 rfl Try.underlying22 Try.info5 rfl (by omega) _ _ [] xs rfl rfl ?c1 ?c2 ?c3 ?c4 ?c5 ?c6)
    case c1 => exact ⟨rfl, .inl ⟨rfl, _, rfl, fun a ha => by cases ha; exact ⟨Nat.le_refl _, #[], heap_alloc_new _ _⟩⟩⟩
    case c2 => exact hr0.out.below ((Below.refl _ _).alloc (Nat.le_refl _) _)
    case c3 => exact h1
    case c4 => simp; omega
    case c5 => simp
    case c6 =>
      intro v1 w1 h1 hg hat
      obtain ⟨A1, n1, c1, rfl⟩ := h1.slice'
      go_wp2
      go_ret
      refine ⟨_, _, _, rfl, h1, ?_⟩
      exact ((Below.refl _ _).alloc (Nat.le_refl _) _).grown hg (by simp) (fun k hk => by simp [Value.ownBlock] at hk; omega)
end Go.Proofs.Ytkajmoiehabnmaa
