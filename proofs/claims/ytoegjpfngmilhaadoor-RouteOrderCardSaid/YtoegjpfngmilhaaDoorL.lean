/- A range over strings.SplitSeq's iterator. -/
import Derived.Test.YtoegjpfngmilhaaDoorJ
set_option linter.unusedVariables false
set_option linter.unusedSimpArgs false
namespace Go.Proofs.YtoegjpfngmilhaaDoor
open Go.RowKit Go.Lib Go.Shelf
open Go.Proofs.YtoegjpfngmilhaaDoorW.PrintWords
attribute [local go_sem] Oper.semAt_some

theorem setCell_other (W : World) (b k : Nat) (v : Value) (h : k ≠ b) : (W.setCell ⟨b, 0, none⟩ v).heap[k]? = W.heap[k]? := Below.heap_setCell _ _ _ _ h

/-- what the caller keeps between two rounds -/
structure Keeps (w : World) (bs : Nat) (I : List (List UInt8) → List UInt8 → World → Prop) : Prop where
  it : ∀ pre r W, I pre r W → It W bs r
  put : ∀ pre r r2 W, I pre r W → r2.length ≤ r.length → I pre r2 (W.setCell ⟨bs, 0, none⟩ (str r2))
  alloc : ∀ pre r W o, I pre r W → I pre r (W.alloc o)
  obj : ∀ pre r W l o o', I pre r W → w.heap.size ≤ l → W.heap[l]? = some o → o.isCells = false → I pre r (W.putObj l o')

set_option maxHeartbeats 1000000 in
theorem range_it {F : Fence} {n : Nat} {g : Operand} {ps : Array Tmp} {assign body : Code} {Q : Exit → Act → World → Prop} {a : Act} {w : World}
    (hro : F.round = none) (h1 : 2 ≤ n) (bs : Nat) (hg : a.eval g = .func (.func 56) #[] #[.pointer (some ⟨bs + 1, 0, none⟩), .pointer (some ⟨bs, 0, none⟩), .pointer (some ⟨bs + 2, 0, none⟩)]) (h51 : F.fn 56) (h44 : F.fn 58)
    (hix : ∀ (r : List UInt8) (W : World), CallsIn F (n - 1 - 1) Tryd.prog 58 #[str r, .string ⟨#[47]⟩] W fun e w' => e = .returned (.int .i64 (indexByte r 47)) ∧ w' = W)
    (hps : ps.size = 1) (hbs : bs < w.heap.size) (I : List (List UInt8) → List UInt8 → World → Prop) (hI : Keeps w bs I) (r0 : List UInt8) (hr0 : r0.length ≤ 1000) (h0 : I [] r0 w) (a₁ : List UInt8 → Act)
    (hassign : ∀ (l : Nat) (x : List UInt8) (W : World) (K : Act → World → Prop), K (a₁ x) W →
      assign.wpIn (F.inRound l) (n - 1 - 1) Tryd.prog (Exit.then K (fun _ _ _ => False)) { tmps := (ps.zip #[str x]).foldl (fun t (p, v) => t.setIfInBounds p v) a.tmps, defers := [] } W)
    (hbody : ∀ (l : Nat) (pre : List (List UInt8)) (r x : List UInt8) (W : World), I pre r W → x.length ≤ r.length → pre.length ≤ 1000 → body.wpIn (F.inRound l) (n - 1 - 1) Tryd.prog (fun e _ W' => e = .normal ∧ KeepsOthers W W' ∧ I (pre ++ [x]) r W') (a₁ x) W)
    (hdone : ∀ (D : Nat) (r : List UInt8) (W : World), w.heap.size ≤ D → I (pieces 47 r0) r W → W.heap[D]? = some (.deferred (some [])) → Q .normal { a with defers := { target := .collected D, args := #[] } :: a.defers } W) :
    (Code.rangeFunc g ps assign body).wpIn F n Tryd.prog Q a w := by
  refine wpIn_rangeFunc ?_
  intro fn hfn
  rw [hro]
  obtain ⟨rec, hrec⟩ : ∃ rec : LoopState → Loop, rec = fun st => { state := st, pending := none, fn, tmps := a.tmps, params := ps, assign, body, defers := w.heap.size } := ⟨_, rfl⟩
  obtain ⟨W1, hW1⟩ : ∃ W1, (w.alloc (.deferred (some []))).alloc (.loop (rec .ready)) = W1 := ⟨_, rfl⟩
  have hL1 : W1.heap[w.heap.size + 1]? = some (.loop (rec .ready)) := by
    rw [← hW1]
    have := World.alloc_heap_new (w.alloc (.deferred (some []))) (.loop (rec .ready))
    rwa [World.size_alloc] at this
  have hK1 : W1.heap[w.heap.size]? = some (.deferred (some [])) := by
    rw [← hW1]
    exact (Below.heap_alloc _ _ _ (by simp)).trans (World.alloc_heap_new w _)
  have hI1 : I [] r0 W1 := by
    rw [← hW1]
    exact hI.alloc _ _ _ _ (hI.alloc _ _ _ _ h0)
  refine ⟨w.heap.size + 1, [{ target := .collected w.heap.size, args := #[] }], W1, { target := .fn (.func 56) #[.pointer (some ⟨bs + 1, 0, none⟩), .pointer (some ⟨bs, 0, none⟩), .pointer (some ⟨bs + 2, 0, none⟩)], args := #[.func (.yield (w.heap.size + 1)) #[] #[]] }, W1, 56,
    #[.func (.yield (w.heap.size + 1)) #[] #[], .pointer (some ⟨bs + 1, 0, none⟩), .pointer (some ⟨bs, 0, none⟩), .pointer (some ⟨bs + 2, 0, none⟩)], W1, ?_, ?_, ?_, ?_, fun _ => by omega, ?_⟩
  · rw [← hW1, hrec]
    exact run_enterLoop_outer _ _ _ _ _
  · simp only [resolve, hg]
    simp [go_sem]
  · intro f' hf'
    simp [Target.leads] at hf'
    subst hf'
    exact h51
  · have eg := enters_of (P := Tryd.prog) Tryd.func56 (by kernel_rfl) rfl
    simp [invoke, go_sem, eg]
  · refine (seq_in F (n - 1) (by omega) h51 h44 hro (w.heap.size + 1) bs (fun pre r W => I pre r W ∧ W.heap[w.heap.size + 1]? = some (.loop (rec .ready)) ∧ W.heap[w.heap.size]? = some (.deferred (some []))) ⟨?_, ?_, ?_⟩ r0 hr0 W1 ⟨hI1, hL1, hK1⟩ hix).mono ?_
    · exact fun pre r W h => hI.it _ _ _ h.1
    · exact fun pre r r2 W h hle => ⟨hI.put _ _ _ _ h.1 hle, (setCell_other W _ _ _ (by omega)).trans h.2.1, (setCell_other W _ _ _ (by omega)).trans h.2.2⟩
    · rintro pre r x W ⟨hi, hl, hk⟩ hle hpl
      have hlt : w.heap.size + 1 < W.heap.size := (Array.getElem?_eq_some_iff.1 hl).1
      have hy := run_yield (P := Tryd.prog) (args := #[str x]) hl (by rw [hrec]; simp [hps])
      rw [hrec] at hy
      refine ⟨fn, _, assign, body, hy, roundIn_of_wpIn hfn (hassign _ x W _ ⟨_, run_beginRound hl (by rw [hrec]), ?_⟩)⟩
      have hl2 : (W.putObj (w.heap.size + 1) (.loop { rec .ready with state := .busy })).heap[w.heap.size + 1]? = some (.loop { rec .ready with state := .busy }) := World.putObj_heap_same hlt
      have hk2 : (W.putObj (w.heap.size + 1) (.loop { rec .ready with state := .busy })).heap[w.heap.size]? = some (.deferred (some [])) := (World.putObj_heap_other (by omega)).trans hk
      refine wpIn_mono (hbody _ pre r x _ (hI.obj _ _ _ _ _ _ hi (by omega) hl rfl) hle hpl) ?_
      rintro e a3 W3 ⟨rfl, hk3, hi3⟩
      have hl3 := hk3.same _ _ hl2 rfl
      have hr := run_endRound (P := Tryd.prog) none hl3
      have hk4 := hk3.same _ _ hk2 rfl
      rw [hrec] at hr hl3
      refine ⟨_, _, hr, rfl, hI.obj _ _ _ _ _ _ hi3 (by omega) hl3 rfl, ?_, (World.putObj_heap_other (by omega)).trans hk4⟩
      rw [hrec]
      exact World.putObj_heap_same (Array.getElem?_eq_some_iff.1 hl3).1
    · rintro e W2 ⟨⟨v, rfl⟩, r, hi, hl, hk⟩
      have hend := run_endLoop (P := Tryd.prog) hl (by rw [hrec]; simp)
      rw [hrec] at hend
      exact ⟨none, _, hend, hdone _ r _ (Nat.le_refl _) (hI.obj _ _ _ _ _ _ hi (by omega) hl rfl) ((World.putObj_heap_other (by omega)).trans hk)⟩
end Go.Proofs.YtoegjpfngmilhaaDoor
