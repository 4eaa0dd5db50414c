/- target.kept. -/
import Derived.Test.YtoegjpfngmilhaaDoorL
set_option linter.unusedVariables false
set_option linter.unusedSimpArgs false
namespace Go.Proofs.YtoegjpfngmilhaaDoor
open Go.RowKit Go.Lib Go.Shelf
open Go.Proofs.YtoegjpfngmilhaaDoorW.PrintWords
attribute [local go_sem] Oper.semAt_some

/-- append inside a fence -/
theorem wpIn_app {F : Fence} {n : Nat} {P : Program} {ops : Array Oper} {rest : List Oper} {o : Oper} {a : Act} {Q : Exit → Act → World → Prop} {W : World} (base : Nat) (hgd : o.guard = none) (s x : Operand) (t e : TypeId) (z : Value) (bytes : Nat)
    (ho : o.op = .call { callee := .builtin .append, args := #[s, x], argTypes := #[t, t] })
    (ht : P.underlying t = some (.slice e)) (hinfo : (P.info? e).map (fun i => (i.zero, i.size, i.bytes)) = some (some z, 1, bytes)) (hz : z.cells.size = 1) (hb0 : 0 < bytes)
    (v src : Value) (xs ys : List Value) (hs : a.eval s = v) (hx : a.eval x = src)
    (hown : Ow e W base v xs) (hsrc : Rd W src ys) (h1 : ∀ u ∈ ys, u.oneCell' = true) (hbytes : (xs.length + ys.length) * bytes ≤ 140737488355328) (hbase : base ≤ W.heap.size)
    (h : ∀ v1 w1, Ow e w1 base v1 (xs ++ ys) → W.grownBy w1 v.ownBlock → (v1.ownBlock = v.ownBlock ∨ ∃ b, v1.ownBlock = some b ∧ W.heap.size ≤ b) → wpListIn F n P ops Q rest (a.put o.dst v1) w1) :
    wpListIn F n P ops Q (o :: rest) a W := by
  obtain ⟨v1, w1, hr1, h2, hg, hat⟩ := run_app (P := P) W base t o.type e z bytes ht hinfo hz hown hsrc h1 hbytes hb0 hbase
  refine wpListIn_plain hgd fun K hK => ?_
  unfold Oper.wpIn
  refine ⟨by simp [Oper.about, ho, resolve, Target.leads, Sem.run_pure], ?_⟩
  rw [Oper.semAt_plain F _ _ (by rw [ho]; intro c hc; cases hc)]
  simp only [execOp, ho, resolve, invoke, builtin, Sem.run_bind, Sem.run_pure, Result.andThen_ok, List.map_toArray, List.map_cons, List.map_nil, hs, hx, hr1]
  exact hK _ _ (h v1 w1 h2 hg hat)

def stepK (out : List (List UInt8)) (x : List UInt8) : List (List UInt8) := if x = [46, 46] then out.dropLast else if x = [46] then out else out ++ [x]
def foldK (xs : List (List UInt8)) : List (List UInt8) := xs.foldl stepK []
def dotB (x : List UInt8) : Bool := decide (x = [46] ∨ x = [46, 46])
/-- the segments that are kept -/
def keptS (xs : List (List UInt8)) : List (List UInt8) := if dotB (xs.getLastD []) = true then foldK xs ++ [[]] else foldK xs
def strs (xs : List (List UInt8)) : List Value := xs.map str
theorem strs_len (xs : List (List UInt8)) : (strs xs).length = xs.length := by simp [strs]
theorem strs_app (xs ys : List (List UInt8)) : strs (xs ++ ys) = strs xs ++ strs ys := by simp [strs]
theorem strs_one (xs : List (List UInt8)) : ∀ u ∈ strs xs, u.oneCell' = true := by simp [strs, Value.oneCell']
theorem foldK_snoc (xs : List (List UInt8)) (x : List UInt8) : foldK (xs ++ [x]) = stepK (foldK xs) x := by simp [foldK, List.foldl_append]
theorem stepK_len (out : List (List UInt8)) (x : List UInt8) : (stepK out x).length ≤ out.length + 1 := by
  unfold stepK
  split
  · rw [List.length_dropLast]; omega
  · split
    · omega
    · simp
theorem foldK_len (xs : List (List UInt8)) : (foldK xs).length ≤ xs.length := by
  suffices h : ∀ (ys out : List (List UInt8)), (ys.foldl stepK out).length ≤ out.length + ys.length by simpa [foldK] using h xs []
  intro ys
  induction ys with
  | nil => simp
  | cons y ys ih =>
    intro out
    have h1 := ih (stepK out y)
    have h2 := stepK_len out y
    simp only [List.foldl_cons, List.length_cons]
    omega

/-- the boxes of kept -/
structure Kt (w W : World) (bo : Nat) (v : Value) (out : List (List UInt8)) (en r : List UInt8) : Prop where
  o : W.heap[bo]? = some (.cells #[v] 42 (0, 0))
  ow : Ow 9 W (bo + 5) v (strs out)
  e : W.heap[bo + 1]? = some (.cells #[str en] 9 (0, 0))
  it : It W (bo + 2) r
  lo : w.heap.size ≤ bo
  bw : Below w.heap.size w W
  sz : bo + 5 ≤ W.heap.size
theorem Kt.grown {w W W' : World} {bo : Nat} {v : Value} {out : List (List UInt8)} {en r : List UInt8} {row : Option Nat} (h : Kt w W bo v out en r) (hg : W.grownBy W' row) (hr : ∀ k, row = some k → bo + 5 ≤ k ∧ v.ownBlock ≠ some k) : Kt w W' bo v out en r := by
  have at_ : ∀ {k : Nat} {o : Obj}, W.heap[k]? = some o → k < bo + 5 → W'.heap[k]? = some o := fun {k o} hk hlt => (hg.block k (Array.getElem?_eq_some_iff.1 hk).1 (fun e => by have := (hr k e.symm).1; omega)).trans hk
  refine ⟨at_ h.o (by omega), h.ow.grown hg (fun k hk e => (hr k e.symm).2 hk), at_ h.e (by omega), ⟨at_ h.it.s (by omega), at_ h.it.sep (by omega), at_ h.it.sv (by omega)⟩, h.lo, h.bw.grown hg h.bw.size (fun k e => ?_), Nat.le_trans h.sz hg.size⟩
  have h1 := (hr k e).1
  have h2 := h.lo
  omega
theorem Kt.out2 {w W : World} {bo : Nat} {v v1 : Value} {out out1 : List (List UInt8)} {en r : List UInt8} (h : Kt w W bo v out en r) (ho : Ow 9 W (bo + 5) v1 (strs out1)) : Kt w (W.setCell ⟨bo, 0, none⟩ v1) bo v1 out1 en r := by
  have at_ : ∀ {k : Nat} {o : Obj}, W.heap[k]? = some o → k ≠ bo → (W.setCell ⟨bo, 0, none⟩ v1).heap[k]? = some o := fun {k o} hk hne => (setCell_other W _ _ _ hne).trans hk
  exact ⟨heap_set h.o v1, ho.far (p := ⟨bo, 0, none⟩) (fun k hk => by have := ho.base k hk; simp only; omega) v1, at_ h.e (by omega), ⟨at_ h.it.s (by omega), at_ h.it.sep (by omega), at_ h.it.sv (by omega)⟩, h.lo, h.bw.setCell h.lo v1, by simpa [World.setCell] using h.sz⟩
theorem Kt.end2 {w W : World} {bo : Nat} {v : Value} {out : List (List UInt8)} {en r : List UInt8} (h : Kt w W bo v out en r) (en2 : List UInt8) : Kt w (W.setCell ⟨bo + 1, 0, none⟩ (str en2)) bo v out en2 r := by
  have at_ : ∀ {k : Nat} {o : Obj}, W.heap[k]? = some o → k ≠ bo + 1 → (W.setCell ⟨bo + 1, 0, none⟩ (str en2)).heap[k]? = some o := fun {k o} hk hne => (setCell_other W _ _ _ hne).trans hk
  have h2 := h.lo
  exact ⟨at_ h.o (by omega), h.ow.far (p := ⟨bo + 1, 0, none⟩) (fun k hk => by have := h.ow.base k hk; simp only; omega) _, heap_set h.e _, ⟨at_ h.it.s (by omega), at_ h.it.sep (by omega), at_ h.it.sv (by omega)⟩, h.lo, h.bw.setCell (by simp only; omega) _, by simpa [World.setCell] using h.sz⟩
theorem Kt.rest2 {w W : World} {bo : Nat} {v : Value} {out : List (List UInt8)} {en r : List UInt8} (h : Kt w W bo v out en r) (r2 : List UInt8) : Kt w (W.setCell ⟨bo + 2, 0, none⟩ (str r2)) bo v out en r2 := by
  have at_ : ∀ {k : Nat} {o : Obj}, W.heap[k]? = some o → k ≠ bo + 2 → (W.setCell ⟨bo + 2, 0, none⟩ (str r2)).heap[k]? = some o := fun {k o} hk hne => (setCell_other W _ _ _ hne).trans hk
  have h2 := h.lo
  exact ⟨at_ h.o (by omega), h.ow.far (p := ⟨bo + 2, 0, none⟩) (fun k hk => by have := h.ow.base k hk; simp only; omega) _, at_ h.e (by omega), ⟨heap_set h.it.s _, at_ h.it.sep (by omega), at_ h.it.sv (by omega)⟩, h.lo, h.bw.setCell (by simp only; omega) _, by simpa [World.setCell] using h.sz⟩
theorem Kt.alloc {w W : World} {bo : Nat} {v : Value} {out : List (List UInt8)} {en r : List UInt8} (h : Kt w W bo v out en r) (o : Obj) : Kt w (W.alloc o) bo v out en r := h.grown (World.grownBy_alloc W o none) (fun k e => by cases e)
theorem Kt.obj {w W : World} {bo l : Nat} {v : Value} {out : List (List UInt8)} {en r : List UInt8} {o : Obj} (h : Kt w W bo v out en r) (hl : bo + 5 ≤ l) (ho : W.heap[l]? = some o) (hc : o.isCells = false) (o' : Obj) : Kt w (W.putObj l o') bo v out en r :=
  h.grown (grownBy_putObj' W l o') (fun k e => by
    cases e
    refine ⟨hl, fun hv => ?_⟩
    obtain ⟨cs, hcs⟩ := h.ow.typed l hv
    rw [ho] at hcs
    injection hcs with hcs
    subst hcs
    cases hc)
end Go.Proofs.YtoegjpfngmilhaaDoor
