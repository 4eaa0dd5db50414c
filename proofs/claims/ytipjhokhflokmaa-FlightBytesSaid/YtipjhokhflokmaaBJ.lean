/- Words of FlightBytes' memory. -/
import Derived.Test.YtipjhokhflokmaaBI
set_option linter.unusedVariables false
set_option linter.unusedSimpArgs false
namespace Go.Proofs.Ytipjhokhflokmaa
open Go.RowKit Go.Maps
open Go.Proofs.YtipjhokhflokmaaW.PrintWords

def senc (s : List UInt8) : List Value := [str s]
theorem sencL : ∀ s, (senc s).length = 1 := fun _ => rfl
theorem senc1 : ∀ s, ∀ u ∈ senc s, u.oneCell' = true := by
  intro a u hu
  simp [senc] at hu
  subst hu
  rfl
def benc (b : Bool) : List Value := [.bool b]
theorem bencL : ∀ b, (benc b).length = 1 := fun _ => rfl
theorem benc1 : ∀ b, ∀ u ∈ benc b, u.oneCell' = true := by
  intro a u hu
  simp [benc] at hu
  subst hu
  rfl
theorem Try.info9 : (Try.prog.info? 9).map (fun i => (i.zero, i.size, i.bytes)) = some (some (.string ⟨#[]⟩), 1, 16) := by kernel_rfl
theorem Try.info4 : (Try.prog.info? 4).map (fun i => (i.zero, i.size, i.bytes)) = some (some (.bool false), 1, 1) := by kernel_rfl
section
variable {α β : Type} {enc : α → List Value} {enc2 : β → List Value} {m m2 : Nat} {e e2 : TypeId} {W w1 : World} {base base2 : Nat} {v v2 : Value} {xs : List α} {ys : List β}
/-- a row of another type grows -/
theorem own_app (h : OwE enc m e W base v xs) (h2 : OwE enc2 m2 e2 W base2 v2 ys) (ne : e ≠ e2) (hg : W.grownBy w1 v2.ownBlock) : OwE enc m e w1 base v xs :=
  h.grown hg (fun q hq he => by
    obtain ⟨c1, h1⟩ := h.typed q hq
    obtain ⟨c2, h2⟩ := h2.typed q he.symm
    exact blocks_ne ne h1 h2 rfl)
/-- a block of another type is stored into -/
theorem own_far (h : OwE enc m e W base v xs) {b : Nat} {cs : Array Value} {T : TypeId} (hb : W.heap[b]? = some (.cells cs T (0, 0))) (ne : e ≠ T) (j : Nat) (u : Value) : OwE enc m e (W.setCell ⟨b, j, none⟩ u) base v xs :=
  h.far (fun k hk => by
    obtain ⟨c1, h1⟩ := h.typed k hk
    exact blocks_ne ne h1 hb) _
theorem own_box (h2 : OwE enc2 m2 e2 W base2 v2 ys) {b : Nat} {cs : Array Value} {T : TypeId} (hb : W.heap[b]? = some (.cells cs T (0, 0))) (ne : T ≠ e2) (hg : W.grownBy w1 v2.ownBlock) : w1.heap[b]? = some (.cells cs T (0, 0)) :=
  gb_box hg hb (fun he => by
    obtain ⟨c2, h2⟩ := h2.typed b he.symm
    exact blocks_ne ne hb h2 rfl)
end
theorem OwF.grown' {W w1 : World} {base : Nat} {V : Value} {zs : List FV} (h : OwF W base V zs) {α : Type} {enc : α → List Value} {m : Nat} {e : TypeId} {base2 : Nat} {v2 : Value} {xs : List α} (h2 : OwE enc m e W base2 v2 xs) (h45 : e ≠ 45) (h47 : e ≠ 47) (hg : W.grownBy w1 v2.ownBlock) : OwF w1 base V zs :=
  ⟨own_app h.o h2 (Ne.symm h45) hg, fun i y hy => own_app (h.r i y hy) h2 (Ne.symm h47) hg, h.ne⟩
/-- a round's state -/
structure FbS (w W : World) (bx : Nat) (room : Int) (x : Fl) (V : Value) (zs : List FV) (H : Value) (had : List (List UInt8)) (I : Value) (inn : List Bool) : Prop where
  xb : W.heap[bx]? = some (.cells #[.int .i64 room, .int .i64 1, V] 26 (0, 0))
  o : OwF W w.heap.size V zs
  fz : fls zs = [x]
  hd : OwE senc 1 9 W w.heap.size H had
  ib : OwE benc 1 4 W w.heap.size I inn
  bw : Below w.heap.size w W
  lo : w.heap.size ≤ bx
section
variable {w W W1 : World} {bx : Nat} {room : Int} {x : Fl} {V : Value} {zs : List FV} {H I : Value} {had : List (List UInt8)} {inn : List Bool}
theorem FbS.below (h : FbS w W bx room x V zs H had I inn) (hb : Below W.heap.size W W1) : FbS w W1 bx room x V zs H had I inn :=
  ⟨keep hb h.xb, h.o.below hb, h.fz, h.hd.below hb, h.ib.below hb, h.bw.trans (hb.mono h.bw.size), h.lo⟩
theorem FbS.next {V' : Value} {zs' : List FV} {x' : Fl} (h : FbS w W bx room x V zs H had I inn) (hO : OwF W1 W.heap.size V' zs') (hf : fls zs' = [x']) (hb : Below W.heap.size W W1) : FbS w (st3 W1 bx (.int .i64 room) (.int .i64 1) V') bx room x' V' zs' H had I inn := by
  have hx := keep hb h.xb
  have hx1 := heap_set (o := 0) hx (.int .i64 room)
  have hx2 := heap_set (o := 1) hx1 (.int .i64 1)
  exact ⟨st3_box hx, st3_own (hO.lower h.bw.size) hx, hf, own_far (own_far (own_far (h.hd.below hb) hx (by decide) _ _) hx1 (by decide) _ _) hx2 (by decide) _ _,
    own_far (own_far (own_far (h.ib.below hb) hx (by decide) _ _) hx1 (by decide) _ _) hx2 (by decide) _ _, st3_below (h.bw.trans (hb.mono h.bw.size)) h.lo, h.lo⟩
theorem FbS.had_ {H' : Value} {had' : List (List UInt8)} (h : FbS w W bx room x V zs H had I inn) (hO : OwE senc 1 9 W1 w.heap.size H' had') (hg : W.grownBy W1 H.ownBlock) : FbS w W1 bx room x V zs H' had' I inn :=
  ⟨own_box h.hd h.xb (by decide) hg, h.o.grown' h.hd (by decide) (by decide) hg, h.fz, hO, own_app h.ib h.hd (by decide) hg, h.bw.grown hg h.bw.size (fun q hq => h.hd.lo q hq), h.lo⟩
theorem FbS.inn_ {I' : Value} {inn' : List Bool} (h : FbS w W bx room x V zs H had I inn) (hO : OwE benc 1 4 W1 w.heap.size I' inn') (hg : W.grownBy W1 I.ownBlock) : FbS w W1 bx room x V zs H had I' inn' :=
  ⟨own_box h.ib h.xb (by decide) hg, h.o.grown' h.ib (by decide) (by decide) hg, h.fz, own_app h.hd h.ib (by decide) hg, hO, h.bw.grown hg h.bw.size (fun q hq => h.ib.lo q hq), h.lo⟩
theorem below_trans_cell {w W1 : World} (h : Below W.heap.size W W1) (h0 : Below w.heap.size w W) {b o : Nat} (hb : b < w.heap.size) : W1.cell? ⟨b, o, none⟩ = w.cell? ⟨b, o, none⟩ :=
  (h.cell (p := ⟨b, o, none⟩) (Nat.lt_of_lt_of_le hb h0.size)).trans (h0.cell (p := ⟨b, o, none⟩) hb)
theorem conv_one (W : World) (c : UInt8) : (convert 22 9 (.slice (some ⟨W.heap.size, 0, none⟩) 1 1)).run Try.prog (W.alloc (.cells #[.int .u8 (c.toNat : Int)] 5)) = .ok (.string ⟨#[c]⟩) (W.alloc (.cells #[.int .u8 (c.toNat : Int)] 5)) := by
  refine run_convert_bytes_back (P := Try.prog) (W.alloc (.cells #[.int .u8 (c.toNat : Int)] 5)) 22 9 5 ⟨W.heap.size, 0, none⟩ 1 [c] Try.underlying22 Try.underlying5 Try.underlying9 (fun i hi => ?_)
  obtain rfl : i = 0 := by simpa using hi
  exact box_at (heap_alloc_new W _) 0 _ rfl
theorem set_grown (W : World) (b j : Nat) (u : Value) : W.grownBy (W.setCell ⟨b, j, none⟩ u) (some b) :=
  ⟨rfl, rfl, rfl, by simp, fun k _ hk => Below.heap_setCell _ _ _ _ (fun he => hk (by rw [he]))⟩
theorem FbS.hput {b off n c : Nat} (h : FbS w W bx room x V zs (.slice (some ⟨b, off, none⟩) n c) had I inn) {k : Nat} {g g' : List UInt8} (hg : had[k]? = some g) : FbS w (W.setCell ⟨b, off + k, none⟩ (str g')) bx room x V zs (.slice (some ⟨b, off, none⟩) n c) (had.set k g') I inn := by
  have := h.hd.set (i := k) (j := 0) (y' := g') (x := str g') hg (by decide) rfl
  rw [Nat.mul_one, Nat.add_zero] at this
  exact h.had_ this (set_grown W b _ _)
theorem FbS.iput {b off n c : Nat} (h : FbS w W bx room x V zs H had (.slice (some ⟨b, off, none⟩) n c) inn) {k : Nat} {g g' : Bool} (hg : inn[k]? = some g) : FbS w (W.setCell ⟨b, off + k, none⟩ (.bool g')) bx room x V zs H had (.slice (some ⟨b, off, none⟩) n c) (inn.set k g') := by
  have := h.ib.set (i := k) (j := 0) (y' := g') (x := .bool g') hg (by decide) rfl
  rw [Nat.mul_one, Nat.add_zero] at this
  exact h.inn_ this (set_grown W b _ _)
end
/-- one element, where it lies -/
theorem OwE.get1 {α : Type} {enc : α → List Value} {e : TypeId} {w : World} {base : Nat} {A : Option Addr} {n c : Nat} {es : List α} (h : OwE enc 1 e w base (.slice A n c) es) {k : Nat} {a : α} (ha : es[k]? = some a) {v : Value} (hv : enc a = [v]) : ∃ b off, A = some ⟨b, off, none⟩ ∧ w.cell? ⟨b, off + k, none⟩ = some v ∧ (∀ j, w.frozen? ⟨b, j, none⟩ = false) := by
  have hk := (List.getElem?_eq_some_iff.1 ha).1
  have hl : es.length = n := h.rd.len
  obtain ⟨b, off, hA, _, _, _, hc, hf⟩ := h.form (by omega)
  have := hc k 0 a v ha (by rw [hv]; rfl)
  rw [Nat.mul_one, Nat.add_zero] at this
  exact ⟨b, off, hA, this, hf⟩
theorem BI.sm {room : Int} {all : List UInt8} {had : List (List UInt8)} {inn : List Bool} {out : List Int} {x : Fl} (h : BI room all had inn out x) : SmF [x] := sm1 _ ⟨Nat.le_trans h.w8 (by omega), fun t ht => by
  obtain ⟨w, g, h1, h2, _⟩ := h.wst t ht
  have h3 := (List.getElem?_eq_some_iff.1 h2).1
  have h4 := h.n
  have h5 := h.hn
  unfold okI
  omega⟩
end Go.Proofs.Ytipjhokhflokmaa
