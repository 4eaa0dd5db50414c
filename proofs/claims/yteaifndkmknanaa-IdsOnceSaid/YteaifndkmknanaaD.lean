/- Contract of ids.of. -/
import Derived.Test.YteaifndkmknanaaC
set_option linter.unusedVariables false
namespace Go.Proofs.Yteaifndkmknanaa
open Go.RowKit
open Go.Proofs.YteaifndkmknanaaW.PrintWords

structure Tab where
  gens : List Int
  busy : List Bool
  free : List Int

/-- a table's value, read -/
structure TabR (w : World) (vg vb vf : Value) (t : Tab) : Prop where
  g : Rd w vg (ints t.gens)
  b : Rd w vb (bls t.busy)
  f : Rd w vf (ints t.free)
theorem TabR.below {w w1 : World} {vg vb vf : Value} {t : Tab} (h : TabR w vg vb vf t) (hb : Below w.heap.size w w1) : TabR w1 vg vb vf t := ⟨h.g.below hb, h.b.below hb, h.f.below hb⟩
structure Tab.small (t : Tab) : Prop where
  g : t.gens.length ≤ 1000
  b : t.busy.length ≤ 1000
  f : t.free.length ≤ 1000
/-- a table's value, of the call's own -/
structure TabO (w : World) (base : Nat) (vg vb vf : Value) (t : Tab) : Prop where
  g : Ow 3 w base vg (ints t.gens)
  b : Ow 4 w base vb (bls t.busy)
  f : Ow 3 w base vf (ints t.free)
  ne : ∀ k, vg.ownBlock = some k → vf.ownBlock ≠ some k
theorem TabO.r {w : World} {base : Nat} {vg vb vf : Value} {t : Tab} (h : TabO w base vg vb vf t) : TabR w vg vb vf t := ⟨h.g.rd, h.b.rd, h.f.rd⟩
theorem TabO.below {w w1 : World} {base : Nat} {vg vb vf : Value} {t : Tab} (h : TabO w base vg vb vf t) (hb : Below w.heap.size w w1) : TabO w1 base vg vb vf t := ⟨h.g.below hb, h.b.below hb, h.f.below hb, h.ne⟩
theorem TabO.lower {w : World} {base base' : Nat} {vg vb vf : Value} {t : Tab} (h : TabO w base vg vb vf t) (hb : base' ≤ base) : TabO w base' vg vb vf t := ⟨h.g.lower hb, h.b.lower hb, h.f.lower hb, h.ne⟩

theorem cells3_below {w0 w w1 : World} {B : Nat} {a b c : Value} (hb : Below w.heap.size w w1) (h : w.cell? ⟨B, 0, none⟩ = some a ∧ w.cell? ⟨B, 1, none⟩ = some b ∧ w.cell? ⟨B, 2, none⟩ = some c ∧ Below w0.heap.size w0 w) :
    w1.cell? ⟨B, 0, none⟩ = some a ∧ w1.cell? ⟨B, 1, none⟩ = some b ∧ w1.cell? ⟨B, 2, none⟩ = some c ∧ Below w0.heap.size w0 w1 := by
  have hB : B < w.heap.size := World.block_lt_of_cell? w ⟨B, 0, none⟩ h.1
  exact ⟨(hb.cell (p := ⟨B, 0, none⟩) hB).trans h.1, (hb.cell (p := ⟨B, 1, none⟩) hB).trans h.2.1, (hb.cell (p := ⟨B, 2, none⟩) hB).trans h.2.2.1, h.2.2.2.trans (hb.mono h.2.2.2.size)⟩

/-- the blocks are new -/
def FreshT (B : Nat) (vg vb vf : Value) : Prop := (∀ k, vg.ownBlock = some k → B ≤ k) ∧ (∀ k, vb.ownBlock = some k → B ≤ k) ∧ ∀ k, vf.ownBlock = some k → B ≤ k
theorem TabO.fresh {w : World} {base B : Nat} {vg vb vf : Value} {t : Tab} (h : TabO w base vg vb vf t) (hB : B ≤ base) : FreshT B vg vb vf :=
  ⟨fun k hk => Nat.le_trans hB (h.g.base k hk), fun k hk => Nat.le_trans hB (h.b.base k hk), fun k hk => Nat.le_trans hB (h.f.base k hk)⟩
theorem TabR.far {w : World} {B : Nat} {vg vb vf : Value} {t : Tab} (h : TabR w vg vb vf t) (hf : FreshT B vg vb vf) {p : Addr} (hp : p.block < B) (u : Value) : TabR (w.setCell p u) vg vb vf t :=
  ⟨h.g.far (fun k hk => by have := hf.1 k hk; omega) u, h.b.far (fun k hk => by have := hf.2.1 k hk; omega) u, h.f.far (fun k hk => by have := hf.2.2 k hk; omega) u⟩

def OfPost (w : World) (t : Tab) (e : Ending) (w' : World) : Prop :=
  ∃ bx Ag ng cg Ab nb cb Af nf cf, e = .returned (.pointer (some ⟨bx, 0, none⟩)) ∧ w'.heap[bx]? = some (.cells #[.slice Ag ng cg, .slice Ab nb cb, .slice Af nf cf] 47 (0, 0)) ∧ w.heap.size ≤ bx ∧
    TabO w' w.heap.size (.slice Ag ng cg) (.slice Ab nb cb) (.slice Af nf cf) t ∧ Below w.heap.size w w'

set_option maxHeartbeats 400000 in
theorem of_any (w : World) (vg vb vf : Value) (t : Tab) (ht : TabR w vg vb vf t) (hs : t.small) :
    Calls Try.prog 22 #[.agg #[vg, vb, vf]] w (OfPost w t) := by
  have HT := Lib.hid ht
  clear ht
  go_enter Try.func22, Try.ntmps22
  go_wp2_with fail
  go_region_held3 (fun w' => w'.cell? ⟨w.heap.size, 0, none⟩ = some vg ∧ w'.cell? ⟨w.heap.size, 1, none⟩ = some vb ∧ w'.cell? ⟨w.heap.size, 2, none⟩ = some vf ∧ Below w.heap.size w w')
    (first | (exact ⟨by simp, by simp, by simp, (((Below.refl _ _).alloc (Nat.le_refl _) _).drew)⟩) | (refine cells3_below ?_ ‹_›; assumption) | (refine cells3_below ((Below.refl _ _).alloc (Nat.le_refl _) _) ‹_›))
    (first
     | (go_at_call_of 28 vg; refine (clone_ints _ vg t.gens (HT.out.g.below (‹_ ∧ _ ∧ _ ∧ Below w.heap.size w _›).2.2.2) hs.g).mono ?_; rintro e w' ⟨Ag, ng, cg, rfl, hg1, hb1⟩)
     | (go_at_call_of 29 vb; refine (clone_bls _ vb t.busy (HT.out.b.below (‹_ ∧ _ ∧ _ ∧ Below w.heap.size w _›).2.2.2) hs.b).mono ?_; rintro e w' ⟨Ab, nb, cb, rfl, hg2, hb2⟩)
     | (go_at_call_of 28 vf; refine (clone_ints _ vf t.free (HT.out.f.below (‹_ ∧ _ ∧ _ ∧ Below w.heap.size w _›).2.2.2) hs.f).mono ?_; rintro e w' ⟨Af, nf, cf, rfl, hg3, hb3⟩))
  go_wp2
  go_ret
  have hB := (‹_ ∧ _ ∧ _ ∧ Below w.heap.size w _› : _ ∧ _ ∧ _ ∧ _).2.2.2
  have e1 := hb1.size
  have e2 := hb2.size
  have e3 := hb3.size
  have e0 : (w.alloc (Obj.cells #[vg, vb, vf] 25)).drew.heap.size = w.heap.size + 1 := by simp
  refine ⟨_, Ag, ng, cg, Ab, nb, cb, Af, nf, cf, rfl, heap_alloc_new _ _, by omega, ?_, hB⟩
  refine TabO.below ?_ ((Below.refl _ _).alloc (Nat.le_refl _) _)
  refine ⟨((hg1.below hb2).below hb3).lower (by omega), (hg2.below hb3).lower (by omega), hg3.lower (by omega), fun k hk hk2 => ?_⟩
  have l1 := hg1.lt k hk
  have l3 := hg3.base k hk2
  omega
end Go.Proofs.Yteaifndkmknanaa
