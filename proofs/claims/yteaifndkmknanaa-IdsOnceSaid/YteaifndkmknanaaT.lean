/- Contract of lockageref02.own. -/
import Derived.Test.YteaifndkmknanaaI
import Derived.Test.YteaifndkmknanaaJ
set_option linter.unusedVariables false
namespace Go.Proofs.Yteaifndkmknanaa
open Go.RowKit
open Go.Proofs.YteaifndkmknanaaW.PrintWords

/-- two boxes, of three cells each (what the second holds is open); new memory since w -/
def S6 (w : World) (a b c : Value) (w' : World) : Prop :=
  w'.cell? ⟨w.heap.size, 0, none⟩ = some a ∧ w'.cell? ⟨w.heap.size, 1, none⟩ = some b ∧ w'.cell? ⟨w.heap.size, 2, none⟩ = some c ∧
  w'.cell? ⟨w.heap.size + 1, 0, none⟩ = some (cellv w' (w.heap.size + 1) 0) ∧ w'.cell? ⟨w.heap.size + 1, 1, none⟩ = some (cellv w' (w.heap.size + 1) 1) ∧ w'.cell? ⟨w.heap.size + 1, 2, none⟩ = some (cellv w' (w.heap.size + 1) 2) ∧ (∀ j, w'.frozen? ⟨w.heap.size + 1, j, none⟩ = false) ∧ w.heap.size + 2 ≤ w'.heap.size ∧ Below w.heap.size w w'
theorem S6.below {w w1 w2 : World} {a b c : Value} (hb : Below w1.heap.size w1 w2) (h : S6 w a b c w1) : S6 w a b c w2 := by
  obtain ⟨h0, h1, h2, h3, h4, h5, h6, h7, h8⟩ := h
  obtain ⟨hc, hf⟩ := bcell hb
  refine ⟨?_, ?_, ?_, ?_, ?_, ?_, fun j => ?_, Nat.le_trans h7 hb.size, h8.trans (hb.mono h8.size)⟩
  · rw [hc _ _ (by omega)]; exact h0
  · rw [hc _ _ (by omega)]; exact h1
  · rw [hc _ _ (by omega)]; exact h2
  · exact cellv_of (by rw [hc _ _ (by omega)]; exact h3)
  · exact cellv_of (by rw [hc _ _ (by omega)]; exact h4)
  · exact cellv_of (by rw [hc _ _ (by omega)]; exact h5)
  · rw [hf _ _ (by omega)]; exact h6 j
theorem S6.set {w w1 : World} {a b c : Value} (h : S6 w a b c w1) (o : Nat) (u : Value) : S6 w a b c (w1.setCell ⟨w.heap.size + 1, o, none⟩ u) := by
  obtain ⟨h0, h1, h2, h3, h4, h5, h6, h7, h8⟩ := h
  have f : ∀ o', (w1.setCell ⟨w.heap.size + 1, o, none⟩ u).cell? ⟨w.heap.size, o', none⟩ = w1.cell? ⟨w.heap.size, o', none⟩ := fun o' =>
    World.cell?_of_block (w := w1) (w' := w1.setCell _ u) (Below.heap_setCell w1 ⟨w.heap.size + 1, o, none⟩ u w.heap.size (by simp))
  exact ⟨by rw [f]; exact h0, by rw [f]; exact h1, by rw [f]; exact h2, cellv_set h3 _ _, cellv_set h4 _ _, cellv_set h5 _ _, fun j => by rw [frozen_set]; exact h6 j, by simpa [World.setCell] using h7, h8.setCell (by simp) _⟩
theorem S6.start {w : World} {a b c a' b' c' : Value} {T U : TypeId} : S6 w a b c (((w.alloc (.cells #[a, b, c] T)).alloc (.cells #[a', b', c'] U)).drew) :=
  ⟨by simp, by simp, by simp, cellv_of (v := a') (by simp), cellv_of (v := b') (by simp), cellv_of (v := c') (by simp), fun j => by simp, by simp, (((Below.refl _ _).alloc (Nat.le_refl _) _).alloc (by simp) _).drew⟩

def OwnPost (w : World) (t : Tab) (e : Ending) (w' : World) : Prop :=
  ∃ Ag ng cg Ab nb cb Af nf cf, e = .returned (.agg #[.slice Ag ng cg, .slice Ab nb cb, .slice Af nf cf]) ∧ TabO w' w.heap.size (.slice Ag ng cg) (.slice Ab nb cb) (.slice Af nf cf) t ∧ Below w.heap.size w w'

set_option maxHeartbeats 1000000 in
theorem own_any (w : World) (Ag : Option Addr) (ng cg : Nat) (Ab : Option Addr) (nb cb : Nat) (Af : Option Addr) (nf cf : Nat) (t : Tab) (ht : TabR w (.slice Ag ng cg) (.slice Ab nb cb) (.slice Af nf cf) t) (hs : t.small) :
    Calls Try.prog 27 #[.agg #[.slice Ag ng cg, .slice Ab nb cb, .slice Af nf cf]] w (OwnPost w t) := by
  have HT := Lib.hid ht
  clear ht
  go_enter Try.func27, Try.ntmps27
  go_wp2_with fail
  go_region_held3 (fun w' => w'.cell? ⟨w.heap.size, 0, none⟩ = some (.slice Ag ng cg) ∧ w'.cell? ⟨w.heap.size, 1, none⟩ = some (.slice Ab nb cb) ∧ w'.cell? ⟨w.heap.size, 2, none⟩ = some (.slice Af nf cf) ∧
      w'.cell? ⟨w.heap.size + 1, 0, none⟩ = some (cellv w' (w.heap.size + 1) 0) ∧ w'.cell? ⟨w.heap.size + 1, 1, none⟩ = some (cellv w' (w.heap.size + 1) 1) ∧ w'.cell? ⟨w.heap.size + 1, 2, none⟩ = some (cellv w' (w.heap.size + 1) 2) ∧ (∀ j, w'.frozen? ⟨w.heap.size + 1, j, none⟩ = false) ∧ w.heap.size + 2 ≤ w'.heap.size ∧ Below w.heap.size w w')
    (first | exact S6.start | (refine S6.below (below_of_grown ?_) ‹_›; assumption) | exact ((S6.set ‹_› 0 _).set 1 _).set 2 _)
    (first
     | (refine wp_app_step (w.heap.size + 2) (by rfl) _ _ 22 3 (.int .i64 0) 8 (by rfl) Try.underlying22 Try.info3 rfl (by omega) (.slice none 0 0) (.slice Ag ng cg) [] (ints t.gens) (by rfl) (by rfl) (Ow.nil _ _ _) (HT.out.g.below (‹S6 w _ _ _ _›).2.2.2.2.2.2.2.2) (ints_one _) (by rw [ints_len]; have := hs.g; simp; omega) (‹S6 w _ _ _ _›).2.2.2.2.2.2.2.1 ?_; intro v1 w1 hg1 hr1 hat1; obtain ⟨A1, n1, c1, rfl⟩ := hg1.slice')
     | (refine wp_app_step (w.heap.size + 2) (by rfl) _ _ 23 4 (.bool false) 1 (by rfl) Try.underlying23 Try.info4 rfl (by omega) (.slice none 0 0) (.slice Ab nb cb) [] (bls t.busy) (by rfl) (by rfl) (Ow.nil _ _ _) (HT.out.b.below (‹S6 w _ _ _ _›).2.2.2.2.2.2.2.2) (bls_one _) (by rw [bls_len]; have := hs.b; simp; omega) (‹S6 w _ _ _ _›).2.2.2.2.2.2.2.1 ?_; intro v2 w2 hg2 hr2 hat2; obtain ⟨A2, n2, c2, rfl⟩ := hg2.slice')
     | (refine wp_app_step (w.heap.size + 2) (by rfl) _ _ 22 3 (.int .i64 0) 8 (by rfl) Try.underlying22 Try.info3 rfl (by omega) (.slice none 0 0) (.slice Af nf cf) [] (ints t.free) (by rfl) (by rfl) (Ow.nil _ _ _) (HT.out.f.below (‹S6 w _ _ _ _›).2.2.2.2.2.2.2.2) (ints_one _) (by rw [ints_len]; have := hs.f; simp; omega) (‹S6 w _ _ _ _›).2.2.2.2.2.2.2.1 ?_; intro v3 w3 hg3 hr3 hat3; obtain ⟨A3, n3, c3, rfl⟩ := hg3.slice'))
  have b1 := below_of_grown hr1
  have b2 := below_of_grown hr2
  have b3 := below_of_grown hr3
  have h6 := ((((S6.start : S6 w (.slice Ag ng cg) (.slice Ab nb cb) (.slice Af nf cf) _)).below b1).below b2).below b3
  obtain ⟨_, _, _, r0, r1, r2, rf, hsz, hbel⟩ := h6
  go_wp2
  refine bodyPost_ret (v := .agg #[.slice A1 n1 c1, .slice A2 n2 c2, .slice A3 n3 c3]) (by simp [results, Try.results27, go_sem, r0, r1, r2]) rfl ?_
  refine ⟨A1, n1, c1, A2, n2, c2, A3, n3, c3, rfl, ?_, ((hbel.setCell (by simp) _).setCell (by simp) _).setCell (by simp) _⟩
  refine TabO.lower (base := w.heap.size + 2) ?_ (by omega)
  refine TabO.far (TabO.far (TabO.far ?_ (by simp) _) (by simp) _) (by simp) _
  refine ⟨(hg1.below b2).below b3, hg2.below b3, hg3, fun k hk hk2 => ?_⟩
  have l1 := hg1.lt k hk
  have l2 := b2.size
  rcases hat3 with h | ⟨b, h, hle⟩
  · rw [h] at hk2; simp [Value.ownBlock] at hk2
  · rw [h] at hk2
    injection hk2 with hk2
    omega
end Go.Proofs.Yteaifndkmknanaa
