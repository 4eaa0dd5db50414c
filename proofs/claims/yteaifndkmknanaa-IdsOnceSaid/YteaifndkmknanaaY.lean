/- Contracts of lockageref02.Ints and Same, where both are the same. -/
import Derived.Test.YteaifndkmknanaaX
set_option linter.unusedVariables false
namespace Go.Proofs.Yteaifndkmknanaa
open Go.RowKit
open Go.Proofs.YteaifndkmknanaaW.PrintWords

set_option maxHeartbeats 400000 in
theorem ints_same (w : World) (A : Option Addr) (n c : Nat) (A' : Option Addr) (n' c' : Nat) (xs : List Int) (h : Rd w (.slice A n c) (ints xs)) (h' : Rd w (.slice A' n' c') (ints xs)) :
    Calls Try.prog 21 #[.slice A n c, .slice A' n' c'] w fun e w' => e = .returned (.bool true) ∧ Below w.heap.size w w' := by
  have l := h.len
  have l' := h'.len
  rw [ints_len] at l l'
  have hm : xs.length ≤ 9223372036854775807 := by obtain ⟨_, _, _, _, hm, _⟩ := h; rwa [ints_len] at hm
  subst l
  subst l'
  have H := Lib.hid h
  have H' := Lib.hid h'
  clear h h'
  go_enter Try.func21, Try.ntmps21
  go_wp2_with fail
  go_loopg [5] xs.length (fun gg s5 wr => ∃ kk : Nat, kk ≤ xs.length ∧ xs.length - kk ≤ gg ∧ s5 = .int .i64 kk ∧ Below w.heap.size w wr)
  case atStart => exact ⟨0, Nat.zero_le _, by omega, rfl, Below.refl _ _⟩
  case round =>
    obtain ⟨kk, hkk, hg, rfl, hB⟩ := hrel
    by_cases hlt : kk < xs.length
    · have hltz : (kk : Int) < (xs.length : Int) := by omega
      obtain ⟨b, off, rfl, hbl, hc⟩ := H.out.get (by omega)
      obtain ⟨b', off', rfl, hbl', hc'⟩ := H'.out.get (by omega)
      have k1 := (hB.cell (p := ⟨b, off + kk, none⟩) hbl).trans (hc kk _ (ints_at hlt))
      have k2 := (hB.cell (p := ⟨b', off' + kk, none⟩) hbl').trans (hc' kk _ (ints_at hlt))
      generalize xs[kk] = x at k1 k2
      clear hc hc'
      go_wp2
      go_quiet (fail)
      go_wp2
      go_roundg (xs.length - (kk + 1))
      case measure => omega
      case rel => exact ⟨kk + 1, by omega, by omega, by go_num, pw_below_drewN hB _⟩
    · have hltz : ¬ (kk : Int) < (xs.length : Int) := by omega
      go_wp2
      go_ret
      exact ⟨rfl, hB⟩

set_option maxHeartbeats 1000000 in
theorem same_any (w : World) (Ag : Option Addr) (ng cg : Nat) (Ab : Option Addr) (nb cb : Nat) (Af : Option Addr) (nf cf : Nat) (t : Tab) (ht : TabR w (.slice Ag ng cg) (.slice Ab nb cb) (.slice Af nf cf) t)
    (Ag' : Option Addr) (ng' cg' : Nat) (Ab' : Option Addr) (nb' cb' : Nat) (Af' : Option Addr) (nf' cf' : Nat) (ht' : TabR w (.slice Ag' ng' cg') (.slice Ab' nb' cb') (.slice Af' nf' cf') t) :
    Calls Try.prog 9 #[.agg #[.slice Ag ng cg, .slice Ab nb cb, .slice Af nf cf], .agg #[.slice Ag' ng' cg', .slice Ab' nb' cb', .slice Af' nf' cf']] w fun e w' => e = .returned (.bool true) ∧ Below w.heap.size w w' := by
  have l := ht.b.len
  have l' := ht'.b.len
  rw [bls_len] at l l'
  have hm : t.busy.length ≤ 9223372036854775807 := by obtain ⟨_, _, _, _, hm, _⟩ := ht.b; rwa [bls_len] at hm
  subst l
  subst l'
  have H := Lib.hid ht
  have H' := Lib.hid ht'
  clear ht ht'
  go_enter Try.func9, Try.ntmps9
  go_wp2_with fail
  go_loopg [5] t.busy.length (fun gg s5 wr => ∃ kk : Nat, kk ≤ t.busy.length ∧ t.busy.length - kk ≤ gg ∧ s5 = .int .i64 kk ∧ Below w.heap.size w wr ∧
     wr.cell? ⟨w.heap.size, 0, none⟩ = some (.slice Ag ng cg) ∧ wr.cell? ⟨w.heap.size, 1, none⟩ = some (.slice Ab t.busy.length cb) ∧ wr.cell? ⟨w.heap.size, 2, none⟩ = some (.slice Af nf cf) ∧
     wr.cell? ⟨w.heap.size + 1, 0, none⟩ = some (.slice Ag' ng' cg') ∧ wr.cell? ⟨w.heap.size + 1, 1, none⟩ = some (.slice Ab' t.busy.length cb') ∧ wr.cell? ⟨w.heap.size + 1, 2, none⟩ = some (.slice Af' nf' cf') ∧ w.heap.size + 2 ≤ wr.heap.size)
  case atStart => exact ⟨0, Nat.zero_le _, by omega, rfl, ((Below.refl _ _).alloc (Nat.le_refl _) _).alloc (by simp) _, by simp, by simp, by simp, by simp, by simp, by simp, by simp⟩
  case round =>
    obtain ⟨kk, hkk, hg, rfl, hB, y0, y1, y2, y3, y4, y5, hsz⟩ := hrel
    by_cases hlt : kk < t.busy.length
    · have hltz : (kk : Int) < (t.busy.length : Int) := by omega
      obtain ⟨b, off, rfl, hbl, hc⟩ := H.out.b.get (by omega)
      obtain ⟨b', off', rfl, hbl', hc'⟩ := H'.out.b.get (by omega)
      have k1 := (hB.cell (p := ⟨b, off + kk, none⟩) hbl).trans (hc kk _ (bls_at hlt))
      have k2 := (hB.cell (p := ⟨b', off' + kk, none⟩) hbl').trans (hc' kk _ (bls_at hlt))
      generalize t.busy[kk] = x at k1 k2
      clear hc hc'
      go_wp2
      go_quiet (fail)
      go_wp2
      go_roundg (t.busy.length - (kk + 1))
      case measure => omega
      case rel => exact ⟨kk + 1, by omega, by omega, by go_num, pw_below_drewN hB _, by simpa using y0, by simpa using y1, by simpa using y2, by simpa using y3, by simpa using y4, by simpa using y5, by simpa using hsz⟩
    · have hltz : ¬ (kk : Int) < (t.busy.length : Int) := by omega
      go_wp2_with (first
        | (go_at_call_of 21 (Value.slice Ag ng cg)
           refine (ints_same _ Ag ng cg Ag' ng' cg' t.gens (H.out.g.below hB) (H'.out.g.below hB)).mono ?_
           rintro e w1 ⟨rfl, hb1⟩
           obtain ⟨hc, _⟩ := bcell hb1
           have y2 := (hc _ _ (by omega)).trans y2
           have y5 := (hc _ _ (by omega)).trans y5
           clear hc
           have hB1 := hB.trans (hb1.mono hB.size))
        | (go_at_call_of 21 (Value.slice Af nf cf)
           refine (ints_same _ Af nf cf Af' nf' cf' t.free (H.out.f.below hB1) (H'.out.f.below hB1)).mono ?_
           rintro e w2 ⟨rfl, hb2⟩))
      go_ret
      exact ⟨rfl, hB1.trans (hb2.mono hB1.size)⟩
end Go.Proofs.Yteaifndkmknanaa
