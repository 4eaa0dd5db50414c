/- quote.short. -/
import Derived.Test.YthlijkpeafgenaaDoorI
import Derived.Maps.OwnOps
set_option linter.unusedVariables false
set_option linter.unusedSimpArgs false
namespace Go.Proofs.YthlijkpeafgenaaDoor
open Go.RowKit Go.Maps
open Go.Proofs.YthlijkpeafgenaaDoorW.PrintWords

theorem keyed21 : Keyed Tryd.prog 21 := int_keyed Tryd.underlying21
noncomputable abbrev RE : Value → Option (DataW Unit × List MemPlace) := plainElem Tryd.prog 21
theorem wf32 {n : Int} (h0 : -2147483648 ≤ n) (h1 : n ≤ 2147483647) : (Lit.int .i32 n).wf = true := by simp [Lit.wf, IntKind.max, IntKind.min, IntKind.signed, IntKind.bits]; omega
theorem put_run {w : World} {b n : Nat} {D : DataW Unit} (h : w.ownsMap Tryd.prog 21 RE b n D) (hn : n < 100) (k v : Int) (hk0 : -2147483648 ≤ k) (hk1 : k ≤ 2147483647) (hv0 : -2147483648 ≤ v) (hv1 : v ≤ 2147483647) :
    ∃ w', (Instr.mapUpdate 59 (.map (some b)) (.int .i32 k) (.int .i32 v)).run Tryd.prog w = .ok () w' ∧ w'.ownsMap Tryd.prog 21 RE b (n + 1) (D.put (.int .i32 k) (.lit (.int .i32 v))) ∧ w.grownBy w' (some b) :=
  h.update keyed21 Tryd.underlying59 (by simp only [maxLen]; omega) (keyOf_int_mk Tryd.underlying21 (wf32 hk0 hk1)) (plainElem_int Tryd.underlying21 (wf32 hv0 hv1))
noncomputable def shortD : DataW Unit := ((((((((DataW.map []).put (.int .i32 34) (.lit (.int .i32 34))).put (.int .i32 92) (.lit (.int .i32 92))).put (.int .i32 47) (.lit (.int .i32 47))).put (.int .i32 98) (.lit (.int .i32 8))).put (.int .i32 102) (.lit (.int .i32 12))).put (.int .i32 110) (.lit (.int .i32 10))).put (.int .i32 114) (.lit (.int .i32 13))).put (.int .i32 116) (.lit (.int .i32 9))
set_option maxHeartbeats 2000000 in
theorem short_any (w : World) : Calls Tryd.prog 26 #[] w fun e w' => e = .returned (.map (some w.heap.size)) ∧ w'.ownsMap Tryd.prog 21 RE w.heap.size 8 shortD ∧ Below w.heap.size w w' := by
  have hmm := @run_makeMap Tryd.prog
  have h0 := World.ownsMap_made w Tryd.prog 21 RE
  obtain ⟨w1, r1, h1, g1⟩ := put_run h0 (by omega) 34 34 (by omega) (by omega) (by omega) (by omega)
  obtain ⟨w2, r2, h2, g2⟩ := put_run h1 (by omega) 92 92 (by omega) (by omega) (by omega) (by omega)
  obtain ⟨w3, r3, h3, g3⟩ := put_run h2 (by omega) 47 47 (by omega) (by omega) (by omega) (by omega)
  obtain ⟨w4, r4, h4, g4⟩ := put_run h3 (by omega) 98 8 (by omega) (by omega) (by omega) (by omega)
  obtain ⟨w5, r5, h5, g5⟩ := put_run h4 (by omega) 102 12 (by omega) (by omega) (by omega) (by omega)
  obtain ⟨w6, r6, h6, g6⟩ := put_run h5 (by omega) 110 10 (by omega) (by omega) (by omega) (by omega)
  obtain ⟨w7, r7, h7, g7⟩ := put_run h6 (by omega) 114 13 (by omega) (by omega) (by omega) (by omega)
  obtain ⟨w8, r8, h8, g8⟩ := put_run h7 (by omega) 116 9 (by omega) (by omega) (by omega) (by omega)
  have hs : ∀ q, some w.heap.size = some q → w.heap.size ≤ q := fun q hq => by cases hq; exact Nat.le_refl _
  have b0 : Below w.heap.size w (w.alloc (.map #[] 0)) := (Below.refl _ _).alloc (Nat.le_refl _) _
  have b1 := b0.grown g1 b0.size hs
  have b2 := b1.grown g2 b1.size hs
  have b3 := b2.grown g3 b2.size hs
  have b4 := b3.grown g4 b3.size hs
  have b5 := b4.grown g5 b4.size hs
  have b6 := b5.grown g6 b5.size hs
  have b7 := b6.grown g7 b6.size hs
  have B8 := Lib.hid (b7.grown g8 b7.size hs)
  have H8 := Lib.hid h8
  clear b0 b1 b2 b3 b4 b5 b6 b7 g1 g2 g3 g4 g5 g6 g7 g8 h0 h1 h2 h3 h4 h5 h6 h7 h8 hs
  go_enter Tryd.func26, Tryd.ntmps26
  go_wp2_with fail
  go_ret
  exact ⟨rfl, H8.out, B8.out⟩
end Go.Proofs.YthlijkpeafgenaaDoor
