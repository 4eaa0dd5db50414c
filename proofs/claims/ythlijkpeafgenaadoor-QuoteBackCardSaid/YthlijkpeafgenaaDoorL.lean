/- What is looked up in quote.short. -/
import Derived.Test.YthlijkpeafgenaaDoorJ
set_option linter.unusedVariables false
set_option linter.unusedSimpArgs false
namespace Go.Proofs.YthlijkpeafgenaaDoor
open Go.RowKit Go.Maps
open Go.Proofs.YthlijkpeafgenaaDoorW.PrintWords

/-- what an escape of one letter stands for; false: it is none -/
def shortQ (c : Int) : Int × Bool := if c = 116 then (9, true) else if c = 114 then (13, true) else if c = 110 then (10, true) else if c = 102 then (12, true) else if c = 98 then (8, true) else if c = 47 then (47, true) else if c = 92 then (92, true) else if c = 34 then (34, true) else (0, false)
theorem at_put (D : DataW Unit) (hD : IsMap D) (k v c : Int) (zd : DataW Unit) : (D.put (.int .i32 k) (.lit (.int .i32 v))).atKey (.int .i32 c) zd = if c = k then .lit (.int .i32 v) else D.atKey (.int .i32 c) zd := by
  by_cases h : c = k
  · subst h
    rw [if_pos rfl, atKey_put_same hD (show WideAt.IsKeyLit (.int .i32 c) from trivial)]
  · rw [if_neg h, atKey_put_other (by intro e; injection e with _ e; exact h e)]
theorem at_short (c : Int) (zd : DataW Unit) : shortD.atKey (.int .i32 c) zd = if (shortQ c).2 = true then .lit (.int .i32 (shortQ c).1) else zd := by
  unfold shortD
  have m0 : IsMap (DataW.map [] : DataW Unit) := isMap_empty
  rw [at_put _ (m0.put _ _ |>.put _ _ |>.put _ _ |>.put _ _ |>.put _ _ |>.put _ _ |>.put _ _), at_put _ (m0.put _ _ |>.put _ _ |>.put _ _ |>.put _ _ |>.put _ _ |>.put _ _), at_put _ (m0.put _ _ |>.put _ _ |>.put _ _ |>.put _ _ |>.put _ _), at_put _ (m0.put _ _ |>.put _ _ |>.put _ _ |>.put _ _), at_put _ (m0.put _ _ |>.put _ _ |>.put _ _), at_put _ (m0.put _ _ |>.put _ _), at_put _ (m0.put _ _), at_put _ m0]
  have he : (DataW.map [] : DataW Unit).atKey (.int .i32 c) zd = zd := rfl
  rw [he]
  unfold shortQ
  repeat' split
  all_goals first | rfl | simp_all
theorem short_look {w : World} {b n : Nat} (h : w.ownsMap Tryd.prog 21 RE b n shortD) (c : Int) (h0 : -2147483648 ≤ c) (h1 : c ≤ 2147483647) :
    (Instr.lookup 59 (.map (some b)) (.int .i32 c) true).run Tryd.prog w = .ok (.tuple #[.int .i32 (shortQ c).1, .bool (shortQ c).2]) w := by
  obtain ⟨es, clock, hb, F, _, hD⟩ := h
  have hat := at_short c
  rw [hD] at hat
  rcases Maps.fit_look true keyed21 Tryd.underlying59 (Tryd.zeroValue21 w) hb F (keyOf_int_mk Tryd.underlying21 (wf32 h0 h1)) with ⟨hrun, _, hz⟩ | ⟨e0, y, _, _, hrun, hR, hz, _⟩
  · have hq : (shortQ c).2 = false := by
      cases hq : (shortQ c).2 with
      | false => rfl
      | true =>
        have e1 := (hat (.lit (.bool true))).symm.trans (hz (.lit (.bool true)))
        rw [hq, if_pos rfl] at e1
        cases e1
    have hv : shortQ c = (0, false) := by
      unfold shortQ at hq ⊢
      repeat' split at hq
      all_goals first | (simp at hq; done) | skip
      repeat' split
      all_goals first | rfl | contradiction
    rw [hrun, hv]
    rfl
  · have e1 := (hat (.lit (.bool true))).symm.trans (hz (.lit (.bool true)))
    have e2 := (hat (.lit (.bool false))).symm.trans (hz (.lit (.bool false)))
    cases hq : (shortQ c).2 with
    | false =>
      rw [hq] at e1 e2
      simp only [Bool.false_eq_true, if_false] at e1 e2
      rw [← e1] at e2
      cases e2
    | true =>
      rw [hq, if_pos rfl] at e1
      obtain ⟨a, hv, hy, _⟩ := plainElem_int_inv Tryd.underlying21 hR
      rw [hy] at e1
      injection e1 with e1
      injection e1 with _ e1
      rw [hrun, hv, ← e1]
      rfl
end Go.Proofs.YthlijkpeafgenaaDoor
