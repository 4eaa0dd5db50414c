/- Contracts of pool.Again and of the reference's. -/
import Derived.Test.YtjomenldmojnjaaV
set_option linter.unusedVariables false
set_option linter.unusedSimpArgs false
namespace Go.Proofs.Ytjomenldmojnjaa
open Go.RowKit
open Go.Proofs.YtjomenldmojnjaaW.PrintWords

def safeB (s : ByteArray) : Bool := s.toList == [71, 69, 84] || s.toList == [72, 69, 65, 68] || s.toList == [80, 85, 84] || s.toList == [68, 69, 76, 69, 84, 69] || s.toList == [79, 80, 84, 73, 79, 78, 83]
def tailB (t m : Int) (b : Bool) (e : Int) : Bool := !b && (decide (1 ≤ t) && (decide (t < m) && (e == 51 || e == 52)))
def againB (s : ByteArray) (t m : Int) (b : Bool) (e : Int) : Bool := safeB s && tailB t m b e

set_option maxHeartbeats 4000000 in
theorem again_any (w : World) (s : ByteArray) (t m e : Int) (b : Bool) : Calls Try.prog 11 #[.string s, .int .i64 t, .int .i64 m, .bool b, .int .i64 e] w fun e' w' => e' = .returned (.bool (againB s t m b e)) ∧ w' = w := by
  cases h0 : (s.toList == [71, 69, 84]) with
  | true =>
    have HS := Lib.hid (show againB s t m b e = tailB t m b e by simp [againB, safeB, h0])
    rw [HS.out]
    cases b with
    | true =>
      go_enter Try.func11, Try.ntmps11
      go_wp2_with fail
      all_goals (go_ret; exact ⟨ret_bool (by simp [tailB]), rfl⟩)
    | false =>
      by_cases c1 : 1 ≤ t
      · by_cases c2 : t < m
        · go_enter Try.func11, Try.ntmps11
          go_wp2_with fail
          all_goals (go_ret; refine ⟨ret_bool ?_, rfl⟩; first | (simp [tailB, c1, c2]; done) | (subst_vars; simp [tailB, c1, c2]; done) | (simp [tailB, c1, c2, *]; done))
        · go_enter Try.func11, Try.ntmps11
          go_wp2_with fail
          all_goals (go_ret; exact ⟨ret_bool (by simp [tailB]; omega), rfl⟩)
      · go_enter Try.func11, Try.ntmps11
        go_wp2_with fail
        all_goals (go_ret; exact ⟨ret_bool (by simp [tailB]; omega), rfl⟩)
  | false =>
    cases h1 : (s.toList == [72, 69, 65, 68]) with
    | true =>
      have HS := Lib.hid (show againB s t m b e = tailB t m b e by simp [againB, safeB, h0, h1])
      rw [HS.out]
      cases b with
      | true =>
        go_enter Try.func11, Try.ntmps11
        go_wp2_with fail
        all_goals (go_ret; exact ⟨ret_bool (by simp [tailB]), rfl⟩)
      | false =>
        by_cases c1 : 1 ≤ t
        · by_cases c2 : t < m
          · go_enter Try.func11, Try.ntmps11
            go_wp2_with fail
            all_goals (go_ret; refine ⟨ret_bool ?_, rfl⟩; first | (simp [tailB, c1, c2]; done) | (subst_vars; simp [tailB, c1, c2]; done) | (simp [tailB, c1, c2, *]; done))
          · go_enter Try.func11, Try.ntmps11
            go_wp2_with fail
            all_goals (go_ret; exact ⟨ret_bool (by simp [tailB]; omega), rfl⟩)
        · go_enter Try.func11, Try.ntmps11
          go_wp2_with fail
          all_goals (go_ret; exact ⟨ret_bool (by simp [tailB]; omega), rfl⟩)
    | false =>
      cases h2 : (s.toList == [80, 85, 84]) with
      | true =>
        have HS := Lib.hid (show againB s t m b e = tailB t m b e by simp [againB, safeB, h0, h1, h2])
        rw [HS.out]
        cases b with
        | true =>
          go_enter Try.func11, Try.ntmps11
          go_wp2_with fail
          all_goals (go_ret; exact ⟨ret_bool (by simp [tailB]), rfl⟩)
        | false =>
          by_cases c1 : 1 ≤ t
          · by_cases c2 : t < m
            · go_enter Try.func11, Try.ntmps11
              go_wp2_with fail
              all_goals (go_ret; refine ⟨ret_bool ?_, rfl⟩; first | (simp [tailB, c1, c2]; done) | (subst_vars; simp [tailB, c1, c2]; done) | (simp [tailB, c1, c2, *]; done))
            · go_enter Try.func11, Try.ntmps11
              go_wp2_with fail
              all_goals (go_ret; exact ⟨ret_bool (by simp [tailB]; omega), rfl⟩)
          · go_enter Try.func11, Try.ntmps11
            go_wp2_with fail
            all_goals (go_ret; exact ⟨ret_bool (by simp [tailB]; omega), rfl⟩)
      | false =>
        cases h3 : (s.toList == [68, 69, 76, 69, 84, 69]) with
        | true =>
          have HS := Lib.hid (show againB s t m b e = tailB t m b e by simp [againB, safeB, h0, h1, h2, h3])
          rw [HS.out]
          cases b with
          | true =>
            go_enter Try.func11, Try.ntmps11
            go_wp2_with fail
            all_goals (go_ret; exact ⟨ret_bool (by simp [tailB]), rfl⟩)
          | false =>
            by_cases c1 : 1 ≤ t
            · by_cases c2 : t < m
              · go_enter Try.func11, Try.ntmps11
                go_wp2_with fail
                all_goals (go_ret; refine ⟨ret_bool ?_, rfl⟩; first | (simp [tailB, c1, c2]; done) | (subst_vars; simp [tailB, c1, c2]; done) | (simp [tailB, c1, c2, *]; done))
              · go_enter Try.func11, Try.ntmps11
                go_wp2_with fail
                all_goals (go_ret; exact ⟨ret_bool (by simp [tailB]; omega), rfl⟩)
            · go_enter Try.func11, Try.ntmps11
              go_wp2_with fail
              all_goals (go_ret; exact ⟨ret_bool (by simp [tailB]; omega), rfl⟩)
        | false =>
          cases h4 : (s.toList == [79, 80, 84, 73, 79, 78, 83]) with
          | true =>
            have HS := Lib.hid (show againB s t m b e = tailB t m b e by simp [againB, safeB, h0, h1, h2, h3, h4])
            rw [HS.out]
            cases b with
            | true =>
              go_enter Try.func11, Try.ntmps11
              go_wp2_with fail
              all_goals (go_ret; exact ⟨ret_bool (by simp [tailB]), rfl⟩)
            | false =>
              by_cases c1 : 1 ≤ t
              · by_cases c2 : t < m
                · go_enter Try.func11, Try.ntmps11
                  go_wp2_with fail
                  all_goals (go_ret; refine ⟨ret_bool ?_, rfl⟩; first | (simp [tailB, c1, c2]; done) | (subst_vars; simp [tailB, c1, c2]; done) | (simp [tailB, c1, c2, *]; done))
                · go_enter Try.func11, Try.ntmps11
                  go_wp2_with fail
                  all_goals (go_ret; exact ⟨ret_bool (by simp [tailB]; omega), rfl⟩)
              · go_enter Try.func11, Try.ntmps11
                go_wp2_with fail
                all_goals (go_ret; exact ⟨ret_bool (by simp [tailB]; omega), rfl⟩)
          | false =>
            have HS := Lib.hid (show againB s t m b e = false by simp [againB, safeB, h0, h1, h2, h3, h4])
            rw [HS.out]
            go_enter Try.func11, Try.ntmps11
            go_wp2_with fail
            all_goals (go_ret; exact ⟨ret_bool (by simp), rfl⟩)

set_option maxHeartbeats 4000000 in
theorem ragain_any (w : World) (s : ByteArray) (t m e : Int) (b : Bool) : Calls Try.prog 12 #[.string s, .int .i64 t, .int .i64 m, .bool b, .int .i64 e] w fun e' w' => e' = .returned (.bool (againB s t m b e)) ∧ w' = w := by
  cases h0 : (s.toList == [71, 69, 84]) with
  | true =>
    have HS := Lib.hid (show againB s t m b e = tailB t m b e by simp [againB, safeB, h0])
    rw [HS.out]
    cases b with
    | true =>
      go_enter Try.func12, Try.ntmps12
      go_wp2_with fail
      all_goals (go_ret; exact ⟨ret_bool (by simp [tailB]), rfl⟩)
    | false =>
      by_cases c1 : 1 ≤ t
      · by_cases c2 : t < m
        · go_enter Try.func12, Try.ntmps12
          go_wp2_with fail
          all_goals (go_ret; refine ⟨ret_bool ?_, rfl⟩; first | (simp [tailB, c1, c2]; done) | (subst_vars; simp [tailB, c1, c2]; done) | (simp [tailB, c1, c2, *]; done))
        · go_enter Try.func12, Try.ntmps12
          go_wp2_with fail
          all_goals (go_ret; exact ⟨ret_bool (by simp [tailB]; omega), rfl⟩)
      · go_enter Try.func12, Try.ntmps12
        go_wp2_with fail
        all_goals (go_ret; exact ⟨ret_bool (by simp [tailB]; omega), rfl⟩)
  | false =>
    cases h1 : (s.toList == [72, 69, 65, 68]) with
    | true =>
      have HS := Lib.hid (show againB s t m b e = tailB t m b e by simp [againB, safeB, h0, h1])
      rw [HS.out]
      cases b with
      | true =>
        go_enter Try.func12, Try.ntmps12
        go_wp2_with fail
        all_goals (go_ret; exact ⟨ret_bool (by simp [tailB]), rfl⟩)
      | false =>
        by_cases c1 : 1 ≤ t
        · by_cases c2 : t < m
          · go_enter Try.func12, Try.ntmps12
            go_wp2_with fail
            all_goals (go_ret; refine ⟨ret_bool ?_, rfl⟩; first | (simp [tailB, c1, c2]; done) | (subst_vars; simp [tailB, c1, c2]; done) | (simp [tailB, c1, c2, *]; done))
          · go_enter Try.func12, Try.ntmps12
            go_wp2_with fail
            all_goals (go_ret; exact ⟨ret_bool (by simp [tailB]; omega), rfl⟩)
        · go_enter Try.func12, Try.ntmps12
          go_wp2_with fail
          all_goals (go_ret; exact ⟨ret_bool (by simp [tailB]; omega), rfl⟩)
    | false =>
      cases h2 : (s.toList == [80, 85, 84]) with
      | true =>
        have HS := Lib.hid (show againB s t m b e = tailB t m b e by simp [againB, safeB, h0, h1, h2])
        rw [HS.out]
        cases b with
        | true =>
          go_enter Try.func12, Try.ntmps12
          go_wp2_with fail
          all_goals (go_ret; exact ⟨ret_bool (by simp [tailB]), rfl⟩)
        | false =>
          by_cases c1 : 1 ≤ t
          · by_cases c2 : t < m
            · go_enter Try.func12, Try.ntmps12
              go_wp2_with fail
              all_goals (go_ret; refine ⟨ret_bool ?_, rfl⟩; first | (simp [tailB, c1, c2]; done) | (subst_vars; simp [tailB, c1, c2]; done) | (simp [tailB, c1, c2, *]; done))
            · go_enter Try.func12, Try.ntmps12
              go_wp2_with fail
              all_goals (go_ret; exact ⟨ret_bool (by simp [tailB]; omega), rfl⟩)
          · go_enter Try.func12, Try.ntmps12
            go_wp2_with fail
            all_goals (go_ret; exact ⟨ret_bool (by simp [tailB]; omega), rfl⟩)
      | false =>
        cases h3 : (s.toList == [68, 69, 76, 69, 84, 69]) with
        | true =>
          have HS := Lib.hid (show againB s t m b e = tailB t m b e by simp [againB, safeB, h0, h1, h2, h3])
          rw [HS.out]
          cases b with
          | true =>
            go_enter Try.func12, Try.ntmps12
            go_wp2_with fail
            all_goals (go_ret; exact ⟨ret_bool (by simp [tailB]), rfl⟩)
          | false =>
            by_cases c1 : 1 ≤ t
            · by_cases c2 : t < m
              · go_enter Try.func12, Try.ntmps12
                go_wp2_with fail
                all_goals (go_ret; refine ⟨ret_bool ?_, rfl⟩; first | (simp [tailB, c1, c2]; done) | (subst_vars; simp [tailB, c1, c2]; done) | (simp [tailB, c1, c2, *]; done))
              · go_enter Try.func12, Try.ntmps12
                go_wp2_with fail
                all_goals (go_ret; exact ⟨ret_bool (by simp [tailB]; omega), rfl⟩)
            · go_enter Try.func12, Try.ntmps12
              go_wp2_with fail
              all_goals (go_ret; exact ⟨ret_bool (by simp [tailB]; omega), rfl⟩)
        | false =>
          cases h4 : (s.toList == [79, 80, 84, 73, 79, 78, 83]) with
          | true =>
            have HS := Lib.hid (show againB s t m b e = tailB t m b e by simp [againB, safeB, h0, h1, h2, h3, h4])
            rw [HS.out]
            cases b with
            | true =>
              go_enter Try.func12, Try.ntmps12
              go_wp2_with fail
              all_goals (go_ret; exact ⟨ret_bool (by simp [tailB]), rfl⟩)
            | false =>
              by_cases c1 : 1 ≤ t
              · by_cases c2 : t < m
                · go_enter Try.func12, Try.ntmps12
                  go_wp2_with fail
                  all_goals (go_ret; refine ⟨ret_bool ?_, rfl⟩; first | (simp [tailB, c1, c2]; done) | (subst_vars; simp [tailB, c1, c2]; done) | (simp [tailB, c1, c2, *]; done))
                · go_enter Try.func12, Try.ntmps12
                  go_wp2_with fail
                  all_goals (go_ret; exact ⟨ret_bool (by simp [tailB]; omega), rfl⟩)
              · go_enter Try.func12, Try.ntmps12
                go_wp2_with fail
                all_goals (go_ret; exact ⟨ret_bool (by simp [tailB]; omega), rfl⟩)
          | false =>
            have HS := Lib.hid (show againB s t m b e = false by simp [againB, safeB, h0, h1, h2, h3, h4])
            rw [HS.out]
            go_enter Try.func12, Try.ntmps12
            go_wp2_with fail
            all_goals (go_ret; exact ⟨ret_bool (by simp), rfl⟩)
end Go.Proofs.Ytjomenldmojnjaa
