/- Contracts of num.Parse and of the reference's. -/
import Derived.Test.YthlijkpeafgenaaDoorC
set_option linter.unusedVariables false
set_option linter.unusedSimpArgs false
namespace Go.Proofs.YthlijkpeafgenaaDoor
open Go.RowKit
open Go.Proofs.YthlijkpeafgenaaDoorW.PrintWords

def byt (s : ByteArray) : List Nat := s.data.toList.map UInt8.toNat
def stepP (k : Int) (st : Int × Int) (c : Nat) : Int × Int :=
  if Fit (if st.2 = 0 then st.1 * k + digI c k else st.1) then ((if st.2 = 0 then st.1 * k + digI c k else st.1), st.2) else (0, 3)
def badB (k : Int) (l : List Nat) : Bool := l.any (fun c => digI c k == -1)
def parseS (l : List Nat) (k : Int) : Int × Int :=
  if l = [] ∨ ¬ (k = 10 ∨ k = 16) then (0, 1) else if badB k l then (0, 1) else l.foldl (stepP k) (0, 0)
theorem byt_len (s : ByteArray) : (byt s).length = s.size := by simp [byt]
theorem byt_at {s : ByteArray} {i : Nat} (h : i < s.size) : (byt s)[i]'(by rw [byt_len]; exact h) = s[i].toNat := by simp [byt]; rfl
theorem byt_lt {s : ByteArray} : ∀ c ∈ byt s, c < 256 := by
  intro c hc
  simp [byt] at hc
  obtain ⟨a, _, rfl⟩ := hc
  exact a.toNat_lt
theorem byt_empty {s : ByteArray} (h : s.toList.isEmpty = true) : byt s = [] := by
  rw [ByteArray.toList_eq] at h
  simp [byt, List.isEmpty_iff.1 h]
theorem byt_ne {s : ByteArray} (h : s.toList.isEmpty = false) : byt s ≠ [] := by
  rw [ByteArray.toList_eq] at h
  intro hq
  simp [byt] at hq
  rw [hq] at h
  cases h
theorem badB_app (k : Int) (l : List Nat) (c : Nat) : badB k (l ++ [c]) = (badB k l || (digI c k == -1)) := by simp [badB]
theorem badB_of {k : Int} {l : List Nat} {i : Nat} (hi : i < l.length) (h : digI l[i] k = -1) : badB k l = true := by
  unfold badB
  rw [List.any_eq_true]
  exact ⟨l[i], List.getElem_mem hi, by simp [h]⟩
theorem parseS_bad {l : List Nat} {k : Int} (h : badB k l = true) : parseS l k = (0, 1) := by
  unfold parseS
  rw [h]
  simp
theorem parseS_good {l : List Nat} {k : Int} (hl : l ≠ []) (hk : k = 10 ∨ k = 16) (h : badB k l = false) : parseS l k = l.foldl (stepP k) (0, 0) := by
  unfold parseS
  rw [if_neg (by rintro (h | h); exact hl h; exact h hk), if_neg (by rw [h]; simp)]
/-- one more byte -/
theorem pstep {k : Int} {l : List Nat} {i : Nat} {n e : Int} (hi : i < l.length) (h : badB k (l.take i) = false ∧ (l.take i).foldl (stepP k) (0, 0) = (n, e)) (hd : digI l[i] k ≠ -1) :
    badB k (l.take (i + 1)) = false ∧ (l.take (i + 1)).foldl (stepP k) (0, 0) = stepP k (n, e) l[i] := by
  rw [List.take_succ_eq_append_getElem hi]
  refine ⟨?_, ?_⟩
  · rw [badB_app, h.1]
    simp [hd]
  · rw [List.foldl_append, h.2]
    rfl

set_option maxHeartbeats 1000000 in
theorem parse_any (s : ByteArray) (k : Int) (w : World) (hsz : s.size ≤ 9223372036854775807) : Calls Tryd.prog 36 #[.string s, .int .i64 k] w fun e w' => e = .returned (.tuple #[.int .i64 (parseS (byt s) k).1, .int .i64 (parseS (byt s) k).2]) ∧ w' = w := by
  cases he : s.toList.isEmpty with
  | true =>
    have HF := Lib.hid (show parseS (byt s) k = (0, 1) by simp [parseS, byt_empty he])
    rw [HF.out]
    go_enter Tryd.func36, Tryd.ntmps36
    go_wp2_with fail
    go_ret2
    exact ⟨rfl, rfl⟩
  | false =>
    by_cases hk : k = 10 ∨ k = 16
    · have HNE := Lib.hid (byt_ne he)
      rcases hk with rfl | rfl
      · go_enter Tryd.func36, Tryd.ntmps36
        go_wp2_with fail
        go_loopg [4, 5, 20] s.size (fun gg s4 s5 s20 wr => ∃ i : Nat, i ≤ s.size ∧ s.size - i ≤ gg ∧ s20 = .int .i64 i ∧ wr = w ∧ ∃ n e : Int, s4 = .int .i64 n ∧ s5 = .int .i64 e ∧ Aside ((badB 10 ((byt s).take i) = false ∧ ((byt s).take i).foldl (stepP 10) (0, 0) = (n, e)) ∧ Fit n))
        case atStart => exact ⟨0, Nat.zero_le _, by omega, rfl, rfl, 0, 0, rfl, rfl, ⟨⟨rfl, rfl⟩, by omega, by omega⟩⟩
        case round =>
          obtain ⟨i, hi, hg, rfl, rfl, n, e, rfl, rfl, HA⟩ := hrel
          have HA := Lib.hid HA.out
          by_cases hlt : i < s.size
          · have hi1 : (i : Int) < (s.size : Int) := by omega
            have hil : i < (byt s).length := by rw [byt_len]; exact hlt
            obtain ⟨d, hd⟩ : ∃ d, digI (byt s)[i] 10 = d := ⟨_, rfl⟩
            have hcs := digI_cases (byt s)[i] 10
            rw [hd] at hcs
            have HD := Lib.hid (show digI s[i].toNat 10 = d by rw [← byt_at hlt]; exact hd)
            by_cases hd1 : d = -1
            · subst hd1
              have HF := Lib.hid (parseS_bad (badB_of hil hd))
              clear hd hcs
              go_wp2_with (first | (go_at_call 42; refine (digit_any _ _ _ (UInt8.toNat_lt _) (.inl rfl)).mono ?_; rw [HD.out]; rintro e1 _ ⟨rfl, rfl⟩) | (go_at_call 30; refine (fits_any _ _).mono ?_; rintro e1 _ ⟨rfl, rfl⟩))
              go_ret2
              exact ⟨by rw [HF.out]; rfl, rfl⟩
            · have HP := Lib.hid (pstep hil HA.out.1 (by rw [hd]; exact hd1))
              have hst : stepP 10 (n, e) (byt s)[i] = if Fit (if e = 0 then n * 10 + d else n) then ((if e = 0 then n * 10 + d else n), e) else (0, 3) := by unfold stepP; simp only [hd]
              obtain ⟨f0, f1⟩ := HA.out.2
              by_cases he0 : e = 0
              · subst he0
                have hw1 : IntKind.i64.wrap (n * 10) = n * 10 := by rw [IntKind.wrap_i64]; omega
                have hw2 : IntKind.i64.wrap (n * 10 + d) = n * 10 + d := by rw [IntKind.wrap_i64]; omega
                rw [if_pos rfl] at hst
                by_cases h2 : n * 10 + d ≤ 9007199254740992
                · have A2 : fitB (n * 10 + d) = true := fitB_yes ⟨by omega, h2⟩
                  rw [if_pos ⟨by omega, h2⟩] at hst
                  rw [hst] at HP
                  have HG := Lib.hid (show Fit (n * 10 + d) from ⟨by omega, h2⟩)
                  clear hst hd hcs f0 f1 h2
                  go_wp2_with (first | (go_at_call 42; refine (digit_any _ _ _ (UInt8.toNat_lt _) (.inl rfl)).mono ?_; rw [HD.out]; rintro e1 _ ⟨rfl, rfl⟩) | (go_at_call 30; refine (fits_any _ _).mono ?_; rintro e1 _ ⟨rfl, rfl⟩))
                  go_roundg (s.size - (i + 1))
                  case measure => omega
                  case rel => exact ⟨i + 1, by omega, by omega, by simp, rfl, _, _, rfl, rfl, ⟨HP.out, HG.out⟩⟩
                · have A2 : fitB (n * 10 + d) = false := fitB_no fun h => h2 h.2
                  rw [if_neg fun h => h2 h.2] at hst
                  rw [hst] at HP
                  have HG := Lib.hid (show Fit 0 from ⟨by omega, by omega⟩)
                  clear hst hd hcs f0 f1 h2
                  go_wp2_with (first | (go_at_call 42; refine (digit_any _ _ _ (UInt8.toNat_lt _) (.inl rfl)).mono ?_; rw [HD.out]; rintro e1 _ ⟨rfl, rfl⟩) | (go_at_call 30; refine (fits_any _ _).mono ?_; rintro e1 _ ⟨rfl, rfl⟩))
                  go_roundg (s.size - (i + 1))
                  case measure => omega
                  case rel => exact ⟨i + 1, by omega, by omega, by simp, rfl, _, _, rfl, rfl, ⟨HP.out, HG.out⟩⟩
              · rw [if_neg he0, if_pos HA.out.2] at hst
                rw [hst] at HP
                have he1 : (e == (0 : Int)) = false := by simp [he0]
                have A2 : fitB n = true := fitB_yes HA.out.2
                have HG := Lib.hid HA.out.2
                clear hst hd hcs f0 f1
                go_wp2_with (first | (go_at_call 42; refine (digit_any _ _ _ (UInt8.toNat_lt _) (.inl rfl)).mono ?_; rw [HD.out]; rintro e1 _ ⟨rfl, rfl⟩) | (go_at_call 30; refine (fits_any _ _).mono ?_; rintro e1 _ ⟨rfl, rfl⟩))
                go_roundg (s.size - (i + 1))
                case measure => omega
                case rel => exact ⟨i + 1, by omega, by omega, by simp, rfl, _, _, rfl, rfl, ⟨HP.out, HG.out⟩⟩
          · have hi1 : ¬ (i : Int) < (s.size : Int) := by omega
            obtain rfl : i = s.size := by omega
            have HF := Lib.hid (show parseS (byt s) 10 = (n, e) by
              obtain ⟨⟨h1, h2⟩, _⟩ := HA.out
              rw [List.take_of_length_le (by rw [byt_len]; omega)] at h1 h2
              rw [parseS_good HNE.out (by omega) h1, h2])
            go_wp2_with fail
            go_ret2
            exact ⟨by rw [HF.out]; rfl, rfl⟩
      · go_enter Tryd.func36, Tryd.ntmps36
        go_wp2_with fail
        go_loopg [4, 5, 20] s.size (fun gg s4 s5 s20 wr => ∃ i : Nat, i ≤ s.size ∧ s.size - i ≤ gg ∧ s20 = .int .i64 i ∧ wr = w ∧ ∃ n e : Int, s4 = .int .i64 n ∧ s5 = .int .i64 e ∧ Aside ((badB 16 ((byt s).take i) = false ∧ ((byt s).take i).foldl (stepP 16) (0, 0) = (n, e)) ∧ Fit n))
        case atStart => exact ⟨0, Nat.zero_le _, by omega, rfl, rfl, 0, 0, rfl, rfl, ⟨⟨rfl, rfl⟩, by omega, by omega⟩⟩
        case round =>
          obtain ⟨i, hi, hg, rfl, rfl, n, e, rfl, rfl, HA⟩ := hrel
          have HA := Lib.hid HA.out
          by_cases hlt : i < s.size
          · have hi1 : (i : Int) < (s.size : Int) := by omega
            have hil : i < (byt s).length := by rw [byt_len]; exact hlt
            obtain ⟨d, hd⟩ : ∃ d, digI (byt s)[i] 16 = d := ⟨_, rfl⟩
            have hcs := digI_cases (byt s)[i] 16
            rw [hd] at hcs
            have HD := Lib.hid (show digI s[i].toNat 16 = d by rw [← byt_at hlt]; exact hd)
            by_cases hd1 : d = -1
            · subst hd1
              have HF := Lib.hid (parseS_bad (badB_of hil hd))
              clear hd hcs
              go_wp2_with (first | (go_at_call 42; refine (digit_any _ _ _ (UInt8.toNat_lt _) (.inr rfl)).mono ?_; rw [HD.out]; rintro e1 _ ⟨rfl, rfl⟩) | (go_at_call 30; refine (fits_any _ _).mono ?_; rintro e1 _ ⟨rfl, rfl⟩))
              go_ret2
              exact ⟨by rw [HF.out]; rfl, rfl⟩
            · have HP := Lib.hid (pstep hil HA.out.1 (by rw [hd]; exact hd1))
              have hst : stepP 16 (n, e) (byt s)[i] = if Fit (if e = 0 then n * 16 + d else n) then ((if e = 0 then n * 16 + d else n), e) else (0, 3) := by unfold stepP; simp only [hd]
              obtain ⟨f0, f1⟩ := HA.out.2
              by_cases he0 : e = 0
              · subst he0
                have hw1 : IntKind.i64.wrap (n * 16) = n * 16 := by rw [IntKind.wrap_i64]; omega
                have hw2 : IntKind.i64.wrap (n * 16 + d) = n * 16 + d := by rw [IntKind.wrap_i64]; omega
                rw [if_pos rfl] at hst
                by_cases h2 : n * 16 + d ≤ 9007199254740992
                · have A2 : fitB (n * 16 + d) = true := fitB_yes ⟨by omega, h2⟩
                  rw [if_pos ⟨by omega, h2⟩] at hst
                  rw [hst] at HP
                  have HG := Lib.hid (show Fit (n * 16 + d) from ⟨by omega, h2⟩)
                  clear hst hd hcs f0 f1 h2
                  go_wp2_with (first | (go_at_call 42; refine (digit_any _ _ _ (UInt8.toNat_lt _) (.inr rfl)).mono ?_; rw [HD.out]; rintro e1 _ ⟨rfl, rfl⟩) | (go_at_call 30; refine (fits_any _ _).mono ?_; rintro e1 _ ⟨rfl, rfl⟩))
                  go_roundg (s.size - (i + 1))
                  case measure => omega
                  case rel => exact ⟨i + 1, by omega, by omega, by simp, rfl, _, _, rfl, rfl, ⟨HP.out, HG.out⟩⟩
                · have A2 : fitB (n * 16 + d) = false := fitB_no fun h => h2 h.2
                  rw [if_neg fun h => h2 h.2] at hst
                  rw [hst] at HP
                  have HG := Lib.hid (show Fit 0 from ⟨by omega, by omega⟩)
                  clear hst hd hcs f0 f1 h2
                  go_wp2_with (first | (go_at_call 42; refine (digit_any _ _ _ (UInt8.toNat_lt _) (.inr rfl)).mono ?_; rw [HD.out]; rintro e1 _ ⟨rfl, rfl⟩) | (go_at_call 30; refine (fits_any _ _).mono ?_; rintro e1 _ ⟨rfl, rfl⟩))
                  go_roundg (s.size - (i + 1))
                  case measure => omega
                  case rel => exact ⟨i + 1, by omega, by omega, by simp, rfl, _, _, rfl, rfl, ⟨HP.out, HG.out⟩⟩
              · rw [if_neg he0, if_pos HA.out.2] at hst
                rw [hst] at HP
                have he1 : (e == (0 : Int)) = false := by simp [he0]
                have A2 : fitB n = true := fitB_yes HA.out.2
                have HG := Lib.hid HA.out.2
                clear hst hd hcs f0 f1
                go_wp2_with (first | (go_at_call 42; refine (digit_any _ _ _ (UInt8.toNat_lt _) (.inr rfl)).mono ?_; rw [HD.out]; rintro e1 _ ⟨rfl, rfl⟩) | (go_at_call 30; refine (fits_any _ _).mono ?_; rintro e1 _ ⟨rfl, rfl⟩))
                go_roundg (s.size - (i + 1))
                case measure => omega
                case rel => exact ⟨i + 1, by omega, by omega, by simp, rfl, _, _, rfl, rfl, ⟨HP.out, HG.out⟩⟩
          · have hi1 : ¬ (i : Int) < (s.size : Int) := by omega
            obtain rfl : i = s.size := by omega
            have HF := Lib.hid (show parseS (byt s) 16 = (n, e) by
              obtain ⟨⟨h1, h2⟩, _⟩ := HA.out
              rw [List.take_of_length_le (by rw [byt_len]; omega)] at h1 h2
              rw [parseS_good HNE.out (by omega) h1, h2])
            go_wp2_with fail
            go_ret2
            exact ⟨by rw [HF.out]; rfl, rfl⟩
    · have hk1 : (k != 10) = true := by simp; exact fun h => hk (.inl h)
      have hk2 : (k != 16) = true := by simp; exact fun h => hk (.inr h)
      have HF := Lib.hid (show parseS (byt s) k = (0, 1) by unfold parseS; rw [if_pos (.inr hk)])
      rw [HF.out]
      clear hk
      go_enter Tryd.func36, Tryd.ntmps36
      go_wp2_with fail
      go_ret2
      exact ⟨rfl, rfl⟩

theorem stuck (k : Int) (l : List Nat) : l.foldl (stepP k) (0, 3) = (0, 3) := by
  induction l with
  | nil => rfl
  | cons c r ih =>
    have : stepP k (0, 3) c = (0, 3) := by simp [stepP, Fit]
    rw [List.foldl_cons, this, ih]
theorem over {k : Int} {l : List Nat} {i : Nat} (h : (l.take (i + 1)).foldl (stepP k) (0, 0) = (0, 3)) : l.foldl (stepP k) (0, 0) = (0, 3) := by
  rw [← List.take_append_drop (i + 1) l, List.foldl_append, h, stuck]
theorem badB_step {k : Int} {l : List Nat} {i : Nat} (hi : i < l.length) (h : badB k (l.take i) = false) (hd : digI l[i] k ≠ -1) : badB k (l.take (i + 1)) = false := by
  rw [List.take_succ_eq_append_getElem hi, badB_app, h]
  simp [hd]
theorem badB_at {k : Int} {l : List Nat} (h : badB k l = false) {i : Nat} (hi : i < l.length) : digI l[i] k ≠ -1 := by
  intro hq
  rw [badB_of hi hq] at h
  cases h

end Go.Proofs.YthlijkpeafgenaaDoor
