/- Contract of lockagelaw03.NumBack: Parse undoes Text. -/
import Derived.Test.YtefobhoipclmdaaDoorG
set_option linter.unusedVariables false
set_option linter.unusedSimpArgs false
namespace Go.Proofs.YtefobhoipclmdaaDoor
open Go.RowKit
open Go.Proofs.YtefobhoipclmdaaDoorW.PrintWords

theorem dig_back10 : ∀ d : Fin 10, digI (dgt d.val).toNat 10 = d.val := by decide
theorem dig_back16 : ∀ d : Fin 16, digI (dgt d.val).toNat 16 = d.val := by decide
def nats (l : List UInt8) : List Nat := l.map UInt8.toNat
theorem byt_mk (l : List UInt8) : byt ⟨l.toArray⟩ = nats l := by simp [byt, nats]
/-- what a list of digits comes to, from n on -/
def Reads (k : Int) (l : List UInt8) (u : Nat) : Prop := badB k (nats l) = false ∧ (nats l).foldl (stepP k) (0, 0) = ((u : Int), 0) ∧ l ≠ []
theorem Reads.one {k : Int} {c : UInt8} {d : Nat} (h : digI c.toNat k = d) (hd : (d : Int) ≤ 9007199254740992) : Reads k [c] d := by
  refine ⟨?_, ?_, by simp⟩
  · simp [nats, badB, h]
  · show stepP k (0, 0) c.toNat = _
    unfold stepP
    rw [h]
    simp only [if_true, Int.zero_mul, Int.zero_add]
    rw [if_pos ⟨by omega, hd⟩]
theorem Reads.snoc {k : Int} {l : List UInt8} {c : UInt8} {u v d : Nat} (h : Reads k l u) (hd : digI c.toNat k = d) (hv : (v : Int) = u * k + d) (hb : v ≤ 9007199254740992) : Reads k (l ++ [c]) v := by
  obtain ⟨h1, h2, h3⟩ := h
  refine ⟨?_, ?_, by simp⟩
  · unfold nats at h1 ⊢
    rw [List.map_append, List.map_singleton, badB_app, h1, hd]
    simp
  · unfold nats at h2 ⊢
    rw [List.map_append, List.foldl_append, h2]
    show stepP k ((u : Int), 0) c.toNat = _
    unfold stepP
    rw [hd]
    simp only [if_true]
    rw [← hv, if_pos ⟨by omega, by omega⟩]
theorem reads_dec (u : Nat) : u ≤ 9007199254740992 → Reads 10 (Lib.decDigits u) u := by
  induction u using Nat.strongRecOn with
  | _ u ih =>
  intro hu
  by_cases h : u < 10
  · rw [dec_small h]
    exact .one (dig_back10 ⟨u, h⟩) (by omega)
  · rw [dec_big h]
    exact (ih (u / 10) (by omega) (by omega)).snoc (dig_back10 ⟨u % 10, by omega⟩) (by simp only; omega) hu
theorem reads_hex (u : Nat) : u ≤ 9007199254740992 → Reads 16 (hexD u) u := by
  induction u using Nat.strongRecOn with
  | _ u ih =>
  intro hu
  by_cases h : u < 16
  · rw [hexD_small h]
    exact .one (dig_back16 ⟨u, h⟩) (by omega)
  · rw [hexD_big h]
    exact (ih (u / 16) (by omega) (by omega)).snoc (dig_back16 ⟨u % 16, by omega⟩) (by simp only; omega) hu
theorem reads_zeros {k : Int} {l : List UInt8} {u : Nat} (h : Reads k l u) (z : Nat) : Reads k (List.replicate z 48 ++ l) u := by
  induction z with
  | zero => exact h
  | succ z ih =>
    obtain ⟨h1, h2, h3⟩ := ih
    have hd : digI 48 k = 0 := by simp [digI]
    refine ⟨?_, ?_, by simp [List.replicate_succ]⟩
    · have : nats (List.replicate (z + 1) 48 ++ l) = 48 :: nats (List.replicate z 48 ++ l) := by simp [nats, List.replicate_succ]
      rw [this]
      unfold badB at h1 ⊢
      rw [List.any_cons, h1, hd]
      rfl
    · have : nats (List.replicate (z + 1) 48 ++ l) = 48 :: nats (List.replicate z 48 ++ l) := by simp [nats, List.replicate_succ]
      rw [this, List.foldl_cons]
      have : stepP k (0, 0) 48 = (0, 0) := by unfold stepP; rw [hd]; simp [Fit]
      rw [this, h2]
theorem reads_text {k : Int} (hk : k = 10 ∨ k = 16) {m : Nat} (hm : m ≤ 9007199254740992) : Reads k (textS m k) m := by
  unfold textS
  rw [if_pos ⟨⟨by omega, by omega⟩, hk⟩]
  rcases hk with rfl | rfl
  · rw [if_pos rfl, Int.toNat_natCast]; exact reads_dec m hm
  · rw [if_neg (by decide), Int.toNat_natCast]; exact reads_hex m hm
theorem parse_back {k : Int} (hk : k = 10 ∨ k = 16) {m : Nat} (hm : m ≤ 9007199254740992) (z : Nat) : parseS (byt ⟨(List.replicate z 48 ++ textS m k).toArray⟩) k = ((m : Int), 0) := by
  obtain ⟨h1, h2, h3⟩ := reads_zeros (reads_text hk hm) z
  rw [byt_mk, parseS_good (by simpa [nats] using h3) hk h1, h2]
theorem text_len {k : Int} (hk : k = 10 ∨ k = 16) {m : Nat} (hm : m ≤ 9007199254740992) : (textS m k).length ≤ 17 := by
  unfold textS
  rw [if_pos ⟨⟨by omega, by omega⟩, hk⟩]
  rcases hk with rfl | rfl
  · rw [if_pos rfl, Int.toNat_natCast]; exact dec_len (k := 16) (by omega)
  · rw [if_neg (by decide), Int.toNat_natCast]; exact Nat.le_trans (hexD_len (k := 13) (by omega)) (by omega)
theorem text_ne {k : Int} (hk : k = 10 ∨ k = 16) {n : Int} (hn : Fit n) : (textS n k).isEmpty = false := by
  obtain ⟨u, rfl⟩ := Int.eq_ofNat_of_zero_le hn.1
  have := (reads_text hk (m := u) (by have := hn.2; omega)).2.2
  cases h : textS (u : Int) k with
  | nil => exact absurd h this
  | cons a r => rfl

set_option maxHeartbeats 4000000 in
theorem numBack_10 (n : Int) (c : Nat) (w : World) (hT : Tabs w) (hc : c < 256) (hn1 : -9223372036854775808 ≤ n) (hn2 : n ≤ 9223372036854775807) :
    Calls Tryd.prog 5 #[.int .i64 n, .int .u8 c, .bool false] w fun e w' => e = .returned (.bool true) ∧ Below w.heap.size w w' := by
  have HT := Lib.hid hT
  clear hT
  have ha := and53 n
  have x0 := Int.emod_nonneg n (show (9007199254740992 : Int) ≠ 0 by decide)
  have x1 := Int.emod_lt_of_pos n (show (0 : Int) < 9007199254740992 by decide)
  generalize n % 9007199254740992 = x at *
  obtain ⟨m, rfl⟩ := Int.eq_ofNat_of_zero_le x0
  have hm : m ≤ 9007199254740992 := by omega
  obtain ⟨T, hT⟩ : ∃ T, textS m 10 = T := ⟨_, rfl⟩
  have hTl := text_len (k := 10) (by omega) hm
  rw [hT] at hTl
  have HMT := Lib.hid hT
  have HP := Lib.hid (show ∀ z, parseS (byt ⟨(List.replicate z 48 ++ T).toArray⟩) 10 = ((m : Int), 0) from fun z => by rw [← hT]; exact parse_back (by omega) hm z)
  have HP0 := Lib.hid (show parseS (byt ⟨T.toArray⟩) 10 = ((m : Int), 0) from HP.out 0)
  have hlen : T.length ≤ 9223372036854775807 := by omega
  have hTl2 := Lib.hid hTl
  clear hT hTl
  go_enter Tryd.func5, Tryd.ntmps5
  go_wp2_with (first | (go_at_call 11; refine (awake_any _ HT.out).mono ?_; rintro e w1 ⟨rfl, hb1⟩) | (go_at_call 16; refine (text_any _ _ _ (HT.out.below hb1) (by omega) (by omega)).mono ?_; rw [HMT.out]; rintro e w2 ⟨rfl, hb2⟩) | (go_at_call 14; refine (parse_any _ _ _ (by show T.toArray.size ≤ _; simpa using hlen)).mono ?_; rw [HP0.out]; rintro e w9 ⟨rfl, hw9⟩; subst w9))
  have HTB := Lib.hid (HT.out.below (hb1.trans (hb2.mono hb1.size)))
  have HBB := Lib.hid (hb1.trans (hb2.mono hb1.size))
  clear hb1 hb2 hlen
  go_loopg [10, 13] 30 (fun gg s10 s13 wr => ∃ i : Nat, i ≤ c % 30 ∧ c % 30 - i ≤ gg ∧ s13 = .int .i64 i ∧ wr = w2 ∧ s10 = .string ⟨(List.replicate i 48 ++ T).toArray⟩)
  case atStart => exact ⟨0, Nat.zero_le _, by omega, rfl, rfl, rfl⟩
  case round =>
    obtain ⟨i, hi, hg, rfl, rfl, rfl⟩ := hrel
    by_cases hlt : i < c % 30
    · have hi1 : (i : Int) < (c : Int) % 30 := by omega
      have hlim : ¬ 9223372036854775807 < 1 + (i + T.length) := by have := hTl2.out; omega
      go_wp2_with fail
      go_roundg (c % 30 - (i + 1))
      case measure => omega
      case rel =>
        refine ⟨i + 1, by omega, by omega, by simp, rfl, ?_⟩
        show Value.string _ = Value.string _
        congr 1
    · have hi1 : ¬ (i : Int) < (c : Int) % 30 := by omega
      have HP1 := Lib.hid (HP.out i)
      have hle2 : i + T.length ≤ 9223372036854775807 := by have := hTl2.out; omega
      by_cases hneg : n < 0
      · have HN := Lib.hid (show textS n 10 = [] by unfold textS; rw [if_neg fun h => by have := h.1.1; omega])
        go_wp2_with (first | (go_at_call 14; refine (parse_any _ _ _ (by show ((List.replicate i 48 ++ T).toArray).size ≤ _; simpa using hle2)).mono ?_; rw [HP1.out]; rintro e w9 ⟨rfl, hw9⟩; subst w9) | (go_at_call 16; refine (text_any _ _ _ HTB.out hn1 hn2).mono ?_; rw [HN.out]; rintro e w3 ⟨rfl, hb3⟩))
        go_ret
        exact ⟨rfl, HBB.out.trans (hb3.mono HBB.out.size)⟩
      · by_cases hbig : 9007199254740992 < n
        · have HN := Lib.hid (show textS n 10 = [] by unfold textS; rw [if_neg fun h => by have := h.1.2; omega])
          go_wp2_with (first | (go_at_call 14; refine (parse_any _ _ _ (by show ((List.replicate i 48 ++ T).toArray).size ≤ _; simpa using hle2)).mono ?_; rw [HP1.out]; rintro e w9 ⟨rfl, hw9⟩; subst w9) | (go_at_call 16; refine (text_any _ _ _ HTB.out hn1 hn2).mono ?_; rw [HN.out]; rintro e w3 ⟨rfl, hb3⟩))
          go_ret
          exact ⟨rfl, HBB.out.trans (hb3.mono HBB.out.size)⟩
        · obtain ⟨U, hU⟩ : ∃ U, textS n 10 = U := ⟨_, rfl⟩
          have hUe : U.isEmpty = false := by rw [← hU]; exact text_ne (by omega) ⟨by omega, by omega⟩
          have HN := Lib.hid hU
          clear hU
          go_wp2_with (first | (go_at_call 14; refine (parse_any _ _ _ (by show ((List.replicate i 48 ++ T).toArray).size ≤ _; simpa using hle2)).mono ?_; rw [HP1.out]; rintro e w9 ⟨rfl, hw9⟩; subst w9) | (go_at_call 16; refine (text_any _ _ _ HTB.out hn1 hn2).mono ?_; rw [HN.out]; rintro e w3 ⟨rfl, hb3⟩))
          go_ret
          refine ⟨?_, HBB.out.trans (hb3.mono HBB.out.size)⟩
          show Ending.returned (.bool (!decide (n < 0) && !decide (9007199254740992 < n))) = _
          refine ret_bool ?_
          simp only [Bool.and_eq_true, Bool.not_eq_true', decide_eq_false_iff_not]
          omega

set_option maxHeartbeats 4000000 in
theorem numBack_16 (n : Int) (c : Nat) (w : World) (hT : Tabs w) (hc : c < 256) (hn1 : -9223372036854775808 ≤ n) (hn2 : n ≤ 9223372036854775807) :
    Calls Tryd.prog 5 #[.int .i64 n, .int .u8 c, .bool true] w fun e w' => e = .returned (.bool true) ∧ Below w.heap.size w w' := by
  have HT := Lib.hid hT
  clear hT
  have ha := and53 n
  have x0 := Int.emod_nonneg n (show (9007199254740992 : Int) ≠ 0 by decide)
  have x1 := Int.emod_lt_of_pos n (show (0 : Int) < 9007199254740992 by decide)
  generalize n % 9007199254740992 = x at *
  obtain ⟨m, rfl⟩ := Int.eq_ofNat_of_zero_le x0
  have hm : m ≤ 9007199254740992 := by omega
  obtain ⟨T, hT⟩ : ∃ T, textS m 16 = T := ⟨_, rfl⟩
  have hTl := text_len (k := 16) (by omega) hm
  rw [hT] at hTl
  have HMT := Lib.hid hT
  have HP := Lib.hid (show ∀ z, parseS (byt ⟨(List.replicate z 48 ++ T).toArray⟩) 16 = ((m : Int), 0) from fun z => by rw [← hT]; exact parse_back (by omega) hm z)
  have HP0 := Lib.hid (show parseS (byt ⟨T.toArray⟩) 16 = ((m : Int), 0) from HP.out 0)
  have hlen : T.length ≤ 9223372036854775807 := by omega
  have hTl2 := Lib.hid hTl
  clear hT hTl
  go_enter Tryd.func5, Tryd.ntmps5
  go_wp2_with (first | (go_at_call 11; refine (awake_any _ HT.out).mono ?_; rintro e w1 ⟨rfl, hb1⟩) | (go_at_call 16; refine (text_any _ _ _ (HT.out.below hb1) (by omega) (by omega)).mono ?_; rw [HMT.out]; rintro e w2 ⟨rfl, hb2⟩) | (go_at_call 14; refine (parse_any _ _ _ (by show T.toArray.size ≤ _; simpa using hlen)).mono ?_; rw [HP0.out]; rintro e w9 ⟨rfl, hw9⟩; subst w9))
  have HTB := Lib.hid (HT.out.below (hb1.trans (hb2.mono hb1.size)))
  have HBB := Lib.hid (hb1.trans (hb2.mono hb1.size))
  clear hb1 hb2 hlen
  go_loopg [10, 13] 30 (fun gg s10 s13 wr => ∃ i : Nat, i ≤ c % 30 ∧ c % 30 - i ≤ gg ∧ s13 = .int .i64 i ∧ wr = w2 ∧ s10 = .string ⟨(List.replicate i 48 ++ T).toArray⟩)
  case atStart => exact ⟨0, Nat.zero_le _, by omega, rfl, rfl, rfl⟩
  case round =>
    obtain ⟨i, hi, hg, rfl, rfl, rfl⟩ := hrel
    by_cases hlt : i < c % 30
    · have hi1 : (i : Int) < (c : Int) % 30 := by omega
      have hlim : ¬ 9223372036854775807 < 1 + (i + T.length) := by have := hTl2.out; omega
      go_wp2_with fail
      go_roundg (c % 30 - (i + 1))
      case measure => omega
      case rel =>
        refine ⟨i + 1, by omega, by omega, by simp, rfl, ?_⟩
        show Value.string _ = Value.string _
        congr 1
    · have hi1 : ¬ (i : Int) < (c : Int) % 30 := by omega
      have HP1 := Lib.hid (HP.out i)
      have hle2 : i + T.length ≤ 9223372036854775807 := by have := hTl2.out; omega
      by_cases hneg : n < 0
      · have HN := Lib.hid (show textS n 16 = [] by unfold textS; rw [if_neg fun h => by have := h.1.1; omega])
        go_wp2_with (first | (go_at_call 14; refine (parse_any _ _ _ (by show ((List.replicate i 48 ++ T).toArray).size ≤ _; simpa using hle2)).mono ?_; rw [HP1.out]; rintro e w9 ⟨rfl, hw9⟩; subst w9) | (go_at_call 16; refine (text_any _ _ _ HTB.out hn1 hn2).mono ?_; rw [HN.out]; rintro e w3 ⟨rfl, hb3⟩))
        go_ret
        exact ⟨rfl, HBB.out.trans (hb3.mono HBB.out.size)⟩
      · by_cases hbig : 9007199254740992 < n
        · have HN := Lib.hid (show textS n 16 = [] by unfold textS; rw [if_neg fun h => by have := h.1.2; omega])
          go_wp2_with (first | (go_at_call 14; refine (parse_any _ _ _ (by show ((List.replicate i 48 ++ T).toArray).size ≤ _; simpa using hle2)).mono ?_; rw [HP1.out]; rintro e w9 ⟨rfl, hw9⟩; subst w9) | (go_at_call 16; refine (text_any _ _ _ HTB.out hn1 hn2).mono ?_; rw [HN.out]; rintro e w3 ⟨rfl, hb3⟩))
          go_ret
          exact ⟨rfl, HBB.out.trans (hb3.mono HBB.out.size)⟩
        · obtain ⟨U, hU⟩ : ∃ U, textS n 16 = U := ⟨_, rfl⟩
          have hUe : U.isEmpty = false := by rw [← hU]; exact text_ne (by omega) ⟨by omega, by omega⟩
          have HN := Lib.hid hU
          clear hU
          go_wp2_with (first | (go_at_call 14; refine (parse_any _ _ _ (by show ((List.replicate i 48 ++ T).toArray).size ≤ _; simpa using hle2)).mono ?_; rw [HP1.out]; rintro e w9 ⟨rfl, hw9⟩; subst w9) | (go_at_call 16; refine (text_any _ _ _ HTB.out hn1 hn2).mono ?_; rw [HN.out]; rintro e w3 ⟨rfl, hb3⟩))
          go_ret
          refine ⟨?_, HBB.out.trans (hb3.mono HBB.out.size)⟩
          show Ending.returned (.bool (!decide (n < 0) && !decide (9007199254740992 < n))) = _
          refine ret_bool ?_
          simp only [Bool.and_eq_true, Bool.not_eq_true', decide_eq_false_iff_not]
          omega
theorem numBack_any (n : Int) (c : Nat) (b : Bool) (w : World) (hT : Tabs w) (hc : c < 256) (hn1 : -9223372036854775808 ≤ n) (hn2 : n ≤ 9223372036854775807) :
    Calls Tryd.prog 5 #[.int .i64 n, .int .u8 c, .bool b] w fun e w' => e = .returned (.bool true) ∧ Below w.heap.size w w' := by
  cases b
  · exact numBack_10 n c w hT hc hn1 hn2
  · exact numBack_16 n c w hT hc hn1 hn2
end Go.Proofs.YtefobhoipclmdaaDoor
