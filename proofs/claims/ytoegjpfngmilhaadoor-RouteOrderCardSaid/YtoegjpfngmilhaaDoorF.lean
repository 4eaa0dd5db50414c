/- target.may, escape. -/
import Derived.Test.YtoegjpfngmilhaaDoorE
set_option linter.unusedVariables false
set_option linter.unusedSimpArgs false
namespace Go.Proofs.YtoegjpfngmilhaaDoor
open Go.RowKit Go.Lib
open Go.Proofs.YtoegjpfngmilhaaDoorW.PrintWords

def okC (c : UInt8) : Bool := decide (33 ≤ c.toNat ∧ c.toNat ≤ 126 ∧ c.toNat ≠ 35)
def mayB (l : List UInt8) : Bool := l.all okC
def lst (S : ByteArray) : List UInt8 := S.data.toList
theorem lst_len (S : ByteArray) : (lst S).length = S.size := (size_eq S).symm
theorem lst_mk (l : List UInt8) : lst ⟨l.toArray⟩ = l := rfl
theorem lst_at {S : ByteArray} {i : Nat} (h : i < S.size) : (lst S)[i]? = some S[i] := by
  rw [List.getElem?_eq_getElem (by rw [lst_len]; exact h)]
  simp [lst]
  rfl
theorem take_snoc {l : List UInt8} {i : Nat} {c : UInt8} (h : l[i]? = some c) : l.take (i + 1) = l.take i ++ [c] := by
  obtain ⟨hl, rfl⟩ := List.getElem?_eq_some_iff.1 h
  exact List.take_succ_eq_append_getElem hl

set_option maxHeartbeats 2000000 in
theorem may_any (S : ByteArray) (w : World) (hs : S.size ≤ 9223372036854775807) : Calls Tryd.prog 29 #[.string S] w fun e w' => e = .returned (.bool (mayB (lst S))) ∧ w' = w := by
  go_enter Tryd.func29, Tryd.ntmps29
  go_wp2_with fail
  go_loopg [6] S.size (fun gg s6 wr => ∃ kk : Nat, kk ≤ S.size ∧ S.size - kk ≤ gg ∧ s6 = .int .i64 kk ∧ w = wr ∧ Aside (((lst S).take kk).all okC = true))
  case atStart =>
    refine ⟨0, Nat.zero_le _, by omega, rfl, rfl, ?_⟩
    show Aside _
    simp [Aside]
  case round =>
    obtain ⟨kk, hkk, hg, rfl, rfl, HA⟩ := hrel
    have HA := Lib.hid HA.out
    by_cases hlt : kk < S.size
    · have hlt1 : (kk : Int) < (S.size : Int) := by omega
      have hat := lst_at hlt
      obtain ⟨c, hc⟩ : ∃ c, S[kk] = c := ⟨_, rfl⟩
      rw [hc] at hat
      have hsn := Lib.hid (take_snoc hat)
      have HM := Lib.hid (List.mem_of_getElem? hat)
      obtain ⟨n, hn⟩ : ∃ n, c.toNat = n := ⟨_, rfl⟩
      have HN := Lib.hid hn
      clear hat
      have bad : okC c = false → mayB (lst S) = false := fun h => by
        unfold mayB
        rw [List.all_eq_false]
        exact ⟨c, HM.out, by rw [h]; simp⟩
      have HB := Lib.hid bad
      clear bad
      by_cases h1 : n < 33
      · have h1' : (n : Int) < 33 := by omega
        have HF := Lib.hid (HB.out (by unfold okC; rw [HN.out]; simp; omega))
        go_wp2_with fail
        go_ret
        exact ⟨ret_bool HF.out.symm, rfl⟩
      · have h1' : ¬ (n : Int) < 33 := by omega
        by_cases h2 : 126 < n
        · have h2' : (126 : Int) < (n : Int) := by omega
          have HF := Lib.hid (HB.out (by unfold okC; rw [HN.out]; simp; omega))
          go_wp2_with fail
          go_ret
          exact ⟨ret_bool HF.out.symm, rfl⟩
        · have h2' : ¬ (126 : Int) < (n : Int) := by omega
          by_cases h3 : n = 35
          · subst h3
            have HF := Lib.hid (HB.out (by unfold okC; rw [HN.out]; rfl))
            go_wp2_with fail
            go_ret
            exact ⟨ret_bool HF.out.symm, rfl⟩
          · have h3' : ((n : Int) == 35) = false := by rw [beq_eq_false_iff_ne]; omega
            have HF := Lib.hid (show okC c = true by unfold okC; rw [HN.out]; simp; omega)
            go_wp2_with fail
            go_roundg (S.size - (kk + 1))
            case measure => omega
            case rel =>
              refine ⟨kk + 1, by omega, by omega, by simp, rfl, ?_⟩
              show Aside _
              rw [hsn.out]
              simp [Aside, HA.out, HF.out]
    · have hlt1 : ¬ (kk : Int) < (S.size : Int) := by omega
      have hfin : mayB (lst S) = true := by
        have := HA.out
        rwa [List.take_of_length_le (by rw [lst_len]; omega)] at this
      have HF := Lib.hid hfin
      clear hfin
      go_wp2_with fail
      go_ret
      exact ⟨ret_bool HF.out.symm, rfl⟩

def nat8 (l : List UInt8) : List Nat := l.map UInt8.toNat
theorem byt_lst (S : ByteArray) : byt S = nat8 (lst S) := rfl
theorem lst_extract (S : ByteArray) (i j : Nat) : lst (S.extract i j) = ((lst S).drop i).take (j - i) := by
  simp [lst, ByteArray.data_extract]
/-- the byte of an escape, behind its sign; 0: there is none -/
def esc : List UInt8 → Nat
  | a :: b :: _ => if (parseS [a.toNat, b.toNat] 16).2 = 0 then (parseS [a.toNat, b.toNat] 16).1.toNat else 0
  | _ => 0
theorem parse2 (a b : Nat) : (digI a 16 = -1 ∨ digI b 16 = -1) ∧ parseS [a, b] 16 = (0, 1) ∨ (0 ≤ digI a 16 ∧ digI a 16 < 16 ∧ 0 ≤ digI b 16 ∧ digI b 16 < 16 ∧ parseS [a, b] 16 = (digI a 16 * 16 + digI b 16, 0)) := by
  rcases digI_cases a 16 with ha | ⟨ha0, ha1⟩
  · exact .inl ⟨.inl ha, parseS_bad (by simp [badB, ha])⟩
  · rcases digI_cases b 16 with hb | ⟨hb0, hb1⟩
    · exact .inl ⟨.inr hb, parseS_bad (by simp [badB, hb])⟩
    · refine .inr ⟨ha0, ha1, hb0, hb1, ?_⟩
      rw [parseS_good (by simp) (.inr rfl) (by simp [badB]; omega)]
      have f1 : Fit (digI a 16) := ⟨by omega, by omega⟩
      have f2 : Fit (digI a 16 * 16 + digI b 16) := ⟨by omega, by omega⟩
      simp [stepP, f1, f2]
theorem esc2_lt (a b : Nat) : (if (parseS [a, b] 16).2 = 0 then (parseS [a, b] 16).1.toNat else 0) < 256 := by
  rcases parse2 a b with ⟨_, h⟩ | ⟨h0, h1, h2, h3, h⟩
  · rw [h]; decide
  · rw [h]
    simp only [if_true]
    omega
theorem esc_lt (l : List UInt8) : esc l < 256 := by
  match l with
  | [] => decide
  | [_] => simp [esc]
  | a :: b :: _ => exact esc2_lt a.toNat b.toNat

set_option maxHeartbeats 2000000 in
theorem escape_any (S : ByteArray) (w : World) (hs : S.size ≤ 9223372036854775807) : Calls Tryd.prog 38 #[.string S] w fun e w' => e = .returned (.int .u8 (esc (lst S) : Int)) ∧ w' = w := by
  have hl := lst_len S
  by_cases h2 : S.size < 2
  · have h2' : (S.size : Int) < 2 := by omega
    have HE := Lib.hid (show esc (lst S) = 0 by
      match h : lst S with
      | [] => rfl
      | [_] => rfl
      | a :: b :: r => rw [h] at hl; simp at hl; omega)
    go_enter Tryd.func38, Tryd.ntmps38
    go_wp2_with fail
    go_ret
    exact ⟨by rw [HE.out]; rfl, rfl⟩
  · have h2' : ¬ (S.size : Int) < 2 := by omega
    have h2s : 2 ≤ S.size := by omega
    have h2i : (2 : Int) ≤ (S.size : Int) := by omega
    obtain ⟨a, b, r, hab⟩ : ∃ a b r, lst S = a :: b :: r := by
      match h : lst S with
      | [] => rw [h] at hl; simp at hl; omega
      | [_] => rw [h] at hl; simp at hl; omega
      | a :: b :: r => exact ⟨a, b, r, rfl⟩
    have hby : byt (S.extract 0 2) = [a.toNat, b.toNat] := by rw [byt_lst, lst_extract, hab]; rfl
    have HE := Lib.hid (show esc (lst S) = if (parseS [a.toNat, b.toNat] 16).2 = 0 then (parseS [a.toNat, b.toNat] 16).1.toNat else 0 by rw [hab]; rfl)
    have hes : (S.extract 0 2).size ≤ 9223372036854775807 := by simp [ByteArray.size_extract]; omega
    have hp := parse2 a.toNat b.toNat
    obtain ⟨p1, hp1⟩ : ∃ p, parseS [a.toNat, b.toNat] 16 = p := ⟨_, rfl⟩
    obtain ⟨x, y⟩ := p1
    rw [hp1] at hp HE
    have HP := Lib.hid hp1
    have HBY := Lib.hid hby
    have HES := Lib.hid hes
    clear hby hp1 hes hl hab
    have hxy : (x = 0 ∧ y = 1) ∨ (0 ≤ x ∧ x < 256 ∧ y = 0) := by
      rcases hp with ⟨_, h⟩ | ⟨h0, h1, h3, h4, h⟩
      · injection h with h5 h6
        exact .inl ⟨h5, h6⟩
      · injection h with h5 h6
        exact .inr ⟨by omega, by omega, h6⟩
    clear hp
    rcases hxy with ⟨rfl, rfl⟩ | ⟨hx0, hx1, rfl⟩
    · go_enter Tryd.func38, Tryd.ntmps38
      go_wp2_with (go_at_call 48; refine (parse_any _ 16 _ HES.out).mono ?_; rw [HBY.out, HP.out]; rintro e w1 ⟨rfl, rfl⟩)
      go_ret
      exact ⟨by rw [HE.out]; rfl, rfl⟩
    · have wx : IntKind.u8.wrap x = x := by simp [IntKind.wrap, IntKind.bits, IntKind.signed]; omega
      go_enter Tryd.func38, Tryd.ntmps38
      go_wp2_with (go_at_call 48; refine (parse_any _ 16 _ HES.out).mono ?_; rw [HBY.out, HP.out]; rintro e w1 ⟨rfl, rfl⟩)
      go_ret
      exact ⟨by rw [HE.out]; simp; omega, rfl⟩
end Go.Proofs.YtoegjpfngmilhaaDoor
