/- lockageref13.plain. -/
import Derived.Test.YtoegjpfngmilhaaDoorH
set_option linter.unusedVariables false
set_option linter.unusedSimpArgs false
namespace Go.Proofs.YtoegjpfngmilhaaDoor
open Go.RowKit Go.Lib
open Go.Proofs.YtoegjpfngmilhaaDoorW.PrintWords

def plainT (l : List UInt8) : List UInt8 × Bool := match plainS l with | none => ([], false) | some r => (r, true)
theorem bytes_app (a b : List UInt8) : (⟨a.toArray⟩ : ByteArray) ++ ⟨b.toArray⟩ = ⟨(a ++ b).toArray⟩ := by
  apply ByteArray.ext
  simp [ByteArray.append, ByteArray.data_append]
theorem caps_ext : ∀ k : Fin 16, (⟨#[48, 49, 50, 51, 52, 53, 54, 55, 56, 57, 65, 66, 67, 68, 69, 70]⟩ : ByteArray).extract k.val (k.val + 1) = ⟨[capN k.val].toArray⟩ := by decide +kernel
theorem ext_one {S : ByteArray} {i : Nat} (h : i < S.size) : S.extract i (i + 1) = ⟨[S[i]].toArray⟩ := by
  have : lst (S.extract i (i + 1)) = [S[i]] := by
    rw [lst_extract, List.drop_eq_getElem_cons (by rw [lst_len]; exact h)]
    simp [lst]
    rfl
  apply ByteArray.ext
  apply Array.ext'
  exact this
theorem drop_at {S : ByteArray} {i : Nat} (h : i < S.size) : (lst S).drop i = S[i] :: (lst S).drop (i + 1) := by
  rw [List.drop_eq_getElem_cons (by rw [lst_len]; exact h)]
  simp [lst]
  rfl

theorem conv1 (W : World) (x : UInt8) : (convert 30 9 (.slice (some ⟨W.heap.size, 0, none⟩) 1 1)).run Tryd.prog (W.alloc (.cells #[.int .u8 (x.toNat : Int)] 5)) = .ok (.string ⟨[x].toArray⟩) (W.alloc (.cells #[.int .u8 (x.toNat : Int)] 5)) := by
  have hn := heap_alloc_new W (.cells #[.int .u8 (x.toNat : Int)] 5)
  refine run_convert_bytes_back _ 30 9 5 ⟨W.heap.size, 0, none⟩ 1 [x] Tryd.underlying30 Tryd.underlying5 Tryd.underlying9 ?_
  intro j hj
  rw [add_plain]
  match j with
  | 0 => exact box_at hn 0 _ rfl
  | n + 1 => simp at hj

set_option maxHeartbeats 4000000 in
set_option maxRecDepth 100000 in
theorem rplain_any (S : ByteArray) (w : World) (hs : S.size ≤ 1000) (q : List UInt8) (ok : Bool) (hq : plainT (lst S) = (q, ok)) :
    Calls Tryd.prog 43 #[.string S] w fun e w' => e = .returned (.tuple #[.string ⟨q.toArray⟩, .bool ok]) ∧ Below w.heap.size w w' := by
  have HQ := Lib.hid hq
  clear hq
  go_enter Tryd.func43, Tryd.ntmps43
  go_wp2_with fail
  go_loopg [4, 5] S.size (fun gg s4 s5 wr => ∃ out : List UInt8, ∃ i : Nat, s4 = .string ⟨out.toArray⟩ ∧ s5 = .int .i64 i ∧ i ≤ S.size ∧ S.size - i ≤ gg ∧ Below w.heap.size w wr ∧ plainS (lst S) = (plainS ((lst S).drop i)).map (out ++ ·) ∧ out.length ≤ 3 * i)
  case atStart =>
    refine ⟨[], 0, rfl, rfl, by omega, by omega, Below.refl _ _, ?_, by simp⟩
    cases h : plainS (lst S) <;> simp [h]
  case round =>
    obtain ⟨out, i, rfl, rfl, hi, hg, hb, hr, hn⟩ := hrel
    have HB := Lib.hid hb
    clear hb
    by_cases hlt : i < S.size
    · have hlt1 : (i : Int) < (S.size : Int) := by omega
      have hd := drop_at hlt
      have hx := ext_one hlt
      obtain ⟨c, hc⟩ : ∃ c, S[i] = c := ⟨_, rfl⟩
      rw [hc] at hd hx
      rw [hd] at hr
      have HD := Lib.hid hd
      clear hd
      have bad : (plainS (c :: (lst S).drop (i + 1)) = none) → ([], false) = (q, ok) := fun h => by
        rw [← HQ.out]
        unfold plainT
        rw [hr, h]
        rfl
      by_cases hk : okC c = true
      · obtain ⟨n, hN⟩ : ∃ n, c.toNat = n := ⟨_, rfl⟩
        have hnk : 33 ≤ n ∧ n ≤ 126 ∧ n ≠ 35 := by
          unfold okC at hk
          simp at hk
          omega
        have h1' : ¬ (n : Int) < 33 := by omega
        have h2' : ¬ (126 : Int) < (n : Int) := by omega
        have h3' : ((n : Int) == 35) = false := by rw [beq_eq_false_iff_ne]; omega
        by_cases h37 : c = 37
        · have h4' : n = 37 := by rw [← hN, h37]; rfl
          subst h4'
          obtain ⟨r, hrr⟩ : ∃ r, (lst S).drop (i + 1) = r := ⟨_, rfl⟩
          have hrl : r.length = S.size - (i + 1) := by rw [← hrr, List.length_drop, lst_len]
          rw [hrr, h37, plainS_esc] at hr
          rw [hrr, h37, plainS_esc] at bad
          have hbad : esc r = 0 → ([], false) = (q, ok) := fun h => bad (by rw [if_pos h])
          clear bad hx hk hnk h37
          by_cases h2 : i + 2 < S.size
          · have h2a : ¬ ((S.size : Int) ≤ (i : Int) + 2) := by omega
            obtain ⟨a, b, r2, hab⟩ : ∃ a b r2, r = a :: b :: r2 := by
              match h : r with
              | [] => simp at hrl; omega
              | [_] => simp at hrl; omega
              | a :: b :: r => exact ⟨a, b, r, rfl⟩
            have hby : byt (S.extract (i + 1) (i + 3)) = [a.toNat, b.toNat] := by
              rw [byt_lst, lst_extract, hrr, hab]
              have : i + 3 - (i + 1) = 2 := by omega
              rw [this]
              rfl
            have hes : (S.extract (i + 1) (i + 3)).size ≤ 9223372036854775807 := by rw [ByteArray.size_extract]; omega
            have HE := Lib.hid (show esc r = if (parseS [a.toNat, b.toNat] 16).2 = 0 then (parseS [a.toNat, b.toNat] 16).1.toNat else 0 by rw [hab]; rfl)
            have hp := parse2 a.toNat b.toNat
            obtain ⟨p1, hp1⟩ : ∃ p, parseS [a.toNat, b.toNat] 16 = p := ⟨_, rfl⟩
            obtain ⟨x, y⟩ := p1
            rw [hp1] at hp HE
            have HP := Lib.hid hp1
            have HBY := Lib.hid hby
            have HES := Lib.hid hes
            have hxy : (x = 0 ∧ y = 1) ∨ (0 ≤ x ∧ x < 256 ∧ y = 0) := by
              rcases hp with ⟨_, h⟩ | ⟨h0, h1, h3, h4, h⟩
              · injection h with h5 h6
                exact .inl ⟨h5, h6⟩
              · injection h with h5 h6
                exact .inr ⟨by omega, by omega, h6⟩
            have hr2 : r.drop 2 = (lst S).drop (i + 3) := by rw [← hrr, List.drop_drop]
            rw [hr2] at hr
            have HR := Lib.hid hr
            clear hby hp1 hes hab hp hrr hr2 hr
            rcases hxy with ⟨rfl, rfl⟩ | ⟨hx0, hx1, rfl⟩
            · have hb' := hbad (by rw [HE.out]; rfl)
              injection hb' with e1 e2
              subst e1 e2
              clear hbad
              go_wp2_with (go_at_call 51; refine (rparse_any _ 16 _ HES.out).mono ?_; rw [HBY.out, HP.out]; rintro e w1 ⟨rfl, rfl⟩)
              go_ret2
              exact ⟨rfl, HB.out⟩
            · obtain ⟨c8, hc8⟩ : ∃ c8 : UInt8, x = (c8.toNat : Int) := ⟨UInt8.ofNat x.toNat, by simp; omega⟩
              subst hc8
              have hwx : IntKind.u8.wrap (c8.toNat : Int) = (c8.toNat : Int) := by have := c8.toNat_lt; simp [IntKind.wrap, IntKind.bits, IntKind.signed]; omega
              have HE2 := Lib.hid (show esc r = c8.toNat by rw [HE.out]; simp)
              by_cases hz : c8.toNat = 0
              · have hb' := hbad (by rw [HE2.out, hz])
                injection hb' with e1 e2
                subst e1 e2
                clear hbad
                go_wp2_with (go_at_call 51; refine (rparse_any _ 16 _ HES.out).mono ?_; rw [HBY.out, HP.out]; rintro e w1 ⟨rfl, rfl⟩)
                go_ret2
                exact ⟨rfl, HB.out⟩
              · have hz' : ((c8.toNat : Int) == 0) = false := by rw [beq_eq_false_iff_ne]; omega
                have hnew : plainS (lst S) = (plainS ((lst S).drop (i + 3))).map ((out ++ unit c8.toNat) ++ ·) := by
                  rw [HR.out, HE2.out, if_neg hz]
                  cases plainS ((lst S).drop (i + 3)) <;> simp
                have HN := Lib.hid hnew
                have hu := Lib.hid (unit_ok ⟨c8.toNat, c8.toNat_lt⟩).2.1
                have hos : out.length ≤ 3000 := by omega
                clear hnew hbad
                cases hfr : freeB c8 with
                | true =>
                  have HFR := Lib.hid hfr
                  clear hfr
                  have hcv := fun W : World => conv1 W c8
                  go_wp2_with first
                    | (go_at_call 51; refine (rparse_any _ 16 _ HES.out).mono ?_; rw [HBY.out, HP.out]; rintro e w1 ⟨rfl, rfl⟩)
                    | (go_at_call 52; refine (rfree_any c8 _).mono ?_; rw [HFR.out]; rintro e w2 ⟨rfl, rfl⟩)
                  go_roundg (S.size - (i + 3))
                  case measure => omega
                  case rel => exact ⟨out ++ [c8], i + 3, congrArg Value.string (bytes_app out [c8]), by simp; omega, by omega, by omega, by first | exact HB.out.alloc HB.out.size _ | exact HB.out, by rw [HN.out]; unfold unit; rw [if_pos (show freeN c8.toNat = true from HFR.out)]; simp, by rw [List.length_append]; simp; omega⟩
                | false =>
                  have HFR := Lib.hid hfr
                  clear hfr
                  have hlt8 := c8.toNat_lt
                  obtain ⟨x4, hx4⟩ : ∃ x, c8.toNat / 16 = x := ⟨_, rfl⟩
                  obtain ⟨y4, hy4⟩ : ∃ x, c8.toNat % 16 = x := ⟨_, rfl⟩
                  have hA : (c8.toNat : Int) / 16 = (x4 : Int) := by omega
                  have hB : (c8.toNat : Int) % 16 = (y4 : Int) := by omega
                  have hA0 : (c8.toNat : Int).tdiv 16 = (x4 : Int) := by rw [Int.tdiv_eq_ediv_of_nonneg (by omega)]; exact hA
                  have hB0 : (c8.toNat : Int).tmod 16 = (y4 : Int) := by rw [Int.tmod_eq_emod_of_nonneg (by omega)]; exact hB
                  have hA1 : x4 < 16 := by omega
                  have hB1 : y4 < 16 := by omega
                  have hA2 : (x4 : Int) < 16 := by omega
                  have hB2 : (y4 : Int) < 16 := by omega
                  have hA3 : (x4 : Int) + 1 ≤ 16 := by omega
                  have hB3 : (y4 : Int) + 1 ≤ 16 := by omega
                  have HXX := Lib.hid hx4
                  have HYY := Lib.hid hy4
                  clear hx4 hy4 hlt8
                  have hcX := caps_ext ⟨x4, hA1⟩
                  have hcY := caps_ext ⟨y4, hB1⟩
                  simp only at hcX hcY
                  obtain ⟨cx, hcx⟩ : ∃ cx, capN x4 = cx := ⟨_, rfl⟩
                  obtain ⟨cy, hcy⟩ : ∃ cy, capN y4 = cy := ⟨_, rfl⟩
                  rw [hcx] at hcX
                  rw [hcy] at hcY
                  have HCX := Lib.hid hcx
                  have HCY := Lib.hid hcy
                  clear hcx hcy
                  go_wp2_with first
                    | (go_at_call 51; refine (rparse_any _ 16 _ HES.out).mono ?_; rw [HBY.out, HP.out]; rintro e w1 ⟨rfl, rfl⟩)
                    | (go_at_call 52; refine (rfree_any c8 _).mono ?_; rw [HFR.out]; rintro e w2 ⟨rfl, rfl⟩)
                  go_region
                  go_wp2_with fail
                  go_roundg (S.size - (i + 3))
                  case measure => omega
                  case rel => exact ⟨((out ++ [37]) ++ [cx]) ++ [cy], i + 3, congrArg Value.string (by rw [← bytes_app, ← bytes_app, ← bytes_app]), by simp; omega, by omega, by omega, by first | exact HB.out | exact below_drew HB.out, by rw [HN.out]; unfold unit; rw [if_neg (show ¬ freeN c8.toNat = true from fun h => by rw [show freeN c8.toNat = false from HFR.out] at h; cases h), HXX.out, HYY.out, HCX.out, HCY.out]; simp, by simp; omega⟩
          · have h2a : ((S.size : Int) ≤ (i : Int) + 2) := by omega
            have hb' := hbad (by
              match r, hrl with
              | [], _ => rfl
              | [_], _ => rfl
              | _ :: _ :: _, h => simp at h; omega)
            injection hb' with e1 e2
            subst e1 e2
            clear hbad hr hrr
            go_wp2_with fail
            go_ret2
            exact ⟨rfl, HB.out⟩
        · have h4' : ((n : Int) != 37) = true := by
            have : n ≠ 37 := by rintro rfl; exact h37 (UInt8.toNat_inj.1 hN)
            rw [bne_iff_ne]; omega
          rw [plainS_cons h37, if_pos hk] at hr
          have hfin : plainS (lst S) = (plainS ((lst S).drop (i + 1))).map ((out ++ [c]) ++ ·) := by
            rw [hr]
            cases plainS ((lst S).drop (i + 1)) <;> simp
          have HF := Lib.hid hfin
          have hap := bytes_app out [c]
          have hos : out.length ≤ 3000 := by omega
          have HX := Lib.hid hx
          clear hr bad hk hx hfin hnk
          go_wp2_with fail
          go_roundg (S.size - (i + 1))
          case measure => omega
          case rel => exact ⟨out ++ [c], i + 1, by rw [HX.out, bytes_app], by simp, by omega, by omega, HB.out, HF.out, by rw [List.length_append]; simp; omega⟩
      · have hbad := bad (by
          have : c ≠ 37 := by rintro rfl; exact hk (by decide)
          rw [plainS_cons this, if_neg hk])
        injection hbad with e1 e2
        subst e1 e2
        obtain ⟨n, hN⟩ : ∃ n, c.toNat = n := ⟨_, rfl⟩
        have hnk : n < 33 ∨ 126 < n ∨ n = 35 := by
          unfold okC at hk
          simp at hk
          omega
        clear hr bad hk hx
        by_cases h1 : n < 33
        · have h1' : (n : Int) < 33 := by omega
          clear hnk
          go_wp2_with fail
          go_ret2
          exact ⟨rfl, HB.out⟩
        · have h1' : ¬ (n : Int) < 33 := by omega
          by_cases h2 : 126 < n
          · have h2' : (126 : Int) < (n : Int) := by omega
            clear hnk
            go_wp2_with fail
            go_ret2
            exact ⟨rfl, HB.out⟩
          · have h2' : ¬ (126 : Int) < (n : Int) := by omega
            have h3 : n = 35 := by omega
            clear hnk
            subst h3
            go_wp2_with fail
            go_ret2
            exact ⟨rfl, HB.out⟩
    · have hlt1 : ¬ (i : Int) < (S.size : Int) := by omega
      have hfin : plainT (lst S) = (out, true) := by
        unfold plainT
        rw [hr, List.drop_eq_nil_of_le (by rw [lst_len]; omega), plainS_nil]
        simp
      rw [HQ.out] at hfin
      injection hfin with e1 e2
      subst e1 e2
      clear hr
      go_wp2_with fail
      go_ret2
      exact ⟨rfl, HB.out⟩
end Go.Proofs.YtoegjpfngmilhaaDoor
