/- lockageref14.prefix, Right. -/
import Derived.Test.YtoegjpfngmilhaaDoorUA
import Derived.Test.YtoegjpfngmilhaaDoorYB
import Derived.Test.YtoegjpfngmilhaaDoorYS
set_option linter.unusedVariables false
set_option linter.unusedSimpArgs false
namespace Go.Proofs.YtoegjpfngmilhaaDoor
open Go.RowKit Go.Lib
open Go.Proofs.YtoegjpfngmilhaaDoorW.PrintWords

abbrev Rt := List UInt8 × Int
def encR (r : Rt) : List Value := [str r.1, .int .i64 r.2]
theorem encR_len : ∀ r, (encR r).length = 2 := fun _ => rfl
def prefixB (s : List UInt8) : Bool := decide (normS s = (s, [], 0))
def goodB (r : Rt) : Bool := prefixB r.1 && decide (0 ≤ r.2) && decide (r.2 < 8)
def fsts (l : List Rt) : List (List UInt8) := l.map Prod.fst
def rightB (l : List Rt) : Bool := decide (l.length ≤ 10) && l.all goodB && decide (fsts l).Nodup
theorem fsts_snoc (l : List Rt) (r : Rt) : fsts (l ++ [r]) = fsts l ++ [r.1] := by simp [fsts]
theorem fsts_len (l : List Rt) : (fsts l).length = l.length := by simp [fsts]
theorem rightB_of {l : List Rt} (h1 : l.length ≤ 10) (h2 : ∀ r ∈ l, goodB r = true) (h3 : (fsts l).Nodup) : rightB l = true := by
  unfold rightB
  rw [decide_eq_true h1, decide_eq_true h3, List.all_eq_true.2 h2]
  rfl
theorem rightB_out {l : List Rt} (h : rightB l = true) : l.length ≤ 10 ∧ (∀ r ∈ l, goodB r = true) ∧ (fsts l).Nodup := by
  unfold rightB at h
  simp only [Bool.and_eq_true, decide_eq_true_eq, List.all_eq_true] at h
  exact ⟨h.1.1, h.1.2, h.2⟩
theorem rightB_not {l : List Rt} (h : ¬ (l.length ≤ 10 ∧ (∀ r ∈ l, goodB r = true) ∧ (fsts l).Nodup)) : rightB l = false := Bool.eq_false_iff.2 fun e => h (rightB_out e)

set_option maxHeartbeats 1000000 in
theorem rprefix_any (s : List UInt8) (w : World) (hs : s.length ≤ 1000000) :
    Calls Tryd.prog 23 #[str s] w fun e w' => e = .returned (.bool (prefixB s)) ∧ Below w.heap.size w w' := by
  obtain ⟨A, B, c, hq⟩ : ∃ A B c, normS s = (A, B, c) := ⟨_, _, _, rfl⟩
  have HN := Lib.hid (rnormal_any s w hs A B c hq)
  unfold prefixB
  rw [hq]
  clear hq hs
  by_cases hc : c = 0
  · subst hc
    by_cases hA : A = s
    · subst hA
      by_cases hB : B = []
      · subst hB
        rw [decide_eq_true rfl]
        go_enter Tryd.func23, Tryd.ntmps23
        go_wp2_with (go_at_call 34; refine HN.out.mono ?_; rintro e w1 ⟨rfl, hb⟩)
        go_ret
        exact ⟨rfl, hb⟩
      · have hB1 : (B == []) = false := by simpa using hB
        have hd : decide ((A, B, 0) = (A, ([] : List UInt8), 0)) = false := decide_eq_false (by simpa using hB)
        rw [hd]
        have HH := Lib.hid hB
        clear hd hB
        go_enter Tryd.func23, Tryd.ntmps23
        go_wp2_with (go_at_call 34; refine HN.out.mono ?_; rintro e w1 ⟨rfl, hb⟩)
        go_ret
        exact ⟨rfl, hb⟩
    · have hA1 : (A == s) = false := by simpa using hA
      have hd : decide ((A, B, 0) = (s, ([] : List UInt8), 0)) = false := decide_eq_false (by simp [hA])
      rw [hd]
      have HH := Lib.hid hA
      clear hd hA
      go_enter Tryd.func23, Tryd.ntmps23
      go_wp2_with (go_at_call 34; refine HN.out.mono ?_; rintro e w1 ⟨rfl, hb⟩)
      go_ret
      exact ⟨rfl, hb⟩
  · have hc1 : ¬ (c : Int) = 0 := by omega
    have hc2 : ((c : Int) == 0) = false := by simpa using hc1
    have hd : decide ((A, B, c) = (s, ([] : List UInt8), 0)) = false := decide_eq_false (by simp [hc])
    rw [hd]
    have HH := Lib.hid hc
    clear hd hc
    go_enter Tryd.func23, Tryd.ntmps23
    go_wp2_with (go_at_call 34; refine HN.out.mono ?_; rintro e w1 ⟨rfl, hb⟩)
    go_ret
    exact ⟨rfl, hb⟩

theorem goodB_of {x : Rt} (h1 : prefixB x.1 = true) (h2 : 0 ≤ x.2) (h3 : x.2 < 8) : goodB x = true := by simp [goodB, h1, h2, h3]
theorem goodB_out {x : Rt} (h : goodB x = true) : prefixB x.1 = true ∧ 0 ≤ x.2 ∧ x.2 < 8 := by
  simp only [goodB, Bool.and_eq_true, decide_eq_true_eq] at h
  exact ⟨h.1.1, h.1.2, h.2⟩

set_option maxHeartbeats 4000000 in
theorem rright_any (A : Option Addr) (n c : Nat) (l : List Rt) (w : World) (hr : RdE encR 2 w (.slice A n c) l) (hs : ∀ r ∈ l, r.1.length ≤ 1000000) :
    Calls Tryd.prog 16 #[.slice A n c] w fun e w' => e = .returned (.bool (rightB l)) ∧ Below w.heap.size w w' := by
  have hn := hr.len
  have HR := Lib.hid hr
  have HS := Lib.hid hs
  clear hr hs
  by_cases h10 : 10 < n
  · have h1 : (10 : Int) < (n : Int) := by omega
    rw [rightB_not (fun h => by have := h.1; omega)]
    go_enter Tryd.func16, Tryd.ntmps16
    go_wp2_with fail
    go_ret
    exact ⟨rfl, Below.refl _ _⟩
  have h1 : ¬ (10 : Int) < (n : Int) := by omega
  go_enter Tryd.func16, Tryd.ntmps16
  go_wp2_with fail
  go_loopg [3] n (fun gg s3 wr => ∃ i : Nat, s3 = .int .i64 i ∧ i ≤ n ∧ n - i ≤ gg ∧ Below w.heap.size w wr ∧ Aside ((∀ r ∈ l.take i, goodB r = true) ∧ (fsts (l.take i)).Nodup))
  case atStart => exact ⟨0, rfl, by omega, by omega, Below.refl _ _, by simp, by simp [fsts]⟩
  case round =>
    obtain ⟨i, rfl, hi, hg, hb, HA⟩ := hrel
    have HA := Lib.hid HA.out
    have HB := Lib.hid hb
    clear hb
    by_cases hlt : i < n
    · have h2 : (i : Int) < (n : Int) := by omega
      obtain ⟨b, off, rfl, hbl, hc0⟩ := HR.out.get (by omega)
      have hl : i < l.length := by omega
      have hat : l[i]? = some l[i] := List.getElem?_eq_getElem hl
      have hmem : l[i] ∈ l := List.getElem_mem hl
      have hts : l.take (i + 1) = l.take i ++ [l[i]] := List.take_succ_eq_append_getElem hl
      have hcs : ∀ j y, (encR l[i])[j]? = some y → w.cell? ⟨b, off + i * 2 + j, none⟩ = some y := fun j y hy => hc0 i j l[i] y hat hy
      have HC := Lib.hid hc0
      have HL := Lib.hid hl
      clear hc0
      generalize l[i] = x at hat hmem hts hcs
      clear hl
      obtain ⟨px, bx⟩ := x
      have k0 := (HB.out.cell (p := ⟨b, off + i * 2, none⟩) hbl).trans (hcs 0 _ rfl)
      have k1 := (HB.out.cell (p := ⟨b, off + i * 2 + 1, none⟩) hbl).trans (hcs 1 _ rfl)
      have HCS := Lib.hid hcs
      have HP := Lib.hid (rprefix_any px wr (HS.out _ hmem))
      have HM := Lib.hid hmem
      have HAT := Lib.hid hat
      have HT := Lib.hid hts
      have HBL := Lib.hid hbl
      clear hcs hmem hat hts hbl
      by_cases g1 : prefixB px = true
      · rw [g1] at HP
        by_cases g2 : bx < 0
        · have HF := Lib.hid (rightB_not (l := l) (fun h => by have := (goodB_out (h.2.1 _ HM.out)).2.1; simp only at this; omega))
          have HG := Lib.hid g1
          clear g1
          go_wp2_with (go_at_call 23; refine HP.out.mono ?_; rintro e w1 ⟨rfl, hb1⟩; have k1' := (hb1.cell (p := ⟨b, off + i * 2 + 1, none⟩) (Nat.lt_of_lt_of_le HBL.out HB.out.size)).trans k1; have HB1 := Lib.hid (HB.out.trans (hb1.mono HB.out.size)); clear hb1 k0 k1)
          go_ret
          exact ⟨ret_bool HF.out.symm, HB1.out⟩
        by_cases g3 : 8 ≤ bx
        · have HF := Lib.hid (rightB_not (l := l) (fun h => by have := (goodB_out (h.2.1 _ HM.out)).2.2; simp only at this; omega))
          have HG := Lib.hid g1
          clear g1
          go_wp2_with (go_at_call 23; refine HP.out.mono ?_; rintro e w1 ⟨rfl, hb1⟩; have k1' := (hb1.cell (p := ⟨b, off + i * 2 + 1, none⟩) (Nat.lt_of_lt_of_le HBL.out HB.out.size)).trans k1; have HB1 := Lib.hid (HB.out.trans (hb1.mono HB.out.size)); clear hb1 k0 k1)
          go_ret
          exact ⟨ret_bool HF.out.symm, HB1.out⟩
        have HG := Lib.hid (goodB_of (x := (px, bx)) g1 (by simp only; omega) (by simp only; omega))
        clear g1
        go_wp2_with (go_at_call 23; refine HP.out.mono ?_; rintro e w1 ⟨rfl, hb1⟩; have k1' := (hb1.cell (p := ⟨b, off + i * 2 + 1, none⟩) (Nat.lt_of_lt_of_le HBL.out HB.out.size)).trans k1; have HB1 := Lib.hid (HB.out.trans (hb1.mono HB.out.size)); clear hb1 k0 k1)
        go_loopg [4] i (fun gg s4 wq => ∃ k : Nat, s4 = .int .i64 k ∧ k ≤ i ∧ i - k ≤ gg ∧ Below w.heap.size w wq ∧ Aside (px ∉ fsts (l.take k)))
        case atStart => exact ⟨0, rfl, by omega, by omega, HB1.out, (show px ∉ fsts (l.take 0) by simp [fsts])⟩
        case round =>
          obtain ⟨k, rfl, hk, hgk, hbq, hA2⟩ := hrel
          have HA2 := Lib.hid hA2.out
          have HBQ := Lib.hid hbq
          clear hA2 hbq
          by_cases hki : k < i
          · have hk1 : (k : Int) < (i : Int) := by omega
            have hk2 : (k : Int) < (n : Int) := by omega
            have hl2 : k < l.length := by omega
            have hts2 : l.take (k + 1) = l.take k ++ [l[k]] := List.take_succ_eq_append_getElem hl2
            have hmem2 : l[k] ∈ l.take i := by
              rw [List.mem_iff_getElem]
              exact ⟨k, by rw [List.length_take]; omega, by rw [List.getElem_take]⟩
            have q0 := (HBQ.out.cell (p := ⟨b, off + k * 2, none⟩) HBL.out).trans (HC.out k 0 l[k] _ (List.getElem?_eq_getElem hl2) rfl)
            have q1 := (HBQ.out.cell (p := ⟨b, off + i * 2, none⟩) HBL.out).trans (HCS.out 0 _ rfl)
            generalize l[k] = y at hts2 hmem2 q0
            obtain ⟨py, bk⟩ := y
            clear hl2
            have HTS2 := Lib.hid hts2
            have HM2 := Lib.hid hmem2
            clear hts2 hmem2
            by_cases he : py = px
            · subst he
              have HF := Lib.hid (rightB_not (l := l) (fun h => ?hd))
              case hd =>
                have h3 := h.2.2
                have h4 : (fsts (l.take (i + 1))).Nodup := List.Nodup.sublist (by unfold fsts; exact (List.take_sublist _ _).map _) h3
                rw [HT.out, fsts_snoc] at h4
                have h5 := (List.nodup_append.1 h4).2.2 py (by unfold fsts; exact List.mem_map.2 ⟨_, HM2.out, rfl⟩) py (by simp)
                exact h5 rfl
              go_wp2_with fail
              go_region
              all_goals
                go_wp2_with fail
                go_ret
                exact ⟨ret_bool HF.out.symm, by first | exact HBQ.out | exact below_drew HBQ.out⟩
            · have he1 : (py == px) = false := by simpa using he
              have HE := Lib.hid he
              clear he
              go_wp2_with fail
              go_region
              all_goals
                go_wp2_with fail
                go_roundg (i - (k + 1))
                case measure => omega
                case rel =>
                  refine ⟨k + 1, by simp [wrap64] <;> omega, by omega, by omega, by first | exact HBQ.out | exact below_drew HBQ.out, ?_⟩
                  show px ∉ fsts (l.take (k + 1))
                  rw [HTS2.out, fsts_snoc]
                  simp only [List.mem_append, List.mem_singleton, not_or]
                  exact ⟨HA2.out, fun e => HE.out e.symm⟩
          · have hk1 : ¬ (k : Int) < (i : Int) := by omega
            obtain rfl : k = i := by omega
            go_wp2_with fail
            go_roundg (n - (k + 1))
            case measure => omega
            case rel =>
              refine ⟨k + 1, by simp [wrap64] <;> omega, by omega, by omega, HBQ.out, ?_⟩
              show (∀ r ∈ l.take (k + 1), goodB r = true) ∧ (fsts (l.take (k + 1))).Nodup
              rw [HT.out, fsts_snoc]
              refine ⟨fun r hr => ?_, ?_⟩
              · rw [List.mem_append, List.mem_singleton] at hr
                rcases hr with hr | rfl
                · exact HA.out.1 r hr
                · exact HG.out
              · rw [List.nodup_append]
                refine ⟨HA.out.2, by simp, fun a ha b hb => ?_⟩
                rw [List.mem_singleton] at hb
                subst hb
                rintro rfl
                exact HA2.out ha
      · have g1' : prefixB px = false := Bool.eq_false_iff.2 g1
        rw [g1'] at HP
        have HF := Lib.hid (rightB_not (l := l) (fun h => g1 (goodB_out (h.2.1 _ HM.out)).1))
        have HG := Lib.hid g1
        clear g1 g1'
        go_wp2_with (go_at_call 23; refine HP.out.mono ?_; rintro e w1 ⟨rfl, hb1⟩; have HB1 := Lib.hid (HB.out.trans (hb1.mono HB.out.size)); clear hb1)
        go_ret
        exact ⟨ret_bool HF.out.symm, HB1.out⟩
    · have h2 : ¬ (i : Int) < (n : Int) := by omega
      obtain rfl : i = n := by omega
      have hall : l.take i = l := List.take_of_length_le (by omega)
      have hA := HA.out
      rw [hall] at hA
      have HF := Lib.hid (rightB_of (l := l) (by omega) hA.1 hA.2)
      clear hA hall
      go_wp2_with fail
      go_ret
      exact ⟨ret_bool HF.out.symm, HB.out⟩
end Go.Proofs.YtoegjpfngmilhaaDoor
