/- route.Find's closure, slices.MaxFunc (printed by mkUF.py). -/
import Derived.Test.YtoegjpfngmilhaaDoorUE
set_option linter.unusedVariables false
set_option linter.unusedSimpArgs false
namespace Go.Proofs.YtoegjpfngmilhaaDoor
open Go.RowKit Go.Lib
open Go.Proofs.YtoegjpfngmilhaaDoorW.PrintWords

set_option maxHeartbeats 4000000 in
theorem cmp_any (bx : Nat) (A : Option Addr) (n c : Nat) (l : List Rt) (i k : Nat) (w : World) (hbx : w.cell? ⟨bx, 0, none⟩ = some (.slice A n c)) (hr : RdE encR 2 w (.slice A n c) l) (hs : ∀ r ∈ l, r.1.length ≤ 1000000) (hi : i < n) (hk : k < n) :
    Calls Tryd.prog 21 #[.int .i64 i, .int .i64 k, .pointer (some ⟨bx, 0, none⟩)] w fun e w' => e = .returned (.int .i64 (compareInt (lenAt l i) (lenAt l k))) ∧ Below w.heap.size w w' := by
  have hn := hr.len
  obtain ⟨b, off, rfl, hbl, hc⟩ := hr.get (by omega)
  have hi1 : i < l.length := by omega
  have hk1 : k < l.length := by omega
  have hati : l[i]? = some l[i] := List.getElem?_eq_getElem hi1
  have hatk : l[k]? = some l[k] := List.getElem?_eq_getElem hk1
  have ki := hc i 0 l[i] _ hati rfl
  have kk := hc k 0 l[k] _ hatk rfl
  have hxl := hs _ (List.getElem_mem hi1)
  have hyl := hs _ (List.getElem_mem hk1)
  clear hc hr hs
  rw [lenAt_eq hati, lenAt_eq hatk]
  generalize l[i] = x at hati ki hxl
  generalize l[k] = y at hatk kk hyl
  clear hati hatk hi1 hk1 hbl hn
  have h1 : (i : Int) < (n : Int) := by omega
  have h2 : (k : Int) < (n : Int) := by omega
  go_enter Tryd.func21, Tryd.ntmps21
  go_wp2_with fail
  refine wp_region_held_drew (S := fun W' => W'.cell? ⟨bx, 0, none⟩ = some (.slice (some ⟨b, off, none⟩) n c) ∧ W'.cell? ⟨b, off + i * 2, none⟩ = some (str x.1) ∧ W'.cell? ⟨b, off + k * 2, none⟩ = some (str y.1) ∧ Below w.heap.size w W') (by kernel_rfl) (⟨by simpa using hbx, by simpa using ki, by simpa using kk, below_drew (Below.refl _ _)⟩) (fun hHeld => ?_)
  refine wpAnyH_take (i := 0) (oi := _) (v := ?v0a) rfl (by kernel_rfl) (by kernel_rfl) (by kernel_rfl) (fun _ _ _ h => h) (Or.inl ⟨by kernel_rfl, ?y0a⟩) (by assumption) ?r0a
  case y0a => (intro w hSw; (try dsimp only at hSw); go_simp; try (with_reducible rfl))
  case r0a =>
    simp only [List.getElem_toArray, List.getElem_cons_succ, List.getElem_cons_zero, Act.put, List.setIfInBounds_toArray, List.set_cons_zero, List.set_cons_succ]
    refine wpAnyH_take (i := 1) (oi := _) (v := ?v1a) rfl (by kernel_rfl) (by kernel_rfl) (by kernel_rfl) (fun _ _ _ h => h) (Or.inl ⟨by kernel_rfl, ?y1a⟩) (by assumption) ?r1a
    case y1a => (intro w hSw; (try dsimp only at hSw); go_simp; try (with_reducible rfl))
    case r1a =>
      simp only [List.getElem_toArray, List.getElem_cons_succ, List.getElem_cons_zero, Act.put, List.setIfInBounds_toArray, List.set_cons_zero, List.set_cons_succ]
      refine wpAnyH_take (i := 2) (oi := _) (v := ?v2a) rfl (by kernel_rfl) (by kernel_rfl) (by kernel_rfl) (fun _ _ _ h => h) (Or.inl ⟨by kernel_rfl, ?y2a⟩) (by assumption) ?r2a
      case y2a => (intro w hSw; (try dsimp only at hSw); go_simp; try (with_reducible rfl))
      case r2a =>
        simp only [List.getElem_toArray, List.getElem_cons_succ, List.getElem_cons_zero, Act.put, List.setIfInBounds_toArray, List.set_cons_zero, List.set_cons_succ]
        refine wpAnyH_take (i := 3) (oi := _) (v := ?v3a) rfl (by kernel_rfl) (by kernel_rfl) (by kernel_rfl) (fun _ _ _ h => h) (Or.inl ⟨by kernel_rfl, ?y3a⟩) (by assumption) ?r3a
        case y3a => (intro w hSw; (try dsimp only at hSw); go_simp; try (with_reducible rfl))
        case r3a =>
          simp only [List.getElem_toArray, List.getElem_cons_succ, List.getElem_cons_zero, Act.put, List.setIfInBounds_toArray, List.set_cons_zero, List.set_cons_succ]
          refine wpAnyH_take (i := 4) (oi := _) (v := ?v4a) rfl (by kernel_rfl) (by kernel_rfl) (by kernel_rfl) (fun _ _ _ h => h) (Or.inl ⟨by kernel_rfl, ?y4a⟩) (by assumption) ?r4a
          case y4a => (intro w hSw; (try dsimp only at hSw); go_simp; try (with_reducible rfl))
          case r4a =>
            simp only [List.getElem_toArray, List.getElem_cons_succ, List.getElem_cons_zero, Act.put, List.setIfInBounds_toArray, List.set_cons_zero, List.set_cons_succ]
            refine wpAnyH_take (i := 5) (oi := _) (v := ?v5a) rfl (by kernel_rfl) (by kernel_rfl) (by kernel_rfl) (fun _ _ _ h => h) (Or.inl ⟨by kernel_rfl, ?y5a⟩) (by assumption) ?r5a
            case y5a => (intro w hSw; (try dsimp only at hSw); go_simp; try (with_reducible rfl))
            case r5a =>
              simp only [List.getElem_toArray, List.getElem_cons_succ, List.getElem_cons_zero, Act.put, List.setIfInBounds_toArray, List.set_cons_zero, List.set_cons_succ]
              refine wpAnyH_take (i := 6) (oi := _) (v := ?v6a) rfl (by kernel_rfl) (by kernel_rfl) (by kernel_rfl) (fun _ _ _ h => h) (Or.inl ⟨by kernel_rfl, ?y6a⟩) (by assumption) ?r6a
              case y6a => (intro w hSw; (try dsimp only at hSw); go_simp; try (with_reducible rfl))
              case r6a =>
                simp only [List.getElem_toArray, List.getElem_cons_succ, List.getElem_cons_zero, Act.put, List.setIfInBounds_toArray, List.set_cons_zero, List.set_cons_succ]
                refine wpAnyH_take (i := 7) (oi := _) (v := ?v7a) rfl (by kernel_rfl) (by kernel_rfl) (by kernel_rfl) (fun _ _ _ h => h) (Or.inl ⟨by kernel_rfl, ?y7a⟩) (by assumption) ?r7a
                case y7a => (intro w hSw; (try dsimp only at hSw); go_simp; try (with_reducible rfl))
                case r7a =>
                  simp only [List.getElem_toArray, List.getElem_cons_succ, List.getElem_cons_zero, Act.put, List.setIfInBounds_toArray, List.set_cons_zero, List.set_cons_succ]
                  refine wpAnyH_take (i := 8) (oi := _) (v := ?v8a) rfl (by kernel_rfl) (by kernel_rfl) (by kernel_rfl) (fun _ _ _ h => h) (Or.inl ⟨by kernel_rfl, ?y8a⟩) (by assumption) ?r8a
                  case y8a => (intro w hSw; (try dsimp only at hSw); go_simp; try (with_reducible rfl))
                  case r8a =>
                    simp only [List.getElem_toArray, List.getElem_cons_succ, List.getElem_cons_zero, Act.put, List.setIfInBounds_toArray, List.set_cons_zero, List.set_cons_succ]
                    refine wpAnyH_take (i := 9) (oi := _) (v := ?v9a) rfl (by kernel_rfl) (by kernel_rfl) (by kernel_rfl) (fun _ _ _ h => h) (Or.inl ⟨by kernel_rfl, ?y9a⟩) (by assumption) ?r9a
                    case y9a => (intro w hSw; (try dsimp only at hSw); go_simp; try (with_reducible rfl))
                    case r9a =>
                      simp only [List.getElem_toArray, List.getElem_cons_succ, List.getElem_cons_zero, Act.put, List.setIfInBounds_toArray, List.set_cons_zero, List.set_cons_succ]
                      refine wpAnyH_take (i := 10) (oi := _) (v := ?v10a) rfl (by kernel_rfl) (by kernel_rfl) (by kernel_rfl) (fun _ _ _ h => h) (Or.inl ⟨by kernel_rfl, ?y10a⟩) (by assumption) ?r10a
                      case y10a => (intro w hSw; (try dsimp only at hSw); go_simp; try (with_reducible rfl))
                      case r10a =>
                        simp only [List.getElem_toArray, List.getElem_cons_succ, List.getElem_cons_zero, Act.put, List.setIfInBounds_toArray, List.set_cons_zero, List.set_cons_succ]
                        refine wpAnyH_take (i := 11) (oi := _) (v := ?v11a) rfl (by kernel_rfl) (by kernel_rfl) (by kernel_rfl) (fun _ _ _ h => h) (Or.inl ⟨by kernel_rfl, ?y11a⟩) (by assumption) ?r11a
                        case y11a => (intro w hSw; (try dsimp only at hSw); go_simp; try (with_reducible rfl))
                        case r11a =>
                          simp only [List.getElem_toArray, List.getElem_cons_succ, List.getElem_cons_zero, Act.put, List.setIfInBounds_toArray, List.set_cons_zero, List.set_cons_succ]
                          refine wpAnyH_ready (rs := [12]) (by kernel_rfl) (by simp) ?_
                          refine AllReadyH.cons (o := _) rfl (fun K hK => ?_) AllReadyH.nil
                          go_simp
                          (go_at_call 22; refine (Tryd.cmp_Compare_int _ _ _).mono ?_; rintro e w2 ⟨rfl, rfl⟩)
                          go_wp2_with fail
                          refine hK.out _ _ (hHeld) (fun hHeld => ?_)
                          clear hK K
                          try simp only [List.getElem_toArray, List.getElem_cons_succ, List.getElem_cons_zero, Act.put, List.setIfInBounds_toArray, List.set_cons_zero, List.set_cons_succ]
                          refine wpAnyH_take (i := 13) (oi := _) (v := ?v13a) rfl (by kernel_rfl) (by kernel_rfl) (by kernel_rfl) (fun _ _ _ h => h) (Or.inl ⟨by kernel_rfl, ?y13a⟩) (by assumption) ?r13a
                          case y13a => (intro w hSw; (try dsimp only at hSw); go_simp; try (with_reducible rfl))
                          case r13a =>
                            simp only [List.getElem_toArray, List.getElem_cons_succ, List.getElem_cons_zero, Act.put, List.setIfInBounds_toArray, List.set_cons_zero, List.set_cons_succ]
                            refine wpAnyH_done (by kernel_rfl) ?_ _
                            go_wp2_with fail
                            go_ret
                            exact ⟨rfl, hHeld.2.2.2⟩

theorem eg21 : ∀ args w, (callFunc 21 args).run Tryd.prog w = .ok (.enter 21 args) w := enters_of Tryd.func21 (by kernel_rfl) rfl
def natI (xs : List Nat) : List Int := xs.map (fun k : Nat => (k : Int))
theorem natI_len (xs : List Nat) : (natI xs).length = xs.length := by simp [natI]
theorem pick_cmp (l : List Rt) (j i : Nat) : pickF l (some j) i = if 0 < compareInt (lenAt l i) (lenAt l j) then some i else some j := by
  unfold pickF compareInt
  by_cases h : lenAt l j < lenAt l i
  · have h1 : ¬ (lenAt l i : Int) < (lenAt l j : Int) := by omega
    have h2 : (lenAt l i : Int) > (lenAt l j : Int) := by omega
    simp only [h, h1, h2, if_true, if_false]
    rfl
  · by_cases h3 : (lenAt l i : Int) < (lenAt l j : Int)
    · simp only [h, h3, if_true, if_false]
      rfl
    · have h2 : ¬ (lenAt l i : Int) > (lenAt l j : Int) := by omega
      simp only [h, h3, h2, if_false]
      rfl

set_option maxHeartbeats 4000000 in
theorem max_any (bx : Nat) (A : Option Addr) (n c : Nat) (l : List Rt) (Av : Option Addr) (nv cv : Nat) (is : List Nat) (w : World) (hbx : w.cell? ⟨bx, 0, none⟩ = some (.slice A n c)) (hr : RdE encR 2 w (.slice A n c) l) (hs : ∀ r ∈ l, r.1.length ≤ 1000000)
    (hv : Rd w (.slice Av nv cv) (ints (natI is))) (hin : ∀ i ∈ is, i < n) (hne : is ≠ []) (hil : is.length ≤ 1000) (m : Nat) (hm : bestL l is = some m) :
    Calls Tryd.prog 20 #[.slice Av nv cv, .func (.func 21) #[] #[.pointer (some ⟨bx, 0, none⟩)]] w fun e w' => e = .returned (.int .i64 m) ∧ Below w.heap.size w w' := by
  have hnv := hv.len
  rw [ints_len, natI_len] at hnv
  have hpos : 0 < is.length := List.length_pos_iff.2 hne
  obtain ⟨b, off, rfl, hbl, hc⟩ := hv.get (by omega)
  have hat : ∀ k (h : k < is.length), (ints (natI is))[k]? = some (.int .i64 (is[k] : Int)) := by
    intro k h
    rw [ints_at (by rw [natI_len]; exact h)]
    simp [natI]
  have h0 : w.cell? ⟨b, off, none⟩ = some (.int .i64 (is[0] : Int)) := hc 0 _ (hat 0 hpos)
  have HC := Lib.hid hc
  have HAT := Lib.hid hat
  have HBX := Lib.hid hbx
  have HR := Lib.hid hr
  have HS := Lib.hid hs
  have HIN := Lib.hid hin
  have HM := Lib.hid hm
  have hb0 : bestL l (is.take 1) = some is[0] := by
    cases is with
    | nil => exact absurd rfl hne
    | cons x r => rfl
  have HB0 := Lib.hid hb0
  have hm0 : is[0] ∈ is := List.getElem_mem hpos
  have HM0 := Lib.hid hm0
  generalize is[0] = i0 at h0 hb0 HB0 hm0 HM0
  clear hm0
  clear hc hat hbx hr hs hin hm hb0 hne hv
  have hp1 : ¬ (nv : Int) < 1 := by omega
  have hp2 : (0 : Int) < (nv : Int) := by omega
  go_enter Tryd.func20, Tryd.ntmps20
  go_wp2_with fail
  go_loopg [5, 6] nv (fun gg s5 s6 wr => ∃ i j : Nat, s6 = .int .i64 i ∧ s5 = .int .i64 j ∧ 1 ≤ i ∧ i ≤ nv ∧ nv - i ≤ gg ∧ Below w.heap.size w wr ∧ Aside (bestL l (is.take i) = some j ∧ j ∈ is))
  case atStart => exact ⟨1, i0, rfl, rfl, by omega, by omega, by omega, Below.refl _ _, HB0.out, HM0.out⟩
  case round =>
    obtain ⟨i, j, rfl, rfl, hi1, hi, hg, hb, HA⟩ := hrel
    have HA := Lib.hid HA.out
    have HB := Lib.hid hb
    clear hb
    by_cases hlt : i < nv
    · have hl : i < is.length := by omega
      have h2 : (i : Int) < (nv : Int) := by omega
      have k0 := (HB.out.cell (p := ⟨b, off + i, none⟩) hbl).trans (HC.out i _ (HAT.out i hl))
      have hts : is.take (i + 1) = is.take i ++ [is[i]] := List.take_succ_eq_append_getElem hl
      have hmem : is[i] ∈ is := List.getElem_mem hl
      generalize is[i] = x at k0 hts hmem
      clear hl
      have HPK := Lib.hid (show bestL l (is.take (i + 1)) = pickF l (some j) x by rw [hts, bestL_snoc, HA.out.1])
      have HCA := Lib.hid (fun W (hW : Below w.heap.size w W) => cmp_any bx A n c l x j W (pw_cell_below hW HBX.out) (HR.out.below hW) HS.out (HIN.out _ hmem) (HIN.out _ HA.out.2))
      have HME := Lib.hid hmem
      have hpk := pick_cmp l j x
      clear hts hmem
      obtain ⟨v, hv⟩ : ∃ v, compareInt (lenAt l x) (lenAt l j) = v := ⟨_, rfl⟩
      rw [hv] at hpk HCA
      have HV := Lib.hid hv
      clear hv
      by_cases hgt : 0 < v
      · rw [if_pos hgt] at hpk
        have HP2 := Lib.hid hpk
        clear hpk
        go_wp2_with (go_at_call 21; refine (HCA.out _ HB.out).mono ?_; rintro e w2 ⟨rfl, hb2⟩; have k0' := (hb2.cell (p := ⟨b, off + i, none⟩) (Nat.lt_of_lt_of_le hbl HB.out.size)).trans k0; have HB2 := Lib.hid (HB.out.trans (hb2.mono HB.out.size)); clear hb2 k0)
        go_roundg (nv - (i + 1))
        case measure => omega
        case rel => exact ⟨i + 1, x, by simp [wrap64] <;> omega, rfl, by omega, by omega, by omega, HB2.out, HPK.out.trans HP2.out, HME.out⟩
      · rw [if_neg hgt] at hpk
        have HP2 := Lib.hid hpk
        clear hpk
        go_wp2_with (go_at_call 21; refine (HCA.out _ HB.out).mono ?_; rintro e w2 ⟨rfl, hb2⟩; have HB2 := Lib.hid (HB.out.trans (hb2.mono HB.out.size)); clear hb2 k0)
        go_roundg (nv - (i + 1))
        case measure => omega
        case rel => exact ⟨i + 1, j, by simp [wrap64] <;> omega, rfl, by omega, by omega, by omega, HB2.out, HPK.out.trans HP2.out, HA.out.2⟩
    · have h2 : ¬ (i : Int) < (nv : Int) := by omega
      have hall : is.take i = is := List.take_of_length_le (by omega)
      have hA := HA.out.1
      rw [hall, HM.out] at hA
      obtain rfl : m = j := by injection hA
      clear hA hall
      go_wp2_with fail
      go_ret
      exact ⟨rfl, HB.out⟩
end Go.Proofs.YtoegjpfngmilhaaDoor
