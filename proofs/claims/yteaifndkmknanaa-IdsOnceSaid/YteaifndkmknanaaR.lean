/- Contract of lockageref02.Right. -/
import Derived.Test.YteaifndkmknanaaJ
set_option linter.unusedVariables false
namespace Go.Proofs.Yteaifndkmknanaa
open Go.RowKit
open Go.Proofs.YteaifndkmknanaaW.PrintWords

/-- the first k elements have no one before them that is the same -/
theorem nodup_take_succ {xs : List Int} {k : Nat} (hk : k < xs.length) : (xs.take (k + 1)).Nodup ↔ (xs.take k).Nodup ∧ ∀ (j : Nat) (hj : j < k), xs[j] ≠ xs[k] := by
  rw [List.take_succ_eq_append_getElem hk, List.nodup_append]
  constructor
  · rintro ⟨h1, _, h3⟩
    refine ⟨h1, fun j hj => h3 _ ?_ _ (by simp)⟩
    rw [List.mem_take_iff_getElem]
    exact ⟨j, by omega, rfl⟩
  · rintro ⟨h1, h2⟩
    refine ⟨h1, by simp, fun a ha b hb => ?_⟩
    rw [List.mem_singleton.1 hb]
    obtain ⟨j, hj, rfl⟩ := List.mem_take_iff_getElem.1 ha
    exact h2 j (by omega)

set_option maxHeartbeats 2000000 in
theorem rright_any (w : World) (Ag : Option Addr) (ng cg : Nat) (Ab : Option Addr) (nb cb : Nat) (Af : Option Addr) (nf cf : Nat) (t : Tab) (ht : TabR w (.slice Ag ng cg) (.slice Ab nb cb) (.slice Af nf cf) t) (hs : t.small) :
    Calls Try.prog 19 #[.agg #[.slice Ag ng cg, .slice Ab nb cb, .slice Af nf cf]] w fun e w' => e = .returned (.bool (rightB t)) ∧ Below w.heap.size w w' := by
  have lg := ht.g.len
  have lb := ht.b.len
  have lf := ht.f.len
  rw [ints_len] at lg lf
  rw [bls_len] at lb
  obtain ⟨sg, sb, sf⟩ := hs
  have HT := Lib.hid ht
  clear ht
  by_cases c1 : ng < 1
  · have HR := Lib.hid (rightB_no (t := t) fun h => by have := h.h1; omega)
    have c1' : (ng : Int) < 1 := by omega
    have LG := Lib.hid lg; have LB := Lib.hid lb; have LF := Lib.hid lf
    clear lg lb lf
    go_enter Try.func19, Try.ntmps19
    go_wp2_with fail
    go_ret
    exact ⟨ret_bool HR.out.symm, (Below.refl _ _).alloc (Nat.le_refl _) _⟩
  by_cases c2 : 64 < ng
  · have HR := Lib.hid (rightB_no (t := t) fun h => by have := h.h2; omega)
    have c1' : ¬ (ng : Int) < 1 := by omega
    have c2' : (64 : Int) < (ng : Int) := by omega
    have LG := Lib.hid lg; have LB := Lib.hid lb; have LF := Lib.hid lf
    clear lg lb lf
    go_enter Try.func19, Try.ntmps19
    go_wp2_with fail
    go_ret
    exact ⟨ret_bool HR.out.symm, (Below.refl _ _).alloc (Nat.le_refl _) _⟩
  by_cases c3 : nb ≠ ng
  · have HR := Lib.hid (rightB_no (t := t) fun h => by have := h.h3; omega)
    have c1' : ¬ (ng : Int) < 1 := by omega
    have c2' : ¬ (64 : Int) < (ng : Int) := by omega
    have c3' : ((nb : Int) != (ng : Int)) = true := by rw [bne_iff_ne]; omega
    have LG := Lib.hid lg; have LB := Lib.hid lb; have LF := Lib.hid lf
    clear lg lb lf c3
    go_enter Try.func19, Try.ntmps19
    go_wp2_with fail
    go_ret
    exact ⟨ret_bool HR.out.symm, (Below.refl _ _).alloc (Nat.le_refl _) _⟩
  have e3 : nb = ng := by omega
  have c1' : ¬ (ng : Int) < 1 := by omega
  have c2' : ¬ (64 : Int) < (ng : Int) := by omega
  have c3' : ((nb : Int) != (ng : Int)) = false := by rw [bne_eq_false_iff_eq]; omega
  obtain ⟨bb, offb, rfl, hbl, hbc⟩ := HT.out.b.get (by omega)
  obtain ⟨bg, offg, rfl, hgl, hgc⟩ := HT.out.g.get (by omega)
  have HBC := Lib.hid hbc
  have HGC := Lib.hid hgc
  have LG := Lib.hid lg; have LB := Lib.hid lb; have LF := Lib.hid lf; have E3 := Lib.hid e3
  clear lg lb lf c3 e3 hbc hgc
  go_enter Try.func19, Try.ntmps19
  go_wp2_with fail
  go_loopg [4, 5] ng (fun gg s4 s5 wr => ∃ kk : Nat, kk ≤ ng ∧ ng - kk ≤ gg ∧ s5 = .int .i64 kk ∧ Below w.heap.size w wr ∧ wr.cell? ⟨w.heap.size, 0, none⟩ = some (.slice (some ⟨bg, offg, none⟩) ng cg) ∧ wr.cell? ⟨w.heap.size, 1, none⟩ = some (.slice (some ⟨bb, offb, none⟩) nb cb) ∧ wr.cell? ⟨w.heap.size, 2, none⟩ = some (.slice Af nf cf) ∧
    ∃ ct : Nat, s4 = .int .i64 ct ∧ ct ≤ kk ∧ Aside (ct = idle (t.busy.take kk) ∧ ∀ x ∈ t.gens.take kk, oddS x = false))
  case atStart => exact ⟨0, Nat.zero_le _, by omega, rfl, (Below.refl _ _).alloc (Nat.le_refl _) _, by simp, by simp, by simp, 0, rfl, Nat.le_refl _, by show Aside _; exact ⟨rfl, fun x hx => by simp at hx⟩⟩
  case round =>
    obtain ⟨kk, hkk, hg, rfl, hB, y0, y1, y2, ct, rfl, hct, HA⟩ := hrel
    by_cases hlt : kk < ng
    · have hltz : (kk : Int) < (ng : Int) := by omega
      have hltb : (kk : Int) < (nb : Int) := by have := E3.out; omega
      have hl : kk < t.gens.length := by rw [LG.out]; exact hlt
      have hl2 : kk < t.busy.length := by rw [LB.out, E3.out]; exact hlt
      have hcell : wr.cell? ⟨bg, offg + kk, none⟩ = some (.int .i64 t.gens[kk]) := (hB.cell (p := ⟨bg, offg + kk, none⟩) hgl).trans (HGC.out kk _ (ints_at hl))
      have hcell2 : wr.cell? ⟨bb, offb + kk, none⟩ = some (.bool t.busy[kk]) := (hB.cell (p := ⟨bb, offb + kk, none⟩) hbl).trans (HBC.out kk _ (bls_at hl2))
      have hts : t.gens.take (kk + 1) = t.gens.take kk ++ [t.gens[kk]] := List.take_succ_eq_append_getElem hl
      have hts2 : t.busy.take (kk + 1) = t.busy.take kk ++ [t.busy[kk]] := List.take_succ_eq_append_getElem hl2
      have hmem : t.gens[kk] ∈ t.gens := List.getElem_mem hl
      generalize t.gens[kk] = x at hcell hts hmem
      generalize t.busy[kk] = y at hcell2 hts2
      have HM := Lib.hid hmem
      have HTS := Lib.hid hts
      have HTS2 := Lib.hid hts2
      clear hts hmem hts2
      by_cases d1 : x < 0
      · have HR := Lib.hid (rightB_no (t := t) fun h => by have := List.any_eq_false.1 h.h4 x HM.out; simp [oddS] at this; omega)
        go_wp2
        go_ret
        exact ⟨ret_bool HR.out.symm, hB⟩
      by_cases d2 : 9007199254740992 < x
      · have HR := Lib.hid (rightB_no (t := t) fun h => by have := List.any_eq_false.1 h.h4 x HM.out; simp [oddS] at this; omega)
        go_wp2
        go_ret
        exact ⟨ret_bool HR.out.symm, hB⟩
      have hodd : oddS x = false := by simp [oddS]; omega
      have HO := Lib.hid hodd
      clear hodd
      cases y with
      | true =>
        go_wp2
        go_roundg (ng - (kk + 1))
        case measure => omega
        case rel =>
          refine ⟨kk + 1, by omega, by omega, by go_num, hB, y0, y1, y2, ct, rfl, by omega, (show Aside _ from ⟨?_, fun x hx => ?_⟩)⟩
          · rw [HTS2.out, idle_snoc]; simpa using HA.out.1
          · rw [HTS.out] at hx
            rcases List.mem_append.1 hx with hx | hx
            · exact HA.out.2 x hx
            · rw [List.mem_singleton.1 hx]; exact HO.out
      | false =>
        go_wp2
        go_roundg (ng - (kk + 1))
        case measure => omega
        case rel =>
          refine ⟨kk + 1, by omega, by omega, by go_num, hB, y0, y1, y2, ct + 1, by go_num, by omega, (show Aside _ from ⟨?_, fun x hx => ?_⟩)⟩
          · rw [HTS2.out, idle_snoc]; simpa using HA.out.1
          · rw [HTS.out] at hx
            rcases List.mem_append.1 hx with hx | hx
            · exact HA.out.2 x hx
            · rw [List.mem_singleton.1 hx]; exact HO.out
    · obtain rfl : kk = ng := by omega
      have hltz : ¬ (kk : Int) < (kk : Int) := by omega
      have htk : t.gens.take kk = t.gens := List.take_of_length_le (by rw [LG.out]; exact Nat.le_refl _)
      have htk2 : t.busy.take kk = t.busy := List.take_of_length_le (by rw [LB.out, E3.out]; exact Nat.le_refl _)
      have HA1 := HA.out
      rw [htk, htk2] at HA1
      have HA2 := Lib.hid HA1
      clear HA HA1 htk htk2
      go_wp2
      clear hg hkk hct
      go_loopg [6] nf (fun gg s6 wr' => ∃ jj : Nat, jj ≤ nf ∧ nf - jj ≤ gg ∧ s6 = .int .i64 jj ∧ Below w.heap.size w wr' ∧ wr'.cell? ⟨w.heap.size, 0, none⟩ = some (.slice (some ⟨bg, offg, none⟩) kk cg) ∧ wr'.cell? ⟨w.heap.size, 1, none⟩ = some (.slice (some ⟨bb, offb, none⟩) nb cb) ∧ wr'.cell? ⟨w.heap.size, 2, none⟩ = some (.slice Af nf cf) ∧
        Aside ((t.free.take jj).Nodup ∧ ∀ x ∈ t.free.take jj, freeOk t x = true))
      case atStart => exact ⟨0, Nat.zero_le _, by omega, rfl, hB, y0, y1, y2, by show Aside _; exact ⟨by simp, fun x hx => by simp at hx⟩⟩
      case round =>
        clear hB y0 y1 y2
        obtain ⟨jj, hjj, hg, rfl, hB, y0, y1, y2, HB⟩ := hrel
        by_cases hlt2 : jj < nf
        · have hltz2 : (jj : Int) < (nf : Int) := by omega
          have hl : jj < t.free.length := by rw [LF.out]; exact hlt2
          obtain ⟨bf, off, rfl, hfl, hfc⟩ := HT.out.f.get (by omega)
          have HFC := Lib.hid hfc
          have hcell : wr.cell? ⟨bf, off + jj, none⟩ = some (.int .i64 t.free[jj]) := (hB.cell (p := ⟨bf, off + jj, none⟩) hfl).trans (hfc jj _ (ints_at hl))
          have hts : t.free.take (jj + 1) = t.free.take jj ++ [t.free[jj]] := List.take_succ_eq_append_getElem hl
          have hmem : t.free[jj] ∈ t.free := List.getElem_mem hl
          have hnd := nodup_take_succ hl
          have HAT := Lib.hid (rfl : t.free[jj] = t.free[jj])
          obtain ⟨x, hx⟩ : ∃ x, t.free[jj] = x := ⟨_, rfl⟩
          rw [hx] at hcell hts hmem
          have HX := Lib.hid hx
          have HM := Lib.hid hmem
          have HTS := Lib.hid hts
          have HND := Lib.hid hnd
          clear hts hmem hx hnd hfc HAT
          by_cases d1 : x < 0
          · have HR := Lib.hid (rightB_no (t := t) fun h => by have := h.h5 x HM.out; simp [freeOk] at this; omega)
            have d1' : decide (x < 0) = true := by simpa using d1
            go_wp2
            go_quiet (fail)
            go_wp2
            go_ret
            exact ⟨ret_bool HR.out.symm, pw_below_drewN hB _⟩
          have d1' : decide (x < 0) = false := by simpa using d1
          by_cases d2 : (kk : Int) ≤ x
          · have HR := Lib.hid (rightB_no (t := t) fun h => by have := h.h5 x HM.out; simp [freeOk, LG.out] at this; omega)
            have d2' : decide ((kk : Int) ≤ x) = true := by simpa using d2
            go_wp2
            go_quiet (fail)
            go_wp2
            go_ret
            exact ⟨ret_bool HR.out.symm, pw_below_drewN hB _⟩
          have d2' : decide ((kk : Int) ≤ x) = false := by simpa using d2
          obtain ⟨m, rfl⟩ := Int.eq_ofNat_of_zero_le (show 0 ≤ x by omega)
          have hxl : m < t.busy.length := by rw [LB.out, E3.out]; omega
          have hbcell : wr.cell? ⟨bb, offb + m, none⟩ = some (.bool (t.busy[m])) := (hB.cell (p := ⟨bb, offb + m, none⟩) hbl).trans (HBC.out m _ (bls_at hxl))
          have hgd : t.busy.getD m false = t.busy[m] := by simp [hxl]
          generalize t.busy[m] = y at hbcell hgd
          have HGD := Lib.hid hgd
          clear hgd
          have d3 : (m : Int) < (nb : Int) := by rw [E3.out]; omega
          have d0 : (0 : Int) ≤ (m : Int) := by omega
          have d2n : decide (kk ≤ m) = false := by simp; omega
          cases y with
          | true =>
            have HR := Lib.hid (rightB_no (t := t) fun h => by have := h.h5 m HM.out; simp only [freeOk, Int.toNat_natCast, HGD.out] at this; simp at this)
            go_wp2
            go_quiet (fail)
            go_wp2
            go_ret
            exact ⟨ret_bool HR.out.symm, pw_below_drewN hB _⟩
          | false =>
            have HF := Lib.hid (show freeOk t m = true by simp only [freeOk, Int.toNat_natCast, HGD.out, LG.out]; simp; omega)
            go_wp2
            go_quiet (fail)
            go_wp2
            have JB := Lib.hid HB.out
            go_loopg [7] jj (fun gg s7 wr'' => ∃ ll : Nat, ll ≤ jj ∧ jj - ll ≤ gg ∧ s7 = .int .i64 ll ∧ Below w.heap.size w wr'' ∧ wr''.cell? ⟨w.heap.size, 0, none⟩ = some (.slice (some ⟨bg, offg, none⟩) kk cg) ∧ wr''.cell? ⟨w.heap.size, 1, none⟩ = some (.slice (some ⟨bb, offb, none⟩) nb cb) ∧ wr''.cell? ⟨w.heap.size, 2, none⟩ = some (.slice (some ⟨bf, off, none⟩) nf cf) ∧
              Aside (∀ (i : Nat) (hi : i < t.free.length), i < ll → t.free[i] ≠ (m : Int)))
            case atStart => exact ⟨0, Nat.zero_le _, by omega, rfl, pw_below_drewN hB _, by simpa using y0, by simpa using y1, by simpa using y2, by show Aside _; exact fun i _ hi => absurd hi (Nat.not_lt_zero _)⟩
            case round =>
              clear hB y0 y1 y2 hcell hbcell
              obtain ⟨ll, hll, hg3, rfl, hB, y0, y1, y2, HC⟩ := hrel
              have hcell : wr.cell? ⟨bf, off + jj, none⟩ = some (.int .i64 t.free[jj]) := (hB.cell (p := ⟨bf, off + jj, none⟩) hfl).trans (HFC.out jj _ (ints_at hl))
              rw [HX.out] at hcell
              by_cases hlt3 : ll < jj
              · have hltz3 : (ll : Int) < (jj : Int) := by omega
                have hltz4 : (ll : Int) < (nf : Int) := by omega
                have hl3 : ll < t.free.length := by omega
                have hcell3 : wr.cell? ⟨bf, off + ll, none⟩ = some (.int .i64 t.free[ll]) := (hB.cell (p := ⟨bf, off + ll, none⟩) hfl).trans (HFC.out ll _ (ints_at hl3))
                obtain ⟨z, hz⟩ : ∃ z, t.free[ll] = z := ⟨_, rfl⟩
                rw [hz] at hcell3
                have HZ := Lib.hid hz
                clear hz
                by_cases hq : z = (m : Int)
                · have hq' : (z == (m : Int)) = true := by simp [hq]
                  have HR := Lib.hid (rightB_no (t := t) fun h => by
                    have h6 : (t.free.take (jj + 1)).Nodup := List.Sublist.nodup (List.take_sublist _ _) h.h6
                    have := (HND.out.1 h6).2 ll hlt3
                    rw [HZ.out, HX.out] at this
                    exact this hq)
                  clear hq
                  go_wp2
                  go_quiet (fail)
                  go_wp2
                  go_ret
                  exact ⟨ret_bool HR.out.symm, pw_below_drewN hB _⟩
                · have hq' : (z == (m : Int)) = false := by simp [hq]
                  have HQ := Lib.hid hq
                  clear hq
                  go_wp2
                  go_quiet (fail)
                  go_wp2
                  go_roundg (jj - (ll + 1))
                  case measure => omega
                  case rel =>
                    refine ⟨ll + 1, by omega, by omega, by go_num, pw_below_drewN hB _, by simpa using y0, by simpa using y1, by simpa using y2, (show Aside _ from fun i hi hl' => ?_)⟩
                    rcases Nat.lt_or_ge i ll with h | h
                    · exact HC.out i hi h
                    · obtain rfl : i = ll := by omega
                      rw [HZ.out]; exact HQ.out
              · obtain rfl : ll = jj := by omega
                have hltz3 : ¬ (ll : Int) < (ll : Int) := by omega
                go_wp2
                go_roundg (nf - (ll + 1))
                case measure => omega
                case rel =>
                  refine ⟨ll + 1, by omega, by omega, by go_num, hB, y0, y1, y2, (show Aside _ from ⟨HND.out.2 ⟨JB.out.1, fun j hj => ?_⟩, fun x hx => ?_⟩)⟩
                  · rw [HX.out]; exact HC.out j (by omega) hj
                  · rw [HTS.out] at hx
                    rcases List.mem_append.1 hx with hx | hx
                    · exact JB.out.2 x hx
                    · rw [List.mem_singleton.1 hx]; exact HF.out
        · obtain rfl : jj = nf := by omega
          have hltz2 : ¬ (jj : Int) < (jj : Int) := by omega
          have htk : t.free.take jj = t.free := List.take_of_length_le (by rw [LF.out]; exact Nat.le_refl _)
          have HB1 := HB.out
          rw [htk] at HB1
          have HB2 := Lib.hid HB1
          clear HB HB1 htk
          by_cases hq : ct = jj
          · have HR := Lib.hid (rightB_yes (t := t) (right_count (by rw [LG.out]; omega) (by rw [LG.out]; omega) (by rw [LB.out, LG.out]; exact E3.out) (by
              rw [List.any_eq_false]
              intro x hx
              rw [HA2.out.2 x hx]
              simp) HB2.out.2 HB2.out.1 (by rw [← HA2.out.1, LF.out, hq])))
            have hq' : ((ct : Int) == (jj : Int)) = true := by simp [hq]
            clear hq
            go_wp2
            go_ret
            refine ⟨?_, hB⟩
            rw [HR.out]
            simp [hq']
          · have HR := Lib.hid (rightB_no (t := t) fun h => hq (by rw [HA2.out.1, h.count, LF.out]))
            have hq' : ((ct : Int) == (jj : Int)) = false := by simp; omega
            clear hq
            go_wp2
            go_ret
            refine ⟨?_, hB⟩
            rw [HR.out]
            simp [hq']
end Go.Proofs.Yteaifndkmknanaa
