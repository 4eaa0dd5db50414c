/- Contract of ids.Right. -/
import Derived.Test.YteaifndkmknanaaB
import Derived.Test.YteaifndkmknanaaS
import Derived.Test.YteaifndkmknanaaD
set_option linter.unusedVariables false
namespace Go.Proofs.Yteaifndkmknanaa
open Go.RowKit Go.Maps

def oddS (x : Int) : Bool := decide (x < 0) || decide (9007199254740992 < x)

set_option maxHeartbeats 400000 in
theorem odd_any (x : Int) (w : World) : Calls Try.prog 25 #[.int .i64 x] w fun e w' => e = .returned (.bool (oddS x)) ∧ w = w' := by
  by_cases h1 : x < 0
  · have hs : oddS x = true := by unfold oddS; simp [h1]
    rw [hs]; clear hs
    go_enter Try.func25, Try.ntmps25
    go_wp2
    go_ret
    exact ⟨rfl, rfl⟩
  · by_cases h2 : 9007199254740992 < x
    · have hs : oddS x = true := by unfold oddS; simp [h2]
      rw [hs]; clear hs
      go_enter Try.func25, Try.ntmps25
      go_wp2
      go_ret
      exact ⟨rfl, rfl⟩
    · have hs : oddS x = false := by unfold oddS; simp [h1, h2]
      rw [hs]; clear hs
      go_enter Try.func25, Try.ntmps25
      go_wp2
      go_ret
      exact ⟨rfl, rfl⟩
theorem pred_odd (w : World) : PredB Try.prog 25 #[] (Value.int .i64) oddS w := fun W x _ =>
  (odd_any x W).mono fun e w' ⟨h1, h2⟩ => ⟨h1, h2 ▸ Below.refl _ _⟩
theorem eg25 : ∀ args w, (callFunc 25 args).run Try.prog w = .ok (.enter 25 args) w := enters_of Try.func25 (by kernel_rfl) rfl
theorem zero54 (w : World) : (zeroValue 54).run Try.prog w = .ok (.agg #[]) w := by kernel_rfl
theorem keyed3 : Keyed Try.prog 3 := int_keyed Try.underlying3

def freeOk (t : Tab) (x : Int) : Bool := decide (0 ≤ x) && decide (x < t.gens.length) && !(t.busy.getD x.toNat false)
structure RightP (t : Tab) : Prop where
  h1 : 1 ≤ t.gens.length
  h2 : t.gens.length ≤ 64
  h3 : t.busy.length = t.gens.length
  h4 : t.gens.any oddS = false
  h5 : ∀ x ∈ t.free, freeOk t x = true
  h6 : t.free.Nodup
  h7 : ∀ i, i < t.busy.length → t.free.contains (i : Int) ≠ t.busy.getD i false
open Classical in
noncomputable def rightB (t : Tab) : Bool := decide (RightP t)
theorem rightB_no {t : Tab} (h : ¬ RightP t) : rightB t = false := by simp [rightB, h]
theorem rightB_yes {t : Tab} (h : RightP t) : rightB t = true := by simp [rightB, h]

theorem box3 {w w1 : World} {a b c : Value} {T : TypeId} (hb : Below (w.alloc (.cells #[a, b, c] T)).heap.size (w.alloc (.cells #[a, b, c] T)) w1) :
    Below w.heap.size w w1 ∧ w.heap.size < w1.heap.size ∧ w1.cell? ⟨w.heap.size, 0, none⟩ = some a ∧ w1.cell? ⟨w.heap.size, 1, none⟩ = some b ∧ w1.cell? ⟨w.heap.size, 2, none⟩ = some c := by
  have h0 : ∀ j, w1.cell? ⟨w.heap.size, j, none⟩ = (w.alloc (.cells #[a, b, c] T)).cell? ⟨w.heap.size, j, none⟩ := fun j => hb.cell (p := ⟨w.heap.size, j, none⟩) (by simp)
  refine ⟨((Below.refl _ _).alloc (Nat.le_refl _) _).trans (hb.mono (by simp)), by have := hb.size; simp at this; omega, ?_, ?_, ?_⟩ <;> rw [h0] <;> simp

set_option maxHeartbeats 1000000 in
theorem right_any (w : World) (Ag : Option Addr) (ng cg : Nat) (Ab : Option Addr) (nb cb : Nat) (Af : Option Addr) (nf cf : Nat) (t : Tab) (ht : TabR w (.slice Ag ng cg) (.slice Ab nb cb) (.slice Af nf cf) t) (hs : t.small) :
    Calls Try.prog 16 #[.agg #[.slice Ag ng cg, .slice Ab nb cb, .slice Af nf cf]] w fun e w' => e = .returned (.bool (rightB t)) ∧ Below w.heap.size w w' := by
  have lg := ht.g.len
  have lb := ht.b.len
  have lf := ht.f.len
  rw [ints_len] at lg lf
  rw [bls_len] at lb
  obtain ⟨sg, sb, sf⟩ := hs
  have HT := Lib.hid ht
  clear ht
  by_cases c1 : ng < 1
  · have HR := Lib.hid (rightB_no (t := t) fun h => by have := h.h1; omega)
    have c1' : (ng : Int) < 1 := by omega
    have LG := Lib.hid lg; have LB := Lib.hid lb; have LF := Lib.hid lf
    clear lg lb lf
    go_enter Try.func16, Try.ntmps16
    go_wp2_with fail
    go_ret
    exact ⟨ret_bool HR.out.symm, (Below.refl _ _).alloc (Nat.le_refl _) _⟩
  by_cases c2 : 64 < ng
  · have HR := Lib.hid (rightB_no (t := t) fun h => by have := h.h2; omega)
    have c1' : ¬ (ng : Int) < 1 := by omega
    have c2' : (64 : Int) < (ng : Int) := by omega
    have LG := Lib.hid lg; have LB := Lib.hid lb; have LF := Lib.hid lf
    clear lg lb lf
    go_enter Try.func16, Try.ntmps16
    go_wp2_with fail
    go_ret
    exact ⟨ret_bool HR.out.symm, (Below.refl _ _).alloc (Nat.le_refl _) _⟩
  by_cases c3 : nb ≠ ng
  · have HR := Lib.hid (rightB_no (t := t) fun h => by have := h.h3; omega)
    have c1' : ¬ (ng : Int) < 1 := by omega
    have c2' : ¬ (64 : Int) < (ng : Int) := by omega
    have c3' : ((nb : Int) != (ng : Int)) = true := by rw [bne_iff_ne]; omega
    have LG := Lib.hid lg; have LB := Lib.hid lb; have LF := Lib.hid lf
    clear lg lb lf c3
    go_enter Try.func16, Try.ntmps16
    go_wp2_with fail
    go_ret
    exact ⟨ret_bool HR.out.symm, (Below.refl _ _).alloc (Nat.le_refl _) _⟩
  have e3 : nb = ng := by omega
  have c1' : ¬ (ng : Int) < 1 := by omega
  have c2' : ¬ (64 : Int) < (ng : Int) := by omega
  have c3' : ((nb : Int) != (ng : Int)) = false := by rw [bne_eq_false_iff_eq]; omega
  by_cases c4 : t.gens.any oddS = true
  · have HR := Lib.hid (rightB_no (t := t) fun h => by have := h.h4; simp [c4] at this)
    have LG := Lib.hid lg; have LB := Lib.hid lb; have LF := Lib.hid lf; have E3 := Lib.hid e3
    have C4 := Lib.hid c4
    clear lg lb lf c3 e3 c4
    go_enter Try.func16, Try.ntmps16
    go_wp2_with (go_at_call 26; refine (containsFunc_ints 25 #[] eg25 oddS _ _ t.gens (HT.out.g.below ?_) (pred_odd _)).mono ?_; (exact (Below.refl _ _).alloc (Nat.le_refl _) _); rw [C4.out]; rintro e w' ⟨rfl, hb⟩)
    go_ret
    exact ⟨ret_bool HR.out.symm, ((Below.refl _ _).alloc (Nat.le_refl _) _).trans (hb.mono (by simp))⟩
  have c4n : t.gens.any oddS = false := by simpa using c4
  have hmm := @run_makeMap Try.prog
  obtain ⟨bb, offb, rfl, hbl, hbc⟩ := HT.out.b.get (by omega)
  have HBC := Lib.hid hbc
  have LG := Lib.hid lg; have LB := Lib.hid lb; have LF := Lib.hid lf; have E3 := Lib.hid e3
  have C4 := Lib.hid c4n
  clear lg lb lf c3 e3 c4 c4n hbc
  go_enter Try.func16, Try.ntmps16
  go_wp2_with (go_at_call 26; refine (containsFunc_ints 25 #[] eg25 oddS _ _ t.gens (HT.out.g.below ?_) (pred_odd _)).mono ?_; (exact (Below.refl _ _).alloc (Nat.le_refl _) _); rw [C4.out]; rintro e w1 ⟨rfl, hb⟩; obtain ⟨hb0, hsz, x0, x1, x2⟩ := box3 hb; clear hb)
  go_loopg [38] nf (fun gg s38 wr => ∃ kk : Nat, kk ≤ nf ∧ nf - kk ≤ gg ∧ s38 = .int .i64 kk ∧ Below w.heap.size w wr ∧ wr.cell? ⟨w.heap.size, 1, none⟩ = some (.slice (some ⟨bb, offb, none⟩) nb cb) ∧ wr.cell? ⟨w.heap.size, 2, none⟩ = some (.slice Af nf cf) ∧
    Aside (LSet Try.prog 3 wr w1.heap.size (iLits (t.free.take kk)) ∧ ∀ x ∈ t.free.take kk, freeOk t x = true))
  case atStart => exact ⟨0, Nat.zero_le _, by omega, rfl, hb0.alloc hb0.size _, (((Below.refl _ w1).alloc (Nat.le_refl _) _).cell (p := ⟨w.heap.size, 1, none⟩) hsz).trans x1, (((Below.refl _ w1).alloc (Nat.le_refl _) _).cell (p := ⟨w.heap.size, 2, none⟩) hsz).trans x2, by show Aside _; exact ⟨LSet.made _ _ _, fun x hx => by simp at hx⟩⟩
  case round =>
    obtain ⟨kk, hkk, hg, rfl, hB, y1, y2, HA⟩ := hrel
    clear x0 x1 x2
    by_cases hlt : kk < nf
    · have hltz : (kk : Int) < (nf : Int) := by omega
      obtain ⟨b, off, rfl, hfl, hc⟩ := HT.out.f.get (by omega)
      have hl : kk < t.free.length := by rw [LF.out]; exact hlt
      have hcell : wr.cell? ⟨b, off + kk, none⟩ = some (.int .i64 t.free[kk]) := (hB.cell (p := ⟨b, off + kk, none⟩) hfl).trans (hc kk _ (ints_at hl))
      clear hc
      have hat : t.free[kk]? = some t.free[kk] := List.getElem?_eq_getElem hl
      have hts : t.free.take (kk + 1) = t.free.take kk ++ [t.free[kk]] := List.take_succ_eq_append_getElem hl
      have hmem : t.free[kk] ∈ t.free := List.getElem_mem hl
      generalize t.free[kk] = x at hcell hat hts hmem
      have HM := Lib.hid hmem
      have HTS := Lib.hid hts
      have HAT := Lib.hid hat
      clear hat hts hmem
      by_cases d1 : x < 0
      · have HR := Lib.hid (rightB_no (t := t) fun h => by have := h.h5 x HM.out; simp [freeOk] at this; omega)
        go_wp2
        go_ret
        exact ⟨ret_bool HR.out.symm, hB⟩
      by_cases d2 : (ng : Int) ≤ x
      · have HR := Lib.hid (rightB_no (t := t) fun h => by have := h.h5 x HM.out; simp [freeOk, LG.out] at this; omega)
        go_wp2
        go_ret
        exact ⟨ret_bool HR.out.symm, hB⟩
      obtain ⟨m, rfl⟩ := Int.eq_ofNat_of_zero_le (show 0 ≤ x by omega)
      have hxl : m < t.busy.length := by rw [LB.out, E3.out]; omega
      have hbcell : wr.cell? ⟨bb, offb + m, none⟩ = some (.bool (t.busy[m])) := (hB.cell (p := ⟨bb, offb + m, none⟩) hbl).trans (HBC.out m _ (bls_at hxl))
      have hgd : t.busy.getD m false = t.busy[m] := by simp [hxl]
      generalize t.busy[m] = y at hbcell hgd
      have HGD := Lib.hid hgd
      clear hgd
      have d3 : (m : Int) < (nb : Int) := by rw [E3.out]; omega
      cases y with
      | true =>
        have HR := Lib.hid (rightB_no (t := t) fun h => by have := h.h5 m HM.out; simp only [freeOk, Int.toNat_natCast, HGD.out] at this; simp at this)
        go_wp2
        go_ret
        exact ⟨ret_bool HR.out.symm, hB⟩
      | false =>
        have HF := Lib.hid (show freeOk t m = true by simp only [freeOk, Int.toNat_natCast, HGD.out, LG.out]; simp; omega)
        go_wp2_with (at_mapUpdate; refine wp_set_put rfl _ _ _ 53 rfl 3 54 keyed3 Try.underlying53 w1.heap.size _ rfl HA.out.1 ?c1 _ _ rfl rfl (keyOf_int_mk Try.underlying3 ?c2) ?c3)
        case c1 => rw [iLits_len, List.length_take]; omega
        case c2 => exact WalkArith.wf_i64 (by omega)
        case c3 =>
          intro w2 hs2 hg2
          have hB2 : Below w.heap.size w w2 := hB.grown hg2 hB.size (fun k hk => by cases hk; exact Nat.le_of_lt hsz)
          have y1' : w2.cell? ⟨w.heap.size, 1, none⟩ = some (.slice (some ⟨bb, offb, none⟩) nb cb) := hg2.cell y1 (by simp; omega)
          have y2' : w2.cell? ⟨w.heap.size, 2, none⟩ = some (.slice (some ⟨b, off, none⟩) nf cf) := hg2.cell y2 (by simp; omega)
          clear y1 y2 hcell hbcell
          go_wp2
          go_roundg (nf - (kk + 1))
          case measure => omega
          case rel =>
            refine ⟨kk + 1, by omega, by omega, by go_num, hB2, y1', y2', (show Aside _ from ⟨?_, fun x hx => ?_⟩)⟩
            · rw [HTS.out, iLits_app]; exact hs2
            · rw [HTS.out] at hx
              rcases List.mem_append.1 hx with hx | hx
              · exact HA.out.2 x hx
              · rw [List.mem_singleton.1 hx]; exact HF.out
    · obtain rfl : kk = nf := by omega
      have hltz : ¬ (kk : Int) < (kk : Int) := by omega
      have htk : t.free.take kk = t.free := List.take_of_length_le (by rw [LF.out]; exact Nat.le_refl _)
      have HA1 := HA.out
      rw [htk] at HA1
      have HA2 := Lib.hid HA1
      clear HA HA1 htk
      have hdl := dcount_le (iLits_key t.free)
      have hde := dcount_eq (iLits_key t.free)
      rw [iLits_len, LF.out] at hdl hde
      rw [iLits_nodup] at hde
      have HDE := Lib.hid hde
      clear hde
      generalize hdc : dcount (iLits t.free) = dc at hdl HDE
      have HDC := Lib.hid hdc
      clear hdc
      by_cases d1 : dc = kk
      · have d1' : ((dc : Int) != (kk : Int)) = false := by rw [bne_eq_false_iff_eq]; omega
        have HND := Lib.hid (HDE.out.1 d1)
        have D1 := Lib.hid d1
        clear d1
        go_wp2_with (at_len; refine wp_set_len rfl _ 53 rfl 3 54 Try.underlying53 w1.heap.size _ rfl HA2.out.1 ?_; rw [HDC.out])
        have HAL := Lib.hid HA2.out.2
        go_loopg [69] nb (fun gg s69 wr' => ∃ jj : Nat, jj ≤ nb ∧ nb - jj ≤ gg ∧ s69 = .int .i64 jj ∧ Below w.heap.size w wr' ∧
          Aside (LSet Try.prog 3 wr' w1.heap.size (iLits t.free) ∧ ∀ i, i < jj → t.free.contains (i : Int) ≠ t.busy.getD i false))
        case atStart => exact ⟨0, Nat.zero_le _, by omega, rfl, hB, by show Aside _; exact ⟨HA2.out.1, fun i hi => absurd hi (Nat.not_lt_zero _)⟩⟩
        case round =>
          clear y1 y2 hB
          obtain ⟨jj, hjj, hg2, rfl, hB, HB⟩ := hrel
          by_cases hlt2 : jj < nb
          · have hltz2 : (jj : Int) < (nb : Int) := by omega
            have hl : jj < t.busy.length := by rw [LB.out]; exact hlt2
            have hbcell : wr.cell? ⟨bb, offb + jj, none⟩ = some (.bool (t.busy[jj])) := (hB.cell (p := ⟨bb, offb + jj, none⟩) hbl).trans (HBC.out jj _ (bls_at hl))
            have hgd : t.busy.getD jj false = t.busy[jj] := by simp [hl]
            generalize t.busy[jj] = y at hbcell hgd
            have HGD := Lib.hid hgd
            clear hgd
            have hh := iLits_has t.free (jj : Int)
            generalize hct : t.free.contains (jj : Int) = ct at hh
            have HCT := Lib.hid hct
            have HH := Lib.hid hh
            clear hct hh
            have hw : (Lit.int .i64 (jj : Int)).wf = true := WalkArith.wf_i64 (by have := E3.out; omega)
            by_cases hq : ct = y
            · have hq' : (ct == y) = true := by simp [hq]
              have HR := Lib.hid (rightB_no (t := t) fun h => h.h7 jj hl (by rw [HCT.out, HGD.out, hq]))
              clear hq
              go_wp2_with (at_lookup; refine wp_set_look rfl _ _ 53 rfl 3 54 keyed3 Try.underlying53 (zero54 _) w1.heap.size _ rfl HB.out.1 _ _ rfl (keyOf_int_mk Try.underlying3 hw) ?_; rw [HH.out])
              go_ret
              exact ⟨ret_bool HR.out.symm, hB.alloc hB.size _⟩
            · have hq' : (ct == y) = false := by simp [hq]
              have HQ := Lib.hid hq
              clear hq
              go_wp2_with (at_lookup; refine wp_set_look rfl _ _ 53 rfl 3 54 keyed3 Try.underlying53 (zero54 _) w1.heap.size _ rfl HB.out.1 _ _ rfl (keyOf_int_mk Try.underlying3 hw) ?_; rw [HH.out])
              go_roundg (nb - (jj + 1))
              case measure => omega
              case rel =>
                refine ⟨jj + 1, by omega, by omega, by go_num, hB.alloc hB.size _, (show Aside _ from ⟨HB.out.1.alloc _, fun i hi => ?_⟩)⟩
                rcases Nat.lt_or_ge i jj with h | h
                · exact HB.out.2 i h
                · obtain rfl : i = jj := by omega
                  rw [HCT.out, HGD.out]; exact HQ.out
          · have hltz2 : ¬ (jj : Int) < (nb : Int) := by omega
            go_wp2
            go_ret
            refine ⟨ret_bool (rightB_yes ⟨by rw [LG.out]; omega, by rw [LG.out]; omega, by rw [LB.out, LG.out]; exact E3.out, C4.out, HAL.out, HND.out, fun i hi => HB.out.2 i (by rw [LB.out] at hi; omega)⟩).symm, hB⟩
      · have d1' : ((dc : Int) != (kk : Int)) = true := by rw [bne_iff_ne]; omega
        have HR := Lib.hid (rightB_no (t := t) fun h => d1 (HDE.out.2 h.h6))
        clear d1
        go_wp2_with (at_len; refine wp_set_len rfl _ 53 rfl 3 54 Try.underlying53 w1.heap.size _ rfl HA2.out.1 ?_; rw [HDC.out])
        go_ret
        exact ⟨ret_bool HR.out.symm, hB⟩
end Go.Proofs.Yteaifndkmknanaa
