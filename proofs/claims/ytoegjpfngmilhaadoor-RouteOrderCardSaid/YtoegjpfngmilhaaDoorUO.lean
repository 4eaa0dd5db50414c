/- lockagelaw14.Made. -/
import Derived.Test.YtoegjpfngmilhaaDoorUL
set_option linter.unusedVariables false
set_option linter.unusedSimpArgs false
namespace Go.Proofs.YtoegjpfngmilhaaDoor
open Go.RowKit Go.Lib
open Go.Proofs.YtoegjpfngmilhaaDoorW.PrintWords

/-- a slice of slices of bytes -/
def RdV (w : World) (v : Value) (ls : List (List Nat)) : Prop := ∃ vs : List Value, vs.length = ls.length ∧ Rd w v vs ∧ ∀ (i : Nat) (u : Value) (xs : List Nat), vs[i]? = some u → ls[i]? = some xs → ∃ (A : Option Addr) (n c : Nat), u = Value.slice A n c ∧ Rd w (.slice A n c) (u8s xs) ∧ ∀ x ∈ xs, x < 256
theorem RdV.below {w w1 : World} {v : Value} {ls : List (List Nat)} (h : RdV w v ls) (hb : Below w.heap.size w w1) : RdV w1 v ls := by
  obtain ⟨vs, h1, h2, h3⟩ := h
  refine ⟨vs, h1, h2.below hb, fun i u xs hu hx => ?_⟩
  obtain ⟨A, n, c, e, h4, h5⟩ := h3 i u xs hu hx
  exact ⟨A, n, c, e, h4.below hb, h5⟩
theorem RdV.len {w : World} {A : Option Addr} {n c : Nat} {ls : List (List Nat)} (h : RdV w (.slice A n c) ls) : ls.length = n := by
  obtain ⟨vs, h1, h2, h3⟩ := h
  rw [← h1]
  exact h2.len
theorem RdV.row {w : World} {A : Option Addr} {n c i : Nat} {ls : List (List Nat)} {xs : List Nat} (h : RdV w (.slice A n c) ls) (hx : ls[i]? = some xs) :
    ∃ ad A1 n1 c1, A = some ad ∧ w.cell? (ad.add i) = some (.slice A1 n1 c1) ∧ Rd w (.slice A1 n1 c1) (u8s xs) ∧ ∀ x ∈ xs, x < 256 := by
  have hln := h.len
  obtain ⟨vs, h1, h2, h3⟩ := h
  have hi := (List.getElem?_eq_some_iff.1 hx).1
  obtain ⟨b, off, rfl, hb, hc⟩ := h2.get (by omega)
  have hv : vs[i]? = some vs[i] := List.getElem?_eq_getElem (by omega)
  obtain ⟨A1, n1, c1, e, h4, h5⟩ := h3 i _ xs hv hx
  exact ⟨_, A1, n1, c1, rfl, by rw [add_at, ← e]; exact hc i _ hv, h4, h5⟩

def madeStep (out : List Rt) (xs : List Nat) : List Rt := if pathS xs ∈ fsts out then out else out ++ [(pathS xs, ((xs.length % 8 : Nat) : Int))]
/-- routes by numbers -/
def madeS (ls : List (List Nat)) : List Rt := (ls.take 10).foldl madeStep []
def MadeW (i : Nat) (out : List Rt) : Prop := out.length ≤ i ∧ (∀ r ∈ out, goodB r = true ∧ r.1.length ≤ 16) ∧ (fsts out).Nodup
theorem madeW_step {i : Nat} {out : List Rt} (h : MadeW i out) (xs : List Nat) : MadeW (i + 1) (madeStep out xs) := by
  obtain ⟨h1, h2, h3⟩ := h
  unfold madeStep
  split
  · exact ⟨by omega, h2, h3⟩
  · rename_i hn
    refine ⟨by simp; omega, fun r hr => ?_, ?_⟩
    · rw [List.mem_append, List.mem_singleton] at hr
      rcases hr with hr | rfl
      · exact h2 r hr
      · exact ⟨goodB_of (pathS_pre xs) (by simp only; omega) (by simp only; omega), pathS_len xs⟩
    · rw [fsts_snoc, List.nodup_append]
      refine ⟨h3, by simp, fun a ha b hb => ?_⟩
      rw [List.mem_singleton] at hb
      subst hb
      rintro rfl
      exact hn ha
theorem madeW_fold : ∀ (ls : List (List Nat)) (i : Nat) (out : List Rt), MadeW i out → MadeW (i + ls.length) (ls.foldl madeStep out) := by
  intro ls
  induction ls with
  | nil => exact fun i out h => h
  | cons x ls ih =>
    intro i out h
    have := ih (i + 1) _ (madeW_step h x)
    rw [List.foldl_cons, List.length_cons]
    rwa [show i + (ls.length + 1) = i + 1 + ls.length by omega]
theorem madeW_take (ls : List (List Nat)) (i : Nat) (hi : i ≤ ls.length) : MadeW i ((ls.take i).foldl madeStep []) := by
  have := madeW_fold (ls.take i) 0 [] ⟨Nat.le_refl _, by simp, by simp [fsts]⟩
  rwa [List.length_take, Nat.min_eq_left hi, Nat.zero_add] at this
theorem madeW (ls : List (List Nat)) : MadeW 10 (madeS ls) := by
  have := madeW_fold (ls.take 10) 0 [] ⟨Nat.le_refl _, by simp, by simp [fsts]⟩
  obtain ⟨h1, h2, h3⟩ := this
  rw [List.length_take] at h1
  exact ⟨by unfold madeS; omega, h2, h3⟩
theorem made_right (ls : List (List Nat)) : rightB (madeS ls) = true := by
  obtain ⟨h1, h2, h3⟩ := madeW ls
  exact rightB_of h1 (fun r hr => (h2 r hr).1) h3
theorem info24 : (Tryd.prog.info? 24).map (fun i => (i.zero, i.size, i.bytes)) = some (some (.agg #[.string ByteArray.empty, .int .i64 0]), 2, 24) := by kernel_rfl
theorem encR_one : ∀ a, ∀ u ∈ encR a, u.oneCell' = true := by
  intro a u hu
  simp only [encR, List.mem_cons, List.not_mem_nil, or_false] at hu
  rcases hu with rfl | rfl <;> rfl

set_option maxRecDepth 100000 in
set_option maxHeartbeats 8000000 in
theorem made_any (A : Option Addr) (n c : Nat) (ls : List (List Nat)) (w : World) (hr : RdV w (.slice A n c) ls) :
    Calls Tryd.prog 11 #[.slice A n c] w fun e w' => ∃ A1 n1 c1, e = .returned (.slice A1 n1 c1) ∧ OwE encR 2 24 w' w.heap.size (.slice A1 n1 c1) (madeS ls) ∧ Below w.heap.size w w' := by
  have hn := hr.len
  have HR := Lib.hid hr
  clear hr
  go_enter Tryd.func11, Tryd.ntmps11
  go_wp2_with fail
  go_loopg [3, 4] 10 (fun gg s3 s4 wr => ∃ i : Nat, s4 = .int .i64 i ∧ i ≤ 10 ∧ i ≤ n ∧ 10 - i ≤ gg ∧ Below w.heap.size w wr ∧ Aside (OwE encR 2 24 wr w.heap.size s3 ((ls.take i).foldl madeStep [])))
  case atStart => exact ⟨0, rfl, by omega, by omega, by omega, Below.refl _ _, OwE.nil encR_len 24 w _⟩
  case round =>
    obtain ⟨i, rfl, hi, hin, hg, hb, HA⟩ := hrel
    obtain ⟨Av, nv, cv, hs3⟩ := HA.out.slice'
    subst hs3
    have hMW := madeW_take ls i (by omega)
    by_cases hlt : i < n ∧ i < 10
    · have h1 : (i : Int) < (n : Int) := by omega
      have h2 : (i : Int) < 10 := by omega
      have hi10 : i < 10 := hlt.2
      have hll : i < ls.length := by omega
      have hts : (ls.take (i + 1)).foldl madeStep [] = madeStep ((ls.take i).foldl madeStep []) ls[i] := by rw [List.take_succ_eq_append_getElem hll, List.foldl_append]; rfl
      obtain ⟨ad, Ai, ni, ci, rfl, hat, hRi, hi8⟩ := (HR.out.below hb).row (List.getElem?_eq_getElem hll)
      generalize ls[i] = xs at hts hRi hi8
      clear hll
      generalize (ls.take i).foldl madeStep [] = out at *
      have hlen := hRi.len
      rw [u8s_len] at hlen
      have hnv := HA.out.rd.len
      have HA := Lib.hid HA.out
      have HB := Lib.hid hb
      have HPA := Lib.hid (path_any Ai ni ci xs wr hRi hi8)
      have HTS := Lib.hid hts
      have HMW := Lib.hid hMW
      have hno : out.length ≤ 10 := by have := hMW.1; omega
      have hrm : (ni : Int).tmod 8 = ((xs.length % 8 : Nat) : Int) := by rw [← hlen]; exact (Int.ofNat_tmod _ _).symm
      obtain ⟨rm, hrm2⟩ : ∃ rm, xs.length % 8 = rm := ⟨_, rfl⟩
      rw [hrm2] at hrm
      have HRM := Lib.hid hrm2
      have HLT := Lib.hid hlt
      have hpl := pathS_len xs
      obtain ⟨p, hp⟩ : ∃ p, pathS xs = p := ⟨_, rfl⟩
      rw [hp] at HPA hpl
      have HP := Lib.hid hp
      clear hlt hts hb hRi hi8 hMW hrm2 hp hlen
      go_wp2_with (go_at_call 12; refine HPA.out.mono ?_; rintro e w1 ⟨rfl, hb1⟩; have HA1 := Lib.hid (HA.out.below hb1); have hat1 := pw_cell_below hb1 hat; have HB1 := Lib.hid (HB.out.trans (hb1.mono HB.out.size)); clear hb1 hat)
      go_loopg [6, 7] nv (fun gg s6 s7 wq => ∃ k : Nat, s7 = .int .i64 k ∧ k ≤ nv ∧ nv - k ≤ gg ∧ wq = w1 ∧ s6 = .bool (decide (p ∈ fsts (out.take k))))
      case atStart => exact ⟨0, rfl, by omega, by omega, rfl, by simp [fsts]⟩
      case round =>
        obtain ⟨k, rfl, hk, hgk, rfl, hs6⟩ := hrel
        by_cases hkn : k < nv
        · have hk1 : (k : Int) < (nv : Int) := by omega
          have hkl : k < out.length := by omega
          obtain ⟨b, off, rfl, hbl, hc⟩ := HA1.out.rd.get (by omega)
          have hts : out.take (k + 1) = out.take k ++ [out[k]] := List.take_succ_eq_append_getElem hkl
          have k0 : wr.cell? ⟨b, off + k * 2, none⟩ = some (str out[k].1) := hc k 0 out[k] _ (List.getElem?_eq_getElem hkl) rfl
          generalize out[k] = y at hts k0
          clear hkl hc
          have HT := Lib.hid hts
          clear hts
          by_cases hm : p ∈ fsts (out.take k)
          · rw [decide_eq_true hm] at hs6
            subst hs6
            have HM := Lib.hid hm
            clear hm
            go_wp2_with fail
            go_roundg (nv - (k + 1))
            case measure => omega
            case rel =>
              refine ⟨k + 1, by simp [wrap64] <;> omega, by omega, by omega, rfl, ?_⟩
              rw [HT.out, fsts_snoc, decide_eq_true (List.mem_append_left _ HM.out)]
          · rw [decide_eq_false hm] at hs6
            subst hs6
            have HM := Lib.hid hm
            clear hm
            by_cases he : y.1 = p
            · have he1 : (y.1 == p) = true := by simpa using he
              have HE := Lib.hid he
              clear he
              go_wp2_with fail
              go_roundg (nv - (k + 1))
              case measure => omega
              case rel =>
                refine ⟨k + 1, by simp [wrap64] <;> omega, by omega, by omega, rfl, ?_⟩
                rw [HT.out, fsts_snoc, HE.out, decide_eq_true (List.mem_append_right _ (by simp))]
            · have he1 : (y.1 == p) = false := by simpa using he
              have HE := Lib.hid he
              clear he
              go_wp2_with fail
              go_roundg (nv - (k + 1))
              case measure => omega
              case rel =>
                refine ⟨k + 1, by simp [wrap64] <;> omega, by omega, by omega, rfl, ?_⟩
                rw [HT.out, fsts_snoc, decide_eq_false]
                rw [List.mem_append, List.mem_singleton]
                rintro (h | h)
                · exact HM.out h
                · exact HE.out h.symm
        · have hk1 : ¬ (k : Int) < (nv : Int) := by omega
          obtain rfl : k = nv := by omega
          have hall : out.take k = out := List.take_of_length_le (by omega)
          rw [hall] at hs6
          clear hall
          by_cases hm : p ∈ fsts out
          · rw [decide_eq_true hm] at hs6
            subst hs6
            have HTT := Lib.hid (show (ls.take (i + 1)).foldl madeStep [] = out by rw [HTS.out]; unfold madeStep; rw [HP.out, if_pos hm])
            clear hm
            go_wp2_with fail
            go_roundg (10 - (i + 1))
            case measure => omega
            case rel =>
              refine ⟨i + 1, by simp [wrap64] <;> omega, by omega, by omega, by omega, HB1.out, ?_⟩
              show OwE encR 2 24 _ _ _ _
              rw [HTT.out]
              exact HA1.out
          · rw [decide_eq_false hm] at hs6
            subst hs6
            have HTT := Lib.hid (show (ls.take (i + 1)).foldl madeStep [] = out ++ [(p, (rm : Int))] by rw [HTS.out]; unfold madeStep; rw [HP.out, if_neg hm, HRM.out])
            clear hm
            go_wp2_with (at_builtin; refine wp_appE w.heap.size rfl _ _ 22 24 (.agg #[.string ByteArray.empty, .int .i64 0]) 24 rfl Tryd.underlying22 info24 rfl (by omega) (by omega) _ _ out [(p, (rm : Int))] rfl rfl ?c1 ?c2 encR_one ?c3 ?c4 ?c5)
            case c1 => exact HA1.out.below ((Below.refl _ _).alloc (Nat.le_refl _) _)
            case c2 => exact rd_boxE wr ((p, (rm : Int)) : Rt) 24
            case c3 => (try simp only [List.length_cons, List.length_nil]); omega
            case c4 => have := HB1.out.size; (try simp); omega
            case c5 =>
              intro v1 w2 hv1 hg1 hat1
              obtain ⟨A1, n1, c1, rfl⟩ := hv1.slice'
              have hne : ∀ q, (Value.slice Av k cv).ownBlock = some q → w.heap.size ≤ q := fun q hq => HA1.out.lo q hq
              have hb3 := HB1.out.alloc HB1.out.size (.cells #[str p, .int .i64 (rm : Int)] 24)
              have HB3 := Lib.hid (hb3.grown hg1 hb3.size (fun q hq => hne q hq))
              have HV := Lib.hid (show OwE encR 2 24 w2 w.heap.size (.slice A1 n1 c1) ((ls.take (i + 1)).foldl madeStep []) by rw [HTT.out]; exact hv1)
              clear hv1 hg1 hat1 hne hb3
              go_wp2_with fail
              go_roundg (10 - (i + 1))
              case measure => omega
              case rel => exact ⟨i + 1, by simp [wrap64] <;> omega, by omega, by omega, by omega, HB3.out, HV.out⟩
    · have hex : ¬ (i : Int) < (n : Int) ∨ ((i : Int) < (n : Int) ∧ ¬ (i : Int) < 10) := by omega
      have hmd : (ls.take i).foldl madeStep [] = madeS ls := by
        unfold madeS
        by_cases h : i = 10
        · rw [h]
        · rw [List.take_of_length_le (by omega), List.take_of_length_le (by omega)]
      have hA := HA.out
      rw [hmd] at hA
      have HV := Lib.hid hA
      have HEX := Lib.hid hex
      have HLT := Lib.hid hlt
      have HB := Lib.hid hb
      clear hex hlt hmd hA hMW hb
      rcases HEX.out with h1 | ⟨h1, h2⟩
      all_goals
        go_wp2_with fail
        go_ret
        exact ⟨Av, nv, cv, rfl, HV.out, HB.out⟩
end Go.Proofs.YtoegjpfngmilhaaDoor
