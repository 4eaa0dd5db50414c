/- lockageref13.dots. -/
import Derived.Test.YtoegjpfngmilhaaDoorR
set_option linter.unusedVariables false
set_option linter.unusedSimpArgs false
namespace Go.Proofs.YtoegjpfngmilhaaDoor
open Go.RowKit Go.Lib
open Go.Proofs.YtoegjpfngmilhaaDoorW.PrintWords

/-- the first loop of dots, at i -/
def dotsS (xs : List (List UInt8)) (i : Nat) : List (List UInt8) := if i = xs.length then keptS xs else foldK (xs.take i)
theorem foldK_take {xs : List (List UInt8)} {i : Nat} (h : i < xs.length) : foldK (xs.take (i + 1)) = stepK (foldK (xs.take i)) xs[i] := by
  rw [List.take_succ_eq_append_getElem h, foldK_snoc]
theorem getLast_take {xs : List (List UInt8)} {i : Nat} (h : i + 1 = xs.length) : xs.getLastD [] = xs[i]'(by omega) := by
  obtain ⟨a, b, rfl⟩ : ∃ a b, xs = a ++ [b] := by
    rcases List.eq_nil_or_concat xs with rfl | ⟨a, b, rfl⟩
    · simp at h
    · exact ⟨a, b, by simp⟩
  simp at h
  subst h
  simp
theorem dotsS_mid {xs : List (List UInt8)} {i : Nat} (h : i < xs.length) (hl : i + 1 ≠ xs.length) : dotsS xs (i + 1) = stepK (dotsS xs i) xs[i] := by
  unfold dotsS
  rw [if_neg hl, if_neg (by omega), foldK_take h]
theorem dotsS_last {xs : List (List UInt8)} {i : Nat} (h : i < xs.length) (hl : i + 1 = xs.length) : dotsS xs (i + 1) = if dotB xs[i] = true then stepK (dotsS xs i) xs[i] ++ [[]] else stepK (dotsS xs i) xs[i] := by
  unfold dotsS
  rw [if_pos hl, if_neg (show ¬ i = xs.length by omega)]
  unfold keptS
  rw [getLast_take hl]
  have : foldK xs = stepK (foldK (xs.take i)) xs[i] := by
    rw [← foldK_take h, hl, List.take_length]
  rw [this]
theorem dotsS_zero {xs : List (List UInt8)} (h : xs ≠ []) : dotsS xs 0 = [] := by
  unfold dotsS
  rw [if_neg (by intro e; exact h (List.eq_nil_of_length_eq_zero e.symm))]
  rfl
/-- the argument's slice -/
theorem Rd.seg {w : World} {A : Option Addr} {n c i : Nat} {xs : List (List UInt8)} (h : Rd w (.slice A n c) (strs xs)) (hi : i < xs.length) : ∃ ad, A = some ad ∧ w.cell? (ad.add i) = some (str xs[i]) := by
  have hl := h.len
  rw [strs_len] at hl
  obtain ⟨b, off, rfl, hb, hc⟩ := h.get (by omega)
  exact ⟨_, rfl, by rw [add_at]; exact hc i _ (by simp [strs, hi])⟩

/-- the second loop -/
theorem dots_join : True := trivial
set_option maxRecDepth 100000 in
set_option maxHeartbeats 4000000 in
theorem dots_any (A : Option Addr) (n c : Nat) (xs : List (List UInt8)) (w : World) (hr : Rd w (.slice A n c) (strs xs)) (hne : xs ≠ []) (hl : (joinS xs).length ≤ 100000) :
    Calls Tryd.prog 44 #[.slice A n c] w fun e w' => e = .returned (str (joinS (keptS xs))) ∧ Below w.heap.size w w' := by
  have hn := hr.len
  rw [strs_len] at hn
  have hc1 := joinS_count xs
  have HL := Lib.hid hl
  have hn2 : xs.length ≤ 100000 := by omega
  clear hl hc1
  have HRD := Lib.hid hr
  clear hr
  go_enter Tryd.func44, Tryd.ntmps44
  go_wp2_with fail
  go_loopg [3, 4] xs.length (fun gg s3 s4 wr => ∃ (i : Nat) (B : Option Addr) (k d : Nat), s3 = .slice B k d ∧ s4 = .int .i64 i ∧ i ≤ xs.length ∧ xs.length - i ≤ gg ∧ k ≤ i + 1 ∧ Rw w wr (.slice B k d) (dotsS xs i))
  case atStart => exact ⟨0, none, 0, 0, rfl, rfl, by omega, by omega, by omega, by rw [dotsS_zero hne]; exact Rw.start w⟩
  case round =>
    obtain ⟨i, B, k, d, rfl, rfl, hi, hg, hki, hR⟩ := hrel
    have HR := Lib.hid hR
    by_cases hlt : i < xs.length
    · have hlt1 : (i : Int) < (n : Int) := by omega
      obtain ⟨ad, rfl, hat⟩ := (HRD.out.below HR.out.bw).seg hlt
      have hk := hR.ow.rd.len
      rw [strs_len] at hk
      have HK := Lib.hid hk
      clear hR
      have hmid : i + 1 ≠ xs.length → dotsS xs (i + 1) = stepK (dotsS xs i) xs[i] := dotsS_mid hlt
      have hlast : i + 1 = xs.length → dotsS xs (i + 1) = if dotB xs[i] = true then stepK (dotsS xs i) xs[i] ++ [[]] else stepK (dotsS xs i) xs[i] := dotsS_last hlt
      obtain ⟨sg, hsg⟩ : ∃ sg, xs[i] = sg := ⟨_, rfl⟩
      rw [hsg] at hat hmid hlast
      have HMID := Lib.hid hmid
      have HLAST := Lib.hid hlast
      have HSG := Lib.hid hsg
      clear hmid hlast hsg hk
      have hw1 : wrap64 ((n : Int) - 1) = (n : Int) - 1 := by unfold wrap64; omega
      by_cases h1 : sg = [46, 46]
      · subst h1
        by_cases hk0 : 0 < k
        · have hk1 : (0 : Int) < (k : Int) := by omega
          obtain ⟨k1, hk1e⟩ : ∃ k1, k = k1 + 1 := ⟨k - 1, by omega⟩
          subst hk1e
          have hdl : (dotsS xs i).dropLast = (dotsS xs i).take k1 := by rw [List.dropLast_eq_take, HK.out]; simp
          have hkd := HR.out.ow.slice
          have HRT := Lib.hid (show Rw w wr (.slice B k1 d) ((dotsS xs i).dropLast) from ⟨by rw [hdl]; have := HR.out.ow.take k1 (by omega); simpa [strs, List.map_take] using this, HR.out.bw⟩)
          have HKL := Lib.hid (show ((dotsS xs i).dropLast).length = k1 by rw [hdl, List.length_take, HK.out]; omega)
          have HST := Lib.hid (show (if dotB [46, 46] = true then stepK (dotsS xs i) [46, 46] ++ [[]] else stepK (dotsS xs i) [46, 46]) = (dotsS xs i).dropLast ++ [[]] from rfl)
          have HST2 := Lib.hid (show stepK (dotsS xs i) [46, 46] = (dotsS xs i).dropLast from rfl)
          have hkd1 : (k1 : Int) ≤ (d : Int) := by
            obtain ⟨A2, c2, he, hle⟩ := hkd
            injection he with h1 h2 h3
            rw [strs_len, HK.out] at hle
            omega
          clear hkd hdl
          by_cases hla : i + 1 = xs.length
          · have hei : ((i : Int) == (n : Int) - 1) = true := by rw [beq_iff_eq]; omega
            have HFIN := Lib.hid (show dotsS xs (i + 1) = ((dotsS xs i).dropLast) ++ [[]] by rw [HLAST.out hla]; exact HST.out)
            clear hla
            go_wp2_with (at_builtin; refine wp_app w.heap.size rfl _ _ 42 9 (.string ByteArray.empty) 16 rfl Tryd.underlying42 (by kernel_rfl) rfl (by omega) _ _ (strs ((dotsS xs i).dropLast)) [str []] rfl rfl ?c1 ?c2 ?c3 ?c4 ?c5 ?c6)
            case c1 => exact (HRT.out.alloc _).ow
            case c2 => exact rd_box wr (str []) 9
            case c3 => exact strs_one [[]]
            case c4 =>
              rw [strs_len, HKL.out]
              simp <;> omega
            case c5 => exact (HRT.out.alloc _).bw.size
            case c6 =>
              intro v1 w1 hv1 hg1 hat1
              obtain ⟨A1, n1, c1, rfl⟩ := hv1.slice'
              have HR1 := Lib.hid ((HRT.out.alloc (.cells #[str []] 9)).app (ys := ((dotsS xs i).dropLast) ++ [[]]) (by rw [strs_app]; exact hv1) hg1)
              have hn1 := HR1.out.ow.rd.len
              rw [strs_len, List.length_append, HKL.out] at hn1
              simp only [List.length_cons, List.length_nil] at hn1
              clear hv1 hg1 hat1
              go_wp2_with fail
              go_roundg (xs.length - (i + 1))
              case measure => omega
              case rel => exact ⟨i + 1, A1, n1, c1, rfl, by simp [wrap64] <;> omega, by omega, by omega, by omega, by rw [HFIN.out]; exact HR1.out⟩
          · have hei : ((i : Int) == (n : Int) - 1) = false := by rw [beq_eq_false_iff_ne]; omega
            have HFIN := Lib.hid (show dotsS xs (i + 1) = (dotsS xs i).dropLast by rw [HMID.out hla]; exact HST2.out)
            clear hla
            go_wp2_with fail
            go_roundg (xs.length - (i + 1))
            case measure => omega
            case rel => exact ⟨i + 1, B, k1, d, rfl, by simp [wrap64] <;> omega, by omega, by omega, by omega, by rw [HFIN.out]; exact HRT.out⟩
        · have hk00 : k = 0 := by omega
          subst hk00
          have hnil : dotsS xs i = [] := List.eq_nil_of_length_eq_zero HK.out
          have HRT := Lib.hid (show Rw w wr (.slice B 0 d) [] by rw [← hnil]; exact HR.out)
          have HKL := Lib.hid (show ([] : List (List UInt8)).length = 0 from rfl)
          have HST := Lib.hid (show (if dotB [46, 46] = true then stepK (dotsS xs i) [46, 46] ++ [[]] else stepK (dotsS xs i) [46, 46]) = [] ++ [[]] by rw [hnil]; rfl)
          have HST2 := Lib.hid (show stepK (dotsS xs i) [46, 46] = [] by rw [hnil]; rfl)
          clear hnil
          by_cases hla : i + 1 = xs.length
          · have hei : ((i : Int) == (n : Int) - 1) = true := by rw [beq_iff_eq]; omega
            have HFIN := Lib.hid (show dotsS xs (i + 1) = (([] : List (List UInt8))) ++ [[]] by rw [HLAST.out hla]; exact HST.out)
            clear hla
            go_wp2_with (at_builtin; refine wp_app w.heap.size rfl _ _ 42 9 (.string ByteArray.empty) 16 rfl Tryd.underlying42 (by kernel_rfl) rfl (by omega) _ _ (strs (([] : List (List UInt8)))) [str []] rfl rfl ?c1 ?c2 ?c3 ?c4 ?c5 ?c6)
            case c1 => exact (HRT.out.alloc _).ow
            case c2 => exact rd_box wr (str []) 9
            case c3 => exact strs_one [[]]
            case c4 =>
              rw [strs_len, HKL.out]
              simp <;> omega
            case c5 => exact (HRT.out.alloc _).bw.size
            case c6 =>
              intro v1 w1 hv1 hg1 hat1
              obtain ⟨A1, n1, c1, rfl⟩ := hv1.slice'
              have HR1 := Lib.hid ((HRT.out.alloc (.cells #[str []] 9)).app (ys := (([] : List (List UInt8))) ++ [[]]) (by rw [strs_app]; exact hv1) hg1)
              have hn1 := HR1.out.ow.rd.len
              rw [strs_len, List.length_append, HKL.out] at hn1
              simp only [List.length_cons, List.length_nil] at hn1
              clear hv1 hg1 hat1
              go_wp2_with fail
              go_roundg (xs.length - (i + 1))
              case measure => omega
              case rel => exact ⟨i + 1, A1, n1, c1, rfl, by simp [wrap64] <;> omega, by omega, by omega, by omega, by rw [HFIN.out]; exact HR1.out⟩
          · have hei : ((i : Int) == (n : Int) - 1) = false := by rw [beq_eq_false_iff_ne]; omega
            have HFIN := Lib.hid (show dotsS xs (i + 1) = ([] : List (List UInt8)) by rw [HMID.out hla]; exact HST2.out)
            clear hla
            go_wp2_with fail
            go_roundg (xs.length - (i + 1))
            case measure => omega
            case rel => exact ⟨i + 1, B, 0, d, rfl, by simp [wrap64] <;> omega, by omega, by omega, by omega, by rw [HFIN.out]; exact HRT.out⟩
      · by_cases h2 : sg = [46]
        · subst h2
          have HRT := Lib.hid HR.out
          have HKL := Lib.hid HK.out
          have HST := Lib.hid (show (if dotB [46] = true then stepK (dotsS xs i) [46] ++ [[]] else stepK (dotsS xs i) [46]) = (dotsS xs i) ++ [[]] from rfl)
          have HST2 := Lib.hid (show stepK (dotsS xs i) [46] = dotsS xs i from rfl)
          by_cases hla : i + 1 = xs.length
          · have hei : ((i : Int) == (n : Int) - 1) = true := by rw [beq_iff_eq]; omega
            have HFIN := Lib.hid (show dotsS xs (i + 1) = (dotsS xs i) ++ [[]] by rw [HLAST.out hla]; exact HST.out)
            clear hla
            go_wp2_with (at_builtin; refine wp_app w.heap.size rfl _ _ 42 9 (.string ByteArray.empty) 16 rfl Tryd.underlying42 (by kernel_rfl) rfl (by omega) _ _ (strs (dotsS xs i)) [str []] rfl rfl ?c1 ?c2 ?c3 ?c4 ?c5 ?c6)
            case c1 => exact (HRT.out.alloc _).ow
            case c2 => exact rd_box wr (str []) 9
            case c3 => exact strs_one [[]]
            case c4 =>
              rw [strs_len, HKL.out]
              simp <;> omega
            case c5 => exact (HRT.out.alloc _).bw.size
            case c6 =>
              intro v1 w1 hv1 hg1 hat1
              obtain ⟨A1, n1, c1, rfl⟩ := hv1.slice'
              have HR1 := Lib.hid ((HRT.out.alloc (.cells #[str []] 9)).app (ys := (dotsS xs i) ++ [[]]) (by rw [strs_app]; exact hv1) hg1)
              have hn1 := HR1.out.ow.rd.len
              rw [strs_len, List.length_append, HKL.out] at hn1
              simp only [List.length_cons, List.length_nil] at hn1
              clear hv1 hg1 hat1
              go_wp2_with fail
              go_roundg (xs.length - (i + 1))
              case measure => omega
              case rel => exact ⟨i + 1, A1, n1, c1, rfl, by simp [wrap64] <;> omega, by omega, by omega, by omega, by rw [HFIN.out]; exact HR1.out⟩
          · have hei : ((i : Int) == (n : Int) - 1) = false := by rw [beq_eq_false_iff_ne]; omega
            have HFIN := Lib.hid (show dotsS xs (i + 1) = dotsS xs i by rw [HMID.out hla]; exact HST2.out)
            clear hla
            go_wp2_with fail
            go_roundg (xs.length - (i + 1))
            case measure => omega
            case rel => exact ⟨i + 1, B, k, d, rfl, by simp [wrap64] <;> omega, by omega, by omega, by omega, by rw [HFIN.out]; exact HRT.out⟩
        · have h1' : (sg == [46, 46]) = false := by simpa using h1
          have h2' : (sg == [46]) = false := by simpa using h2
          have hst : stepK (dotsS xs i) sg = dotsS xs i ++ [sg] := by unfold stepK; rw [if_neg h1, if_neg h2]
          have hnd : dotB sg = false := by simp [dotB, h1, h2]
          have HFIN := Lib.hid (show dotsS xs (i + 1) = dotsS xs i ++ [sg] by
            by_cases hla : i + 1 = xs.length
            · rw [HLAST.out hla, hnd, hst]; rfl
            · rw [HMID.out hla, hst])
          have HKL := Lib.hid HK.out
          have HRT := Lib.hid HR.out
          clear hst hnd h1 h2
          go_wp2_with (at_builtin; refine wp_app w.heap.size rfl _ _ 42 9 (.string ByteArray.empty) 16 rfl Tryd.underlying42 (by kernel_rfl) rfl (by omega) _ _ (strs (dotsS xs i)) [str sg] rfl rfl ?c1 ?c2 ?c3 ?c4 ?c5 ?c6)
          case c1 => exact (HRT.out.alloc _).ow
          case c2 => exact rd_box wr (str sg) 9
          case c3 => exact strs_one [sg]
          case c4 =>
            rw [strs_len, HKL.out]
            simp <;> omega
          case c5 => exact (HRT.out.alloc _).bw.size
          case c6 =>
            intro v1 w1 hv1 hg1 hat1
            obtain ⟨A1, n1, c1, rfl⟩ := hv1.slice'
            have HR1 := Lib.hid ((HRT.out.alloc (.cells #[str sg] 9)).app (ys := (dotsS xs i) ++ [sg]) (by rw [strs_app]; exact hv1) hg1)
            have hn1 := HR1.out.ow.rd.len
            rw [strs_len, List.length_append, HKL.out] at hn1
            simp only [List.length_cons, List.length_nil] at hn1
            clear hv1 hg1 hat1
            go_wp2_with fail
            go_roundg (xs.length - (i + 1))
            case measure => omega
            case rel => exact ⟨i + 1, A1, n1, c1, rfl, by simp [wrap64] <;> omega, by omega, by omega, by omega, by rw [HFIN.out]; exact HR1.out⟩
    · have hlt1 : ¬ (i : Int) < (n : Int) := by omega
      have hk := hR.ow.rd.len
      rw [strs_len] at hk
      have hie : i = xs.length := by omega
      have hout : dotsS xs i = keptS xs := by unfold dotsS; rw [if_pos hie]
      rw [hout] at HR hk
      obtain ⟨out, hO⟩ : ∃ out, keptS xs = out := ⟨_, rfl⟩
      have hjl := joinS_keptX hne
      rw [hO] at HR hk hjl
      have HO := Lib.hid hO
      have hob := joinS_count out
      have HLL := HL.out
      have hob2 : (joinS out).length ≤ 100000 := by omega
      clear hR hout hO hie HLL hjl
      go_wp2_with fail
      go_loopg [6, 7] out.length (fun gg s6 s7 wq => ∃ (j : Nat), s6 = str (joinS (out.take j)) ∧ s7 = .int .i64 j ∧ j ≤ out.length ∧ out.length - j ≤ gg ∧ Rw w wq (.slice B k d) out)
      case atStart => exact ⟨0, rfl, rfl, by omega, by omega, HR.out⟩
      case round =>
        obtain ⟨j, rfl, rfl, hj, hgj, hRq⟩ := hrel
        have HRQ := Lib.hid hRq
        by_cases hlj : j < out.length
        · have hlj1 : (j : Int) < (k : Int) := by omega
          obtain ⟨ad, rfl, hat⟩ := hRq.ow.rd.seg hlj
          have hjt := joinS_take hlj
          have hjl : (joinS (out.take (j + 1))).length ≤ (joinS out).length := by
            conv => rhs; rw [← List.take_append_drop (j + 1) out]
            rw [joinS_app, List.length_append]
            omega
          obtain ⟨sg, hsg⟩ : ∃ sg, out[j] = sg := ⟨_, rfl⟩
          obtain ⟨a, ha⟩ : ∃ a, joinS (out.take j) = a := ⟨_, rfl⟩
          rw [hsg] at hat hjt
          rw [ha] at hjt
          rw [hjt, List.length_append, List.length_cons] at hjl
          have hcat1 : (⟨a.toArray⟩ : ByteArray) ++ ⟨#[47]⟩ = ⟨(a ++ [47]).toArray⟩ := bytes_app a [47]
          have hcat2 : (⟨(a ++ [47]).toArray⟩ : ByteArray) ++ ⟨sg.toArray⟩ = ⟨((a ++ [47]) ++ sg).toArray⟩ := bytes_app _ sg
          have HJT := Lib.hid hjt
          rw [ha]
          clear hRq hsg ha hjt
          go_wp2_with fail
          go_roundg (out.length - (j + 1))
          case measure => omega
          case rel => exact ⟨j + 1, by rw [HJT.out], by simp [wrap64] <;> omega, by omega, by omega, HRQ.out⟩
        · have hlj1 : ¬ (j : Int) < (k : Int) := by omega
          have hfin : out.take j = out := List.take_of_length_le (by omega)
          rw [hfin]
          clear hRq
          go_wp2_with fail
          go_ret
          rw [HO.out]
          exact ⟨rfl, HRQ.out.bw⟩
end Go.Proofs.YtoegjpfngmilhaaDoor
