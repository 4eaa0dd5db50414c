/- few. -/
import Derived.Test.YtipjhokhflokmaaAA
set_option linter.unusedVariables false
set_option linter.unusedSimpArgs false
namespace Go.Proofs.Ytipjhokhflokmaa
open Go.RowKit Go.Maps
open Go.Proofs.YtipjhokhflokmaaW.PrintWords

def szF (x : Fl) : Nat := x.ws.length + x.data.length + x.key.length
def totK (fs : List Fl) (k : Nat) : Nat := fs.length + ((fs.take k).map szF).sum
def totF (fs : List Fl) : Nat := fs.length + (fs.map szF).sum
theorem totK_succ {fs : List Fl} {k : Nat} {x : Fl} (h : fs[k]? = some x) : totK fs (k + 1) = totK fs k + szF x := by
  obtain ⟨hk, rfl⟩ := List.getElem?_eq_some_iff.1 h
  unfold totK
  rw [List.take_succ_eq_append_getElem hk, List.map_append, List.sum_append]
  simp only [List.map_cons, List.map_nil, List.sum_cons, List.sum_nil]
  omega
theorem totK_all {fs : List Fl} {k : Nat} (h : fs.length ≤ k) : totK fs k = totF fs := by
  unfold totK totF
  rw [List.take_of_length_le h]
theorem totK_le (fs : List Fl) (k : Nat) : totK fs k ≤ totF fs := by
  have h : fs = fs.take k ++ fs.drop k := (List.take_append_drop k fs).symm
  have h2 : (fs.map szF).sum = ((fs.take k).map szF).sum + ((fs.drop k).map szF).sum := by
    conv => lhs; rw [h]
    rw [List.map_append, List.sum_append]
  unfold totK totF
  omega
theorem szF_le {fs : List Fl} {x : Fl} (h : x ∈ fs) : szF x ≤ (fs.map szF).sum := by
  induction fs with
  | nil => cases h
  | cons a r ih =>
    rw [List.map_cons, List.sum_cons]
    rcases List.mem_cons.1 h with rfl | h
    · omega
    · have := ih h
      omega

set_option maxRecDepth 100000 in
set_option maxHeartbeats 4000000 in
theorem few_any (w : World) (room next : Int) (A : Option Addr) (n c : Nat) (ys : List FV) (hr : RdF w (.slice A n c) ys) (hb1 : n ≤ 1000000000000000) (hb2 : ∀ x ∈ fls ys, szF x ≤ 4611686018427387904) :
    Calls Try.prog 14 #[fv room next (.slice A n c)] w fun e w' => e = .returned (.bool (decide (totF (fls ys) ≤ 600))) ∧ Below w.heap.size w w' := by
  have hl : ys.length = n := hr.len
  have hfl : (fls ys).length = n := by simp [fls, hl]
  have hal : Below w.heap.size w (w.alloc (.cells #[.int .i64 room, .int .i64 next, .slice A n c] 26)) := (Below.refl _ _).alloc (Nat.le_refl _) _
  have hx := heap_alloc_new w (.cells #[.int .i64 room, .int .i64 next, .slice A n c] 26)
  have HR := Lib.hid (hr.below hal)
  have HX := Lib.hid hx
  have HAL := Lib.hid hal
  have HB2 := Lib.hid hb2
  obtain ⟨T, hT⟩ : ∃ T, decide (totF (fls ys) ≤ 600) = T := ⟨_, rfl⟩
  rw [hT]
  have HT := Lib.hid hT
  have htn : totK (fls ys) 0 = n := by unfold totK; rw [hfl]; simp
  have HTN := Lib.hid htn
  have HFL := Lib.hid hfl
  clear hr hal hx hb2 hT htn hfl
  go_enter Try.func14, Try.ntmps14
  go_upto_region 1 with fail
  generalize w.alloc (.cells #[.int .i64 room, .int .i64 next, .slice A n c] 26) = U at *
  have y2 : U.cell? ⟨w.heap.size, 2, none⟩ = some (.slice A n c) := box_at HX.out 2 _ rfl
  go_upto_region 3 with fail
  clear y2
  go_loopg [3, 4] n (fun gg s3 s4 wr => ∃ kk : Nat, kk ≤ n ∧ n - kk ≤ gg ∧ s3 = .int .i64 (totK (fls ys) kk : Nat) ∧ s4 = .int .i64 kk ∧ Aside (Below U.heap.size U wr))
  case atStart => exact ⟨0, Nat.zero_le _, by omega, by rw [HTN.out], rfl, (show Aside _ from Below.refl _ _)⟩
  case round =>
    obtain ⟨kk, hkk, hg, rfl, rfl, HB⟩ := hrel
    have y2 : wr.cell? ⟨w.heap.size, 2, none⟩ = some (.slice A n c) := box_at (keep HB.out HX.out) 2 _ rfl
    obtain ⟨t, ht⟩ : ∃ t, totK (fls ys) kk = t := ⟨_, rfl⟩
    rw [ht]
    have HTT := Lib.hid ht
    clear ht
    go_upto_region 3 with fail
    by_cases hlt : kk < n
    · have hltz : (kk : Int) < (n : Int) := by omega
      by_cases h6 : (t : Int) ≤ 600
      · obtain ⟨y, hyk⟩ : ∃ y, ys[kk]? = some y := ⟨_, List.getElem?_eq_getElem (by omega)⟩
        obtain ⟨b0, off0, hA, hF⟩ := (HR.out.below HB.out).at_ hyk
        have hfx : (fls ys)[kk]? = some y.1 := fls_at hyk
        have hst := totK_succ hfx
        have hsz := HB2.out y.1 (List.mem_of_getElem? hfx)
        rw [HTT.out] at hst
        subst hA
        obtain ⟨⟨fk, fs, fi, fb, fd, ft, fo, ws⟩, ⟨B0, m0, d0⟩⟩ := y
        have hwl : ws.length = m0 := hF.r.len
        have k0 : wr.cell? ⟨b0, off0 + kk * 8, none⟩ = some (str fk) := hF.c0
        have k4 : wr.cell? ⟨b0, off0 + kk * 8 + 4, none⟩ = some (str fd) := hF.c4
        have k7 : wr.cell? ⟨b0, off0 + kk * 8 + 7, none⟩ = some (.slice B0 m0 d0) := hF.c7
        have hse : szF ⟨fk, fs, fi, fb, fd, ft, fo, ws⟩ = m0 + fd.length + fk.length := by unfold szF; simp only; rw [hwl]
        simp only at hst hsz
        rw [hse] at hst hsz
        have HST := Lib.hid hst
        have hw1 : IntKind.i64.wrap ((t : Int) + (m0 : Int)) = (t : Int) + m0 := by rw [IntKind.wrap_i64]; omega
        have hw2 : IntKind.i64.wrap ((t : Int) + (m0 : Int) + (fd.length : Int)) = (t : Int) + m0 + fd.length := by rw [IntKind.wrap_i64]; omega
        have hw3 : IntKind.i64.wrap ((t : Int) + (m0 : Int) + (fd.length : Int) + (fk.length : Int)) = (t : Int) + m0 + fd.length + fk.length := by rw [IntKind.wrap_i64]; omega
        clear hyk hF hfx hst hse hwl
        go_upto_region 5 with fail
        go_quiet (fail)
        have hd := pw_below_drewN (Below.refl wr.heap.size wr) nq
        have HB3 := Lib.hid (HB.out.trans (hd.mono HB.out.size))
        clear hd
        go_wp2_with fail
        go_roundg (n - (kk + 1))
        case measure => omega
        case rel => exact ⟨kk + 1, by omega, by omega, by rw [HST.out]; go_num, by go_num, (show Aside _ from HB3.out)⟩
      · have hf : false = T := by
          rw [← HT.out, decide_eq_false]
          have := totK_le (fls ys) kk
          rw [HTT.out] at this
          omega
        have HF := Lib.hid hf
        clear hf
        go_wp2_with fail
        go_ret
        exact ⟨by rw [← HF.out]; simp, HAL.out.trans (HB.out.mono HAL.out.size)⟩
    · have hltz : ¬ (kk : Int) < (n : Int) := by omega
      have htt : t = totF (fls ys) := by rw [← HTT.out]; exact totK_all (by rw [HFL.out]; omega)
      by_cases h6 : (t : Int) ≤ 600
      · have HF := Lib.hid (show true = T by rw [← HT.out, decide_eq_true (by omega)])
        clear htt
        go_wp2_with fail
        go_ret
        exact ⟨by rw [← HF.out]; simp, HAL.out.trans (HB.out.mono HAL.out.size)⟩
      · have HF := Lib.hid (show false = T by rw [← HT.out, decide_eq_false (by omega)])
        clear htt
        go_wp2_with fail
        go_ret
        exact ⟨by rw [← HF.out]; simp, HAL.out.trans (HB.out.mono HAL.out.size)⟩
end Go.Proofs.Ytipjhokhflokmaa
