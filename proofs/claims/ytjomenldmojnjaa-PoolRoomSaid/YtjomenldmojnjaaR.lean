/- Contract of the reference's Close. -/
import Derived.Test.YtjomenldmojnjaaO
set_option linter.unusedVariables false
set_option linter.unusedSimpArgs false
namespace Go.Proofs.Ytjomenldmojnjaa
open Go.RowKit
open Go.Proofs.YtjomenldmojnjaaW.PrintWords

set_option maxRecDepth 4000 in
set_option maxHeartbeats 8000000 in
theorem rclose_any (w : World) (A : Option Addr) (n c : Nat) (nx : Int) (bs : List Bk) (i0 : Int) (stays failed : Bool) (hr : RdE enc 4 w (.slice A n c) bs) (hl : bs.length ≤ 1000) :
    Calls Try.prog 18 #[.agg #[.slice A n c, .int .i64 nx], .int .i64 i0, .bool stays, .bool failed] w (ClosePost w (closeS bs nx i0 stays failed)) := by
  have hW : Below w.heap.size w ((w.alloc (.cells #[.slice A n c, .int .i64 nx] 24)).alloc (.cells #[.slice none 0 0, .int .i64 0] 24)) := ((Below.refl _ _).alloc (Nat.le_refl _) _).alloc (by simp) _
  have x1 : ((w.alloc (.cells #[.slice A n c, .int .i64 nx] 24)).alloc (.cells #[.slice none 0 0, .int .i64 0] 24)).heap[w.heap.size]? = some (.cells #[.slice A n c, .int .i64 nx] 24 (0, 0)) := keep ((Below.refl _ _).alloc (Nat.le_refl _) _) (heap_alloc_new w (.cells #[.slice A n c, .int .i64 nx] 24))
  have x2 : ((w.alloc (.cells #[.slice A n c, .int .i64 nx] 24)).alloc (.cells #[.slice none 0 0, .int .i64 0] 24)).heap[w.heap.size + 1]? = some (.cells #[.slice none 0 0, .int .i64 0] 24 (0, 0)) := by
    have := heap_alloc_new (w.alloc (.cells #[.slice A n c, .int .i64 nx] 24)) (.cells #[.slice none 0 0, .int .i64 0] 24)
    simpa using this
  have HR := Lib.hid hr
  have HW := Lib.hid hW
  have X1 := Lib.hid x1
  have X2 := Lib.hid x2
  clear hr hW x1 x2
  have hlnn := HR.out.len
  go_enter Try.func18, Try.ntmps18
  go_upto_region 2 with (go_at_call 31; refine (rown_any _ A n c nx bs (HR.out.below HW.out) hl).mono ?_; rintro e w4 ⟨A1, n1, c1, rfl, hO, hb⟩; have HZ1 := Lib.hid (keep hb X1.out); have HZ2 := Lib.hid (keep hb X2.out); have HO := Lib.hid (hO.lower (base' := w.heap.size + 2) (by have := (Array.getElem?_eq_some_iff.1 X2.out).1; omega)); have HB4 := Lib.hid (HW.out.trans (hb.mono HW.out.size)); have hs2 := (Array.getElem?_eq_some_iff.1 HZ2.out).1; clear hO hb)
  have hB8 : Below w4.heap.size w4 (w4.alloc (.cells #[.slice A1 n1 c1, .int .i64 nx] 24)) := (Below.refl _ _).alloc (Nat.le_refl _) _
  have h1 := keep hB8 HZ1.out
  have h2 := keep hB8 HZ2.out
  have h8 := heap_alloc_new w4 (.cells #[.slice A1 n1 c1, .int .i64 nx] 24)
  have HO3 := Lib.hid (HO.out.below hB8)
  have HB3 := Lib.hid (HB4.out.trans (hB8.mono HB4.out.size))
  have HLT := Lib.hid (HO.out.lt)
  obtain ⟨p8, hp8⟩ : ∃ p8, w4.heap.size = p8 := ⟨_, rfl⟩
  rw [hp8] at h8 HLT hs2
  simp only [hp8]
  generalize hWW : (w4.alloc (.cells #[.slice A1 n1 c1, .int .i64 nx] 24)) = W0 at *
  clear hWW hB8 HO hp8
  have hln := HO3.out.rd.len
  have hnn : n = n1 := by have := HR.out.len; omega
  subst hnn
  have hq1 : ¬ p8 = w.heap.size := by omega
  have hq2 : ¬ w.heap.size = p8 := by omega
  have hq3 : ¬ p8 = w.heap.size + 1 := by omega
  have hq4 : ¬ w.heap.size + 1 = p8 := by omega
  have z0' := box_at h1 0 _ rfl
  have z1' := box_at h1 1 _ rfl
  have H10 := Lib.hid h1
  have H20 := Lib.hid h2
  have H80 := Lib.hid h8
  clear h1 h2 h8
  cases hR : rightB bs nx with
  | false =>
    have HRR := Lib.hid hR
    have HS := Lib.hid (show closeS bs nx i0 stays failed = ⟨bs, nx, 1⟩ by unfold closeS; rw [if_neg fun h => by have := rightB_iff.2 h.1; rw [hR] at this; cases this])
    go_wp2_with (go_at_call 20; refine (rright_any _ _ _ _ nx bs (HR.out.below HB3.out)).mono ?_; rw [HRR.out]; rintro e W ⟨rfl, hb5⟩; have h1 := keep hb5 H10.out; have h2 := keep hb5 H20.out; have h8 := keep hb5 H80.out; have HO5 := Lib.hid (HO3.out.below hb5); have HB5 := Lib.hid (HB3.out.trans (hb5.mono HB3.out.size)); have hlt1 := (Array.getElem?_eq_some_iff.1 h1).1; have hlt2 := (Array.getElem?_eq_some_iff.1 h2).1; have hlt8 := (Array.getElem?_eq_some_iff.1 h8).1; clear z0' z1'; have z0 := box_at h1 0 _ rfl; have z1 := box_at h1 1 _ rfl; have u0 := box_at h2 0 _ rfl; have u1 := box_at h2 1 _ rfl; have uf := box_free h2; have v0 := box_at h8 0 _ rfl; have v1 := box_at h8 1 _ rfl; have vf := box_free h8; clear h1 h2 h8; clear hb5)
    refine bodyPost_ret (v := .tuple #[.agg #[.slice A1 n c1, .int .i64 nx], .int .i64 1]) (by simp [results, Try.results18, go_sem, u0, u1]) rfl ?_
    rw [HS.out]
    exact ⟨A1, n, c1, rfl, ((HO5.out.box (by simp) _).box (by simp) _).lower (by omega), (HB5.out.setCell (by simp) _).setCell (by simp) _⟩
  | true =>
    have hRP := rightB_iff.1 hR
    have HRR := Lib.hid hR
    by_cases hi0 : i0 < 0
    · have HS := Lib.hid (show closeS bs nx i0 stays failed = ⟨bs, nx, 1⟩ by unfold closeS; rw [if_neg fun h => by omega])
      go_wp2_with (go_at_call 20; refine (rright_any _ _ _ _ nx bs (HR.out.below HB3.out)).mono ?_; rw [HRR.out]; rintro e W ⟨rfl, hb5⟩; have h1 := keep hb5 H10.out; have h2 := keep hb5 H20.out; have h8 := keep hb5 H80.out; have HO5 := Lib.hid (HO3.out.below hb5); have HB5 := Lib.hid (HB3.out.trans (hb5.mono HB3.out.size)); have hlt1 := (Array.getElem?_eq_some_iff.1 h1).1; have hlt2 := (Array.getElem?_eq_some_iff.1 h2).1; have hlt8 := (Array.getElem?_eq_some_iff.1 h8).1; clear z0' z1'; have z0 := box_at h1 0 _ rfl; have z1 := box_at h1 1 _ rfl; have u0 := box_at h2 0 _ rfl; have u1 := box_at h2 1 _ rfl; have uf := box_free h2; have v0 := box_at h8 0 _ rfl; have v1 := box_at h8 1 _ rfl; have vf := box_free h8; clear h1 h2 h8; clear hb5)
      refine bodyPost_ret (v := .tuple #[.agg #[.slice A1 n c1, .int .i64 nx], .int .i64 1]) (by simp [results, Try.results18, go_sem, u0, u1]) rfl ?_
      rw [HS.out]
      exact ⟨A1, n, c1, rfl, ((HO5.out.box (by simp) _).box (by simp) _).lower (by omega), (HB5.out.setCell (by simp) _).setCell (by simp) _⟩
    by_cases hi1 : (n : Int) ≤ i0
    · have hi4 : (n : Int) ≤ i0 := by omega
      have HS := Lib.hid (show closeS bs nx i0 stays failed = ⟨bs, nx, 1⟩ by unfold closeS; rw [if_neg fun h => by omega])
      go_wp2_with (go_at_call 20; refine (rright_any _ _ _ _ nx bs (HR.out.below HB3.out)).mono ?_; rw [HRR.out]; rintro e W ⟨rfl, hb5⟩; have h1 := keep hb5 H10.out; have h2 := keep hb5 H20.out; have h8 := keep hb5 H80.out; have HO5 := Lib.hid (HO3.out.below hb5); have HB5 := Lib.hid (HB3.out.trans (hb5.mono HB3.out.size)); have hlt1 := (Array.getElem?_eq_some_iff.1 h1).1; have hlt2 := (Array.getElem?_eq_some_iff.1 h2).1; have hlt8 := (Array.getElem?_eq_some_iff.1 h8).1; clear z0' z1'; have z0 := box_at h1 0 _ rfl; have z1 := box_at h1 1 _ rfl; have u0 := box_at h2 0 _ rfl; have u1 := box_at h2 1 _ rfl; have uf := box_free h2; have v0 := box_at h8 0 _ rfl; have v1 := box_at h8 1 _ rfl; have vf := box_free h8; clear h1 h2 h8; clear hb5)
      refine bodyPost_ret (v := .tuple #[.agg #[.slice A1 n c1, .int .i64 nx], .int .i64 1]) (by simp [results, Try.results18, go_sem, u0, u1]) rfl ?_
      rw [HS.out]
      exact ⟨A1, n, c1, rfl, ((HO5.out.box (by simp) _).box (by simp) _).lower (by omega), (HB5.out.setCell (by simp) _).setCell (by simp) _⟩
    obtain ⟨i, rfl⟩ := Int.eq_ofNat_of_zero_le (show 0 ≤ i0 by omega)
    have hil : i < bs.length := by omega
    obtain ⟨bo, oo, rfl, hob1, hoc⟩ := HR.out.get (by omega)
    obtain ⟨b, off, rfl, hbb, ⟨cur, hcur⟩, hnc, hcs, _⟩ := HO3.out.form (by omega)
    have hk0' : W0.cell? ⟨bo, oo + i * 4, none⟩ = some (.int .i64 (bs[i]).o) := (HB3.out.cell (p := ⟨bo, oo + i * 4, none⟩) hob1).trans (hoc i 0 bs[i] _ (List.getElem?_eq_getElem hil) rfl)
    have hat : bs[i]? = some bs[i] := List.getElem?_eq_getElem hil
    have hbk : bkAt bs i = bs[i] := by unfold bkAt; rw [hat]; rfl
    have hok := hRP.2.2 _ (List.getElem_mem hil)
    have HCL := Lib.hid (show closeS bs nx (i : Int) stays failed = if bs[i].o = 0 then ⟨bs, nx, 5⟩ else ⟨bs.set i (closeB bs[i] stays failed), nx, 0⟩ by unfold closeS; rw [if_pos ⟨hRP, by omega, by omega⟩, Int.toNat_natCast, hbk])
    have HAT := Lib.hid hat
    generalize bs[i] = y at hat hok HAT HCL hk0'
    obtain ⟨yo, yr, yi, yf⟩ := y
    have k0' : W0.cell? ⟨b, off + i * 4, none⟩ = some (.int .i64 yo) := hcs i 0 _ _ hat rfl
    have k2' : W0.cell? ⟨b, off + i * 4 + 2, none⟩ = some (.int .i64 yi) := hcs i 2 _ _ hat rfl
    have k3' : W0.cell? ⟨b, off + i * 4 + 3, none⟩ = some (.int .i64 yf) := hcs i 3 _ _ hat rfl
    have HPOS := Lib.hid (show 0 < n by omega)
    have hi2 : ¬ (i : Int) < 0 := by omega
    have hi3 : ¬ (n : Int) ≤ (i : Int) := by omega
    unfold Okb at hok
    simp only at hok HCL
    have hiz : (i : Int) < (n : Int) := by omega
    have hw1 : IntKind.i64.wrap (yo - 1) = yo - 1 := by rw [IntKind.wrap_i64]; omega
    have hw2 : IntKind.i64.wrap (yi + 1) = yi + 1 := by rw [IntKind.wrap_i64]; omega
    have hw3 : IntKind.i64.wrap (yf + 1) = yf + 1 := by rw [IntKind.wrap_i64]; omega
    have hne1 : ¬ b = w.heap.size := by omega
    have hne2 : ¬ w.heap.size = b := by omega
    have hne3 : ¬ b = w.heap.size + 1 := by omega
    have hne4 : ¬ w.heap.size + 1 = b := by omega
    have hb8 : b < p8 := HLT.out b rfl
    have hq5 : ¬ b = p8 := by omega
    have hq6 : ¬ p8 = b := by omega
    have hf1 := hok.2.2.2.2
    clear hok hat hbk hcs hcur hRP hoc hR
    by_cases ho : yo = 0
    · subst ho
      have HS := Lib.hid (show closeS bs nx (i : Int) stays failed = ⟨bs, nx, 5⟩ by rw [HCL.out, if_pos rfl])
      go_wp2_with (go_at_call 20; refine (rright_any _ _ _ _ nx bs (HR.out.below HB3.out)).mono ?_; rw [HRR.out]; rintro e W ⟨rfl, hb5⟩; have h1 := keep hb5 H10.out; have h2 := keep hb5 H20.out; have h8 := keep hb5 H80.out; have HO5 := Lib.hid (HO3.out.below hb5); have HB5 := Lib.hid (HB3.out.trans (hb5.mono HB3.out.size)); have hlt1 := (Array.getElem?_eq_some_iff.1 h1).1; have hlt2 := (Array.getElem?_eq_some_iff.1 h2).1; have hlt8 := (Array.getElem?_eq_some_iff.1 h8).1; clear z0' z1'; have z0 := box_at h1 0 _ rfl; have z1 := box_at h1 1 _ rfl; have u0 := box_at h2 0 _ rfl; have u1 := box_at h2 1 _ rfl; have uf := box_free h2; have v0 := box_at h8 0 _ rfl; have v1 := box_at h8 1 _ rfl; have vf := box_free h8; clear h1 h2 h8; have k0 := pw_cell_below hb5 k0'; have k2 := pw_cell_below hb5 k2'; have k3 := pw_cell_below hb5 k3'; have hk0 := pw_cell_below hb5 hk0'; have hblt : b < W.heap.size := HO5.out.lt b rfl; have hfz : ∀ j, W.frozen? ⟨b, j, none⟩ = false := (by obtain ⟨_, _, hA, _, _, _, _, hf⟩ := HO5.out.form HPOS.out; cases hA; exact hf); clear hb5 k0' k2' k3' hk0')
      refine bodyPost_ret (v := .tuple #[.agg #[.slice (some ⟨b, off, none⟩) n c1, .int .i64 nx], .int .i64 5]) (by simp [results, Try.results18, go_sem, u0, u1]) rfl ?_
      rw [HS.out]
      exact ⟨some ⟨b, off, none⟩, n, c1, rfl, ((HO5.out.box (by simp) _).box (by simp) _).lower (by omega), (HB5.out.setCell (by simp) _).setCell (by simp) _⟩
    have hob : (yo == (0 : Int)) = false := by simp [ho]
    have HS := Lib.hid (show closeS bs nx (i : Int) stays failed = ⟨bs.set i (closeB ⟨yo, yr, yi, yf⟩ stays failed), nx, 0⟩ by rw [HCL.out, if_neg ho])
    clear HCL
    cases failed with
    | true =>
      by_cases h5 : yf + 1 ≤ 5
      · have h5a : yf < 5 := by omega
        have h5b : yf ≤ 4 := by omega
        have h5c : min (yf + 1) 5 = yf + 1 := by omega
        go_wp2_with (go_at_call 20; refine (rright_any _ _ _ _ nx bs (HR.out.below HB3.out)).mono ?_; rw [HRR.out]; rintro e W ⟨rfl, hb5⟩; have h1 := keep hb5 H10.out; have h2 := keep hb5 H20.out; have h8 := keep hb5 H80.out; have HO5 := Lib.hid (HO3.out.below hb5); have HB5 := Lib.hid (HB3.out.trans (hb5.mono HB3.out.size)); have hlt1 := (Array.getElem?_eq_some_iff.1 h1).1; have hlt2 := (Array.getElem?_eq_some_iff.1 h2).1; have hlt8 := (Array.getElem?_eq_some_iff.1 h8).1; clear z0' z1'; have z0 := box_at h1 0 _ rfl; have z1 := box_at h1 1 _ rfl; have u0 := box_at h2 0 _ rfl; have u1 := box_at h2 1 _ rfl; have uf := box_free h2; have v0 := box_at h8 0 _ rfl; have v1 := box_at h8 1 _ rfl; have vf := box_free h8; clear h1 h2 h8; have k0 := pw_cell_below hb5 k0'; have k2 := pw_cell_below hb5 k2'; have k3 := pw_cell_below hb5 k3'; have hk0 := pw_cell_below hb5 hk0'; have hblt : b < W.heap.size := HO5.out.lt b rfl; have hfz : ∀ j, W.frozen? ⟨b, j, none⟩ = false := (by obtain ⟨_, _, hA, _, _, _, _, hf⟩ := HO5.out.form HPOS.out; cases hA; exact hf); clear hb5 k0' k2' k3' hk0')
        refine bodyPost_ret (v := .tuple #[.agg #[.slice (some ⟨b, off, none⟩) n c1, .int .i64 nx], .int .i64 0]) (by simp [results, Try.results18, go_sem, u0, u1]) rfl ?_
        rw [HS.out]
        refine ⟨some ⟨b, off, none⟩, n, c1, rfl, ?_, ((((HB5.out.setCell (by simp; omega) _).setCell (by simp; omega) _).setCell (by simp; omega) _).setCell (by simp) _).setCell (by simp) _⟩
        have q0 := HO5.out.set (i := i) (j := 0) (y := ⟨yo, yr, yi, yf⟩) (y' := ⟨yo - 1, yr, yi, yf⟩) (x := .int .i64 (yo - 1)) HAT.out (by omega) rfl
        have hat1 : (bs.set i ⟨yo - 1, yr, yi, yf⟩)[i]? = some ⟨yo - 1, yr, yi, yf⟩ := by simp [List.getElem?_set, hil]
        have q1 := q0.set (i := i) (j := 3) (y := ⟨yo - 1, yr, yi, yf⟩) (y' := ⟨yo - 1, yr, yi, yf + 1⟩) (x := .int .i64 (yf + 1)) hat1 (by omega) rfl
        have hat2 : ((bs.set i ⟨yo - 1, yr, yi, yf⟩).set i ⟨yo - 1, yr, yi, yf + 1⟩)[i]? = some ⟨yo - 1, yr, yi, yf + 1⟩ := by simp [List.getElem?_set, hil]
        have q2 := q1.set (i := i) (j := 2) (y := ⟨yo - 1, yr, yi, yf + 1⟩) (y' := ⟨yo - 1, yr, 0, yf + 1⟩) (x := .int .i64 (0)) hat2 (by omega) rfl
        have hb := ((q2.box (p := ⟨w.heap.size + 1, 0, none⟩) (by simp) (.slice (some ⟨b, off, none⟩) n c1)).box (p := ⟨w.heap.size + 1, 1, none⟩) (by simp) (.int .i64 nx))
        have hl := hb.lower (show w.heap.size ≤ w.heap.size + 2 by omega)
        have he : closeB ⟨yo, yr, yi, yf⟩ stays true = ⟨yo - 1, yr, 0, yf + 1⟩ := by simp [closeB, h5c]
        show OwE enc 4 32 _ _ _ (bs.set i (closeB ⟨yo, yr, yi, yf⟩ stays true))
        rw [he]
        simpa [List.set_set] using hl
      · have h5c : min (yf + 1) 5 = 5 := by omega
        go_wp2_with (go_at_call 20; refine (rright_any _ _ _ _ nx bs (HR.out.below HB3.out)).mono ?_; rw [HRR.out]; rintro e W ⟨rfl, hb5⟩; have h1 := keep hb5 H10.out; have h2 := keep hb5 H20.out; have h8 := keep hb5 H80.out; have HO5 := Lib.hid (HO3.out.below hb5); have HB5 := Lib.hid (HB3.out.trans (hb5.mono HB3.out.size)); have hlt1 := (Array.getElem?_eq_some_iff.1 h1).1; have hlt2 := (Array.getElem?_eq_some_iff.1 h2).1; have hlt8 := (Array.getElem?_eq_some_iff.1 h8).1; clear z0' z1'; have z0 := box_at h1 0 _ rfl; have z1 := box_at h1 1 _ rfl; have u0 := box_at h2 0 _ rfl; have u1 := box_at h2 1 _ rfl; have uf := box_free h2; have v0 := box_at h8 0 _ rfl; have v1 := box_at h8 1 _ rfl; have vf := box_free h8; clear h1 h2 h8; have k0 := pw_cell_below hb5 k0'; have k2 := pw_cell_below hb5 k2'; have k3 := pw_cell_below hb5 k3'; have hk0 := pw_cell_below hb5 hk0'; have hblt : b < W.heap.size := HO5.out.lt b rfl; have hfz : ∀ j, W.frozen? ⟨b, j, none⟩ = false := (by obtain ⟨_, _, hA, _, _, _, _, hf⟩ := HO5.out.form HPOS.out; cases hA; exact hf); clear hb5 k0' k2' k3' hk0')
        refine bodyPost_ret (v := .tuple #[.agg #[.slice (some ⟨b, off, none⟩) n c1, .int .i64 nx], .int .i64 0]) (by simp [results, Try.results18, go_sem, u0, u1]) rfl ?_
        rw [HS.out]
        refine ⟨some ⟨b, off, none⟩, n, c1, rfl, ?_, ((((HB5.out.setCell (by simp; omega) _).setCell (by simp; omega) _).setCell (by simp; omega) _).setCell (by simp) _).setCell (by simp) _⟩
        have q0 := HO5.out.set (i := i) (j := 0) (y := ⟨yo, yr, yi, yf⟩) (y' := ⟨yo - 1, yr, yi, yf⟩) (x := .int .i64 (yo - 1)) HAT.out (by omega) rfl
        have hat1 : (bs.set i ⟨yo - 1, yr, yi, yf⟩)[i]? = some ⟨yo - 1, yr, yi, yf⟩ := by simp [List.getElem?_set, hil]
        have q1 := q0.set (i := i) (j := 3) (y := ⟨yo - 1, yr, yi, yf⟩) (y' := ⟨yo - 1, yr, yi, 5⟩) (x := .int .i64 (5)) hat1 (by omega) rfl
        have hat2 : ((bs.set i ⟨yo - 1, yr, yi, yf⟩).set i ⟨yo - 1, yr, yi, 5⟩)[i]? = some ⟨yo - 1, yr, yi, 5⟩ := by simp [List.getElem?_set, hil]
        have q2 := q1.set (i := i) (j := 2) (y := ⟨yo - 1, yr, yi, 5⟩) (y' := ⟨yo - 1, yr, 0, 5⟩) (x := .int .i64 (0)) hat2 (by omega) rfl
        have hb := ((q2.box (p := ⟨w.heap.size + 1, 0, none⟩) (by simp) (.slice (some ⟨b, off, none⟩) n c1)).box (p := ⟨w.heap.size + 1, 1, none⟩) (by simp) (.int .i64 nx))
        have hl := hb.lower (show w.heap.size ≤ w.heap.size + 2 by omega)
        have he : closeB ⟨yo, yr, yi, yf⟩ stays true = ⟨yo - 1, yr, 0, 5⟩ := by simp [closeB, h5c]
        show OwE enc 4 32 _ _ _ (bs.set i (closeB ⟨yo, yr, yi, yf⟩ stays true))
        rw [he]
        simpa [List.set_set] using hl
    | false =>
      cases stays with
      | true =>
        go_wp2_with (go_at_call 20; refine (rright_any _ _ _ _ nx bs (HR.out.below HB3.out)).mono ?_; rw [HRR.out]; rintro e W ⟨rfl, hb5⟩; have h1 := keep hb5 H10.out; have h2 := keep hb5 H20.out; have h8 := keep hb5 H80.out; have HO5 := Lib.hid (HO3.out.below hb5); have HB5 := Lib.hid (HB3.out.trans (hb5.mono HB3.out.size)); have hlt1 := (Array.getElem?_eq_some_iff.1 h1).1; have hlt2 := (Array.getElem?_eq_some_iff.1 h2).1; have hlt8 := (Array.getElem?_eq_some_iff.1 h8).1; clear z0' z1'; have z0 := box_at h1 0 _ rfl; have z1 := box_at h1 1 _ rfl; have u0 := box_at h2 0 _ rfl; have u1 := box_at h2 1 _ rfl; have uf := box_free h2; have v0 := box_at h8 0 _ rfl; have v1 := box_at h8 1 _ rfl; have vf := box_free h8; clear h1 h2 h8; have k0 := pw_cell_below hb5 k0'; have k2 := pw_cell_below hb5 k2'; have k3 := pw_cell_below hb5 k3'; have hk0 := pw_cell_below hb5 hk0'; have hblt : b < W.heap.size := HO5.out.lt b rfl; have hfz : ∀ j, W.frozen? ⟨b, j, none⟩ = false := (by obtain ⟨_, _, hA, _, _, _, _, hf⟩ := HO5.out.form HPOS.out; cases hA; exact hf); clear hb5 k0' k2' k3' hk0')
        refine bodyPost_ret (v := .tuple #[.agg #[.slice (some ⟨b, off, none⟩) n c1, .int .i64 nx], .int .i64 0]) (by simp [results, Try.results18, go_sem, u0, u1]) rfl ?_
        rw [HS.out]
        refine ⟨some ⟨b, off, none⟩, n, c1, rfl, ?_, ((((HB5.out.setCell (by simp; omega) _).setCell (by simp; omega) _).setCell (by simp; omega) _).setCell (by simp) _).setCell (by simp) _⟩
        have q0 := HO5.out.set (i := i) (j := 0) (y := ⟨yo, yr, yi, yf⟩) (y' := ⟨yo - 1, yr, yi, yf⟩) (x := .int .i64 (yo - 1)) HAT.out (by omega) rfl
        have hat1 : (bs.set i ⟨yo - 1, yr, yi, yf⟩)[i]? = some ⟨yo - 1, yr, yi, yf⟩ := by simp [List.getElem?_set, hil]
        have q1 := q0.set (i := i) (j := 3) (y := ⟨yo - 1, yr, yi, yf⟩) (y' := ⟨yo - 1, yr, yi, 0⟩) (x := .int .i64 (0)) hat1 (by omega) rfl
        have hat2 : ((bs.set i ⟨yo - 1, yr, yi, yf⟩).set i ⟨yo - 1, yr, yi, 0⟩)[i]? = some ⟨yo - 1, yr, yi, 0⟩ := by simp [List.getElem?_set, hil]
        have q2 := q1.set (i := i) (j := 2) (y := ⟨yo - 1, yr, yi, 0⟩) (y' := ⟨yo - 1, yr, yi + 1, 0⟩) (x := .int .i64 (yi + 1)) hat2 (by omega) rfl
        have hb := ((q2.box (p := ⟨w.heap.size + 1, 0, none⟩) (by simp) (.slice (some ⟨b, off, none⟩) n c1)).box (p := ⟨w.heap.size + 1, 1, none⟩) (by simp) (.int .i64 nx))
        have hl := hb.lower (show w.heap.size ≤ w.heap.size + 2 by omega)
        have he : closeB ⟨yo, yr, yi, yf⟩ true false = ⟨yo - 1, yr, yi + 1, 0⟩ := by simp [closeB]
        show OwE enc 4 32 _ _ _ (bs.set i (closeB ⟨yo, yr, yi, yf⟩ true false))
        rw [he]
        simpa [List.set_set] using hl
      | false =>
        go_wp2_with (go_at_call 20; refine (rright_any _ _ _ _ nx bs (HR.out.below HB3.out)).mono ?_; rw [HRR.out]; rintro e W ⟨rfl, hb5⟩; have h1 := keep hb5 H10.out; have h2 := keep hb5 H20.out; have h8 := keep hb5 H80.out; have HO5 := Lib.hid (HO3.out.below hb5); have HB5 := Lib.hid (HB3.out.trans (hb5.mono HB3.out.size)); have hlt1 := (Array.getElem?_eq_some_iff.1 h1).1; have hlt2 := (Array.getElem?_eq_some_iff.1 h2).1; have hlt8 := (Array.getElem?_eq_some_iff.1 h8).1; clear z0' z1'; have z0 := box_at h1 0 _ rfl; have z1 := box_at h1 1 _ rfl; have u0 := box_at h2 0 _ rfl; have u1 := box_at h2 1 _ rfl; have uf := box_free h2; have v0 := box_at h8 0 _ rfl; have v1 := box_at h8 1 _ rfl; have vf := box_free h8; clear h1 h2 h8; have k0 := pw_cell_below hb5 k0'; have k2 := pw_cell_below hb5 k2'; have k3 := pw_cell_below hb5 k3'; have hk0 := pw_cell_below hb5 hk0'; have hblt : b < W.heap.size := HO5.out.lt b rfl; have hfz : ∀ j, W.frozen? ⟨b, j, none⟩ = false := (by obtain ⟨_, _, hA, _, _, _, _, hf⟩ := HO5.out.form HPOS.out; cases hA; exact hf); clear hb5 k0' k2' k3' hk0')
        refine bodyPost_ret (v := .tuple #[.agg #[.slice (some ⟨b, off, none⟩) n c1, .int .i64 nx], .int .i64 0]) (by simp [results, Try.results18, go_sem, u0, u1]) rfl ?_
        rw [HS.out]
        refine ⟨some ⟨b, off, none⟩, n, c1, rfl, ?_, (((HB5.out.setCell (by simp; omega) _).setCell (by simp; omega) _).setCell (by simp) _).setCell (by simp) _⟩
        have q0 := HO5.out.set (i := i) (j := 0) (y := ⟨yo, yr, yi, yf⟩) (y' := ⟨yo - 1, yr, yi, yf⟩) (x := .int .i64 (yo - 1)) HAT.out (by omega) rfl
        have hat1 : (bs.set i ⟨yo - 1, yr, yi, yf⟩)[i]? = some ⟨yo - 1, yr, yi, yf⟩ := by simp [List.getElem?_set, hil]
        have q1 := q0.set (i := i) (j := 3) (y := ⟨yo - 1, yr, yi, yf⟩) (y' := ⟨yo - 1, yr, yi, 0⟩) (x := .int .i64 (0)) hat1 (by omega) rfl
        have hb := ((q1.box (p := ⟨w.heap.size + 1, 0, none⟩) (by simp) (.slice (some ⟨b, off, none⟩) n c1)).box (p := ⟨w.heap.size + 1, 1, none⟩) (by simp) (.int .i64 nx))
        have hl := hb.lower (show w.heap.size ≤ w.heap.size + 2 by omega)
        have he : closeB ⟨yo, yr, yi, yf⟩ false false = ⟨yo - 1, yr, yi, 0⟩ := by simp [closeB]
        show OwE enc 4 32 _ _ _ (bs.set i (closeB ⟨yo, yr, yi, yf⟩ false false))
        rw [he]
        simpa [List.set_set] using hl
end Go.Proofs.Ytjomenldmojnjaa
