/- Contract of the reference's Open. -/
import Derived.Test.YtjomenldmojnjaaL
set_option linter.unusedVariables false
set_option linter.unusedSimpArgs false
namespace Go.Proofs.Ytjomenldmojnjaa
open Go.RowKit
open Go.Proofs.YtjomenldmojnjaaW.PrintWords

set_option maxRecDepth 4000 in
set_option maxHeartbeats 4000000 in
theorem ropen_any (w : World) (A : Option Addr) (n c : Nat) (nx : Int) (bs : List Bk) (hr : RdE enc 4 w (.slice A n c) bs) (hl : bs.length ≤ 1000) :
    Calls Try.prog 17 #[.agg #[.slice A n c, .int .i64 nx]] w (OpenPost w (openS bs nx)) := by
  have hW : Below w.heap.size w ((w.alloc (.cells #[.slice A n c, .int .i64 nx] 24)).alloc (.cells #[.slice none 0 0, .int .i64 0] 24)) := ((Below.refl _ _).alloc (Nat.le_refl _) _).alloc (by simp) _
  have x1 : ((w.alloc (.cells #[.slice A n c, .int .i64 nx] 24)).alloc (.cells #[.slice none 0 0, .int .i64 0] 24)).heap[w.heap.size]? = some (.cells #[.slice A n c, .int .i64 nx] 24 (0, 0)) := keep ((Below.refl _ _).alloc (Nat.le_refl _) _) (heap_alloc_new w (.cells #[.slice A n c, .int .i64 nx] 24))
  have x2 : ((w.alloc (.cells #[.slice A n c, .int .i64 nx] 24)).alloc (.cells #[.slice none 0 0, .int .i64 0] 24)).heap[w.heap.size + 1]? = some (.cells #[.slice none 0 0, .int .i64 0] 24 (0, 0)) := by
    have := heap_alloc_new (w.alloc (.cells #[.slice A n c, .int .i64 nx] 24)) (.cells #[.slice none 0 0, .int .i64 0] 24)
    simpa using this
  have HR := Lib.hid hr
  have HW := Lib.hid hW
  have X1 := Lib.hid x1
  have X2 := Lib.hid x2
  clear hr hW x1 x2
  have hlnn := HR.out.len
  go_enter Try.func17, Try.ntmps17
  go_upto_region 3 with (first
    | (go_at_call 19; refine (rpick_any _ A n c nx bs (HR.out.below HW.out)).mono ?_; rintro e w1 ⟨rfl, hb⟩; have HX1 := Lib.hid (keep hb X1.out); have HX2 := Lib.hid (keep hb X2.out); have HB := Lib.hid (HW.out.trans (hb.mono (by simp; omega))); clear hb; have z0 := box_at HX1.out 0 _ rfl; have z1 := box_at HX1.out 1 _ rfl)
    | (go_at_call 31; refine (rown_any _ A n c nx bs (HR.out.below HB.out) hl).mono ?_; rintro e w4 ⟨A1, n1, c1, rfl, hO, hb⟩; have HZ1 := Lib.hid (keep hb HX1.out); have HZ2 := Lib.hid (keep hb HX2.out); have HO := Lib.hid (hO.lower (base' := w.heap.size + 2) (by have := (Array.getElem?_eq_some_iff.1 HX2.out).1; omega)); have HB4 := Lib.hid (HB.out.trans (hb.mono HB.out.size)); have hs2 := (Array.getElem?_eq_some_iff.1 HZ2.out).1; clear hO hb z0 z1))
  have hB8 : Below w4.heap.size w4 (w4.alloc (.cells #[.slice A1 n1 c1, .int .i64 nx] 24)) := (Below.refl _ _).alloc (Nat.le_refl _) _
  have h1 := keep hB8 HZ1.out
  have h2 := keep hB8 HZ2.out
  have h8 := heap_alloc_new w4 (.cells #[.slice A1 n1 c1, .int .i64 nx] 24)
  have HO3 := Lib.hid (HO.out.below hB8)
  have HB3 := Lib.hid (HB4.out.trans (hB8.mono HB4.out.size))
  have HLT := Lib.hid (HO.out.lt)
  obtain ⟨p8, hp8⟩ : ∃ p8, w4.heap.size = p8 := ⟨_, rfl⟩
  rw [hp8] at h8 HLT hs2
  simp only [hp8]
  generalize hWW : (w4.alloc (.cells #[.slice A1 n1 c1, .int .i64 nx] 24)) = W at *
  clear hWW hB8 HO hp8
  have hlt1 := (Array.getElem?_eq_some_iff.1 h1).1
  have hlt2 := (Array.getElem?_eq_some_iff.1 h2).1
  have hlt8 := (Array.getElem?_eq_some_iff.1 h8).1
  have z0 := box_at h1 0 _ rfl
  have z1 := box_at h1 1 _ rfl
  have u0 := box_at h2 0 _ rfl
  have u1 := box_at h2 1 _ rfl
  have uf := box_free h2
  have v0 := box_at h8 0 _ rfl
  have v1 := box_at h8 1 _ rfl
  have vf := box_free h8
  have hq1 : ¬ p8 = w.heap.size := by omega
  have hq2 : ¬ w.heap.size = p8 := by omega
  have hq3 : ¬ p8 = w.heap.size + 1 := by omega
  have hq4 : ¬ w.heap.size + 1 = p8 := by omega
  clear h1 h2 h8
  by_cases h0 : (pickS bs nx).2 = 0
  · obtain ⟨hR, hil, hor⟩ := pick_lt h0
    have HS := Lib.hid (show openS bs nx = _ by unfold openS; rw [if_pos h0])
    obtain ⟨i, hi⟩ : ∃ i, (pickS bs nx).1 = i := ⟨_, rfl⟩
    rw [hi] at HS hil hor
    rw [h0, hi]
    have hln := HO3.out.rd.len
    obtain ⟨b, off, rfl, hbb, ⟨cur, hcur⟩, hnc, hcs, hfz⟩ := HO3.out.form (by omega)
    have hat : bs[i]? = some bs[i] := List.getElem?_eq_getElem hil
    have hbk : bkAt bs i = bs[i] := by unfold bkAt; rw [hat]; rfl
    have hok := hR.2.2 _ (List.getElem_mem hil)
    have hn8 := hR.1.2
    rw [hbk] at HS hor
    have HAT := Lib.hid hat
    generalize bs[i] = y at hat hor hok HS HAT
    obtain ⟨yo, yr, yi, yf⟩ := y
    have k0 : W.cell? ⟨b, off + i * 4, none⟩ = some (.int .i64 yo) := hcs i 0 _ _ hat rfl
    have k2 : W.cell? ⟨b, off + i * 4 + 2, none⟩ = some (.int .i64 yi) := hcs i 2 _ _ hat rfl
    unfold Okb at hok
    simp only at hok hor
    have hiz : (i : Int) < (n1 : Int) := by omega
    have hw1 : IntKind.i64.wrap (yo + 1) = yo + 1 := by rw [IntKind.wrap_i64]; omega
    have hw2 : IntKind.i64.wrap (yi - 1) = yi - 1 := by rw [IntKind.wrap_i64]; omega
    have hw3 : IntKind.i64.wrap ((i : Int) + 1) = (i : Int) + 1 := by rw [IntKind.wrap_i64]; omega
    obtain ⟨r, hr⟩ : ∃ r, (i + 1) % bs.length = r := ⟨_, rfl⟩
    rw [hr] at HS
    rw [hln] at hr
    have htm : ((i : Int) + 1) % (n1 : Int) = (r : Int) := by rw [← hr]; simp
    have htm2 : ((i : Int) + 1).tmod (n1 : Int) = (r : Int) := by rw [Int.tmod_eq_emod_of_nonneg (by omega)]; exact htm
    clear hr
    have hne1 : ¬ b = w.heap.size := by omega
    have hne2 : ¬ w.heap.size = b := by omega
    have hne3 : ¬ b = w.heap.size + 1 := by omega
    have hne4 : ¬ w.heap.size + 1 = b := by omega
    have hblt : b < W.heap.size := HO3.out.lt b rfl
    have hb8 : b < p8 := HLT.out b rfl
    have hq5 : ¬ b = p8 := by omega
    have hq6 : ¬ p8 = b := by omega
    have hnn : (n : Int) = (n1 : Int) := by omega
    clear hR hor hok hn8 hat hbk hcs hcur hi h0
    by_cases hyi : 0 < yi
    · go_wp2_with fail
      refine bodyPost_ret (v := .tuple #[.agg #[.slice (some ⟨b, off, none⟩) n1 c1, .int .i64 r], .int .i64 i, .bool true, .int .i64 0]) (by simp [results, Try.results17, go_sem, u0, u1]) rfl ?_
      rw [HS.out]
      refine ⟨some ⟨b, off, none⟩, n1, c1, by simp [hyi], ?_, ((((HB3.out.setCell (by simp; omega) _).setCell (by simp; omega) _).setCell (by simp; omega) _).setCell (by simp) _).setCell (by simp) _⟩
      · have q1 := HO3.out.set (i := i) (j := 2) (y := ⟨yo, yr, yi, yf⟩) (y' := ⟨yo, yr, yi - 1, yf⟩) (x := .int .i64 (yi - 1)) HAT.out (by omega) rfl
        have hat2 : (bs.set i ⟨yo, yr, yi - 1, yf⟩)[i]? = some ⟨yo, yr, yi - 1, yf⟩ := by simp [List.getElem?_set, hil]
        have q2 := q1.set (i := i) (j := 0) (y' := ⟨yo + 1, yr, yi - 1, yf⟩) (x := .int .i64 (yo + 1)) hat2 (by omega) rfl
        have hb := ((q2.far (p := ⟨p8, 1, none⟩) (fun k hk => by simp [Value.ownBlock] at hk; subst hk; simpa using hq5) (.int .i64 r)).box (p := ⟨w.heap.size + 1, 0, none⟩) (by simp) (.slice (some ⟨b, off, none⟩) n1 c1)).box (p := ⟨w.heap.size + 1, 1, none⟩) (by simp) (.int .i64 r)
        have hl := hb.lower (show w.heap.size ≤ w.heap.size + 2 by omega)
        simpa [openB, hyi, List.set_set] using hl
    · have hyn : ¬ 0 < yi := hyi
      go_wp2_with fail
      refine bodyPost_ret (v := .tuple #[.agg #[.slice (some ⟨b, off, none⟩) n1 c1, .int .i64 r], .int .i64 i, .bool false, .int .i64 0]) (by first | (simp [results, Try.results17, go_sem, u0, u1]; done) | (simp [results, Try.results17, go_sem, u0, u1]; omega)) rfl ?_
      rw [HS.out]
      refine ⟨some ⟨b, off, none⟩, n1, c1, by first | (simp [hyn]; done) | (simp; omega), ?_, (((HB3.out.setCell (by simp; omega) _).setCell (by simp; omega) _).setCell (by simp) _).setCell (by simp) _⟩
      · have q1 := HO3.out.set (i := i) (j := 0) (y := ⟨yo, yr, yi, yf⟩) (y' := ⟨yo + 1, yr, yi, yf⟩) (x := .int .i64 (yo + 1)) HAT.out (by omega) rfl
        have hb := ((q1.far (p := ⟨p8, 1, none⟩) (fun k hk => by simp [Value.ownBlock] at hk; subst hk; simpa using hq5) (.int .i64 r)).box (p := ⟨w.heap.size + 1, 0, none⟩) (by simp) (.slice (some ⟨b, off, none⟩) n1 c1)).box (p := ⟨w.heap.size + 1, 1, none⟩) (by simp) (.int .i64 r)
        have hl := hb.lower (show w.heap.size ≤ w.heap.size + 2 by omega)
        have he : openB ⟨yo, yr, yi, yf⟩ = ⟨yo + 1, yr, yi, yf⟩ := by unfold openB; simp only; rw [if_neg (by omega)]
        show OwE enc 4 32 _ _ _ (bs.set i (openB ⟨yo, yr, yi, yf⟩))
        rw [he]
        exact hl
  · have he : (((pickS bs nx).2 : Int) != 0) = true := by simp; omega
    have HS := Lib.hid (show openS bs nx = _ by unfold openS; rw [if_neg h0])
    clear h0
    go_wp2_with fail
    refine bodyPost_ret (v := .tuple #[.agg #[.slice A1 n1 c1, .int .i64 nx], .int .i64 0, .bool false, .int .i64 ((pickS bs nx).2 : Int)]) (by simp [results, Try.results17, go_sem, u0, u1]) rfl ?_
    rw [HS.out]
    exact ⟨A1, n1, c1, rfl, ((HO3.out.box (by simp) _).box (by simp) _).lower (by omega), (HB3.out.setCell (by simp) _).setCell (by simp) _⟩
end Go.Proofs.Ytjomenldmojnjaa
