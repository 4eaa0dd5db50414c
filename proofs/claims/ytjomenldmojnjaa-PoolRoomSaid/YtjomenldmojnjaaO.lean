/- Contract of pool.Close. -/
import Derived.Test.YtjomenldmojnjaaN
set_option linter.unusedVariables false
set_option linter.unusedSimpArgs false
namespace Go.Proofs.Ytjomenldmojnjaa
open Go.RowKit
open Go.Proofs.YtjomenldmojnjaaW.PrintWords

def closeB (b : Bk) (stays failed : Bool) : Bk := ⟨b.o - 1, b.r, if failed then 0 else if stays then b.i + 1 else b.i, if failed then min (b.f + 1) 5 else 0⟩
instance (bs : List Bk) (nx : Int) : Decidable (RightP bs nx) := by unfold RightP; exact inferInstance
structure CloseR where
  bs : List Bk
  nx : Int
  e : Nat
def closeS (bs : List Bk) (nx i : Int) (stays failed : Bool) : CloseR :=
  if RightP bs nx ∧ 0 ≤ i ∧ i < bs.length then (if (bkAt bs i.toNat).o = 0 then ⟨bs, nx, 5⟩ else ⟨bs.set i.toNat (closeB (bkAt bs i.toNat) stays failed), nx, 0⟩) else ⟨bs, nx, 1⟩
def ClosePost (w : World) (r : CloseR) (e : Ending) (w' : World) : Prop :=
  ∃ A n c, e = .returned (.tuple #[.agg #[.slice A n c, .int .i64 r.nx], .int .i64 (r.e : Int)]) ∧ OwE enc 4 32 w' w.heap.size (.slice A n c) r.bs ∧ Below w.heap.size w w'

set_option maxRecDepth 4000 in
set_option maxHeartbeats 8000000 in
theorem close_any (w : World) (A : Option Addr) (n c : Nat) (nx : Int) (bs : List Bk) (i0 : Int) (stays failed : Bool) (hr : RdE enc 4 w (.slice A n c) bs) (hl : bs.length ≤ 1000) :
    Calls Try.prog 15 #[.agg #[.slice A n c, .int .i64 nx], .int .i64 i0, .bool stays, .bool failed] w (ClosePost w (closeS bs nx i0 stays failed)) := by
  have hW : Below w.heap.size w ((w.alloc (.cells #[.slice A n c, .int .i64 nx] 24)).alloc (.cells #[.slice none 0 0, .int .i64 0] 24)) := ((Below.refl _ _).alloc (Nat.le_refl _) _).alloc (by simp) _
  have x1 : ((w.alloc (.cells #[.slice A n c, .int .i64 nx] 24)).alloc (.cells #[.slice none 0 0, .int .i64 0] 24)).heap[w.heap.size]? = some (.cells #[.slice A n c, .int .i64 nx] 24 (0, 0)) := keep ((Below.refl _ _).alloc (Nat.le_refl _) _) (heap_alloc_new w (.cells #[.slice A n c, .int .i64 nx] 24))
  have x2 : ((w.alloc (.cells #[.slice A n c, .int .i64 nx] 24)).alloc (.cells #[.slice none 0 0, .int .i64 0] 24)).heap[w.heap.size + 1]? = some (.cells #[.slice none 0 0, .int .i64 0] 24 (0, 0)) := by
    have := heap_alloc_new (w.alloc (.cells #[.slice A n c, .int .i64 nx] 24)) (.cells #[.slice none 0 0, .int .i64 0] 24)
    simpa using this
  have HR := Lib.hid hr
  have HW := Lib.hid hW
  have X1 := Lib.hid x1
  have X2 := Lib.hid x2
  clear hr hW x1 x2
  go_enter Try.func15, Try.ntmps15
  go_wp2_with (go_at_call 28; refine (own_any _ A n c nx bs (HR.out.below HW.out) hl).mono ?_; rintro e w1 ⟨A1, n1, c1, rfl, hO, hb⟩; have y1 := keep hb X1.out; have y2 := keep hb X2.out; have HO := Lib.hid hO; have HB := Lib.hid (HW.out.trans (hb.mono (by simp; omega))); have hs1 := hb.size; clear hO hb; have Y1 := Lib.hid y1; have Y2 := Lib.hid y2; have z0 := box_at y1 0 _ rfl; have z1 := box_at y1 1 _ rfl; have zf := box_free y1; have hlt1 := (Array.getElem?_eq_some_iff.1 y1).1; clear y1 y2)
  have hX1 : ((w1.setCell ⟨w.heap.size, 0, none⟩ (.slice A1 n1 c1)).setCell ⟨w.heap.size, 1, none⟩ (.int .i64 nx)).heap[w.heap.size]? = some (.cells #[.slice A1 n1 c1, .int .i64 nx] 24 (0, 0)) := heap_set (heap_set Y1.out _) _
  have hX2 : ((w1.setCell ⟨w.heap.size, 0, none⟩ (.slice A1 n1 c1)).setCell ⟨w.heap.size, 1, none⟩ (.int .i64 nx)).heap[w.heap.size + 1]? = some (.cells #[.slice none 0 0, .int .i64 0] 24 (0, 0)) := by
    rw [Below.heap_setCell _ _ _ _ (by simp), Below.heap_setCell _ _ _ _ (by simp)]
    exact Y2.out
  have hO2 := ((HO.out.box (p := ⟨w.heap.size, 0, none⟩) (by simp; omega) (.slice A1 n1 c1)).box (p := ⟨w.heap.size, 1, none⟩) (by simp; omega) (.int .i64 nx))
  have hB2 : Below w.heap.size w ((w1.setCell ⟨w.heap.size, 0, none⟩ (.slice A1 n1 c1)).setCell ⟨w.heap.size, 1, none⟩ (.int .i64 nx)) := (HB.out.setCell (Nat.le_refl _) _).setCell (Nat.le_refl _) _
  have hbase : ((w.alloc (.cells #[.slice A n c, .int .i64 nx] 24)).alloc (.cells #[.slice none 0 0, .int .i64 0] 24)).heap.size = w.heap.size + 2 := by simp
  rw [hbase] at hO2
  generalize hWW : ((w1.setCell ⟨w.heap.size, 0, none⟩ (.slice A1 n1 c1)).setCell ⟨w.heap.size, 1, none⟩ (.int .i64 nx)) = W at *
  refine (right_any W A1 n1 c1 nx bs hO2.rd).mono ?_
  rintro e w3 ⟨rfl, hb3⟩
  have h1 := keep hb3 hX1
  have h2 := keep hb3 hX2
  have HO3 := Lib.hid (hO2.below hb3)
  have HB3 := Lib.hid (hB2.trans (hb3.mono hB2.size))
  have H1 := Lib.hid h1
  have H2 := Lib.hid h2
  have hlt3 := (Array.getElem?_eq_some_iff.1 h1).1
  have hlt4 := (Array.getElem?_eq_some_iff.1 h2).1
  clear hWW hX1 hX2 hO2 hB2 hb3 z0 z1 zf hs1 hlt1 hbase
  have z0 := box_at h1 0 _ rfl
  have z1 := box_at h1 1 _ rfl
  have zf := box_free h1
  have u0 := box_at h2 0 _ rfl
  have u1 := box_at h2 1 _ rfl
  have uf := box_free h2
  clear h1 h2
  have hln := HO3.out.rd.len
  cases hR : rightB bs nx with
  | false =>
    have HS := Lib.hid (show closeS bs nx i0 stays failed = ⟨bs, nx, 1⟩ by unfold closeS; rw [if_neg fun h => by have := rightB_iff.2 h.1; rw [hR] at this; cases this])
    go_wp2_with fail
    refine bodyPost_ret (v := .tuple #[.agg #[.slice A1 n1 c1, .int .i64 nx], .int .i64 1]) (by simp [results, Try.results15, go_sem, u0, u1]) rfl ?_
    rw [HS.out]
    exact ⟨A1, n1, c1, rfl, ((HO3.out.box (by simp) _).box (by simp) _).lower (by omega), (HB3.out.setCell (by simp) _).setCell (by simp) _⟩
  | true =>
    have hRP := rightB_iff.1 hR
    by_cases hi0 : i0 < 0
    · have HS := Lib.hid (show closeS bs nx i0 stays failed = ⟨bs, nx, 1⟩ by unfold closeS; rw [if_neg fun h => by omega])
      go_wp2_with fail
      refine bodyPost_ret (v := .tuple #[.agg #[.slice A1 n1 c1, .int .i64 nx], .int .i64 1]) (by simp [results, Try.results15, go_sem, u0, u1]) rfl ?_
      rw [HS.out]
      exact ⟨A1, n1, c1, rfl, ((HO3.out.box (by simp) _).box (by simp) _).lower (by omega), (HB3.out.setCell (by simp) _).setCell (by simp) _⟩
    by_cases hi1 : (n1 : Int) ≤ i0
    · have HS := Lib.hid (show closeS bs nx i0 stays failed = ⟨bs, nx, 1⟩ by unfold closeS; rw [if_neg fun h => by omega])
      go_wp2_with fail
      refine bodyPost_ret (v := .tuple #[.agg #[.slice A1 n1 c1, .int .i64 nx], .int .i64 1]) (by simp [results, Try.results15, go_sem, u0, u1]) rfl ?_
      rw [HS.out]
      exact ⟨A1, n1, c1, rfl, ((HO3.out.box (by simp) _).box (by simp) _).lower (by omega), (HB3.out.setCell (by simp) _).setCell (by simp) _⟩
    obtain ⟨i, rfl⟩ := Int.eq_ofNat_of_zero_le (show 0 ≤ i0 by omega)
    have hil : i < bs.length := by omega
    obtain ⟨b, off, rfl, hbb, ⟨cur, hcur⟩, hnc, hcs, hfz⟩ := HO3.out.form (by omega)
    have hat : bs[i]? = some bs[i] := List.getElem?_eq_getElem hil
    have hbk : bkAt bs i = bs[i] := by unfold bkAt; rw [hat]; rfl
    have hok := hRP.2.2 _ (List.getElem_mem hil)
    have HCL := Lib.hid (show closeS bs nx (i : Int) stays failed = if bs[i].o = 0 then ⟨bs, nx, 5⟩ else ⟨bs.set i (closeB bs[i] stays failed), nx, 0⟩ by unfold closeS; rw [if_pos ⟨hRP, by omega, by omega⟩, Int.toNat_natCast, hbk])
    have HAT := Lib.hid hat
    generalize bs[i] = y at hat hok HAT HCL
    obtain ⟨yo, yr, yi, yf⟩ := y
    have k0 : w3.cell? ⟨b, off + i * 4, none⟩ = some (.int .i64 yo) := hcs i 0 _ _ hat rfl
    have k2 : w3.cell? ⟨b, off + i * 4 + 2, none⟩ = some (.int .i64 yi) := hcs i 2 _ _ hat rfl
    have k3 : w3.cell? ⟨b, off + i * 4 + 3, none⟩ = some (.int .i64 yf) := hcs i 3 _ _ hat rfl
    have hpos : 0 < n1 := by omega
    unfold Okb at hok
    simp only at hok HCL
    have hiz : (i : Int) < (n1 : Int) := by omega
    have hw1 : IntKind.i64.wrap (yo - 1) = yo - 1 := by rw [IntKind.wrap_i64]; omega
    have hw2 : IntKind.i64.wrap (yi + 1) = yi + 1 := by rw [IntKind.wrap_i64]; omega
    have hw3 : IntKind.i64.wrap (yf + 1) = yf + 1 := by rw [IntKind.wrap_i64]; omega
    have hne1 : ¬ b = w.heap.size := by omega
    have hne2 : ¬ w.heap.size = b := by omega
    have hne3 : ¬ b = w.heap.size + 1 := by omega
    have hne4 : ¬ w.heap.size + 1 = b := by omega
    have hblt : b < w3.heap.size := HO3.out.lt b rfl
    have hf1 := hok.2.2.2.2
    clear hok hat hbk hcs hcur hR hRP
    by_cases ho : yo = 0
    · subst ho
      have HS := Lib.hid (show closeS bs nx (i : Int) stays failed = ⟨bs, nx, 5⟩ by rw [HCL.out, if_pos rfl])
      go_wp2_with fail
      refine bodyPost_ret (v := .tuple #[.agg #[.slice (some ⟨b, off, none⟩) n1 c1, .int .i64 nx], .int .i64 5]) (by simp [results, Try.results15, go_sem, u0, u1]) rfl ?_
      rw [HS.out]
      exact ⟨some ⟨b, off, none⟩, n1, c1, rfl, ((HO3.out.box (by simp) _).box (by simp) _).lower (by omega), (HB3.out.setCell (by simp) _).setCell (by simp) _⟩
    have hob : (yo == (0 : Int)) = false := by simp [ho]
    have HS := Lib.hid (show closeS bs nx (i : Int) stays failed = ⟨bs.set i (closeB ⟨yo, yr, yi, yf⟩ stays failed), nx, 0⟩ by rw [HCL.out, if_neg ho])
    clear HCL
    cases failed with
    | true =>
      by_cases h5 : yf + 1 ≤ 5
      · have h5a : yf < 5 := by omega
        have h5b : yf ≤ 4 := by omega
        have h5c : min (yf + 1) 5 = yf + 1 := by omega
        go_wp2_with fail
        refine bodyPost_ret (v := .tuple #[.agg #[.slice (some ⟨b, off, none⟩) n1 c1, .int .i64 nx], .int .i64 0]) (by simp [results, Try.results15, go_sem, u0, u1]) rfl ?_
        rw [HS.out]
        refine ⟨some ⟨b, off, none⟩, n1, c1, rfl, ?_, ((((HB3.out.setCell (by simp; omega) _).setCell (by simp; omega) _).setCell (by simp; omega) _).setCell (by simp) _).setCell (by simp) _⟩
        have q0 := HO3.out.set (i := i) (j := 0) (y := ⟨yo, yr, yi, yf⟩) (y' := ⟨yo - 1, yr, yi, yf⟩) (x := .int .i64 (yo - 1)) HAT.out (by omega) rfl
        have hat1 : (bs.set i ⟨yo - 1, yr, yi, yf⟩)[i]? = some ⟨yo - 1, yr, yi, yf⟩ := by simp [List.getElem?_set, hil]
        have q1 := q0.set (i := i) (j := 3) (y := ⟨yo - 1, yr, yi, yf⟩) (y' := ⟨yo - 1, yr, yi, yf + 1⟩) (x := .int .i64 (yf + 1)) hat1 (by omega) rfl
        have hat2 : ((bs.set i ⟨yo - 1, yr, yi, yf⟩).set i ⟨yo - 1, yr, yi, yf + 1⟩)[i]? = some ⟨yo - 1, yr, yi, yf + 1⟩ := by simp [List.getElem?_set, hil]
        have q2 := q1.set (i := i) (j := 2) (y := ⟨yo - 1, yr, yi, yf + 1⟩) (y' := ⟨yo - 1, yr, 0, yf + 1⟩) (x := .int .i64 (0)) hat2 (by omega) rfl
        have hb := ((q2.box (p := ⟨w.heap.size + 1, 0, none⟩) (by simp) (.slice (some ⟨b, off, none⟩) n1 c1)).box (p := ⟨w.heap.size + 1, 1, none⟩) (by simp) (.int .i64 nx))
        have hl := hb.lower (show w.heap.size ≤ w.heap.size + 2 by omega)
        have he : closeB ⟨yo, yr, yi, yf⟩ stays true = ⟨yo - 1, yr, 0, yf + 1⟩ := by simp [closeB, h5c]
        show OwE enc 4 32 _ _ _ (bs.set i (closeB ⟨yo, yr, yi, yf⟩ stays true))
        rw [he]
        simpa [List.set_set] using hl
      · have h5c : min (yf + 1) 5 = 5 := by omega
        go_wp2_with fail
        refine bodyPost_ret (v := .tuple #[.agg #[.slice (some ⟨b, off, none⟩) n1 c1, .int .i64 nx], .int .i64 0]) (by simp [results, Try.results15, go_sem, u0, u1]) rfl ?_
        rw [HS.out]
        refine ⟨some ⟨b, off, none⟩, n1, c1, rfl, ?_, ((((HB3.out.setCell (by simp; omega) _).setCell (by simp; omega) _).setCell (by simp; omega) _).setCell (by simp) _).setCell (by simp) _⟩
        have q0 := HO3.out.set (i := i) (j := 0) (y := ⟨yo, yr, yi, yf⟩) (y' := ⟨yo - 1, yr, yi, yf⟩) (x := .int .i64 (yo - 1)) HAT.out (by omega) rfl
        have hat1 : (bs.set i ⟨yo - 1, yr, yi, yf⟩)[i]? = some ⟨yo - 1, yr, yi, yf⟩ := by simp [List.getElem?_set, hil]
        have q1 := q0.set (i := i) (j := 3) (y := ⟨yo - 1, yr, yi, yf⟩) (y' := ⟨yo - 1, yr, yi, 5⟩) (x := .int .i64 (5)) hat1 (by omega) rfl
        have hat2 : ((bs.set i ⟨yo - 1, yr, yi, yf⟩).set i ⟨yo - 1, yr, yi, 5⟩)[i]? = some ⟨yo - 1, yr, yi, 5⟩ := by simp [List.getElem?_set, hil]
        have q2 := q1.set (i := i) (j := 2) (y := ⟨yo - 1, yr, yi, 5⟩) (y' := ⟨yo - 1, yr, 0, 5⟩) (x := .int .i64 (0)) hat2 (by omega) rfl
        have hb := ((q2.box (p := ⟨w.heap.size + 1, 0, none⟩) (by simp) (.slice (some ⟨b, off, none⟩) n1 c1)).box (p := ⟨w.heap.size + 1, 1, none⟩) (by simp) (.int .i64 nx))
        have hl := hb.lower (show w.heap.size ≤ w.heap.size + 2 by omega)
        have he : closeB ⟨yo, yr, yi, yf⟩ stays true = ⟨yo - 1, yr, 0, 5⟩ := by simp [closeB, h5c]
        show OwE enc 4 32 _ _ _ (bs.set i (closeB ⟨yo, yr, yi, yf⟩ stays true))
        rw [he]
        simpa [List.set_set] using hl
    | false =>
      cases stays with
      | true =>
        go_wp2_with fail
        refine bodyPost_ret (v := .tuple #[.agg #[.slice (some ⟨b, off, none⟩) n1 c1, .int .i64 nx], .int .i64 0]) (by simp [results, Try.results15, go_sem, u0, u1]) rfl ?_
        rw [HS.out]
        refine ⟨some ⟨b, off, none⟩, n1, c1, rfl, ?_, ((((HB3.out.setCell (by simp; omega) _).setCell (by simp; omega) _).setCell (by simp; omega) _).setCell (by simp) _).setCell (by simp) _⟩
        have q0 := HO3.out.set (i := i) (j := 0) (y := ⟨yo, yr, yi, yf⟩) (y' := ⟨yo - 1, yr, yi, yf⟩) (x := .int .i64 (yo - 1)) HAT.out (by omega) rfl
        have hat1 : (bs.set i ⟨yo - 1, yr, yi, yf⟩)[i]? = some ⟨yo - 1, yr, yi, yf⟩ := by simp [List.getElem?_set, hil]
        have q1 := q0.set (i := i) (j := 2) (y := ⟨yo - 1, yr, yi, yf⟩) (y' := ⟨yo - 1, yr, yi + 1, yf⟩) (x := .int .i64 (yi + 1)) hat1 (by omega) rfl
        have hat2 : ((bs.set i ⟨yo - 1, yr, yi, yf⟩).set i ⟨yo - 1, yr, yi + 1, yf⟩)[i]? = some ⟨yo - 1, yr, yi + 1, yf⟩ := by simp [List.getElem?_set, hil]
        have q2 := q1.set (i := i) (j := 3) (y := ⟨yo - 1, yr, yi + 1, yf⟩) (y' := ⟨yo - 1, yr, yi + 1, 0⟩) (x := .int .i64 (0)) hat2 (by omega) rfl
        have hb := ((q2.box (p := ⟨w.heap.size + 1, 0, none⟩) (by simp) (.slice (some ⟨b, off, none⟩) n1 c1)).box (p := ⟨w.heap.size + 1, 1, none⟩) (by simp) (.int .i64 nx))
        have hl := hb.lower (show w.heap.size ≤ w.heap.size + 2 by omega)
        have he : closeB ⟨yo, yr, yi, yf⟩ true false = ⟨yo - 1, yr, yi + 1, 0⟩ := by simp [closeB]
        show OwE enc 4 32 _ _ _ (bs.set i (closeB ⟨yo, yr, yi, yf⟩ true false))
        rw [he]
        simpa [List.set_set] using hl
      | false =>
        go_wp2_with fail
        refine bodyPost_ret (v := .tuple #[.agg #[.slice (some ⟨b, off, none⟩) n1 c1, .int .i64 nx], .int .i64 0]) (by simp [results, Try.results15, go_sem, u0, u1]) rfl ?_
        rw [HS.out]
        refine ⟨some ⟨b, off, none⟩, n1, c1, rfl, ?_, (((HB3.out.setCell (by simp; omega) _).setCell (by simp; omega) _).setCell (by simp) _).setCell (by simp) _⟩
        have q0 := HO3.out.set (i := i) (j := 0) (y := ⟨yo, yr, yi, yf⟩) (y' := ⟨yo - 1, yr, yi, yf⟩) (x := .int .i64 (yo - 1)) HAT.out (by omega) rfl
        have hat1 : (bs.set i ⟨yo - 1, yr, yi, yf⟩)[i]? = some ⟨yo - 1, yr, yi, yf⟩ := by simp [List.getElem?_set, hil]
        have q1 := q0.set (i := i) (j := 3) (y := ⟨yo - 1, yr, yi, yf⟩) (y' := ⟨yo - 1, yr, yi, 0⟩) (x := .int .i64 (0)) hat1 (by omega) rfl
        have hb := ((q1.box (p := ⟨w.heap.size + 1, 0, none⟩) (by simp) (.slice (some ⟨b, off, none⟩) n1 c1)).box (p := ⟨w.heap.size + 1, 1, none⟩) (by simp) (.int .i64 nx))
        have hl := hb.lower (show w.heap.size ≤ w.heap.size + 2 by omega)
        have he : closeB ⟨yo, yr, yi, yf⟩ false false = ⟨yo - 1, yr, yi, 0⟩ := by simp [closeB]
        show OwE enc 4 32 _ _ _ (bs.set i (closeB ⟨yo, yr, yi, yf⟩ false false))
        rw [he]
        simpa [List.set_set] using hl
end Go.Proofs.Ytjomenldmojnjaa
