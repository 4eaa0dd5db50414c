/- Contract of pool.Open. -/
import Derived.Test.YtjomenldmojnjaaJ
set_option linter.unusedVariables false
set_option linter.unusedSimpArgs false
namespace Go.Proofs.Ytjomenldmojnjaa
open Go.RowKit
open Go.Proofs.YtjomenldmojnjaaW.PrintWords

def openB (b : Bk) : Bk := ⟨b.o + 1, b.r, if 0 < b.i then b.i - 1 else b.i, b.f⟩
def bkAt (bs : List Bk) (i : Nat) : Bk := (bs[i]?).getD ⟨0, 0, 0, 0⟩
structure OpenR where
  bs : List Bk
  nx : Int
  i : Nat
  again : Bool
  e : Nat
def openS (bs : List Bk) (nx : Int) : OpenR :=
  if (pickS bs nx).2 = 0 then ⟨bs.set (pickS bs nx).1 (openB (bkAt bs (pickS bs nx).1)), (((pickS bs nx).1 + 1) % bs.length : Nat), (pickS bs nx).1, decide (0 < (bkAt bs (pickS bs nx).1).i), 0⟩
  else ⟨bs, nx, 0, false, (pickS bs nx).2⟩
def OpenPost (w : World) (r : OpenR) (e : Ending) (w' : World) : Prop :=
  ∃ A n c, e = .returned (.tuple #[.agg #[.slice A n c, .int .i64 r.nx], .int .i64 (r.i : Int), .bool r.again, .int .i64 (r.e : Int)]) ∧ OwE enc 4 32 w' w.heap.size (.slice A n c) r.bs ∧ Below w.heap.size w w'
theorem pick_lt {bs : List Bk} {nx : Int} (h : (pickS bs nx).2 = 0) : RightP bs nx ∧ (pickS bs nx).1 < bs.length ∧ (bkAt bs (pickS bs nx).1).o < (bkAt bs (pickS bs nx).1).r := by
  obtain ⟨h1, h2⟩ := pickS_ok h
  refine ⟨rightB_iff.1 h1, mayL_lt h2, ?_⟩
  unfold mayL at h2
  have h3 := (List.mem_filter.1 h2).2
  unfold mayB at h3
  unfold bkAt
  cases hq : bs[(pickS bs nx).1]? with
  | none => rw [hq] at h3; cases h3
  | some b => rw [hq] at h3; simp at h3; simp [h3.1]

set_option maxRecDepth 4000 in
set_option maxHeartbeats 4000000 in
theorem open_any (w : World) (A : Option Addr) (n c : Nat) (nx : Int) (bs : List Bk) (hr : RdE enc 4 w (.slice A n c) bs) (hl : bs.length ≤ 1000) :
    Calls Try.prog 14 #[.agg #[.slice A n c, .int .i64 nx]] w (OpenPost w (openS bs nx)) := by
  have hW : Below w.heap.size w ((w.alloc (.cells #[.slice A n c, .int .i64 nx] 24)).alloc (.cells #[.slice none 0 0, .int .i64 0] 24)) := ((Below.refl _ _).alloc (Nat.le_refl _) _).alloc (by simp) _
  have x1 : ((w.alloc (.cells #[.slice A n c, .int .i64 nx] 24)).alloc (.cells #[.slice none 0 0, .int .i64 0] 24)).heap[w.heap.size]? = some (.cells #[.slice A n c, .int .i64 nx] 24 (0, 0)) := keep ((Below.refl _ _).alloc (Nat.le_refl _) _) (heap_alloc_new w (.cells #[.slice A n c, .int .i64 nx] 24))
  have x2 : ((w.alloc (.cells #[.slice A n c, .int .i64 nx] 24)).alloc (.cells #[.slice none 0 0, .int .i64 0] 24)).heap[w.heap.size + 1]? = some (.cells #[.slice none 0 0, .int .i64 0] 24 (0, 0)) := by
    have := heap_alloc_new (w.alloc (.cells #[.slice A n c, .int .i64 nx] 24)) (.cells #[.slice none 0 0, .int .i64 0] 24)
    simpa using this
  have HR := Lib.hid hr
  have HW := Lib.hid hW
  have X1 := Lib.hid x1
  have X2 := Lib.hid x2
  clear hr hW x1 x2
  go_enter Try.func14, Try.ntmps14
  go_wp2_with (go_at_call 28; refine (own_any _ A n c nx bs (HR.out.below HW.out) hl).mono ?_; rintro e w1 ⟨A1, n1, c1, rfl, hO, hb⟩; have y1 := keep hb X1.out; have y2 := keep hb X2.out; have HO := Lib.hid hO; have HB := Lib.hid (HW.out.trans (hb.mono (by simp; omega))); have hs1 := hb.size; clear hO hb; have Y1 := Lib.hid y1; have Y2 := Lib.hid y2; have z0 := box_at y1 0 _ rfl; have z1 := box_at y1 1 _ rfl; have zf := box_free y1; have hlt1 := (Array.getElem?_eq_some_iff.1 y1).1; clear y1 y2)
  have hX1 : ((w1.setCell ⟨w.heap.size, 0, none⟩ (.slice A1 n1 c1)).setCell ⟨w.heap.size, 1, none⟩ (.int .i64 nx)).heap[w.heap.size]? = some (.cells #[.slice A1 n1 c1, .int .i64 nx] 24 (0, 0)) := heap_set (heap_set Y1.out _) _
  have hX2 : ((w1.setCell ⟨w.heap.size, 0, none⟩ (.slice A1 n1 c1)).setCell ⟨w.heap.size, 1, none⟩ (.int .i64 nx)).heap[w.heap.size + 1]? = some (.cells #[.slice none 0 0, .int .i64 0] 24 (0, 0)) := by
    rw [Below.heap_setCell _ _ _ _ (by simp), Below.heap_setCell _ _ _ _ (by simp)]
    exact Y2.out
  have hO2 := ((HO.out.box (p := ⟨w.heap.size, 0, none⟩) (by simp; omega) (.slice A1 n1 c1)).box (p := ⟨w.heap.size, 1, none⟩) (by simp; omega) (.int .i64 nx))
  have hB2 : Below w.heap.size w ((w1.setCell ⟨w.heap.size, 0, none⟩ (.slice A1 n1 c1)).setCell ⟨w.heap.size, 1, none⟩ (.int .i64 nx)) := (HB.out.setCell (Nat.le_refl _) _).setCell (Nat.le_refl _) _
  have hbase : ((w.alloc (.cells #[.slice A n c, .int .i64 nx] 24)).alloc (.cells #[.slice none 0 0, .int .i64 0] 24)).heap.size = w.heap.size + 2 := by simp
  rw [hbase] at hO2
  generalize hWW : ((w1.setCell ⟨w.heap.size, 0, none⟩ (.slice A1 n1 c1)).setCell ⟨w.heap.size, 1, none⟩ (.int .i64 nx)) = W at *
  refine (pick_any W A1 n1 c1 nx bs hO2.rd).mono ?_
  rintro e w3 ⟨rfl, hb3⟩
  have h1 := keep hb3 hX1
  have h2 := keep hb3 hX2
  have HO3 := Lib.hid (hO2.below hb3)
  have HB3 := Lib.hid (hB2.trans (hb3.mono hB2.size))
  have H1 := Lib.hid h1
  have H2 := Lib.hid h2
  have hlt3 := (Array.getElem?_eq_some_iff.1 h1).1
  have hlt4 := (Array.getElem?_eq_some_iff.1 h2).1
  clear hWW hX1 hX2 hO2 hB2 hb3 z0 z1 zf hs1 hlt1 hbase
  have z0 := box_at h1 0 _ rfl
  have z1 := box_at h1 1 _ rfl
  have zf := box_free h1
  have u0 := box_at h2 0 _ rfl
  have u1 := box_at h2 1 _ rfl
  have uf := box_free h2
  clear h1 h2
  by_cases h0 : (pickS bs nx).2 = 0
  · obtain ⟨hR, hil, hor⟩ := pick_lt h0
    have HS := Lib.hid (show openS bs nx = _ by unfold openS; rw [if_pos h0])
    obtain ⟨i, hi⟩ : ∃ i, (pickS bs nx).1 = i := ⟨_, rfl⟩
    rw [hi] at HS hil hor
    rw [h0, hi]
    have hln := HO3.out.rd.len
    obtain ⟨b, off, rfl, hbb, ⟨cur, hcur⟩, hnc, hcs, hfz⟩ := HO3.out.form (by omega)
    have hat : bs[i]? = some bs[i] := List.getElem?_eq_getElem hil
    have hbk : bkAt bs i = bs[i] := by unfold bkAt; rw [hat]; rfl
    have hok := hR.2.2 _ (List.getElem_mem hil)
    have hn8 := hR.1.2
    rw [hbk] at HS hor
    have HAT := Lib.hid hat
    generalize bs[i] = y at hat hor hok HS HAT
    obtain ⟨yo, yr, yi, yf⟩ := y
    have k0 : w3.cell? ⟨b, off + i * 4, none⟩ = some (.int .i64 yo) := hcs i 0 _ _ hat rfl
    have k2 : w3.cell? ⟨b, off + i * 4 + 2, none⟩ = some (.int .i64 yi) := hcs i 2 _ _ hat rfl
    unfold Okb at hok
    simp only at hok hor
    have hiz : (i : Int) < (n1 : Int) := by omega
    have hw1 : IntKind.i64.wrap (yo + 1) = yo + 1 := by rw [IntKind.wrap_i64]; omega
    have hw2 : IntKind.i64.wrap (yi - 1) = yi - 1 := by rw [IntKind.wrap_i64]; omega
    have hw3 : IntKind.i64.wrap ((i : Int) + 1) = (i : Int) + 1 := by rw [IntKind.wrap_i64]; omega
    obtain ⟨r, hr⟩ : ∃ r, (i + 1) % bs.length = r := ⟨_, rfl⟩
    rw [hr] at HS
    rw [hln] at hr
    have htm : ((i : Int) + 1) % (n1 : Int) = (r : Int) := by rw [← hr]; simp
    have htm2 : ((i : Int) + 1).tmod (n1 : Int) = (r : Int) := by rw [Int.tmod_eq_emod_of_nonneg (by omega)]; exact htm
    clear hr
    have hne1 : ¬ b = w.heap.size := by omega
    have hne2 : ¬ w.heap.size = b := by omega
    have hne3 : ¬ b = w.heap.size + 1 := by omega
    have hne4 : ¬ w.heap.size + 1 = b := by omega
    have hblt : b < w3.heap.size := HO3.out.lt b rfl
    clear hR hor hok hn8 hat hbk hcs hcur hi h0
    by_cases hyi : 0 < yi
    · go_wp2_with fail
      refine bodyPost_ret (v := .tuple #[.agg #[.slice (some ⟨b, off, none⟩) n1 c1, .int .i64 r], .int .i64 i, .bool true, .int .i64 0]) (by simp [results, Try.results14, go_sem, u0, u1]) rfl ?_
      rw [HS.out]
      refine ⟨some ⟨b, off, none⟩, n1, c1, by simp [hyi], ?_, ((((HB3.out.setCell (by simp; omega) _).setCell (by simp; omega) _).setCell (by simp) _).setCell (by simp) _).setCell (by simp) _⟩
      · have q1 := HO3.out.set (i := i) (j := 2) (y := ⟨yo, yr, yi, yf⟩) (y' := ⟨yo, yr, yi - 1, yf⟩) (x := .int .i64 (yi - 1)) HAT.out (by omega) rfl
        have hat2 : (bs.set i ⟨yo, yr, yi - 1, yf⟩)[i]? = some ⟨yo, yr, yi - 1, yf⟩ := by simp [List.getElem?_set, hil]
        have q2 := q1.set (i := i) (j := 0) (y' := ⟨yo + 1, yr, yi - 1, yf⟩) (x := .int .i64 (yo + 1)) hat2 (by omega) rfl
        have hb := ((q2.box (p := ⟨w.heap.size, 1, none⟩) (by simp) (.int .i64 r)).box (p := ⟨w.heap.size + 1, 0, none⟩) (by simp) (.slice (some ⟨b, off, none⟩) n1 c1)).box (p := ⟨w.heap.size + 1, 1, none⟩) (by simp) (.int .i64 r)
        have hl := hb.lower (show w.heap.size ≤ w.heap.size + 2 by omega)
        simpa [openB, hyi, List.set_set] using hl
    · have hyn : ¬ 0 < yi := hyi
      go_wp2_with fail
      refine bodyPost_ret (v := .tuple #[.agg #[.slice (some ⟨b, off, none⟩) n1 c1, .int .i64 r], .int .i64 i, .bool false, .int .i64 0]) (by first | (simp [results, Try.results14, go_sem, u0, u1]; done) | (simp [results, Try.results14, go_sem, u0, u1]; omega)) rfl ?_
      rw [HS.out]
      refine ⟨some ⟨b, off, none⟩, n1, c1, by first | (simp [hyn]; done) | (simp; omega), ?_, (((HB3.out.setCell (by simp; omega) _).setCell (by simp) _).setCell (by simp) _).setCell (by simp) _⟩
      · have q1 := HO3.out.set (i := i) (j := 0) (y := ⟨yo, yr, yi, yf⟩) (y' := ⟨yo + 1, yr, yi, yf⟩) (x := .int .i64 (yo + 1)) HAT.out (by omega) rfl
        have hb := ((q1.box (p := ⟨w.heap.size, 1, none⟩) (by simp) (.int .i64 r)).box (p := ⟨w.heap.size + 1, 0, none⟩) (by simp) (.slice (some ⟨b, off, none⟩) n1 c1)).box (p := ⟨w.heap.size + 1, 1, none⟩) (by simp) (.int .i64 r)
        have hl := hb.lower (show w.heap.size ≤ w.heap.size + 2 by omega)
        have he : openB ⟨yo, yr, yi, yf⟩ = ⟨yo + 1, yr, yi, yf⟩ := by unfold openB; simp only; rw [if_neg (by omega)]
        show OwE enc 4 32 _ _ _ (bs.set i (openB ⟨yo, yr, yi, yf⟩))
        rw [he]
        exact hl
  · have he : (((pickS bs nx).2 : Int) != 0) = true := by simp; omega
    have HS := Lib.hid (show openS bs nx = _ by unfold openS; rw [if_neg h0])
    clear h0
    go_wp2_with fail
    refine bodyPost_ret (v := .tuple #[.agg #[.slice A1 n1 c1, .int .i64 nx], .int .i64 0, .bool false, .int .i64 ((pickS bs nx).2 : Int)]) (by simp [results, Try.results14, go_sem, u0, u1]) rfl ?_
    rw [HS.out]
    exact ⟨A1, n1, c1, rfl, ((HO3.out.box (by simp) _).box (by simp) _).lower (by omega), (HB3.out.setCell (by simp) _).setCell (by simp) _⟩
end Go.Proofs.Ytjomenldmojnjaa
