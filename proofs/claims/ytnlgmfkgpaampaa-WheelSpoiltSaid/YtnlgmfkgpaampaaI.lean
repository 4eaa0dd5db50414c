/- lockageref04.Right. -/
import Derived.Test.YtnlgmfkgpaampaaH
set_option linter.unusedVariables false
set_option linter.unusedSimpArgs false
namespace Go.Proofs.Ytnlgmfkgpaampaa
open Go.RowKit Go.Maps
open Go.Proofs.YtnlgmfkgpaampaaW.PrintWords

theorem mem_allT {ts : Nat → List Tm} {k : Nat} {x : Tm} : x ∈ allT ts k ↔ ∃ i, i < k ∧ x ∈ ts i := by simp [allT]
theorem find_new {ts : Nat → List Tm} {id r s : Int} {kk jj : Nat} {y : Tm} (h : FindIs ts id r s) (hk : kk < 8) (hy : (ts kk)[jj]? = some y) (hid : y.id = id) :
    (r = kk ∧ s = jj → ∀ x ∈ allT ts kk ++ (ts kk).take jj, x.id ≠ id) ∧ (¬ (r = kk ∧ s = jj) → ∃ x ∈ allT ts kk ++ (ts kk).take jj, x.id = id) := by
  rcases h with ⟨_, _, hn⟩ | ⟨i, k, t, rfl, rfl, hi, ht, hti, hk1, hi1⟩
  · exact absurd hid (hn kk hk y (List.mem_of_getElem? hy))
  · have hik : i ≤ kk := by
      rcases Nat.lt_or_ge kk i with h | h
      · exact absurd hid (hi1 kk h y (List.mem_of_getElem? hy))
      · exact h
    constructor
    · rintro ⟨h1, h2⟩ x hx
      obtain rfl : i = kk := by omega
      obtain rfl : k = jj := by omega
      rcases List.mem_append.1 hx with hx | hx
      · obtain ⟨i', h', hx⟩ := mem_allT.1 hx
        exact hi1 i' h' x hx
      · obtain ⟨j, hj⟩ := List.getElem?_of_mem hx
        rw [List.getElem?_take] at hj
        split at hj
        · rename_i hjk
          exact hk1 j x hjk hj
        · cases hj
    · intro hne
      rcases Nat.lt_or_ge i kk with h | h
      · exact ⟨t, List.mem_append_left _ (mem_allT.2 ⟨i, h, List.mem_of_getElem? ht⟩), hti⟩
      · obtain rfl : i = kk := by omega
        have hkj : k < jj := by
          rcases Nat.lt_trichotomy k jj with h1 | h1 | h1
          · exact h1
          · subst h1; exact absurd ⟨rfl, rfl⟩ hne
          · exact absurd hid (hk1 jj y h1 hy)
        refine ⟨t, List.mem_append_right _ (List.mem_of_getElem? (i := k) ?_), hti⟩
        rw [List.getElem?_take, if_pos hkj]
        exact ht
theorem allT_sub (ts : Nat → List Tm) : ∀ {k m : Nat}, k ≤ m → (allT ts k).Sublist (allT ts m) := by
  intro k m h
  induction m with
  | zero => rw [Nat.le_zero.1 h]; exact List.Sublist.refl _
  | succ m ih =>
    rcases Nat.lt_or_ge k (m + 1) with h1 | h1
    · rw [allT_succ]
      exact (ih (by omega)).trans (List.sublist_append_left _ _)
    · rw [show k = m + 1 by omega]
      exact List.Sublist.refl _
theorem nodup_part {ts : Nat → List Tm} {kk jj : Nat} (hk : kk < 8) (h : (idsOf (allT ts 8)).Nodup) : (idsOf (allT ts kk ++ (ts kk).take jj)).Nodup := by
  have h1 : (allT ts kk ++ (ts kk).take jj).Sublist (allT ts 8) := by
    refine List.Sublist.trans ?_ (allT_sub ts (show kk + 1 ≤ 8 by omega))
    rw [allT_succ]
    exact List.Sublist.append (List.Sublist.refl _) (List.take_sublist _ _)
  exact List.Nodup.sublist (h1.map _) h

def okF (nw : Int) (ts : Nat → List Tm) (kk jj : Nat) (y : Tm) (r s : Int) : Prop := okT nw kk y ∧ r = kk ∧ s = jj
instance (nw : Int) (ts : Nat → List Tm) (kk jj : Nat) (y : Tm) (r s : Int) : Decidable (okF nw ts kk jj y r s) := by unfold okF; exact inferInstance

set_option maxHeartbeats 8000000 in
theorem rright_any (w : World) (nw : Int) (A : Nat → Option Addr) (n c : Nat → Nat) (ts : Nat → List Tm) (hr : WhR w A n c ts) (ht : tot n 8 ≤ 9000) :
    Calls Try.prog 18 #[.agg #[.int .i64 nw, .slice (A 0) (n 0) (c 0), .slice (A 1) (n 1) (c 1), .slice (A 2) (n 2) (c 2), .slice (A 3) (n 3) (c 3), .slice (A 4) (n 4) (c 4), .slice (A 5) (n 5) (c 5), .slice (A 6) (n 6) (c 6), .slice (A 7) (n 7) (c 7)]] w fun e w' => e = .returned (.bool (rightB nw ts)) ∧ Below w.heap.size w w' := by
  have hal : Below w.heap.size w (w.alloc (.cells #[.int .i64 nw, .slice (A 0) (n 0) (c 0), .slice (A 1) (n 1) (c 1), .slice (A 2) (n 2) (c 2), .slice (A 3) (n 3) (c 3), .slice (A 4) (n 4) (c 4), .slice (A 5) (n 5) (c 5), .slice (A 6) (n 6) (c 6), .slice (A 7) (n 7) (c 7)] 25)) := (Below.refl _ _).alloc (Nat.le_refl _) _
  have hb1 := BoxW.alloc w nw (fun i => .slice (A i) (n i) (c i))
  have z0 : (w.alloc (.cells #[.int .i64 nw, .slice (A 0) (n 0) (c 0), .slice (A 1) (n 1) (c 1), .slice (A 2) (n 2) (c 2), .slice (A 3) (n 3) (c 3), .slice (A 4) (n 4) (c 4), .slice (A 5) (n 5) (c 5), .slice (A 6) (n 6) (c 6), .slice (A 7) (n 7) (c 7)] 25)).cell? ⟨w.heap.size, 0, none⟩ = some (.int .i64 nw) := hb1.now
  have z1 : (w.alloc (.cells #[.int .i64 nw, .slice (A 0) (n 0) (c 0), .slice (A 1) (n 1) (c 1), .slice (A 2) (n 2) (c 2), .slice (A 3) (n 3) (c 3), .slice (A 4) (n 4) (c 4), .slice (A 5) (n 5) (c 5), .slice (A 6) (n 6) (c 6), .slice (A 7) (n 7) (c 7)] 25)).cell? ⟨w.heap.size, 1, none⟩ = some (.slice (A 0) (n 0) (c 0)) := hb1.slot (show 0 < 8 by omega)
  have z2 : (w.alloc (.cells #[.int .i64 nw, .slice (A 0) (n 0) (c 0), .slice (A 1) (n 1) (c 1), .slice (A 2) (n 2) (c 2), .slice (A 3) (n 3) (c 3), .slice (A 4) (n 4) (c 4), .slice (A 5) (n 5) (c 5), .slice (A 6) (n 6) (c 6), .slice (A 7) (n 7) (c 7)] 25)).cell? ⟨w.heap.size, 2, none⟩ = some (.slice (A 1) (n 1) (c 1)) := hb1.slot (show 1 < 8 by omega)
  have z3 : (w.alloc (.cells #[.int .i64 nw, .slice (A 0) (n 0) (c 0), .slice (A 1) (n 1) (c 1), .slice (A 2) (n 2) (c 2), .slice (A 3) (n 3) (c 3), .slice (A 4) (n 4) (c 4), .slice (A 5) (n 5) (c 5), .slice (A 6) (n 6) (c 6), .slice (A 7) (n 7) (c 7)] 25)).cell? ⟨w.heap.size, 3, none⟩ = some (.slice (A 2) (n 2) (c 2)) := hb1.slot (show 2 < 8 by omega)
  have z4 : (w.alloc (.cells #[.int .i64 nw, .slice (A 0) (n 0) (c 0), .slice (A 1) (n 1) (c 1), .slice (A 2) (n 2) (c 2), .slice (A 3) (n 3) (c 3), .slice (A 4) (n 4) (c 4), .slice (A 5) (n 5) (c 5), .slice (A 6) (n 6) (c 6), .slice (A 7) (n 7) (c 7)] 25)).cell? ⟨w.heap.size, 4, none⟩ = some (.slice (A 3) (n 3) (c 3)) := hb1.slot (show 3 < 8 by omega)
  have z5 : (w.alloc (.cells #[.int .i64 nw, .slice (A 0) (n 0) (c 0), .slice (A 1) (n 1) (c 1), .slice (A 2) (n 2) (c 2), .slice (A 3) (n 3) (c 3), .slice (A 4) (n 4) (c 4), .slice (A 5) (n 5) (c 5), .slice (A 6) (n 6) (c 6), .slice (A 7) (n 7) (c 7)] 25)).cell? ⟨w.heap.size, 5, none⟩ = some (.slice (A 4) (n 4) (c 4)) := hb1.slot (show 4 < 8 by omega)
  have z6 : (w.alloc (.cells #[.int .i64 nw, .slice (A 0) (n 0) (c 0), .slice (A 1) (n 1) (c 1), .slice (A 2) (n 2) (c 2), .slice (A 3) (n 3) (c 3), .slice (A 4) (n 4) (c 4), .slice (A 5) (n 5) (c 5), .slice (A 6) (n 6) (c 6), .slice (A 7) (n 7) (c 7)] 25)).cell? ⟨w.heap.size, 6, none⟩ = some (.slice (A 5) (n 5) (c 5)) := hb1.slot (show 5 < 8 by omega)
  have z7 : (w.alloc (.cells #[.int .i64 nw, .slice (A 0) (n 0) (c 0), .slice (A 1) (n 1) (c 1), .slice (A 2) (n 2) (c 2), .slice (A 3) (n 3) (c 3), .slice (A 4) (n 4) (c 4), .slice (A 5) (n 5) (c 5), .slice (A 6) (n 6) (c 6), .slice (A 7) (n 7) (c 7)] 25)).cell? ⟨w.heap.size, 7, none⟩ = some (.slice (A 6) (n 6) (c 6)) := hb1.slot (show 6 < 8 by omega)
  have z8 : (w.alloc (.cells #[.int .i64 nw, .slice (A 0) (n 0) (c 0), .slice (A 1) (n 1) (c 1), .slice (A 2) (n 2) (c 2), .slice (A 3) (n 3) (c 3), .slice (A 4) (n 4) (c 4), .slice (A 5) (n 5) (c 5), .slice (A 6) (n 6) (c 6), .slice (A 7) (n 7) (c 7)] 25)).cell? ⟨w.heap.size, 8, none⟩ = some (.slice (A 7) (n 7) (c 7)) := hb1.slot (show 7 < 8 by omega)
  have HB := Lib.hid hb1
  have HW := Lib.hid hal
  have HR0 := Lib.hid hr
  have hln := hr.len
  have hla := allT_len hln 8 (Nat.le_refl _)
  have HLA := Lib.hid hla
  clear hr hal hb1 hla
  by_cases e0 : nw < 0
  · have HRT := Lib.hid (rightB_no (nw := nw) (ts := ts) fun h => by have := h.1.1; omega)
    go_enter Try.func18, Try.ntmps18
    go_wp2_with fail
    go_ret
    exact ⟨ret_bool HRT.out.symm, HW.out⟩
  by_cases e1 : 9007199254740992 < nw
  · have HRT := Lib.hid (rightB_no (nw := nw) (ts := ts) fun h => by have := h.1.2; omega)
    go_enter Try.func18, Try.ntmps18
    go_wp2_with fail
    go_ret
    exact ⟨ret_bool HRT.out.symm, HW.out⟩
  by_cases e2 : 64 < tot n 8
  · have HRT := Lib.hid (rightB_no (nw := nw) (ts := ts) fun h => by have := h.2.1; rw [HLA.out] at this; omega)
    have e2' : (64 : Int) < ((tot n 8 : Nat) : Int) := by omega
    go_enter Try.func18, Try.ntmps18
    go_wp2_with (go_at_call 31; refine (many_any _ nw A n c (by omega)).mono ?_; rintro e w2 ⟨rfl, hb2⟩)
    go_ret
    exact ⟨ret_bool HRT.out.symm, HW.out.trans (hb2.mono HW.out.size)⟩
  have e2' : ¬ (64 : Int) < ((tot n 8 : Nat) : Int) := by omega
  go_enter Try.func18, Try.ntmps18
  go_wp2_with (go_at_call 31; refine (many_any _ nw A n c (by omega)).mono ?_; rintro e w2 ⟨rfl, hb2⟩; have HB2 := Lib.hid (HB.out.below hb2); have HW2 := Lib.hid (HW.out.trans (hb2.mono HW.out.size)); clear hb2)
  clear z0 z1 z2 z3 z4 z5 z6 z7 z8
  go_loopg [3] 8 (fun gg s3 wr => ∃ kk : Nat, kk ≤ 8 ∧ 8 - kk ≤ gg ∧ s3 = .int .i64 kk ∧ Aside (BoxW wr w.heap.size nw (fun i => .slice (A i) (n i) (c i)) ∧ Below w.heap.size w wr ∧ SoFar nw ts kk [] ∧ (idsOf (allT ts kk)).Nodup))
  case atStart =>
    refine ⟨0, by omega, by omega, rfl, ?_⟩
    show Aside _
    exact ⟨HB2.out, HW2.out, ⟨fun i h => absurd h (by omega), by simp⟩, by simp [idsOf, allT]⟩
  case round =>
    clear HB2 HW2 HB HW
    obtain ⟨kk, hkk, hg, rfl, HA⟩ := hrel
    have HA := Lib.hid HA.out
    by_cases hlt : kk < 8
    · have hlt1 : (kk : Int) < 8 := by omega
      have hnk : tot n kk + n kk ≤ tot n 8 := tot_mono n (show kk + 1 ≤ 8 by omega)
      have hlk := hln kk hlt
      go_wp2_with fail
      go_loopg [4] (n kk) (fun gg s4 wx => ∃ jj : Nat, jj ≤ n kk ∧ n kk - jj ≤ gg ∧ s4 = .int .i64 jj ∧ Aside (BoxW wx w.heap.size nw (fun i => .slice (A i) (n i) (c i)) ∧ Below w.heap.size w wx ∧ SoFar nw ts kk ((ts kk).take jj) ∧ (idsOf (allT ts kk ++ (ts kk).take jj)).Nodup))
      case atStart =>
        refine ⟨0, by omega, by omega, rfl, ?_⟩
        show Aside _
        rw [List.take_zero, List.append_nil]
        exact HA.out
      case round =>
        clear HA
        obtain ⟨jj, hjj, hgj, rfl, HJ⟩ := hrel
        have HJ := Lib.hid HJ.out
        have z0 := HJ.out.1.slot hlt
        by_cases hltj : jj < n kk
        · have hltj1 : (jj : Int) < (n kk : Int) := by omega
          have HRw := Lib.hid (HR0.out.below HJ.out.2.1)
          obtain ⟨b, off, hA, hbl, hcell⟩ := (HRw.out kk hlt).get (by omega)
          have hat : (ts kk)[jj]? = some ((ts kk)[jj]'(by omega)) := List.getElem?_eq_getElem _
          have htk : (ts kk).take (jj + 1) = (ts kk).take jj ++ [(ts kk)[jj]'(by omega)] := List.take_succ_eq_append_getElem (by omega)
          have hmem : (ts kk)[jj]'(by omega) ∈ ts kk := List.getElem_mem _
          generalize (ts kk)[jj]'(by omega) = y at hat htk hmem
          obtain ⟨yi, ya⟩ := y
          have k0 : wr.cell? ⟨b, off + jj * 2, none⟩ = some (.int .i64 yi) := hcell jj 0 _ _ hat rfl
          have k1 : wr.cell? ⟨b, off + jj * 2 + 1, none⟩ = some (.int .i64 ya) := hcell jj 1 _ _ hat rfl
          have HTK := Lib.hid htk
          have HMEM := Lib.hid hmem
          have HAT := Lib.hid hat
          clear hcell hat htk hmem
          rw [hA] at z0
          go_upto_region 10 with fail
          clear k0 k1 z0
          have hal : Below wr.heap.size wr (wr.alloc (.cells #[.int .i64 yi, .int .i64 ya] 34)) := (Below.refl _ _).alloc (Nat.le_refl _) _
          have hb := heap_alloc_new wr (.cells #[.int .i64 yi, .int .i64 ya] 34)
          have HB1 := Lib.hid (HJ.out.1.below hal)
          have HW1 := Lib.hid (HJ.out.2.1.trans (hal.mono HJ.out.2.1.size))
          have HR1 := Lib.hid (HRw.out.below hal)
          have HJ2 := Lib.hid HJ.out.2.2
          clear hal HJ HRw
          generalize wr.alloc (.cells #[.int .i64 yi, .int .i64 ya] 34) = U at *
          generalize wr.heap.size = tb at *
          have y0 := box_at hb 0 _ rfl
          have y1 := box_at hb 1 _ rfl
          have z0 := HB1.out.now
          have z1 : U.cell? ⟨w.heap.size, 1, none⟩ = some (.slice (A 0) (n 0) (c 0)) := HB1.out.slot (show 0 < 8 by omega)
          have z2 : U.cell? ⟨w.heap.size, 2, none⟩ = some (.slice (A 1) (n 1) (c 1)) := HB1.out.slot (show 1 < 8 by omega)
          have z3 : U.cell? ⟨w.heap.size, 3, none⟩ = some (.slice (A 2) (n 2) (c 2)) := HB1.out.slot (show 2 < 8 by omega)
          have z4 : U.cell? ⟨w.heap.size, 4, none⟩ = some (.slice (A 3) (n 3) (c 3)) := HB1.out.slot (show 3 < 8 by omega)
          have z5 : U.cell? ⟨w.heap.size, 5, none⟩ = some (.slice (A 4) (n 4) (c 4)) := HB1.out.slot (show 4 < 8 by omega)
          have z6 : U.cell? ⟨w.heap.size, 6, none⟩ = some (.slice (A 5) (n 5) (c 5)) := HB1.out.slot (show 5 < 8 by omega)
          have z7 : U.cell? ⟨w.heap.size, 7, none⟩ = some (.slice (A 6) (n 6) (c 6)) := HB1.out.slot (show 6 < 8 by omega)
          have z8 : U.cell? ⟨w.heap.size, 8, none⟩ = some (.slice (A 7) (n 7) (c 7)) := HB1.out.slot (show 7 < 8 by omega)
          have HBX := Lib.hid hb
          clear hb
          go_upto_region 11 with (go_at_call 30; refine (find_any _ nw A n c ts yi HR1.out).mono ?_; rintro e w6 ⟨r, s, rfl, hf, hb6⟩; have HF := Lib.hid hf; have HB6 := Lib.hid (HB1.out.below hb6); have HW6 := Lib.hid (HW1.out.trans (hb6.mono HW1.out.size)); have hx6 := keep hb6 HBX.out; clear y0 y1 z0 z1 z2 z3 z4 z5 z6 z7 z8 hf hb6; have y0 := box_at hx6 0 _ rfl; have y1 := box_at hx6 1 _ rfl; have z0 := HB6.out.now; clear hx6)
          go_cut [79] from 34 to 79 (fun s79 wx => s79 = .bool (!decide (okF nw ts kk jj ⟨yi, ya⟩ r s)) ∧ wx = w6)
          case first =>
            by_cases e0 : yi < 0
            · have HD := Lib.hid (show Value.bool true = .bool (!decide (okF nw ts kk jj ⟨yi, ya⟩ r s)) from by rw [decide_eq_false (fun h => by have := h.1.1; simp only at this; omega)]; rfl)
              go_wp2_with fail
              go_meet
              exact ⟨HD.out, rfl⟩
            by_cases e1 : ya ≤ nw
            · have HD := Lib.hid (show Value.bool true = .bool (!decide (okF nw ts kk jj ⟨yi, ya⟩ r s)) from by rw [decide_eq_false (fun h => by have := h.1.2.1; simp only at this; omega)]; rfl)
              go_wp2_with fail
              go_meet
              exact ⟨HD.out, rfl⟩
            by_cases e2 : 9007199254740992 < ya
            · have HD := Lib.hid (show Value.bool true = .bool (!decide (okF nw ts kk jj ⟨yi, ya⟩ r s)) from by rw [decide_eq_false (fun h => by have := h.1.2.2.1; simp only at this; omega)]; rfl)
              go_wp2_with fail
              go_meet
              exact ⟨HD.out, rfl⟩
            obtain ⟨q, hq⟩ : ∃ q, ya.tmod 8 = q := ⟨_, rfl⟩
            by_cases e3 : q = (kk : Int)
            · have e3' : (q != (kk : Int)) = false := by simp [e3]
              by_cases e4 : r = (kk : Int)
              · have e4' : (r != (kk : Int)) = false := by simp [e4]
                by_cases e5 : s = (jj : Int)
                · have e5' : (s != (jj : Int)) = false := by simp [e5]
                  have HD := Lib.hid (show Value.bool false = .bool (!decide (okF nw ts kk jj ⟨yi, ya⟩ r s)) from by rw [decide_eq_true (show okF nw ts kk jj ⟨yi, ya⟩ r s from ⟨⟨by simp only; omega, by simp only; omega, by simp only; omega, by simp only; omega⟩, e4, e5⟩)]; rfl)
                  clear e4 e5
                  go_wp2_with fail
                  go_meet
                  exact ⟨HD.out, rfl⟩
                · have e5' : (s != (jj : Int)) = true := by simp [e5]
                  have HD := Lib.hid (show Value.bool true = .bool (!decide (okF nw ts kk jj ⟨yi, ya⟩ r s)) from by rw [decide_eq_false (fun h => e5 h.2.2)]; rfl)
                  clear e4
                  go_wp2_with fail
                  go_meet
                  exact ⟨HD.out, rfl⟩
              · have e4' : (r != (kk : Int)) = true := by simp [e4]
                have HD := Lib.hid (show Value.bool true = .bool (!decide (okF nw ts kk jj ⟨yi, ya⟩ r s)) from by rw [decide_eq_false (fun h => e4 h.2.1)]; rfl)
                go_wp2_with fail
                go_meet
                exact ⟨HD.out, rfl⟩
            · have e3' : (q != (kk : Int)) = true := by simp [e3]
              have HD := Lib.hid (show Value.bool true = .bool (!decide (okF nw ts kk jj ⟨yi, ya⟩ r s)) from by rw [decide_eq_false (fun h => e3 (by rw [← hq]; exact h.1.2.2.2))]; rfl)
              go_wp2_with fail
              go_meet
              exact ⟨HD.out, rfl⟩
          obtain ⟨rfl, hwc⟩ := hcut
          subst hwc
          have HFN := Lib.hid (find_new HF.out hlt HAT.out rfl)
          by_cases hok : okF nw ts kk jj ⟨yi, ya⟩ r s
          · rw [decide_eq_true hok]
            have HOK := Lib.hid hok
            clear hok
            go_wp2_with fail
            go_roundg (n kk - (jj + 1))
            case measure => omega
            case rel =>
              refine ⟨jj + 1, by omega, by omega, by simp, ?_⟩
              show Aside _
              rw [HTK.out]
              refine ⟨HB6.out, HW6.out, ⟨HJ2.out.1.1, fun t ht => ?_⟩, ?_⟩
              · rcases List.mem_append.1 ht with ht | ht
                · exact HJ2.out.1.2 t ht
                · rw [List.mem_singleton.1 ht]
                  exact HOK.out.1
              · rw [← List.append_assoc, idsOf_app, List.nodup_append]
                refine ⟨HJ2.out.2, by simp [idsOf], fun a ha b hb => ?_⟩
                simp [idsOf] at hb
                subst hb
                obtain ⟨x, hx, rfl⟩ := List.mem_map.1 ha
                exact HFN.out.1 HOK.out.2 x hx
          · rw [decide_eq_false hok]
            have HRT := Lib.hid (rightB_no (nw := nw) (ts := ts) fun h => hok ⟨h.2.2.1 kk hlt _ HMEM.out, by
              have hnd := nodup_part (jj := jj + 1) hlt h.2.2.2
              rw [HTK.out, ← List.append_assoc, idsOf_app, List.nodup_append] at hnd
              by_cases hrs : r = (kk : Int) ∧ s = (jj : Int)
              · exact hrs
              · obtain ⟨x, hx, hxi⟩ := HFN.out.2 hrs
                exact absurd hxi (hnd.2.2 x.id (List.mem_map.2 ⟨x, hx, rfl⟩) yi (by simp [idsOf]))⟩)
            clear hok
            go_wp2_with fail
            go_ret
            exact ⟨ret_bool HRT.out.symm, HW6.out⟩
        · obtain rfl : jj = n kk := by omega
          have hltj1 : ¬ ((n kk : Nat) : Int) < (n kk : Int) := by omega
          obtain ⟨j1, j2, j3, j4⟩ := HJ.out
          rw [List.take_of_length_le (by omega)] at j3 j4
          have HF := Lib.hid (show BoxW wr w.heap.size nw (fun i => .slice (A i) (n i) (c i)) ∧ Below w.heap.size w wr ∧ SoFar nw ts kk (ts kk) ∧ (idsOf (allT ts kk ++ ts kk)).Nodup from ⟨j1, j2, j3, j4⟩)
          clear j1 j2 j3 j4 HJ
          go_wp2_with fail
          go_roundg (8 - (kk + 1))
          case measure => omega
          case rel =>
            refine ⟨kk + 1, by omega, by omega, by simp, ?_⟩
            show Aside _
            obtain ⟨j1, j2, j5, j6⟩ := HF.out
            rw [allT_succ]
            refine ⟨j1, j2, ⟨fun i hi => ?_, by simp⟩, j6⟩
            rcases Nat.lt_or_ge i kk with h | h
            · exact j5.1 i h
            · obtain rfl : i = kk := by omega
              exact j5.2
    · obtain rfl : kk = 8 := by omega
      have HRT := Lib.hid (rightB_yes (nw := nw) (ts := ts) ⟨⟨by omega, by omega⟩, by rw [HLA.out]; omega, HA.out.2.2.1.1, HA.out.2.2.2⟩)
      go_wp2_with fail
      go_ret
      exact ⟨ret_bool HRT.out.symm, HA.out.2.1⟩
end Go.Proofs.Ytnlgmfkgpaampaa
