/- Contracts of the reference's may and Pick. -/
import Derived.Test.YtjomenldmojnjaaI
set_option linter.unusedVariables false
set_option linter.unusedSimpArgs false
namespace Go.Proofs.Ytjomenldmojnjaa
open Go.RowKit
open Go.Proofs.YtjomenldmojnjaaW.PrintWords

theorem may_any (w : World) (A : Option Addr) (n c : Nat) (nx : Int) (bs : List Bk) (hr : RdE enc 4 w (.slice A n c) bs) (i : Nat) (hi : i < bs.length) (all : Bool) :
    Calls Try.prog 32 #[.agg #[.slice A n c, .int .i64 nx], .int .i64 i, .bool all] w fun e w' => e = .returned (.bool (mayB bs (!all) i)) ∧ Below w.heap.size w w' := by
  have ln := hr.len
  obtain ⟨b, off, rfl, hbl, hc⟩ := hr.get (by omega)
  have hat : bs[i]? = some bs[i] := List.getElem?_eq_getElem hi
  have hx := heap_alloc_new w (.cells #[.slice (some ⟨b, off, none⟩) n c, .int .i64 nx] 24)
  have hB0 : Below w.heap.size w (w.alloc (.cells #[.slice (some ⟨b, off, none⟩) n c, .int .i64 nx] 24)) := (Below.refl _ _).alloc (Nat.le_refl _) _
  have hcs : ∀ j y, (enc bs[i])[j]? = some y → (w.alloc (.cells #[.slice (some ⟨b, off, none⟩) n c, .int .i64 nx] 24)).cell? ⟨b, off + i * 4 + j, none⟩ = some y := fun j y hy => (hB0.cell (p := ⟨b, off + i * 4 + j, none⟩) hbl).trans (hc i j bs[i] y hat hy)
  generalize bs[i] = y at hcs hat
  obtain ⟨yo, yr, yi, yf⟩ := y
  have k0 : (w.alloc (.cells #[.slice (some ⟨b, off, none⟩) n c, .int .i64 nx] 24)).cell? ⟨b, off + i * 4, none⟩ = some (.int .i64 yo) := hcs 0 _ rfl
  have k1 : (w.alloc (.cells #[.slice (some ⟨b, off, none⟩) n c, .int .i64 nx] 24)).cell? ⟨b, off + i * 4 + 1, none⟩ = some (.int .i64 yr) := hcs 1 _ rfl
  have k3 : (w.alloc (.cells #[.slice (some ⟨b, off, none⟩) n c, .int .i64 nx] 24)).cell? ⟨b, off + i * 4 + 3, none⟩ = some (.int .i64 yf) := hcs 3 _ rfl
  have z0 := box_at hx 0 _ rfl
  have hi1 : (i : Int) < (n : Int) := by omega
  have HM := Lib.hid (mayB_at (g := !all) hat)
  rw [HM.out]
  have HB0 := Lib.hid hB0
  have hsz : (w.alloc (.cells #[.slice (some ⟨b, off, none⟩) n c, .int .i64 nx] 24)).heap.size = w.heap.size + 1 := by simp
  clear hcs hc hat hx hr ln
  go_enter Try.func32, Try.ntmps32
  go_wp2_with fail
  generalize (w.alloc (.cells #[.slice (some ⟨b, off, none⟩) n c, .int .i64 nx] 24)) = W at *
  by_cases h1 : yo < yr
  · cases all with
    | true =>
      go_quiet (fail)
      go_wp2_with fail
      go_ret
      exact ⟨ret_bool (by simp [h1]), pw_below_drewN HB0.out _⟩
    | false =>
      by_cases h5 : yf < 5
      · go_quiet (fail)
        go_wp2_with fail
        go_ret
        exact ⟨ret_bool (by simp [h1, badB]; try omega), pw_below_drewN HB0.out _⟩
      · go_quiet (fail)
        go_wp2_with fail
        go_ret
        exact ⟨ret_bool (by simp [h1, badB]; try omega), pw_below_drewN HB0.out _⟩
  · go_quiet (fail)
    go_wp2_with fail
    go_ret
    exact ⟨ret_bool (by simp; intro h; omega), pw_below_drewN HB0.out _⟩

def S4 (W : World) (p0 p1 p2 p3 : Addr) (v0 v1 v2 v3 : Value) (w' : World) : Prop := w'.cell? p0 = some v0 ∧ w'.cell? p1 = some v1 ∧ w'.cell? p2 = some v2 ∧ w'.cell? p3 = some v3 ∧ Below W.heap.size W w'
theorem S4.b {W w' : World} {p0 p1 p2 p3 : Addr} {v0 v1 v2 v3 : Value} (h : S4 W p0 p1 p2 p3 v0 v1 v2 v3 w') : Below W.heap.size W w' := h.2.2.2.2
theorem S4.below {W w1 w2 : World} {p0 p1 p2 p3 : Addr} {v0 v1 v2 v3 : Value} (hb : Below w1.heap.size w1 w2) (h : S4 W p0 p1 p2 p3 v0 v1 v2 v3 w1) : S4 W p0 p1 p2 p3 v0 v1 v2 v3 w2 :=
  ⟨pw_cell_below hb h.1, pw_cell_below hb h.2.1, pw_cell_below hb h.2.2.1, pw_cell_below hb h.2.2.2.1, h.2.2.2.2.trans (hb.mono h.2.2.2.2.size)⟩
def bestI (b : Option Nat) : Int := match b with
  | none => -1
  | some m => m
theorem any_take {bs : List Bk} {kk : Nat} {p : Bk → Bool} {b : Bk} (h : bs[kk]? = some b) : (bs.take (kk + 1)).any p = ((bs.take kk).any p || p b) := by
  have hl := (List.getElem?_eq_some_iff.1 h).1
  rw [List.take_succ_eq_append_getElem hl, List.any_append]
  have : bs[kk] = b := (List.getElem?_eq_some_iff.1 h).2
  simp [this]
theorem oAt_of {bs : List Bk} {i : Nat} {b : Bk} (h : bs[i]? = some b) : oAt bs i = b.o := by simp [oAt, h]
theorem pick_step {bs : List Bk} {q n kk i : Nat} {g : Bool} (hi : (q + kk) % n = i) : (plK n q (kk + 1)).foldl (step bs g) none = step bs g ((plK n q kk).foldl (step bs g) none) i := by
  rw [plK_succ, List.foldl_append, hi]
  rfl

set_option maxRecDepth 4000 in
set_option maxHeartbeats 4000000 in
theorem rpick_any (w : World) (A : Option Addr) (n c : Nat) (nx : Int) (bs : List Bk) (hr : RdE enc 4 w (.slice A n c) bs) :
    Calls Try.prog 19 #[.agg #[.slice A n c, .int .i64 nx]] w fun e w' => e = .returned (.tuple #[.int .i64 (((pickS bs nx).1 : Nat) : Int), .int .i64 (((pickS bs nx).2 : Nat) : Int)]) ∧ Below w.heap.size w w' := by
  have ln := hr.len
  have HR := Lib.hid hr
  have HLN := Lib.hid ln
  have hB0 : Below w.heap.size w (w.alloc (.cells #[.slice A n c, .int .i64 nx] 24)) := (Below.refl _ _).alloc (Nat.le_refl _) _
  have HB0 := Lib.hid hB0
  have hX0 := heap_alloc_new w (.cells #[.slice A n c, .int .i64 nx] 24)
  have HX0 := Lib.hid hX0
  clear hr ln hB0 hX0
  by_cases hR : rightB bs nx = true
  · have hp := rightB_iff.1 hR
    obtain ⟨⟨hn1, hn2⟩, ⟨hq1, hq2⟩, hok⟩ := hp
    obtain ⟨q, rfl⟩ := Int.eq_ofNat_of_zero_le hq1
    have hqn : q < n := by have := HLN.out; omega
    have hn8 : n ≤ 8 := by have := HLN.out; omega
    have HL := Lib.hid (show mayL bs q = (plK n q n).filter (mayB bs (goodB bs)) by unfold mayL places; rw [HLN.out]; rfl)
    have HR1 := Lib.hid hR
    clear hn1 hn2 hq1 hq2 hok hR
    go_enter Try.func19, Try.ntmps19
    go_wp2_with (go_at_call 20; refine (rright_any _ A n c _ bs (HR.out.below HB0.out)).mono ?_; rw [HR1.out]; rintro e w1 ⟨rfl, hb1⟩; have HX1 := Lib.hid (keep hb1 HX0.out); have HB1 := Lib.hid (HB0.out.trans (hb1.mono (by simp))); have z0 := box_at HX1.out 0 _ rfl; have z1 := box_at HX1.out 1 _ rfl; clear hb1)
    go_loopg [4, 5] n (fun gg s4 s5 wr => ∃ (kk : Nat) (a : Bool), kk ≤ n ∧ n - kk ≤ gg ∧ s5 = .int .i64 kk ∧ s4 = .bool a ∧ wr = w1 ∧ Aside (a = !(bs.take kk).any (fun b => !badB b)))
    case atStart => exact ⟨0, true, Nat.zero_le _, by omega, rfl, rfl, rfl, by show Aside _; rfl⟩
    case round =>
      obtain ⟨kk, a, hkk, hg, rfl, rfl, rfl, HA⟩ := hrel
      by_cases hlt : kk < n
      · have hltz : (kk : Int) < (n : Int) := by omega
        obtain ⟨b, off, rfl, hbl, hc⟩ := HR.out.get (by omega)
        have hl : kk < bs.length := by have := HLN.out; omega
        have hat : bs[kk]? = some bs[kk] := List.getElem?_eq_getElem hl
        have k3 : wr.cell? ⟨b, off + kk * 4 + 3, none⟩ = some (.int .i64 bs[kk].f) := (HB1.out.cell (p := ⟨b, off + kk * 4 + 3, none⟩) hbl).trans (hc kk 3 bs[kk] _ hat rfl)
        have HT := Lib.hid (any_take (p := fun b => !badB b) hat)
        have HBD := Lib.hid (show badB bs[kk] = decide (5 ≤ bs[kk].f) from rfl)
        generalize bs[kk] = y at k3 HT HBD
        generalize y.f = yf at k3 HBD
        clear hc hat
        cases a with
        | false =>
          go_wp2_with fail
          go_roundg (n - (kk + 1))
          case measure => omega
          case rel => exact ⟨kk + 1, false, by omega, by omega, by simp, rfl, rfl, by show (false = !_); rw [HT.out]; have h : (false = !_) := HA.out; revert h; cases (bs.take kk).any (fun b => !badB b) <;> simp⟩
        | true =>
          by_cases h5 : 5 ≤ yf
          · go_wp2_with fail
            go_roundg (n - (kk + 1))
            case measure => omega
            case rel => exact ⟨kk + 1, true, by omega, by omega, by simp, by simp [h5], rfl, by show (true = !_); rw [HT.out, HBD.out]; have h : (true = !_) := HA.out; revert h; cases (bs.take kk).any (fun b => !badB b) <;> simp [h5]⟩
          · go_wp2_with fail
            go_roundg (n - (kk + 1))
            case measure => omega
            case rel => exact ⟨kk + 1, false, by omega, by omega, by simp, by simp [h5], rfl, by show (false = !_); rw [HT.out, HBD.out]; simp [h5]⟩
      · have hltz : ¬ (kk : Int) < (n : Int) := by omega
        obtain rfl : kk = n := by omega
        have HG := Lib.hid (show a = !goodB bs by
          have h := HA.out
          rw [List.take_of_length_le (by have := HLN.out; omega)] at h
          exact h)
        clear HA
        go_wp2_with fail
        go_loopg [6, 7] kk (fun gg s6 s7 wq => ∃ (jj : Nat) (bst : Option Nat), jj ≤ kk ∧ kk - jj ≤ gg ∧ s7 = .int .i64 jj ∧ s6 = .int .i64 (bestI bst) ∧ Below w.heap.size w wq ∧ Aside (wq.heap[w.heap.size]? = some (.cells #[.slice A kk c, .int .i64 q] 24 (0, 0)) ∧ bst = (plK kk q jj).foldl (step bs (goodB bs)) none ∧ ∀ m, bst = some m → m < kk))
        case atStart => exact ⟨0, none, Nat.zero_le _, by omega, rfl, rfl, HB1.out, ⟨HX1.out, rfl, fun m hm => by cases hm⟩⟩
        case round =>
          obtain ⟨jj, bst, hjj, hg2, rfl, rfl, hB, HA⟩ := hrel
          have HA := Lib.hid HA.out
          have hX := HA.out.1
          clear z0 z1
          have z0 := box_at hX 0 _ rfl
          have z1 := box_at hX 1 _ rfl
          clear hX
          by_cases hlt : jj < kk
          · have hltz : (jj : Int) < (kk : Int) := by omega
            obtain ⟨i, hi⟩ : ∃ i, (q + jj) % kk = i := ⟨_, rfl⟩
            have hin : i < kk := by rw [← hi]; exact Nat.mod_lt _ (by omega)
            have hiz : (i : Int) < (kk : Int) := by omega
            have hw : IntKind.i64.wrap ((q : Int) + (jj : Int)) = (q : Int) + (jj : Int) := by rw [IntKind.wrap_i64]; omega
            have htm : ((q : Int) + (jj : Int)) % (kk : Int) = (i : Int) := by rw [← hi]; simp
            have htm2 : ((q : Int) + (jj : Int)).tmod (kk : Int) = (i : Int) := by rw [Int.tmod_eq_emod_of_nonneg (by omega)]; exact htm
            have HST := Lib.hid (pick_step (bs := bs) (g := goodB bs) hi)
            obtain ⟨b, off, rfl, hbl, hc⟩ := HR.out.get (by omega)
            have hl : i < bs.length := by have := HLN.out; omega
            have hoi : wr.cell? ⟨b, off + i * 4, none⟩ = some (.int .i64 (oAt bs i)) := by
              have hat : bs[i]? = some bs[i] := List.getElem?_eq_getElem hl
              rw [oAt_of hat]
              exact (hB.cell (p := ⟨b, off + i * 4, none⟩) hbl).trans (hc i 0 bs[i] _ hat rfl)
            clear hi
            cases hM : mayB bs (goodB bs) i with
            | false =>
              have HM := Lib.hid (show mayB bs (!a) i = false by rw [HG.out, Bool.not_not]; exact hM)
              have HN := Lib.hid (show step bs (goodB bs) bst i = bst by unfold step; rw [if_neg (by simp [hM])])
              clear hM
              have HS := Lib.hid (show S4 wr ⟨w.heap.size, 0, none⟩ ⟨w.heap.size, 1, none⟩ ⟨b, off + i * 4, none⟩ ⟨b, off + i * 4, none⟩ (.slice (some ⟨b, off, none⟩) kk c) (.int .i64 q) (.int .i64 (oAt bs i)) (.int .i64 (oAt bs i)) wr from ⟨z0, z1, hoi, hoi, Below.refl _ _⟩)
              go_wp2_with fail
              clear z0 z1 hoi
              refine wp_region_held_drew (S := fun w' => w'.cell? ⟨w.heap.size, 0, none⟩ = some (.slice (some ⟨b, off, none⟩) kk c) ∧ w'.cell? ⟨w.heap.size, 1, none⟩ = some (.int .i64 q) ∧ w'.cell? ⟨b, off + i * 4, none⟩ = some (.int .i64 (oAt bs i)) ∧ w'.cell? ⟨b, off + i * 4, none⟩ = some (.int .i64 (oAt bs i)) ∧ Below wr.heap.size wr w') (by kernel_rfl) (HS.out.below (below_drew (Below.refl _ _))) (fun hHeld => ?_)
              refine wpAnyH_take (i := 0) (oi := _) (v := ?v0a) rfl (by kernel_rfl) (by kernel_rfl) (by kernel_rfl) (fun _ _ _ h => h) (Or.inl ⟨by kernel_rfl, ?y0a⟩) (by assumption) ?r0a
              case y0a => (intro w hSw; (try dsimp only at hSw); go_simp; try (with_reducible rfl))
              case r0a =>
                simp only [List.getElem_toArray, List.getElem_cons_succ, List.getElem_cons_zero, Act.put, List.setIfInBounds_toArray, List.set_cons_zero, List.set_cons_succ]
                refine wpAnyH_take (i := 1) (oi := _) (v := ?v1a) rfl (by kernel_rfl) (by kernel_rfl) (by kernel_rfl) (fun _ _ _ h => h) (Or.inl ⟨by kernel_rfl, ?y1a⟩) (by assumption) ?r1a
                case y1a => (intro w hSw; (try dsimp only at hSw); go_simp; try (with_reducible rfl))
                case r1a =>
                  simp only [List.getElem_toArray, List.getElem_cons_succ, List.getElem_cons_zero, Act.put, List.setIfInBounds_toArray, List.set_cons_zero, List.set_cons_succ]
                  refine wpAnyH_take (i := 2) (oi := _) (v := ?v2a) rfl (by kernel_rfl) (by kernel_rfl) (by kernel_rfl) (fun _ _ _ h => h) (Or.inl ⟨by kernel_rfl, ?y2a⟩) (by assumption) ?r2a
                  case y2a => (intro w hSw; (try dsimp only at hSw); go_simp; try (with_reducible rfl))
                  case r2a =>
                    simp only [List.getElem_toArray, List.getElem_cons_succ, List.getElem_cons_zero, Act.put, List.setIfInBounds_toArray, List.set_cons_zero, List.set_cons_succ]
                    refine wpAnyH_ready (rs := [3]) (by kernel_rfl) (by simp) ?_
                    refine AllReadyH.cons (o := _) rfl (fun K hK => ?_) AllReadyH.nil
                    go_simp
                    (go_at_call 32; refine (may_any _ (some ⟨b, off, none⟩) kk c q bs (HR.out.below (hB.trans ((‹S4 wr _ _ _ _ _ _ _ _ _›).b.mono hB.size))) i hl a).mono ?_; rw [HM.out]; rintro e w3 ⟨rfl, hb3⟩)
                    go_wp2_with fail
                    refine hK.out _ _ (S4.below hb3 hHeld) (fun hHeld => ?_)
                    clear hK K
                    try simp only [List.getElem_toArray, List.getElem_cons_succ, List.getElem_cons_zero, Act.put, List.setIfInBounds_toArray, List.set_cons_zero, List.set_cons_succ]
                    refine wpAnyH_take (i := 4) (oi := _) (v := ?v4a) rfl (by kernel_rfl) (by kernel_rfl) (by kernel_rfl) (fun _ _ _ h => h) (Or.inl ⟨by kernel_rfl, ?y4a⟩) (by assumption) ?r4a
                    case y4a => (intro w hSw; (try dsimp only at hSw); go_simp; try (with_reducible rfl))
                    case r4a =>
                      simp only [List.getElem_toArray, List.getElem_cons_succ, List.getElem_cons_zero, Act.put, List.setIfInBounds_toArray, List.set_cons_zero, List.set_cons_succ]
                      refine wpAnyH_take (i := 5) (oi := _) (v := undef) rfl (by kernel_rfl) (by kernel_rfl) (by kernel_rfl) (fun _ _ _ h => h) (Or.inr ⟨by kernel_rfl, rfl⟩) (by assumption) ?_
                      simp only [List.getElem_toArray, List.getElem_cons_succ, List.getElem_cons_zero, Act.put, List.setIfInBounds_toArray, List.set_cons_zero, List.set_cons_succ]
                      refine wpAnyH_take (i := 6) (oi := _) (v := undef) rfl (by kernel_rfl) (by kernel_rfl) (by kernel_rfl) (fun _ _ _ h => h) (Or.inr ⟨by kernel_rfl, rfl⟩) (by assumption) ?_
                      simp only [List.getElem_toArray, List.getElem_cons_succ, List.getElem_cons_zero, Act.put, List.setIfInBounds_toArray, List.set_cons_zero, List.set_cons_succ]
                      refine wpAnyH_take (i := 7) (oi := _) (v := undef) rfl (by kernel_rfl) (by kernel_rfl) (by kernel_rfl) (fun _ _ _ h => h) (Or.inr ⟨by kernel_rfl, rfl⟩) (by assumption) ?_
                      simp only [List.getElem_toArray, List.getElem_cons_succ, List.getElem_cons_zero, Act.put, List.setIfInBounds_toArray, List.set_cons_zero, List.set_cons_succ]
                      refine wpAnyH_take (i := 8) (oi := _) (v := undef) rfl (by kernel_rfl) (by kernel_rfl) (by kernel_rfl) (fun _ _ _ h => h) (Or.inr ⟨by kernel_rfl, rfl⟩) (by assumption) ?_
                      simp only [List.getElem_toArray, List.getElem_cons_succ, List.getElem_cons_zero, Act.put, List.setIfInBounds_toArray, List.set_cons_zero, List.set_cons_succ]
                      refine wpAnyH_take (i := 9) (oi := _) (v := undef) rfl (by kernel_rfl) (by kernel_rfl) (by kernel_rfl) (fun _ _ _ h => h) (Or.inr ⟨by kernel_rfl, rfl⟩) (by assumption) ?_
                      simp only [List.getElem_toArray, List.getElem_cons_succ, List.getElem_cons_zero, Act.put, List.setIfInBounds_toArray, List.set_cons_zero, List.set_cons_succ]
                      refine wpAnyH_take (i := 10) (oi := _) (v := undef) rfl (by kernel_rfl) (by kernel_rfl) (by kernel_rfl) (fun _ _ _ h => h) (Or.inr ⟨by kernel_rfl, rfl⟩) (by assumption) ?_
                      simp only [List.getElem_toArray, List.getElem_cons_succ, List.getElem_cons_zero, Act.put, List.setIfInBounds_toArray, List.set_cons_zero, List.set_cons_succ]
                      refine wpAnyH_take (i := 11) (oi := _) (v := undef) rfl (by kernel_rfl) (by kernel_rfl) (by kernel_rfl) (fun _ _ _ h => h) (Or.inr ⟨by kernel_rfl, rfl⟩) (by assumption) ?_
                      simp only [List.getElem_toArray, List.getElem_cons_succ, List.getElem_cons_zero, Act.put, List.setIfInBounds_toArray, List.set_cons_zero, List.set_cons_succ]
                      refine wpAnyH_take (i := 12) (oi := _) (v := undef) rfl (by kernel_rfl) (by kernel_rfl) (by kernel_rfl) (fun _ _ _ h => h) (Or.inr ⟨by kernel_rfl, rfl⟩) (by assumption) ?_
                      simp only [List.getElem_toArray, List.getElem_cons_succ, List.getElem_cons_zero, Act.put, List.setIfInBounds_toArray, List.set_cons_zero, List.set_cons_succ]
                      refine wpAnyH_take (i := 13) (oi := _) (v := undef) rfl (by kernel_rfl) (by kernel_rfl) (by kernel_rfl) (fun _ _ _ h => h) (Or.inr ⟨by kernel_rfl, rfl⟩) (by assumption) ?_
                      simp only [List.getElem_toArray, List.getElem_cons_succ, List.getElem_cons_zero, Act.put, List.setIfInBounds_toArray, List.set_cons_zero, List.set_cons_succ]
                      refine wpAnyH_take (i := 14) (oi := _) (v := undef) rfl (by kernel_rfl) (by kernel_rfl) (by kernel_rfl) (fun _ _ _ h => h) (Or.inr ⟨by kernel_rfl, rfl⟩) (by assumption) ?_
                      simp only [List.getElem_toArray, List.getElem_cons_succ, List.getElem_cons_zero, Act.put, List.setIfInBounds_toArray, List.set_cons_zero, List.set_cons_succ]
                      refine wpAnyH_take (i := 15) (oi := _) (v := undef) rfl (by kernel_rfl) (by kernel_rfl) (by kernel_rfl) (fun _ _ _ h => h) (Or.inr ⟨by kernel_rfl, rfl⟩) (by assumption) ?_
                      simp only [List.getElem_toArray, List.getElem_cons_succ, List.getElem_cons_zero, Act.put, List.setIfInBounds_toArray, List.set_cons_zero, List.set_cons_succ]
                      refine wpAnyH_take (i := 16) (oi := _) (v := undef) rfl (by kernel_rfl) (by kernel_rfl) (by kernel_rfl) (fun _ _ _ h => h) (Or.inr ⟨by kernel_rfl, rfl⟩) (by assumption) ?_
                      simp only [List.getElem_toArray, List.getElem_cons_succ, List.getElem_cons_zero, Act.put, List.setIfInBounds_toArray, List.set_cons_zero, List.set_cons_succ]
                      refine wpAnyH_take (i := 17) (oi := _) (v := undef) rfl (by kernel_rfl) (by kernel_rfl) (by kernel_rfl) (fun _ _ _ h => h) (Or.inr ⟨by kernel_rfl, rfl⟩) (by assumption) ?_
                      simp only [List.getElem_toArray, List.getElem_cons_succ, List.getElem_cons_zero, Act.put, List.setIfInBounds_toArray, List.set_cons_zero, List.set_cons_succ]
                      refine wpAnyH_take (i := 18) (oi := _) (v := undef) rfl (by kernel_rfl) (by kernel_rfl) (by kernel_rfl) (fun _ _ _ h => h) (Or.inr ⟨by kernel_rfl, rfl⟩) (by assumption) ?_
                      simp only [List.getElem_toArray, List.getElem_cons_succ, List.getElem_cons_zero, Act.put, List.setIfInBounds_toArray, List.set_cons_zero, List.set_cons_succ]
                      refine wpAnyH_take (i := 19) (oi := _) (v := undef) rfl (by kernel_rfl) (by kernel_rfl) (by kernel_rfl) (fun _ _ _ h => h) (Or.inr ⟨by kernel_rfl, rfl⟩) (by assumption) ?_
                      simp only [List.getElem_toArray, List.getElem_cons_succ, List.getElem_cons_zero, Act.put, List.setIfInBounds_toArray, List.set_cons_zero, List.set_cons_succ]
                      refine wpAnyH_take (i := 20) (oi := _) (v := undef) rfl (by kernel_rfl) (by kernel_rfl) (by kernel_rfl) (fun _ _ _ h => h) (Or.inr ⟨by kernel_rfl, rfl⟩) (by assumption) ?_
                      simp only [List.getElem_toArray, List.getElem_cons_succ, List.getElem_cons_zero, Act.put, List.setIfInBounds_toArray, List.set_cons_zero, List.set_cons_succ]
                      refine wpAnyH_take (i := 21) (oi := _) (v := undef) rfl (by kernel_rfl) (by kernel_rfl) (by kernel_rfl) (fun _ _ _ h => h) (Or.inr ⟨by kernel_rfl, rfl⟩) (by assumption) ?_
                      simp only [List.getElem_toArray, List.getElem_cons_succ, List.getElem_cons_zero, Act.put, List.setIfInBounds_toArray, List.set_cons_zero, List.set_cons_succ]
                      refine wpAnyH_take (i := 22) (oi := _) (v := ?v22a) rfl (by kernel_rfl) (by kernel_rfl) (by kernel_rfl) (fun _ _ _ h => h) (Or.inl ⟨by kernel_rfl, ?y22a⟩) (by assumption) ?r22a
                      case y22a => (intro w hSw; (try dsimp only at hSw); go_simp; try (with_reducible rfl))
                      case r22a =>
                        simp only [List.getElem_toArray, List.getElem_cons_succ, List.getElem_cons_zero, Act.put, List.setIfInBounds_toArray, List.set_cons_zero, List.set_cons_succ]
                        refine wpAnyH_done (by kernel_rfl) ?_ _
                        have HLAST := Lib.hid (show Below wr.heap.size wr w3 from (below_drew (Below.refl _ _)).trans hb3)
                        clear hb3
                        go_wp2_with fail
                        go_roundg (kk - (jj + 1))
                        case measure => omega
                        case rel => exact ⟨jj + 1, bst, by omega, by omega, by simp, rfl, hB.trans (HLAST.out.mono hB.size), ⟨keep HLAST.out HA.out.1, by rw [HST.out, ← HA.out.2.1]; exact HN.out.symm, HA.out.2.2⟩⟩
            | true =>
              have HM := Lib.hid (show mayB bs (!a) i = true by rw [HG.out, Bool.not_not]; exact hM)
              cases bst with
              | none =>
                have HN := Lib.hid (show step bs (goodB bs) none i = some i by unfold step; rw [if_pos hM])
                clear hM
                have hneg : bestI none = -1 := rfl
                have HS := Lib.hid (show S4 wr ⟨w.heap.size, 0, none⟩ ⟨w.heap.size, 1, none⟩ ⟨b, off + i * 4, none⟩ ⟨b, off + i * 4, none⟩ (.slice (some ⟨b, off, none⟩) kk c) (.int .i64 q) (.int .i64 (oAt bs i)) (.int .i64 (oAt bs i)) wr from ⟨z0, z1, hoi, hoi, Below.refl _ _⟩)
                go_wp2_with fail
                clear z0 z1 hoi
                refine wp_region_held_drew (S := fun w' => w'.cell? ⟨w.heap.size, 0, none⟩ = some (.slice (some ⟨b, off, none⟩) kk c) ∧ w'.cell? ⟨w.heap.size, 1, none⟩ = some (.int .i64 q) ∧ w'.cell? ⟨b, off + i * 4, none⟩ = some (.int .i64 (oAt bs i)) ∧ w'.cell? ⟨b, off + i * 4, none⟩ = some (.int .i64 (oAt bs i)) ∧ Below wr.heap.size wr w') (by kernel_rfl) (HS.out.below (below_drew (Below.refl _ _))) (fun hHeld => ?_)
                refine wpAnyH_take (i := 0) (oi := _) (v := ?v0b) rfl (by kernel_rfl) (by kernel_rfl) (by kernel_rfl) (fun _ _ _ h => h) (Or.inl ⟨by kernel_rfl, ?y0b⟩) (by assumption) ?r0b
                case y0b => (intro w hSw; (try dsimp only at hSw); go_simp; try (with_reducible rfl))
                case r0b =>
                  simp only [List.getElem_toArray, List.getElem_cons_succ, List.getElem_cons_zero, Act.put, List.setIfInBounds_toArray, List.set_cons_zero, List.set_cons_succ]
                  refine wpAnyH_take (i := 1) (oi := _) (v := ?v1b) rfl (by kernel_rfl) (by kernel_rfl) (by kernel_rfl) (fun _ _ _ h => h) (Or.inl ⟨by kernel_rfl, ?y1b⟩) (by assumption) ?r1b
                  case y1b => (intro w hSw; (try dsimp only at hSw); go_simp; try (with_reducible rfl))
                  case r1b =>
                    simp only [List.getElem_toArray, List.getElem_cons_succ, List.getElem_cons_zero, Act.put, List.setIfInBounds_toArray, List.set_cons_zero, List.set_cons_succ]
                    refine wpAnyH_take (i := 2) (oi := _) (v := ?v2b) rfl (by kernel_rfl) (by kernel_rfl) (by kernel_rfl) (fun _ _ _ h => h) (Or.inl ⟨by kernel_rfl, ?y2b⟩) (by assumption) ?r2b
                    case y2b => (intro w hSw; (try dsimp only at hSw); go_simp; try (with_reducible rfl))
                    case r2b =>
                      simp only [List.getElem_toArray, List.getElem_cons_succ, List.getElem_cons_zero, Act.put, List.setIfInBounds_toArray, List.set_cons_zero, List.set_cons_succ]
                      refine wpAnyH_ready (rs := [3]) (by kernel_rfl) (by simp) ?_
                      refine AllReadyH.cons (o := _) rfl (fun K hK => ?_) AllReadyH.nil
                      go_simp
                      (go_at_call 32; refine (may_any _ (some ⟨b, off, none⟩) kk c q bs (HR.out.below (hB.trans ((‹S4 wr _ _ _ _ _ _ _ _ _›).b.mono hB.size))) i hl a).mono ?_; rw [HM.out]; rintro e w3 ⟨rfl, hb3⟩)
                      go_wp2_with fail
                      refine hK.out _ _ (S4.below hb3 hHeld) (fun hHeld => ?_)
                      clear hK K
                      try simp only [List.getElem_toArray, List.getElem_cons_succ, List.getElem_cons_zero, Act.put, List.setIfInBounds_toArray, List.set_cons_zero, List.set_cons_succ]
                      refine wpAnyH_take (i := 4) (oi := _) (v := ?v4b) rfl (by kernel_rfl) (by kernel_rfl) (by kernel_rfl) (fun _ _ _ h => h) (Or.inl ⟨by kernel_rfl, ?y4b⟩) (by assumption) ?r4b
                      case y4b => (intro w hSw; (try dsimp only at hSw); go_simp; try (with_reducible rfl))
                      case r4b =>
                        simp only [List.getElem_toArray, List.getElem_cons_succ, List.getElem_cons_zero, Act.put, List.setIfInBounds_toArray, List.set_cons_zero, List.set_cons_succ]
                        refine wpAnyH_take (i := 5) (oi := _) (v := ?v5b) rfl (by kernel_rfl) (by kernel_rfl) (by kernel_rfl) (fun _ _ _ h => h) (Or.inl ⟨by kernel_rfl, ?y5b⟩) (by assumption) ?r5b
                        case y5b => (intro w hSw; (try dsimp only at hSw); go_simp; try (with_reducible rfl))
                        case r5b =>
                          simp only [List.getElem_toArray, List.getElem_cons_succ, List.getElem_cons_zero, Act.put, List.setIfInBounds_toArray, List.set_cons_zero, List.set_cons_succ]
                          refine wpAnyH_take (i := 6) (oi := _) (v := ?v6b) rfl (by kernel_rfl) (by kernel_rfl) (by kernel_rfl) (fun _ _ _ h => h) (Or.inl ⟨by kernel_rfl, ?y6b⟩) (by assumption) ?r6b
                          case y6b => (intro w hSw; (try dsimp only at hSw); go_simp; try (with_reducible rfl))
                          case r6b =>
                            simp only [List.getElem_toArray, List.getElem_cons_succ, List.getElem_cons_zero, Act.put, List.setIfInBounds_toArray, List.set_cons_zero, List.set_cons_succ]
                            refine wpAnyH_take (i := 7) (oi := _) (v := ?v7b) rfl (by kernel_rfl) (by kernel_rfl) (by kernel_rfl) (fun _ _ _ h => h) (Or.inl ⟨by kernel_rfl, ?y7b⟩) (by assumption) ?r7b
                            case y7b => (intro w hSw; (try dsimp only at hSw); go_simp; try (with_reducible rfl))
                            case r7b =>
                              simp only [List.getElem_toArray, List.getElem_cons_succ, List.getElem_cons_zero, Act.put, List.setIfInBounds_toArray, List.set_cons_zero, List.set_cons_succ]
                              refine wpAnyH_take (i := 8) (oi := _) (v := undef) rfl (by kernel_rfl) (by kernel_rfl) (by kernel_rfl) (fun _ _ _ h => h) (Or.inr ⟨by kernel_rfl, rfl⟩) (by assumption) ?_
                              simp only [List.getElem_toArray, List.getElem_cons_succ, List.getElem_cons_zero, Act.put, List.setIfInBounds_toArray, List.set_cons_zero, List.set_cons_succ]
                              refine wpAnyH_take (i := 9) (oi := _) (v := undef) rfl (by kernel_rfl) (by kernel_rfl) (by kernel_rfl) (fun _ _ _ h => h) (Or.inr ⟨by kernel_rfl, rfl⟩) (by assumption) ?_
                              simp only [List.getElem_toArray, List.getElem_cons_succ, List.getElem_cons_zero, Act.put, List.setIfInBounds_toArray, List.set_cons_zero, List.set_cons_succ]
                              refine wpAnyH_take (i := 10) (oi := _) (v := undef) rfl (by kernel_rfl) (by kernel_rfl) (by kernel_rfl) (fun _ _ _ h => h) (Or.inr ⟨by kernel_rfl, rfl⟩) (by assumption) ?_
                              simp only [List.getElem_toArray, List.getElem_cons_succ, List.getElem_cons_zero, Act.put, List.setIfInBounds_toArray, List.set_cons_zero, List.set_cons_succ]
                              refine wpAnyH_take (i := 11) (oi := _) (v := undef) rfl (by kernel_rfl) (by kernel_rfl) (by kernel_rfl) (fun _ _ _ h => h) (Or.inr ⟨by kernel_rfl, rfl⟩) (by assumption) ?_
                              simp only [List.getElem_toArray, List.getElem_cons_succ, List.getElem_cons_zero, Act.put, List.setIfInBounds_toArray, List.set_cons_zero, List.set_cons_succ]
                              refine wpAnyH_take (i := 12) (oi := _) (v := undef) rfl (by kernel_rfl) (by kernel_rfl) (by kernel_rfl) (fun _ _ _ h => h) (Or.inr ⟨by kernel_rfl, rfl⟩) (by assumption) ?_
                              simp only [List.getElem_toArray, List.getElem_cons_succ, List.getElem_cons_zero, Act.put, List.setIfInBounds_toArray, List.set_cons_zero, List.set_cons_succ]
                              refine wpAnyH_take (i := 13) (oi := _) (v := undef) rfl (by kernel_rfl) (by kernel_rfl) (by kernel_rfl) (fun _ _ _ h => h) (Or.inr ⟨by kernel_rfl, rfl⟩) (by assumption) ?_
                              simp only [List.getElem_toArray, List.getElem_cons_succ, List.getElem_cons_zero, Act.put, List.setIfInBounds_toArray, List.set_cons_zero, List.set_cons_succ]
                              refine wpAnyH_take (i := 14) (oi := _) (v := undef) rfl (by kernel_rfl) (by kernel_rfl) (by kernel_rfl) (fun _ _ _ h => h) (Or.inr ⟨by kernel_rfl, rfl⟩) (by assumption) ?_
                              simp only [List.getElem_toArray, List.getElem_cons_succ, List.getElem_cons_zero, Act.put, List.setIfInBounds_toArray, List.set_cons_zero, List.set_cons_succ]
                              refine wpAnyH_take (i := 15) (oi := _) (v := undef) rfl (by kernel_rfl) (by kernel_rfl) (by kernel_rfl) (fun _ _ _ h => h) (Or.inr ⟨by kernel_rfl, rfl⟩) (by assumption) ?_
                              simp only [List.getElem_toArray, List.getElem_cons_succ, List.getElem_cons_zero, Act.put, List.setIfInBounds_toArray, List.set_cons_zero, List.set_cons_succ]
                              refine wpAnyH_take (i := 16) (oi := _) (v := undef) rfl (by kernel_rfl) (by kernel_rfl) (by kernel_rfl) (fun _ _ _ h => h) (Or.inr ⟨by kernel_rfl, rfl⟩) (by assumption) ?_
                              simp only [List.getElem_toArray, List.getElem_cons_succ, List.getElem_cons_zero, Act.put, List.setIfInBounds_toArray, List.set_cons_zero, List.set_cons_succ]
                              refine wpAnyH_take (i := 17) (oi := _) (v := undef) rfl (by kernel_rfl) (by kernel_rfl) (by kernel_rfl) (fun _ _ _ h => h) (Or.inr ⟨by kernel_rfl, rfl⟩) (by assumption) ?_
                              simp only [List.getElem_toArray, List.getElem_cons_succ, List.getElem_cons_zero, Act.put, List.setIfInBounds_toArray, List.set_cons_zero, List.set_cons_succ]
                              refine wpAnyH_take (i := 18) (oi := _) (v := undef) rfl (by kernel_rfl) (by kernel_rfl) (by kernel_rfl) (fun _ _ _ h => h) (Or.inr ⟨by kernel_rfl, rfl⟩) (by assumption) ?_
                              simp only [List.getElem_toArray, List.getElem_cons_succ, List.getElem_cons_zero, Act.put, List.setIfInBounds_toArray, List.set_cons_zero, List.set_cons_succ]
                              refine wpAnyH_take (i := 19) (oi := _) (v := undef) rfl (by kernel_rfl) (by kernel_rfl) (by kernel_rfl) (fun _ _ _ h => h) (Or.inr ⟨by kernel_rfl, rfl⟩) (by assumption) ?_
                              simp only [List.getElem_toArray, List.getElem_cons_succ, List.getElem_cons_zero, Act.put, List.setIfInBounds_toArray, List.set_cons_zero, List.set_cons_succ]
                              refine wpAnyH_take (i := 20) (oi := _) (v := undef) rfl (by kernel_rfl) (by kernel_rfl) (by kernel_rfl) (fun _ _ _ h => h) (Or.inr ⟨by kernel_rfl, rfl⟩) (by assumption) ?_
                              simp only [List.getElem_toArray, List.getElem_cons_succ, List.getElem_cons_zero, Act.put, List.setIfInBounds_toArray, List.set_cons_zero, List.set_cons_succ]
                              refine wpAnyH_take (i := 21) (oi := _) (v := ?v21b) rfl (by kernel_rfl) (by kernel_rfl) (by kernel_rfl) (fun _ _ _ h => h) (Or.inl ⟨by kernel_rfl, ?y21b⟩) (by assumption) ?r21b
                              case y21b => (intro w hSw; (try dsimp only at hSw); go_simp; try (with_reducible rfl))
                              case r21b =>
                                simp only [List.getElem_toArray, List.getElem_cons_succ, List.getElem_cons_zero, Act.put, List.setIfInBounds_toArray, List.set_cons_zero, List.set_cons_succ]
                                refine wpAnyH_take (i := 22) (oi := _) (v := ?v22b) rfl (by kernel_rfl) (by kernel_rfl) (by kernel_rfl) (fun _ _ _ h => h) (Or.inl ⟨by kernel_rfl, ?y22b⟩) (by assumption) ?r22b
                                case y22b => (intro w hSw; (try dsimp only at hSw); go_simp; try (with_reducible rfl))
                                case r22b =>
                                  simp only [List.getElem_toArray, List.getElem_cons_succ, List.getElem_cons_zero, Act.put, List.setIfInBounds_toArray, List.set_cons_zero, List.set_cons_succ]
                                  refine wpAnyH_done (by kernel_rfl) ?_ _
                                  have HLAST := Lib.hid (show Below wr.heap.size wr w3 from (below_drew (Below.refl _ _)).trans hb3)
                                  clear hb3
                                  go_wp2_with fail
                                  go_roundg (kk - (jj + 1))
                                  case measure => omega
                                  case rel => exact ⟨jj + 1, (some i), by omega, by omega, by simp, rfl, hB.trans (HLAST.out.mono hB.size), ⟨keep HLAST.out HA.out.1, by rw [HST.out, ← HA.out.2.1]; exact HN.out.symm, fun m hm => by cases hm; exact hin⟩⟩
              | some m =>
                have hmn : m < kk := HA.out.2.2 m rfl
                have hmz : (m : Int) < (kk : Int) := by omega
                have hneg : bestI (some m) = (m : Int) := rfl
                have hom : wr.cell? ⟨b, off + m * 4, none⟩ = some (.int .i64 (oAt bs m)) := by
                  have hml : m < bs.length := by have := HLN.out; omega
                  have hat : bs[m]? = some bs[m] := List.getElem?_eq_getElem hml
                  rw [oAt_of hat]
                  exact (hB.cell (p := ⟨b, off + m * 4, none⟩) hbl).trans (hc m 0 bs[m] _ hat rfl)
                by_cases hcmp : oAt bs i < oAt bs m
                · have HN := Lib.hid (show step bs (goodB bs) (some m) i = some i by unfold step; rw [if_pos hM]; show some (less bs m i) = _; unfold less; rw [if_pos hcmp])
                  clear hM
                  have HS := Lib.hid (show S4 wr ⟨w.heap.size, 0, none⟩ ⟨w.heap.size, 1, none⟩ ⟨b, off + i * 4, none⟩ ⟨b, off + m * 4, none⟩ (.slice (some ⟨b, off, none⟩) kk c) (.int .i64 q) (.int .i64 (oAt bs i)) (.int .i64 (oAt bs m)) wr from ⟨z0, z1, hoi, hom, Below.refl _ _⟩)
                  go_wp2_with fail
                  clear z0 z1 hoi hom
                  go_region_held3 (fun w' => w'.cell? ⟨w.heap.size, 0, none⟩ = some (.slice (some ⟨b, off, none⟩) kk c) ∧ w'.cell? ⟨w.heap.size, 1, none⟩ = some (.int .i64 q) ∧ w'.cell? ⟨b, off + i * 4, none⟩ = some (.int .i64 (oAt bs i)) ∧ w'.cell? ⟨b, off + m * 4, none⟩ = some (.int .i64 (oAt bs m)) ∧ Below wr.heap.size wr w')
                    (first | exact HS.out.below (below_drew (Below.refl _ _)) | (refine S4.below ?_ ‹_›; assumption))
                    (first
                     | (go_at_call 32; refine (may_any _ (some ⟨b, off, none⟩) kk c q bs (HR.out.below (hB.trans ((‹S4 wr _ _ _ _ _ _ _ _ _›).b.mono hB.size))) i hl a).mono ?_; rw [HM.out]; rintro e w3 ⟨rfl, hb3⟩))
                  have HLAST := Lib.hid (show Below wr.heap.size wr w3 from (below_drew (Below.refl _ _)).trans hb3)
                  clear hb3
                  go_wp2_with fail
                  go_roundg (kk - (jj + 1))
                  case measure => omega
                  case rel => exact ⟨jj + 1, (some i), by omega, by omega, by simp, rfl, hB.trans (HLAST.out.mono hB.size), ⟨keep HLAST.out HA.out.1, by rw [HST.out, ← HA.out.2.1]; exact HN.out.symm, fun m hm => by cases hm; exact hin⟩⟩
                · have HN := Lib.hid (show step bs (goodB bs) (some m) i = some m by unfold step; rw [if_pos hM]; show some (less bs m i) = _; unfold less; rw [if_neg hcmp])
                  clear hM
                  have HS := Lib.hid (show S4 wr ⟨w.heap.size, 0, none⟩ ⟨w.heap.size, 1, none⟩ ⟨b, off + i * 4, none⟩ ⟨b, off + m * 4, none⟩ (.slice (some ⟨b, off, none⟩) kk c) (.int .i64 q) (.int .i64 (oAt bs i)) (.int .i64 (oAt bs m)) wr from ⟨z0, z1, hoi, hom, Below.refl _ _⟩)
                  go_wp2_with fail
                  clear z0 z1 hoi hom
                  go_region_held3 (fun w' => w'.cell? ⟨w.heap.size, 0, none⟩ = some (.slice (some ⟨b, off, none⟩) kk c) ∧ w'.cell? ⟨w.heap.size, 1, none⟩ = some (.int .i64 q) ∧ w'.cell? ⟨b, off + i * 4, none⟩ = some (.int .i64 (oAt bs i)) ∧ w'.cell? ⟨b, off + m * 4, none⟩ = some (.int .i64 (oAt bs m)) ∧ Below wr.heap.size wr w')
                    (first | exact HS.out.below (below_drew (Below.refl _ _)) | (refine S4.below ?_ ‹_›; assumption))
                    (first
                     | (go_at_call 32; refine (may_any _ (some ⟨b, off, none⟩) kk c q bs (HR.out.below (hB.trans ((‹S4 wr _ _ _ _ _ _ _ _ _›).b.mono hB.size))) i hl a).mono ?_; rw [HM.out]; rintro e w3 ⟨rfl, hb3⟩))
                  have HLAST := Lib.hid (show Below wr.heap.size wr w3 from (below_drew (Below.refl _ _)).trans hb3)
                  clear hb3
                  go_wp2_with fail
                  go_roundg (kk - (jj + 1))
                  case measure => omega
                  case rel => exact ⟨jj + 1, (some m), by omega, by omega, by simp, rfl, hB.trans (HLAST.out.mono hB.size), ⟨keep HLAST.out HA.out.1, by rw [HST.out, ← HA.out.2.1]; exact HN.out.symm, HA.out.2.2⟩⟩
          · have hltz : ¬ (jj : Int) < (kk : Int) := by omega
            obtain rfl : jj = kk := by omega
            have hfin := HA.out.2.1
            rw [step_none, ← HL.out] at hfin
            cases hLm : mayL bs q with
            | nil =>
              rw [hLm] at hfin
              subst hfin
              have HF := Lib.hid (show pickS bs (q : Int) = (0, 4) by unfold pickS; rw [if_pos HR1.out, Int.toNat_natCast, hLm])
              have hneg : bestI none = -1 := rfl
              clear hLm
              go_wp2_with fail
              go_ret2
              exact ⟨by rw [HF.out]; rfl, hB⟩
            | cons x rest =>
              rw [hLm] at hfin
              subst hfin
              have HF := Lib.hid (show pickS bs (q : Int) = (rest.foldl (less bs) x, 0) by unfold pickS; rw [if_pos HR1.out, Int.toNat_natCast, hLm])
              have hneg : bestI (some (rest.foldl (less bs) x)) = ((rest.foldl (less bs) x : Nat) : Int) := rfl
              have hm0 : ¬ ((rest.foldl (less bs) x : Nat) : Int) < 0 := by omega
              clear hLm
              go_wp2_with fail
              go_ret2
              exact ⟨by rw [HF.out]; rfl, hB⟩
  · have HR1 := Lib.hid (show rightB bs nx = false by simpa using hR)
    have HF := Lib.hid (show pickS bs nx = (0, 1) by unfold pickS; rw [if_neg hR])
    clear hR
    go_enter Try.func19, Try.ntmps19
    go_wp2_with (go_at_call 20; refine (rright_any _ A n c _ bs (HR.out.below HB0.out)).mono ?_; rw [HR1.out]; rintro e w1 ⟨rfl, hb1⟩)
    go_ret2
    exact ⟨by rw [HF.out]; rfl, HB0.out.trans (hb1.mono (by simp))⟩
end Go.Proofs.Ytjomenldmojnjaa
