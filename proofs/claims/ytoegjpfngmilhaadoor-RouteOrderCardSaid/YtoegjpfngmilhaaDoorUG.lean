/- route.Find, same. -/
import Derived.Test.YtoegjpfngmilhaaDoorUF
set_option linter.unusedVariables false
set_option linter.unusedSimpArgs false
namespace Go.Proofs.YtoegjpfngmilhaaDoor
open Go.RowKit Go.Lib
open Go.Proofs.YtoegjpfngmilhaaDoorW.PrintWords

theorem unders_len (l : List Rt) (path : List UInt8) (k : Nat) : (unders l path k).length ≤ k := by
  unfold unders
  have := List.length_filter_le (fun i => underS (l.getD i ([], 0)).1 path) (List.range k)
  rwa [List.length_range] at this
theorem natI_snoc (xs : List Nat) (k : Nat) : natI (xs ++ [k]) = natI xs ++ [(k : Int)] := by simp [natI]
theorem pick_some (l : List Rt) : ∀ (is : List Nat) (j : Nat), ∃ m, is.foldl (pickF l) (some j) = some m := by
  intro is
  induction is with
  | nil => exact fun j => ⟨j, rfl⟩
  | cons x is ih =>
    intro j
    rw [List.foldl_cons]
    unfold pickF
    simp only
    split
    · exact ih x
    · exact ih j
theorem best_some (l : List Rt) {is : List Nat} (h : is ≠ []) : ∃ m, bestL l is = some m := by
  cases is with
  | nil => exact absurd rfl h
  | cons x is => exact pick_some l is x

set_option maxRecDepth 100000 in
set_option maxHeartbeats 8000000 in
theorem find_any (A : Option Addr) (n c : Nat) (l : List Rt) (path : List UInt8) (w : World) (m : Int) (hm : w.cell? ⟨0, 0, none⟩ = some (.int .i64 m)) (hr : RdE encR 2 w (.slice A n c) l) (hs : ∀ r ∈ l, r.1.length ≤ 1000000) (hl : l.length ≤ 1000) :
    Calls Tryd.prog 14 #[.slice A n c, str path] w fun e w' => ∃ f, findS l path = f ∧ e = .returned (.tuple #[.int .i64 f.1, .int .i64 f.2]) ∧ Below w.heap.size w w' := by
  have hn := hr.len
  have HR := Lib.hid hr
  have HS := Lib.hid hs
  have hbW := (Below.refl w.heap.size w).alloc (Nat.le_refl _) (.cells #[.slice A n c] 22)
  have HRR := Lib.hid (right_any A n c l (w.alloc (.cells #[.slice A n c] 22)) m (pw_cell_below hbW hm) (hr.below hbW) hs hl)
  have HBW := Lib.hid hbW
  have HBX := Lib.hid (box_at (heap_alloc_new w (.cells #[.slice A n c] 22)) 0 _ rfl)
  clear hr hs hm hbW
  by_cases hrt : rightB l = true
  · have h10 := (rightB_out hrt).1
    rw [hrt] at HRR
    have HF := Lib.hid (show findS l path = match bestL l (unders l path l.length) with | none => (0, 41) | some j => (j, 0) by unfold findS; rw [if_pos hrt]; rfl)
    have HT := Lib.hid hrt
    clear hrt
    go_enter Tryd.func14, Tryd.ntmps14
    go_wp2_with (go_at_call 13; refine HRR.out.mono ?_; rintro e w1 ⟨rfl, hb1⟩; have x0 := pw_cell_below hb1 HBX.out; have HB1 := Lib.hid (HBW.out.trans (hb1.mono HBW.out.size)); have hsz : w.heap.size + 1 ≤ w1.heap.size := (by have := hb1.size; simpa using this); clear hb1)
    go_loopg [6, 14] n (fun gg s6 s14 wr => ∃ i : Nat, s14 = .int .i64 i ∧ i ≤ n ∧ n - i ≤ gg ∧ Below w.heap.size w wr ∧ w.heap.size + 1 ≤ wr.heap.size ∧ wr.cell? ⟨w.heap.size, 0, none⟩ = some (.slice A n c) ∧ Aside (Ow 3 wr (w.heap.size + 1) s6 (ints (natI (unders l path i)))))
    case atStart => exact ⟨0, rfl, by omega, by omega, HB1.out, hsz, x0, Ow.nil _ _ _⟩
    case round =>
      obtain ⟨i, rfl, hi, hg, hb, hsz1, hx, HA⟩ := hrel
      have HA := Lib.hid HA.out
      have HB := Lib.hid hb
      obtain ⟨Av, nv, cv, hs6⟩ := HA.out.slice'
      subst hs6
      clear hb x0 hsz
      by_cases hlt : i < n
      · have h2 : (i : Int) < (n : Int) := by omega
        obtain ⟨b, off, rfl, hbl, hc0⟩ := HR.out.get (by omega)
        have hll : i < l.length := by omega
        have hat : l[i]? = some l[i] := List.getElem?_eq_getElem hll
        have hmem : l[i] ∈ l := List.getElem_mem hll
        have hcs : ∀ j y, (encR l[i])[j]? = some y → w.cell? ⟨b, off + i * 2 + j, none⟩ = some y := fun j y hy => hc0 i j l[i] y hat hy
        clear hc0
        generalize l[i] = x at hat hmem hcs
        clear hll
        obtain ⟨px, bx⟩ := x
        have k0 := (HB.out.cell (p := ⟨b, off + i * 2, none⟩) hbl).trans (hcs 0 _ rfl)
        have k1 := (HB.out.cell (p := ⟨b, off + i * 2 + 1, none⟩) hbl).trans (hcs 1 _ rfl)
        have HUN := Lib.hid (fun W => under_any px path W (by have := HS.out _ hmem; simp only at this; omega))
        have HU := Lib.hid (unders_succ (path := path) hat)
        clear hcs hmem hat hbl
        have HX := Lib.hid hx
        have HSZ := Lib.hid hsz1
        have HW2 := Lib.hid (HB.out.alloc HB.out.size (.cells #[str px, .int .i64 bx] 24))
        have HX2 := Lib.hid (pw_cell_below ((Below.refl wr.heap.size wr).alloc (Nat.le_refl _) (.cells #[str px, .int .i64 bx] 24)) hx)
        have HA2 := Lib.hid (HA.out.below ((Below.refl wr.heap.size wr).alloc (Nat.le_refl _) (.cells #[str px, .int .i64 bx] 24)))
        clear hx hsz1
        by_cases hu : underS px path = true
        · rw [if_pos hu] at HU
          rw [hu] at HUN
          have HHU := Lib.hid hu
          clear hu
          have hul := unders_len l path i
          go_wp2_with first
            | (go_at_call 9; refine (HUN.out _).mono ?_; rintro e w2 ⟨rfl, rfl⟩)
            | (at_builtin; refine wp_app (w.heap.size + 1) rfl _ _ 47 3 (.int .i64 0) 8 rfl Tryd.underlying47 (by kernel_rfl) rfl (by omega) _ _ (ints (natI (unders l path i))) [.int .i64 (i : Int)] rfl rfl ?c1 ?c2 ?c3 ?c4 ?c5 ?c6)
          case c1 => exact HA2.out.below ((Below.refl _ _).alloc (Nat.le_refl _) _)
          case c2 =>
            have h := rd_box (wr.alloc (.cells #[str px, .int .i64 bx] 24)) (.int .i64 (i : Int)) 3
            rw [show (wr.alloc (.cells #[str px, .int .i64 bx] 24)).heap.size = wr.heap.size + 1 by simp] at h
            exact h
          case c3 => exact ints_one [(i : Int)]
          case c4 => rw [ints_len, natI_len]; simp only [List.length_cons, List.length_nil]; omega
          case c5 => have := HSZ.out; simp; omega
          case c6 =>
            intro v1 w1 hv1 hg1 hat1
            obtain ⟨A1, n1, c1, rfl⟩ := hv1.slice'
            have hne : ∀ k, (Value.slice Av nv cv).ownBlock = some k → w.heap.size + 1 ≤ k := fun k hk => HA2.out.base k hk
            have hb3 := HW2.out.alloc HW2.out.size (.cells #[.int .i64 (i : Int)] 3)
            have HB3 := Lib.hid (hb3.grown hg1 hb3.size (fun k hk => by have := hne k hk; omega))
            have HX3 := Lib.hid (hg1.cell (pw_cell_below ((Below.refl _ _).alloc (Nat.le_refl _) (.cells #[.int .i64 (i : Int)] 3)) HX2.out) (by intro e; exact absurd (hne _ e.symm) (Nat.not_succ_le_self _)))
            have hsz3 := hg1.size
            have HS3 := Lib.hid (show w.heap.size + 1 ≤ w1.heap.size by have := HSZ.out; simp at hsz3; omega)
            have HV := Lib.hid (show Ow 3 w1 (w.heap.size + 1) (.slice A1 n1 c1) (ints (natI (unders l path (i + 1)))) by rw [HU.out, natI_snoc, ints_app]; exact hv1)
            clear hv1 hg1 hat1 hne hb3 hsz3
            go_wp2_with fail
            go_roundg (n - (i + 1))
            case measure => omega
            case rel => exact ⟨i + 1, by simp [wrap64] <;> omega, by omega, by omega, HB3.out, HS3.out, HX3.out, HV.out⟩
        · have hu1 : underS px path = false := Bool.eq_false_iff.2 hu
          rw [if_neg hu] at HU
          rw [hu1] at HUN
          have HHU := Lib.hid hu
          clear hu hu1
          go_wp2_with (go_at_call 9; refine (HUN.out _).mono ?_; rintro e w2 ⟨rfl, rfl⟩)
          go_roundg (n - (i + 1))
          case measure => omega
          case rel =>
            refine ⟨i + 1, by simp [wrap64] <;> omega, by omega, by omega, HW2.out, by have := HSZ.out; simp; omega, HX2.out, ?_⟩
            show Ow 3 _ _ _ _
            rw [HU.out]
            exact HA2.out
      · have h2 : ¬ (i : Int) < (n : Int) := by omega
        obtain rfl : i = n := by omega
        have hnv := HA.out.rd.len
        rw [ints_len, natI_len] at hnv
        have hul := unders_len l path i
        by_cases hem : unders l path i = []
        · have hnv0 : nv = 0 := by rw [← hnv, hem]; rfl
          subst hnv0
          have HFF := Lib.hid (show findS l path = (0, 41) by rw [HF.out, hn, hem]; rfl)
          have HE := Lib.hid hem
          clear hem hnv hul
          go_wp2_with fail
          go_ret2
          exact ⟨by rw [HFF.out]; rfl, HB.out⟩
        · obtain ⟨m1, hm1⟩ := best_some l hem
          have HFF := Lib.hid (show findS l path = (m1, 0) by rw [HF.out, hn, hm1])
          have hpos : 0 < (unders l path i).length := List.length_pos_iff.2 hem
          have hnv1 : ¬ (nv : Int) = 0 := by omega
          have hnv2 : ((nv : Int) == 0) = false := by simpa using hnv1
          have HMX := Lib.hid (max_any w.heap.size A i c l Av nv cv (unders l path i) wr hx (HR.out.below HB.out) HS.out HA.out.rd (fun k hk => unders_lt hk) hem (by omega) m1 hm1)
          have HE := Lib.hid hem
          clear hem hnv hul hpos hm1 hx
          go_wp2_with (go_at_call 20; refine HMX.out.mono ?_; rintro e w2 ⟨rfl, hb2⟩; have HB2 := Lib.hid (HB.out.trans (hb2.mono HB.out.size)); clear hb2)
          go_ret2
          exact ⟨_, HFF.out, rfl, HB2.out⟩
  · have hrt1 : rightB l = false := Bool.eq_false_iff.2 hrt
    rw [hrt1] at HRR
    have HF := Lib.hid (show findS l path = (0, 1) by unfold findS; rw [if_neg hrt])
    have HT := Lib.hid hrt
    clear hrt hrt1
    go_enter Tryd.func14, Tryd.ntmps14
    go_wp2_with (go_at_call 13; refine HRR.out.mono ?_; rintro e w1 ⟨rfl, hb1⟩; have HB1 := Lib.hid (HBW.out.trans (hb1.mono HBW.out.size)); clear hb1)
    go_ret2
    exact ⟨_, HF.out, rfl, HB1.out⟩
end Go.Proofs.YtoegjpfngmilhaaDoor
