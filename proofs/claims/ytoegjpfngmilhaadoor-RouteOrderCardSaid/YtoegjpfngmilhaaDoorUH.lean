/- lockagelaw14.same, awake, RouteAny. -/
import Derived.Test.YtoegjpfngmilhaaDoorUG
import Derived.Test.YtoegjpfngmilhaaDoorUP
set_option linter.unusedVariables false
set_option linter.unusedSimpArgs false
namespace Go.Proofs.YtoegjpfngmilhaaDoor
open Go.RowKit Go.Lib
open Go.Proofs.YtoegjpfngmilhaaDoorW.PrintWords

set_option maxRecDepth 100000 in
set_option maxHeartbeats 4000000 in
theorem same_any (A : Option Addr) (n c : Nat) (l : List Rt) (path : List UInt8) (w : World) (m : Int) (hm : w.cell? ⟨0, 0, none⟩ = some (.int .i64 m)) (hr : RdE encR 2 w (.slice A n c) l) (hs : ∀ r ∈ l, r.1.length ≤ 1000000) (hl : l.length ≤ 1000) (hp : path.length ≤ 1000000) :
    Calls Tryd.prog 8 #[.slice A n c, str path] w fun e w' => e = .returned (.bool true) ∧ Below w.heap.size w w' := by
  have HR := Lib.hid hr
  have HS := Lib.hid hs
  have HM := Lib.hid hm
  have HP := Lib.hid hp
  clear hr hs hm hp
  obtain ⟨f, hf⟩ : ∃ f, findS l path = f := ⟨_, rfl⟩
  obtain ⟨f1, f2⟩ := f
  have HF := Lib.hid hf
  clear hf
  obtain ⟨rb, hrb⟩ : ∃ b, rightB l = b := ⟨_, rfl⟩
  have HB := Lib.hid hrb
  clear hrb
  go_enter Tryd.func8, Tryd.ntmps8
  go_wp2_with first
    | (go_at_call 16; refine (rright_any A n c l _ (HR.out.below HB3.out) HS.out).mono ?_; rw [HB.out]; rintro e w4 ⟨rfl, hb4⟩; have HB4 := Lib.hid (HB3.out.trans (hb4.mono HB3.out.size)); clear hb4)
    | (go_at_call 13; refine (right_any A n c l _ m (pw_cell_below HB2.out HM.out) (HR.out.below HB2.out) HS.out hl).mono ?_; rw [HB.out]; rintro e w3 ⟨rfl, hb3⟩; have HB3 := Lib.hid (HB2.out.trans (hb3.mono HB2.out.size)); clear hb3)
    | (go_at_call 15; refine (rfind_any A n c l path _ (HR.out.below HB1.out) HS.out HP.out).mono ?_; rw [HF.out]; rintro e w2 ⟨f', rfl, rfl, hb2⟩; have HB2 := Lib.hid (HB1.out.trans (hb2.mono HB1.out.size)); clear hb2)
    | (go_at_call 14; refine (find_any A n c l path _ m HM.out HR.out HS.out hl).mono ?_; rw [HF.out]; rintro e w1 ⟨f', rfl, rfl, hb1⟩; have HB1 := Lib.hid hb1; clear hb1)
  go_ret
  exact ⟨rfl, HB4.out⟩

theorem norm2 : normS [97] = ([], [], 40) := by
  have hc : cutQ [97] = ([97], []) := by decide +kernel
  have hp : plainS [97] = some [97] := by
    rw [plainS_cons (by decide), if_pos (by decide), plainS_nil]
    rfl
  unfold normS
  rw [hc]
  simp only [hp]
  decide +kernel
theorem units_one {c : UInt8} (h : okC c = true) (h1 : c ≠ 37) (h2 : c ≠ 63) : Units [c] := .one c [] h h1 h2 .nil
theorem norm_r : normS [47] = ([47], [], 0) := norm_join (xs := [[]]) (by simp) (by simp only [List.mem_singleton]; rintro y rfl; exact ⟨.nil, by simp, by decide⟩) (by decide)
theorem norm_a : normS [47, 97] = ([47, 97], [], 0) := norm_join (xs := [[97]]) (by simp) (by simp only [List.mem_singleton]; rintro y rfl; exact ⟨units_one (by decide) (by decide) (by decide), by decide, by decide⟩) (by decide)
def L2 : List Rt := [([47], 0), ([47, 97], 1)]
theorem pre_r : prefixB [47] = true := by unfold prefixB; rw [norm_r]; exact decide_eq_true rfl
theorem pre_a : prefixB [47, 97] = true := by unfold prefixB; rw [norm_a]; exact decide_eq_true rfl
theorem good2 : ∀ r ∈ L2, goodB r = true := by
  simp only [L2, List.mem_cons, List.not_mem_nil, or_false]
  rintro r (rfl | rfl)
  · exact goodB_of pre_r (by decide) (by decide)
  · exact goodB_of pre_a (by decide) (by decide)
theorem right2 : rightB L2 = true := rightB_of (by decide) good2 (by decide)
theorem right1 : rightB [([47, 97], 1)] = true := rightB_of (by decide) (fun r hr => good2 r (by simp only [List.mem_singleton] at hr; subst hr; decide)) (by decide)
theorem right0 : rightB [([97], 0)] = false := rightB_not (fun h => by
  have := (goodB_out (h.2.1 ([97], 0) (by simp))).1
  unfold prefixB at this
  rw [norm2] at this
  simp at this)
theorem find_a : findS L2 [47, 97, 47, 98] = (1, 0) := by
  unfold findS
  rw [if_pos right2]
  decide +kernel
theorem find_b : findS L2 [47, 97, 98] = (0, 0) := by
  unfold findS
  rw [if_pos right2]
  decide +kernel
theorem find_c : findS [([47, 97], 1)] [47, 98] = (0, 41) := by
  unfold findS
  rw [if_pos right1]
  decide +kernel
theorem find_d : findS [([97], 0)] [47] = (0, 1) := by
  unfold findS
  rw [if_neg (by rw [right0]; decide)]
theorem und_a : underS [47, 97] [47, 97] = true := by decide +kernel
theorem und_b : underS [47, 97] [47, 97, 98] = false := by decide +kernel
theorem rd_rowE (W : World) (es pre : List Rt) (T : TypeId) (h : es.length ≤ 1000) : RdE encR 2 (W.alloc (.cells ((pre ++ es).flatMap encR).toArray T)) (.slice (some ⟨W.heap.size, pre.length * 2, none⟩) es.length es.length) es := by
  refine ⟨_, _, rfl, Nat.le_refl _, by omega, fun hp => ⟨W.heap.size, pre.length * 2, rfl, by simp, fun i j x y hx hy => ?_⟩⟩
  refine box_at (heap_alloc_new _ _) _ _ ?_
  rw [List.getElem?_toArray]
  have h1 : (pre ++ es)[pre.length + i]? = some x := by rw [List.getElem?_append_right (by omega)]; rw [Nat.add_sub_cancel_left]; exact hx
  have := fm_at encR_len h1 hy
  rw [← this]
  congr 1
  omega

set_option maxRecDepth 100000 in
set_option maxHeartbeats 4000000 in
theorem awake_any (w : World) (m : Int) (hm : w.cell? ⟨0, 0, none⟩ = some (.int .i64 m)) : Calls Tryd.prog 7 #[] w fun e w' => e = .returned (.bool true) ∧ Below w.heap.size w w' := by
  have hb0 : Below w.heap.size w (w.alloc (.cells #[str [47], .int .i64 0, str [47, 97], .int .i64 1] 24)) := (Below.refl _ _).alloc (Nat.le_refl _) _
  have hr2 : RdE encR 2 (w.alloc (.cells #[str [47], .int .i64 0, str [47, 97], .int .i64 1] 24)) (.slice (some ⟨w.heap.size, 0, none⟩) 2 2) L2 := rd_rowE w L2 [] 24 (by decide)
  have hr1 : RdE encR 2 (w.alloc (.cells #[str [47], .int .i64 0, str [47, 97], .int .i64 1] 24)) (.slice (some ⟨w.heap.size, 2, none⟩) 1 1) [([47, 97], 1)] := rd_rowE w [([47, 97], 1)] [([47], 0)] 24 (by decide)
  have HM := Lib.hid (pw_cell_below hb0 hm)
  have HB0 := Lib.hid hb0
  have HR2 := Lib.hid hr2
  have HR1 := Lib.hid hr1
  have hs2 : ∀ r ∈ L2, r.1.length ≤ 1000000 := by decide
  have hs1 : ∀ r ∈ [(([47, 97], 1) : Rt)], r.1.length ≤ 1000000 := by decide
  have hs0 : ∀ r ∈ [(([97], 0) : Rt)], r.1.length ≤ 1000000 := by decide
  have HS2 := Lib.hid hs2
  have HS1 := Lib.hid hs1
  have HS0 := Lib.hid hs0
  clear hm hb0 hr2 hr1 hs2 hs1 hs0
  go_enter Tryd.func7, Tryd.ntmps7
  have hdr : ∀ W : World, RdE encR 2 (W.alloc (.cells #[str [97], .int .i64 0] 24)) (.slice (some ⟨W.heap.size, 0, none⟩) 1 1) [([97], 0)] := fun W => rd_rowE W [([97], 0)] [] 24 (by decide)
  have HDR := Lib.hid hdr
  clear hdr
  go_wp2_with first
    | (go_at_call 9; refine (under_any _ _ _ (by decide)).mono ?_; (first | rw [und_a] | rw [und_b]); rintro e w7 ⟨rfl, rfl⟩)
    | (go_at_call 13; refine (right_any _ _ _ L2 _ m (pw_cell_below HB4.out HM.out) (HR2.out.below HB4.out) HS2.out (by decide)).mono ?_; rw [right2]; rintro e w6 ⟨rfl, hb6⟩; have HB6 := Lib.hid (HB4.out.trans (hb6.mono HB4.out.size)); clear hb6)
    | (go_at_call 14; refine (find_any _ _ _ [([97], 0)] _ _ m (pw_cell_below (HB3.out.alloc HB3.out.size _) HM.out) (HDR.out _) HS0.out (by decide)).mono ?_; rw [find_d]; rintro e w4 ⟨f', rfl, rfl, hb4⟩; have HB4 := Lib.hid ((HB3.out.alloc HB3.out.size (.cells #[str [97], .int .i64 0] 24)).trans (hb4.mono (HB3.out.alloc HB3.out.size (.cells #[str [97], .int .i64 0] 24)).size)); clear hb4)
    | (go_at_call 14; refine (find_any _ _ _ [([47, 97], 1)] _ _ m (pw_cell_below HB2.out HM.out) (HR1.out.below HB2.out) HS1.out (by decide)).mono ?_; rw [find_c]; rintro e w3 ⟨f', rfl, rfl, hb3⟩; have HB3 := Lib.hid (HB2.out.trans (hb3.mono HB2.out.size)); clear hb3)
    | (go_at_call 14; refine (find_any _ _ _ L2 _ _ m (pw_cell_below HB1.out HM.out) (HR2.out.below HB1.out) HS2.out (by decide)).mono ?_; rw [find_b]; rintro e w2 ⟨f', rfl, rfl, hb2⟩; have HB2 := Lib.hid (HB1.out.trans (hb2.mono HB1.out.size)); clear hb2)
    | (go_at_call 14; refine (find_any _ _ _ L2 _ _ m HM.out HR2.out HS2.out (by decide)).mono ?_; rw [find_a]; rintro e w1 ⟨f', rfl, rfl, hb1⟩; have HB1 := Lib.hid hb1; clear hb1)
  go_ret
  exact ⟨rfl, HB0.out.trans (HB6.out.mono HB0.out.size)⟩
end Go.Proofs.YtoegjpfngmilhaaDoor
