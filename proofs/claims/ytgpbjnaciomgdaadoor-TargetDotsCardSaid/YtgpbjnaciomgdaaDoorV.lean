/- lockagelaw13.awake. -/
import Derived.Test.YtgpbjnaciomgdaaDoorU
set_option linter.unusedVariables false
set_option linter.unusedSimpArgs false
namespace Go.Proofs.YtgpbjnaciomgdaaDoor
open Go.RowKit Go.Lib
open Go.Proofs.YtgpbjnaciomgdaaDoorW.PrintWords

theorem rd_row (W : World) (xs : List Value) (e : TypeId) (h : xs.length ≤ 1000) : Rd (W.alloc (.cells xs.toArray e)) (.slice (some ⟨W.heap.size, 0, none⟩) xs.length xs.length) xs :=
  (Ow.mk (base := W.heap.size) (off := 0) (Nat.le_refl _) (heap_alloc_new W (.cells xs.toArray e)) (Nat.le_refl _) (by omega) (by simp) (by simp)).rd
theorem norm1 : normS [47, 97, 47, 46, 47, 98, 47, 46, 46, 47, 37, 55, 69, 99, 37, 50, 102, 63, 120] = ([47, 97, 47, 126, 99, 37, 50, 70], [63, 120], 0) := by
  have hc : cutQ [47, 97, 47, 46, 47, 98, 47, 46, 46, 47, 37, 55, 69, 99, 37, 50, 102, 63, 120] = ([47, 97, 47, 46, 47, 98, 47, 46, 46, 47, 37, 55, 69, 99, 37, 50, 102], [63, 120]) := by decide +kernel
  have e1 : esc [55, 69, 99, 37, 50, 102] = 126 := by decide +kernel
  have e2 : esc [50, 102] = 47 := by decide +kernel
  have u1 : unit 126 = [126] := by decide +kernel
  have u2 : unit 47 = [37, 50, 70] := by decide +kernel
  have hp : plainS [47, 97, 47, 46, 47, 98, 47, 46, 46, 47, 37, 55, 69, 99, 37, 50, 102] = some [47, 97, 47, 46, 47, 98, 47, 46, 46, 47, 126, 99, 37, 50, 70] := by
    rw [plainS_cons (by decide), if_pos (by decide), plainS_cons (by decide), if_pos (by decide), plainS_cons (by decide), if_pos (by decide), plainS_cons (by decide), if_pos (by decide), plainS_cons (by decide), if_pos (by decide), plainS_cons (by decide), if_pos (by decide), plainS_cons (by decide), if_pos (by decide), plainS_cons (by decide), if_pos (by decide), plainS_cons (by decide), if_pos (by decide), plainS_cons (by decide), if_pos (by decide)]
    rw [plainS_esc, e1, u1, if_neg (by decide)]
    simp only [List.drop_succ_cons, List.drop_zero]
    rw [plainS_cons (by decide), if_pos (by decide), plainS_esc, e2, u2, if_neg (by decide)]
    simp [plainS_nil]
  unfold normS
  rw [hc]
  simp only [hp]
  decide +kernel
theorem norm2 : normS [97] = ([], [], 40) := by
  have hc : cutQ [97] = ([97], []) := by decide +kernel
  have hp : plainS [97] = some [97] := by
    rw [plainS_cons (by decide), if_pos (by decide), plainS_nil]
    rfl
  unfold normS
  rw [hc]
  simp only [hp]
  decide +kernel
theorem norm3 : normS [47, 37, 48] = ([], [], 40) := by
  have hc : cutQ [47, 37, 48] = ([47, 37, 48], []) := by decide +kernel
  have e1 : esc [48] = 0 := by decide +kernel
  have hp : plainS [47, 37, 48] = none := by
    rw [plainS_cons (by decide), if_pos (by decide), plainS_esc, e1]
    rfl
  unfold normS
  rw [hc]
  simp only [hp]
  decide +kernel

set_option maxRecDepth 100000 in
set_option maxHeartbeats 2000000 in
theorem awake_any (w : World) (m : Int) (hm : w.cell? ⟨0, 0, none⟩ = some (.int .i64 m)) : Calls Tryd.prog 8 #[] w fun e w' => e = .returned (.bool true) ∧ Below w.heap.size w w' := by
  have HM := Lib.hid hm
  clear hm
  have hp : segsOf [47, 97, 47, 47, 98] = [[97], [], [98]] := by decide +kernel
  go_enter Tryd.func8, Tryd.ntmps8
  go_wp2_with first
    | (go_at_call 11; refine (normal_any [47, 37, 48] _ m (pw_cell_below hb12 HM.out) (by decide) _ _ _ norm3).mono ?_; rintro e w3 ⟨rfl, hb3⟩; have hb13 := hb12.trans (hb3.mono hb12.size); have HB := Lib.hid hb13; clear hb1 hb2 hb12 hb3 hb13)
    | (go_at_call 11; refine (normal_any [97] _ m (pw_cell_below hb1 HM.out) (by decide) _ _ _ norm2).mono ?_; rintro e w2 ⟨rfl, hb2⟩; have hb12 := hb1.trans (hb2.mono hb1.size))
    | (go_at_call 11; refine (normal_any [47, 97, 47, 46, 47, 98, 47, 46, 46, 47, 37, 55, 69, 99, 37, 50, 102, 63, 120] _ m HM.out (by decide) _ _ _ norm1).mono ?_; rintro e w1 ⟨rfl, hb1⟩)
    | (go_at_call 12; refine (tseg_any [] _ m (pw_cell_below (hb5.2) HM.out) (by decide)).mono ?_; rintro e w6 ⟨v6, rfl, hR6⟩; obtain ⟨A6, n6, c6, rfl⟩ := hR6.ow.slice'; have hn6 := hR6.ow.rd.len; have hn6' : n6 = 0 := hn6.symm; subst hn6'; have HR6 := Lib.hid hR6; clear hR6)
    | (go_at_call 12; refine (tseg_any [47, 97, 47, 47, 98] _ m (pw_cell_below HB.out HM.out) (by decide)).mono ?_; rintro e w4 ⟨v4, rfl, hR4⟩; rw [hp] at hR4; have HR4 := Lib.hid hR4; obtain ⟨A4, n4, c4, rfl⟩ := hR4.ow.slice'; clear hR4)
    | (go_at_call 13; refine (eqs_any _ _ _ _ _ _ [[97], [], [98]] _ (HR4.out.alloc _).ow.rd (rd_row _ (strs [[97], [], [98]]) 9 (by decide)) (by decide)).mono ?_; rintro e w5 ⟨rfl, hb5⟩; replace hb5 := And.intro True.intro ((HB.out.trans ((HR4.out.alloc _).bw.mono HB.out.size)).trans (hb5.mono (Nat.le_trans HB.out.size (HR4.out.alloc _).bw.size))))
  have hb6 := hb5.2.trans (HR6.out.bw.mono hb5.2.size)
  go_ret
  exact ⟨rfl, hb6⟩
end Go.Proofs.YtgpbjnaciomgdaaDoor
