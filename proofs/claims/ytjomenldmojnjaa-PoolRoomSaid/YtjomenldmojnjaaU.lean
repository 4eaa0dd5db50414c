/- Contract of lockagelaw17.told. -/
import Derived.Test.YtjomenldmojnjaaT
set_option linter.unusedVariables false
set_option linter.unusedSimpArgs false
namespace Go.Proofs.Ytjomenldmojnjaa
open Go.RowKit
open Go.Proofs.YtjomenldmojnjaaW.PrintWords

def S10 (W : World) (q0 q1 q2 q3 q4 q5 q6 q7 q8 q9 : Addr) (v0 v1 v2 v3 v4 v5 v6 v7 v8 v9 : Value) (w' : World) : Prop := w'.cell? q0 = some v0 ∧ w'.cell? q1 = some v1 ∧ w'.cell? q2 = some v2 ∧ w'.cell? q3 = some v3 ∧ w'.cell? q4 = some v4 ∧ w'.cell? q5 = some v5 ∧ w'.cell? q6 = some v6 ∧ w'.cell? q7 = some v7 ∧ w'.cell? q8 = some v8 ∧ w'.cell? q9 = some v9 ∧ Below W.heap.size W w'
theorem S10.b {W w' : World} {q0 q1 q2 q3 q4 q5 q6 q7 q8 q9 : Addr} {v0 v1 v2 v3 v4 v5 v6 v7 v8 v9 : Value} (h : S10 W q0 q1 q2 q3 q4 q5 q6 q7 q8 q9 v0 v1 v2 v3 v4 v5 v6 v7 v8 v9 w') : Below W.heap.size W w' := h.2.2.2.2.2.2.2.2.2.2
theorem S10.below {W w1 w2 : World} {q0 q1 q2 q3 q4 q5 q6 q7 q8 q9 : Addr} {v0 v1 v2 v3 v4 v5 v6 v7 v8 v9 : Value} (hb : Below w1.heap.size w1 w2) (h : S10 W q0 q1 q2 q3 q4 q5 q6 q7 q8 q9 v0 v1 v2 v3 v4 v5 v6 v7 v8 v9 w1) : S10 W q0 q1 q2 q3 q4 q5 q6 q7 q8 q9 v0 v1 v2 v3 v4 v5 v6 v7 v8 v9 w2 := by
  obtain ⟨h0, h1, h2, h3, h4, h5, h6, h7, h8, h9, hB⟩ := h
  exact ⟨pw_cell_below hb h0, pw_cell_below hb h1, pw_cell_below hb h2, pw_cell_below hb h3, pw_cell_below hb h4, pw_cell_below hb h5, pw_cell_below hb h6, pw_cell_below hb h7, pw_cell_below hb h8, pw_cell_below hb h9, hB.trans (hb.mono hB.size)⟩

set_option maxRecDepth 4000 in
set_option maxHeartbeats 8000000 in
theorem told_any (w : World) (A : Option Addr) (n c : Nat) (nx : Int) (bs : List Bk) (i0 : Int) (stays failed : Bool) (hr : RdE enc 4 w (.slice A n c) bs) (hl : bs.length ≤ 1000) :
    Calls Try.prog 9 #[.agg #[.slice A n c, .int .i64 nx], .int .i64 i0, .bool stays, .bool failed] w fun e w' => e = .returned (.bool true) ∧ Below w.heap.size w w' := by
  obtain ⟨ro, hro⟩ : ∃ r, openS bs nx = r := ⟨_, rfl⟩
  obtain ⟨rc, hrc⟩ : ∃ r, closeS bs nx i0 stays failed = r := ⟨_, rfl⟩
  obtain ⟨⟨pi, pe⟩, hpk⟩ : ∃ r, pickS bs nx = r := ⟨_, rfl⟩
  obtain ⟨rb, hrb⟩ : ∃ r, rightB bs nx = r := ⟨_, rfl⟩
  obtain ⟨obs, onx, oi, oa, oe⟩ := ro
  obtain ⟨cbs, cnx, ce⟩ := rc
  have HRO := Lib.hid hro
  have HRC := Lib.hid hrc
  have HPK := Lib.hid hpk
  have HRB := Lib.hid hrb
  have R0 := Lib.hid (hr.below ((Below.refl _ _).alloc (Nat.le_refl _) (.cells #[.slice A n c, .int .i64 nx] 24)))
  have hB0 : Below w.heap.size w (w.alloc (.cells #[.slice A n c, .int .i64 nx] 24)) := (Below.refl _ _).alloc (Nat.le_refl _) _
  have X0 := Lib.hid (heap_alloc_new w (.cells #[.slice A n c, .int .i64 nx] 24))
  have B0 := Lib.hid hB0
  clear hro hrc hpk hrb hr hB0
  go_enter Try.func9, Try.ntmps9
  go_upto_region 1 with fail
  obtain ⟨W0, hW0⟩ : ∃ W0, (w.alloc (.cells #[.slice A n c, .int .i64 nx] 24)) = W0 := ⟨_, rfl⟩
  rw [hW0] at R0 X0 B0
  simp only [hW0]
  clear hW0
  have z0 := box_at X0.out 0 _ rfl
  have z1 := box_at X0.out 1 _ rfl
  go_upto_region 2 with (go_at_call 14; refine (open_any _ A n c nx bs R0.out hl).mono ?_; rw [HRO.out]; rintro e v1 ⟨A1, n1, c1, rfl, hO, hb⟩; have HO := Lib.hid hO.rd; have HBB := Lib.hid hb; clear hO hb)
  have al : Below v1.heap.size v1 (v1.alloc (.cells #[.slice A1 n1 c1, .int .i64 onx] 24)) := (Below.refl _ _).alloc (Nat.le_refl _) _
  have AL := Lib.hid (HBB.out.trans (al.mono HBB.out.size))
  have X1 := Lib.hid (heap_alloc_new v1 (.cells #[.slice A1 n1 c1, .int .i64 onx] 24))
  have R1 := Lib.hid (HO.out.below al)
  obtain ⟨p1, hp⟩ : ∃ p, v1.heap.size = p := ⟨_, rfl⟩
  obtain ⟨W1, hW⟩ : ∃ W, (v1.alloc (.cells #[.slice A1 n1 c1, .int .i64 onx] 24)) = W := ⟨_, rfl⟩
  rw [hp, hW] at X1
  rw [hW] at AL R1
  simp only [hp, hW]
  clear hp hW al HO HBB z0 z1
  have X0 := Lib.hid (keep AL.out X0.out)
  have R0 := Lib.hid (R0.out.below AL.out)
  have B0 := Lib.hid (B0.out.trans (AL.out.mono B0.out.size))
  clear AL
  have z0 := box_at X0.out 0 _ rfl
  have z1 := box_at X0.out 1 _ rfl
  go_upto_region 3 with (go_at_call 17; refine (ropen_any _ A n c nx bs R0.out hl).mono ?_; rw [HRO.out]; rintro e v2 ⟨A2, n2, c2, rfl, hO, hb⟩; have HO := Lib.hid hO.rd; have HBB := Lib.hid hb; clear hO hb)
  have al : Below v2.heap.size v2 (v2.alloc (.cells #[.slice A2 n2 c2, .int .i64 onx] 24)) := (Below.refl _ _).alloc (Nat.le_refl _) _
  have AL := Lib.hid (HBB.out.trans (al.mono HBB.out.size))
  have X2 := Lib.hid (heap_alloc_new v2 (.cells #[.slice A2 n2 c2, .int .i64 onx] 24))
  have R2 := Lib.hid (HO.out.below al)
  obtain ⟨p2, hp⟩ : ∃ p, v2.heap.size = p := ⟨_, rfl⟩
  obtain ⟨W2, hW⟩ : ∃ W, (v2.alloc (.cells #[.slice A2 n2 c2, .int .i64 onx] 24)) = W := ⟨_, rfl⟩
  rw [hp, hW] at X2
  rw [hW] at AL R2
  simp only [hp, hW]
  clear hp hW al HO HBB z0 z1
  have X0 := Lib.hid (keep AL.out X0.out)
  have X1 := Lib.hid (keep AL.out X1.out)
  have R0 := Lib.hid (R0.out.below AL.out)
  have R1 := Lib.hid (R1.out.below AL.out)
  have B0 := Lib.hid (B0.out.trans (AL.out.mono B0.out.size))
  clear AL
  have z0 := box_at X0.out 0 _ rfl
  have z1 := box_at X0.out 1 _ rfl
  go_upto_region 4 with (go_at_call 15; refine (close_any _ A n c nx bs i0 stays failed R0.out hl).mono ?_; rw [HRC.out]; rintro e v3 ⟨A3, n3, c3, rfl, hO, hb⟩; have HO := Lib.hid hO.rd; have HBB := Lib.hid hb; clear hO hb)
  have al : Below v3.heap.size v3 (v3.alloc (.cells #[.slice A3 n3 c3, .int .i64 cnx] 24)) := (Below.refl _ _).alloc (Nat.le_refl _) _
  have AL := Lib.hid (HBB.out.trans (al.mono HBB.out.size))
  have X3 := Lib.hid (heap_alloc_new v3 (.cells #[.slice A3 n3 c3, .int .i64 cnx] 24))
  have R3 := Lib.hid (HO.out.below al)
  obtain ⟨p3, hp⟩ : ∃ p, v3.heap.size = p := ⟨_, rfl⟩
  obtain ⟨W3, hW⟩ : ∃ W, (v3.alloc (.cells #[.slice A3 n3 c3, .int .i64 cnx] 24)) = W := ⟨_, rfl⟩
  rw [hp, hW] at X3
  rw [hW] at AL R3
  simp only [hp, hW]
  clear hp hW al HO HBB z0 z1
  have X0 := Lib.hid (keep AL.out X0.out)
  have X1 := Lib.hid (keep AL.out X1.out)
  have X2 := Lib.hid (keep AL.out X2.out)
  have R0 := Lib.hid (R0.out.below AL.out)
  have R1 := Lib.hid (R1.out.below AL.out)
  have R2 := Lib.hid (R2.out.below AL.out)
  have B0 := Lib.hid (B0.out.trans (AL.out.mono B0.out.size))
  clear AL
  have z0 := box_at X0.out 0 _ rfl
  have z1 := box_at X0.out 1 _ rfl
  go_upto_region 5 with (go_at_call 18; refine (rclose_any _ A n c nx bs i0 stays failed R0.out hl).mono ?_; rw [HRC.out]; rintro e v4 ⟨A4, n4, c4, rfl, hO, hb⟩; have HO := Lib.hid hO.rd; have HBB := Lib.hid hb; clear hO hb)
  have al : Below v4.heap.size v4 (v4.alloc (.cells #[.slice A4 n4 c4, .int .i64 cnx] 24)) := (Below.refl _ _).alloc (Nat.le_refl _) _
  have AL := Lib.hid (HBB.out.trans (al.mono HBB.out.size))
  have X4 := Lib.hid (heap_alloc_new v4 (.cells #[.slice A4 n4 c4, .int .i64 cnx] 24))
  have R4 := Lib.hid (HO.out.below al)
  obtain ⟨p4, hp⟩ : ∃ p, v4.heap.size = p := ⟨_, rfl⟩
  obtain ⟨W4, hW⟩ : ∃ W, (v4.alloc (.cells #[.slice A4 n4 c4, .int .i64 cnx] 24)) = W := ⟨_, rfl⟩
  rw [hp, hW] at X4
  rw [hW] at AL R4
  simp only [hp, hW]
  clear hp hW al HO HBB z0 z1
  have X0 := Lib.hid (keep AL.out X0.out)
  have X1 := Lib.hid (keep AL.out X1.out)
  have X2 := Lib.hid (keep AL.out X2.out)
  have X3 := Lib.hid (keep AL.out X3.out)
  have R0 := Lib.hid (R0.out.below AL.out)
  have R1 := Lib.hid (R1.out.below AL.out)
  have R2 := Lib.hid (R2.out.below AL.out)
  have R3 := Lib.hid (R3.out.below AL.out)
  have B0 := Lib.hid (B0.out.trans (AL.out.mono B0.out.size))
  clear AL
  have z0 := box_at X0.out 0 _ rfl
  have z1 := box_at X0.out 1 _ rfl
  go_upto_region 6 with (go_at_call 13; refine (pick_any _ A n c nx bs R0.out).mono ?_; rw [HPK.out]; rintro e W5 ⟨rfl, hb⟩; have HBB := Lib.hid hb; clear hb)
  clear z0 z1
  have X0 := Lib.hid (keep HBB.out X0.out)
  have X1 := Lib.hid (keep HBB.out X1.out)
  have X2 := Lib.hid (keep HBB.out X2.out)
  have X3 := Lib.hid (keep HBB.out X3.out)
  have X4 := Lib.hid (keep HBB.out X4.out)
  have R0 := Lib.hid (R0.out.below HBB.out)
  have R1 := Lib.hid (R1.out.below HBB.out)
  have R2 := Lib.hid (R2.out.below HBB.out)
  have R3 := Lib.hid (R3.out.below HBB.out)
  have R4 := Lib.hid (R4.out.below HBB.out)
  have B0 := Lib.hid (B0.out.trans (HBB.out.mono B0.out.size))
  clear HBB
  have z0 := box_at X0.out 0 _ rfl
  have z1 := box_at X0.out 1 _ rfl
  go_upto_region 7 with (go_at_call 19; refine (rpick_any _ A n c nx bs R0.out).mono ?_; rw [HPK.out]; rintro e W6 ⟨rfl, hb⟩; have HBB := Lib.hid hb; clear hb)
  clear z0 z1
  have X0 := Lib.hid (keep HBB.out X0.out)
  have X1 := Lib.hid (keep HBB.out X1.out)
  have X2 := Lib.hid (keep HBB.out X2.out)
  have X3 := Lib.hid (keep HBB.out X3.out)
  have X4 := Lib.hid (keep HBB.out X4.out)
  have R0 := Lib.hid (R0.out.below HBB.out)
  have R1 := Lib.hid (R1.out.below HBB.out)
  have R2 := Lib.hid (R2.out.below HBB.out)
  have R3 := Lib.hid (R3.out.below HBB.out)
  have R4 := Lib.hid (R4.out.below HBB.out)
  have B0 := Lib.hid (B0.out.trans (HBB.out.mono B0.out.size))
  clear HBB
  have z0 := box_at X0.out 0 _ rfl
  have z1 := box_at X0.out 1 _ rfl
  have HS := Lib.hid (show S10 W6 ⟨w.heap.size, 0, none⟩ ⟨w.heap.size, 1, none⟩ ⟨p1, 0, none⟩ ⟨p1, 1, none⟩ ⟨p2, 0, none⟩ ⟨p2, 1, none⟩ ⟨p3, 0, none⟩ ⟨p3, 1, none⟩ ⟨p4, 0, none⟩ ⟨p4, 1, none⟩ (.slice A n c) (.int .i64 nx) (.slice A1 n1 c1) (.int .i64 onx) (.slice A2 n2 c2) (.int .i64 onx) (.slice A3 n3 c3) (.int .i64 cnx) (.slice A4 n4 c4) (.int .i64 cnx) W6 from ⟨box_at X0.out 0 _ rfl, box_at X0.out 1 _ rfl, box_at X1.out 0 _ rfl, box_at X1.out 1 _ rfl, box_at X2.out 0 _ rfl, box_at X2.out 1 _ rfl, box_at X3.out 0 _ rfl, box_at X3.out 1 _ rfl, box_at X4.out 0 _ rfl, box_at X4.out 1 _ rfl, Below.refl _ _⟩)
  clear z0 z1
  go_region_held3 (fun w' => w'.cell? ⟨w.heap.size, 0, none⟩ = some (.slice A n c) ∧ w'.cell? ⟨w.heap.size, 1, none⟩ = some (.int .i64 nx) ∧ w'.cell? ⟨p1, 0, none⟩ = some (.slice A1 n1 c1) ∧ w'.cell? ⟨p1, 1, none⟩ = some (.int .i64 onx) ∧ w'.cell? ⟨p2, 0, none⟩ = some (.slice A2 n2 c2) ∧ w'.cell? ⟨p2, 1, none⟩ = some (.int .i64 onx) ∧ w'.cell? ⟨p3, 0, none⟩ = some (.slice A3 n3 c3) ∧ w'.cell? ⟨p3, 1, none⟩ = some (.int .i64 cnx) ∧ w'.cell? ⟨p4, 0, none⟩ = some (.slice A4 n4 c4) ∧ w'.cell? ⟨p4, 1, none⟩ = some (.int .i64 cnx) ∧ Below W6.heap.size W6 w')
    (first | exact HS.out.below (below_drew (Below.refl _ _)) | (refine S10.below ?_ ‹_›; assumption))
    (first
     | (go_at_call 16
        refine (right_any _ A n c nx bs (R0.out.below (‹S10 W6 _ _ _ _ _ _ _ _ _ _ _ _ _ _ _ _ _ _ _ _ _›).b)).mono ?_
        rw [HRB.out]
        rintro e w5 ⟨rfl, hb5⟩)
     | (go_at_call 20
        refine (rright_any _ A n c nx bs (R0.out.below (‹S10 W6 _ _ _ _ _ _ _ _ _ _ _ _ _ _ _ _ _ _ _ _ _›).b)).mono ?_
        rw [HRB.out]
        rintro e w6 ⟨rfl, hb6⟩)
     | (go_at_call_of 21 (Value.slice A1 n1 c1)
        refine (same_any _ A1 A2 n1 c1 n2 c2 onx obs (R1.out.below (‹S10 W6 _ _ _ _ _ _ _ _ _ _ _ _ _ _ _ _ _ _ _ _ _›).b) (R2.out.below (‹S10 W6 _ _ _ _ _ _ _ _ _ _ _ _ _ _ _ _ _ _ _ _ _›).b)).mono ?_
        rintro e w9 ⟨rfl, hb9⟩)
     | (go_at_call_of 21 (Value.slice A3 n3 c3)
        refine (same_any _ A3 A4 n3 c3 n4 c4 cnx cbs (R3.out.below (‹S10 W6 _ _ _ _ _ _ _ _ _ _ _ _ _ _ _ _ _ _ _ _ _›).b) (R4.out.below (‹S10 W6 _ _ _ _ _ _ _ _ _ _ _ _ _ _ _ _ _ _ _ _ _›).b)).mono ?_
        rintro e w10 ⟨rfl, hb10⟩))
  have hlast := (‹S10 W6 _ _ _ _ _ _ _ _ _ _ _ _ _ _ _ _ _ _ _ _ _›).b
  go_wp2_with fail
  go_ret
  exact ⟨by simp, B0.out.trans (hlast.mono B0.out.size)⟩
end Go.Proofs.Ytjomenldmojnjaa
