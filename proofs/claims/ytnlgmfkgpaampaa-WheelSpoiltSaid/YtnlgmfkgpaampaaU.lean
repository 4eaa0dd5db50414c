/- lockageref04.Cancel. -/
import Derived.Test.YtnlgmfkgpaampaaR
import Derived.StillTailTactics
import Derived.Deep.RegionLaw
set_option linter.unusedVariables false
set_option linter.unusedSimpArgs false
namespace Go.Proofs.Ytnlgmfkgpaampaa
open Go.RowKit
open Go.Proofs.YtnlgmfkgpaampaaW.PrintWords

section
variable {α : Type} {enc : α → List Value} {m : Nat} {P : Program} {ops : Array Oper} {o : Oper} {a : Act} {Kc : Act → World → Prop} {Q' : Exit → Act → World → Prop} {E : Prop}
theorem wp_app_stepE_room {W : World} (base : Nat) (hgd : o.guard = none) (s x : Operand) (t e : TypeId) (z : Value) (bytes : Nat)
    (ho : o.op = .call { callee := .builtin .append, args := #[s, x], argTypes := #[t, t] })
    (ht : P.underlying t = some (.slice e)) (hinfo : (P.info? e).map (fun i => (i.zero, i.size, i.bytes)) = some (some z, m, bytes)) (hm0 : 0 < m)
    {b off n c : Nat} (src : Value) (xs ys : List α) (hs : a.eval s = .slice (some ⟨b, off, none⟩) n c) (hx : a.eval x = src)
    (hown : OwE enc m e W base (.slice (some ⟨b, off, none⟩) n c) xs) (hsrc : RdE enc m W src ys) (h1 : ∀ a, ∀ u ∈ enc a, u.oneCell' = true) (hroom : n + ys.length ≤ c)
    (h : ∀ w1, OwE enc m e w1 base (.slice (some ⟨b, off, none⟩) (n + ys.length) c) (xs ++ ys) → W.grownBy w1 (some b) → Kc (a.put o.dst (.slice (some ⟨b, off, none⟩) (n + ys.length) c)) w1) :
    if Region.wanted o (yielded ops a.tmps) = true then Oper.wp P o a W Kc Q' else E := by
  obtain ⟨w1, hr1, h2, hg⟩ := run_appE_room (P := P) W base t o.type e z bytes ht hinfo hm0 hown hsrc h1 hroom
  have hw : Region.wanted o (yielded ops a.tmps) = true := by simp [Region.wanted, hgd]
  rw [if_pos hw]
  unfold Oper.wp execOp
  simp only [ho, resolve, invoke, builtin, Sem.run_bind, Sem.run_pure, Result.andThen_ok, List.map_toArray, List.map_cons, List.map_nil, hs, hx, hr1]
  exact h w1 h2 hg
end

set_option maxHeartbeats 16000000 in
theorem rcancel_any (w : World) (nw : Int) (A0 : Nat → Option Addr) (n0 c0 : Nat → Nat) (ts : Nat → List Tm) (id : Int) (hr : WhR w A0 n0 c0 ts) (ht : tot n0 8 ≤ 1000) :
    Calls Try.prog 16 #[.agg #[.int .i64 nw, .slice (A0 0) (n0 0) (c0 0), .slice (A0 1) (n0 1) (c0 1), .slice (A0 2) (n0 2) (c0 2), .slice (A0 3) (n0 3) (c0 3), .slice (A0 4) (n0 4) (c0 4), .slice (A0 5) (n0 5) (c0 5), .slice (A0 6) (n0 6) (c0 6), .slice (A0 7) (n0 7) (c0 7)], .int .i64 id] w (WePost w nw (canT nw ts id) (canE nw ts id)) := by
  have hln := hr.len
  have HLN := Lib.hid hln
  clear hln
  have hal1 : Below w.heap.size w (w.alloc (.cells #[.int .i64 nw, .slice (A0 0) (n0 0) (c0 0), .slice (A0 1) (n0 1) (c0 1), .slice (A0 2) (n0 2) (c0 2), .slice (A0 3) (n0 3) (c0 3), .slice (A0 4) (n0 4) (c0 4), .slice (A0 5) (n0 5) (c0 5), .slice (A0 6) (n0 6) (c0 6), .slice (A0 7) (n0 7) (c0 7)] 25)) := (Below.refl _ _).alloc (Nat.le_refl _) _
  have hb1 := BoxW.alloc w nw (fun i => .slice (A0 i) (n0 i) (c0 i))
  generalize hV1 : w.alloc (.cells #[.int .i64 nw, .slice (A0 0) (n0 0) (c0 0), .slice (A0 1) (n0 1) (c0 1), .slice (A0 2) (n0 2) (c0 2), .slice (A0 3) (n0 3) (c0 3), .slice (A0 4) (n0 4) (c0 4), .slice (A0 5) (n0 5) (c0 5), .slice (A0 6) (n0 6) (c0 6), .slice (A0 7) (n0 7) (c0 7)] 25) = V1 at hal1 hb1
  have s1 : V1.heap.size = w.heap.size + 1 := by rw [← hV1]; simp
  have hal2 : Below V1.heap.size V1 (V1.alloc (.cells #[.int .i64 0, .slice none 0 0, .slice none 0 0, .slice none 0 0, .slice none 0 0, .slice none 0 0, .slice none 0 0, .slice none 0 0, .slice none 0 0] 25)) := (Below.refl _ _).alloc (Nat.le_refl _) _
  have s2 : (V1.alloc (.cells #[.int .i64 0, .slice none 0 0, .slice none 0 0, .slice none 0 0, .slice none 0 0, .slice none 0 0, .slice none 0 0, .slice none 0 0, .slice none 0 0] 25)).heap.size = w.heap.size + 2 := by simp [s1]
  have x2 := heap_alloc_new V1 (.cells #[.int .i64 0, .slice none 0 0, .slice none 0 0, .slice none 0 0, .slice none 0 0, .slice none 0 0, .slice none 0 0, .slice none 0 0, .slice none 0 0] 25)
  rw [s1] at x2
  have HW := Lib.hid (hal1.trans (hal2.mono hal1.size))
  have HBX := Lib.hid (hb1.below hal2)
  have HX2 := Lib.hid x2
  have HSZ := Lib.hid s2
  have HR0 := Lib.hid hr
  have hl1000 : ∀ i, i < 8 → n0 i ≤ 1000 := fun i hi => by
    have : tot n0 i + n0 i ≤ tot n0 8 := tot_mono n0 (show i + 1 ≤ 8 by omega)
    omega
  clear hal1 hb1 hal2 x2 hr s1 s2
  rw [← hV1] at HW HBX HX2 HSZ
  clear hV1
  go_enter Try.func16, Try.ntmps16
  go_upto_region 1 with fail
  generalize ((w.alloc (.cells #[.int .i64 nw, .slice (A0 0) (n0 0) (c0 0), .slice (A0 1) (n0 1) (c0 1), .slice (A0 2) (n0 2) (c0 2), .slice (A0 3) (n0 3) (c0 3), .slice (A0 4) (n0 4) (c0 4), .slice (A0 5) (n0 5) (c0 5), .slice (A0 6) (n0 6) (c0 6), .slice (A0 7) (n0 7) (c0 7)] 25)).alloc (.cells #[.int .i64 0, .slice none 0 0, .slice none 0 0, .slice none 0 0, .slice none 0 0, .slice none 0 0, .slice none 0 0, .slice none 0 0, .slice none 0 0] 25)) = V at *
  have z0 : V.cell? ⟨w.heap.size, 0, none⟩ = some (.int .i64 nw) := HBX.out.now
  have z1 : V.cell? ⟨w.heap.size, 1, none⟩ = some (.slice (A0 0) (n0 0) (c0 0)) := HBX.out.slot (show 0 < 8 by omega)
  have z2 : V.cell? ⟨w.heap.size, 2, none⟩ = some (.slice (A0 1) (n0 1) (c0 1)) := HBX.out.slot (show 1 < 8 by omega)
  have z3 : V.cell? ⟨w.heap.size, 3, none⟩ = some (.slice (A0 2) (n0 2) (c0 2)) := HBX.out.slot (show 2 < 8 by omega)
  have z4 : V.cell? ⟨w.heap.size, 4, none⟩ = some (.slice (A0 3) (n0 3) (c0 3)) := HBX.out.slot (show 3 < 8 by omega)
  have z5 : V.cell? ⟨w.heap.size, 5, none⟩ = some (.slice (A0 4) (n0 4) (c0 4)) := HBX.out.slot (show 4 < 8 by omega)
  have z6 : V.cell? ⟨w.heap.size, 6, none⟩ = some (.slice (A0 5) (n0 5) (c0 5)) := HBX.out.slot (show 5 < 8 by omega)
  have z7 : V.cell? ⟨w.heap.size, 7, none⟩ = some (.slice (A0 6) (n0 6) (c0 6)) := HBX.out.slot (show 6 < 8 by omega)
  have z8 : V.cell? ⟨w.heap.size, 8, none⟩ = some (.slice (A0 7) (n0 7) (c0 7)) := HBX.out.slot (show 7 < 8 by omega)
  go_upto_region 2 with (go_at_call 29; refine (rown_any V nw A0 n0 c0 ts (HR0.out.below HW.out) hl1000).mono ?_; rintro e w2 ⟨A, n, c, rfl, hO2, hb2⟩)
  clear z0 z1 z2 z3 z4 z5 z6 z7 z8
  have hal : Below w2.heap.size w2 (w2.alloc (.cells #[.int .i64 nw, .slice (A 0) (n 0) (c 0), .slice (A 1) (n 1) (c 1), .slice (A 2) (n 2) (c 2), .slice (A 3) (n 3) (c 3), .slice (A 4) (n 4) (c 4), .slice (A 5) (n 5) (c 5), .slice (A 6) (n 6) (c 6), .slice (A 7) (n 7) (c 7)] 25)) := (Below.refl _ _).alloc (Nat.le_refl _) _
  have hb3 := BoxW.alloc w2 nw (fun i => .slice (A i) (n i) (c i))
  have hs2 := hb2.size
  have hsz := HSZ.out
  have HS := Lib.hid (show St w (w2.alloc (.cells #[.int .i64 nw, .slice (A 0) (n 0) (c 0), .slice (A 1) (n 1) (c 1), .slice (A 2) (n 2) (c 2), .slice (A 3) (n 3) (c 3), .slice (A 4) (n 4) (c 4), .slice (A 5) (n 5) (c 5), .slice (A 6) (n 6) (c 6), .slice (A 7) (n 7) (c 7)] 25)) w2.heap.size nw (fun i => .slice (A0 i) (n0 i) (c0 i)) nw A n c ts from
    ⟨(HBX.out.below hb2).below hal, keep hal (keep hb2 HX2.out), hb3, (hO2.lower HW.out.size).below hal, (HW.out.trans (hb2.mono HW.out.size)).trans (hal.mono (by have := HW.out.size; omega)), by omega⟩)
  clear hal hb3 hO2 hb2 HBX HX2 HW HSZ hs2 hsz
  generalize w2.alloc (.cells #[.int .i64 nw, .slice (A 0) (n 0) (c 0), .slice (A 1) (n 1) (c 1), .slice (A 2) (n 2) (c 2), .slice (A 3) (n 3) (c 3), .slice (A 4) (n 4) (c 4), .slice (A 5) (n 5) (c 5), .slice (A 6) (n 6) (c 6), .slice (A 7) (n 7) (c 7)] 25) = U at *
  generalize w2.heap.size = b3 at *
  have z0 : U.cell? ⟨w.heap.size, 0, none⟩ = some (.int .i64 nw) := HS.out.x1.now
  have z1 : U.cell? ⟨w.heap.size, 1, none⟩ = some (.slice (A0 0) (n0 0) (c0 0)) := HS.out.x1.slot (show 0 < 8 by omega)
  have z2 : U.cell? ⟨w.heap.size, 2, none⟩ = some (.slice (A0 1) (n0 1) (c0 1)) := HS.out.x1.slot (show 1 < 8 by omega)
  have z3 : U.cell? ⟨w.heap.size, 3, none⟩ = some (.slice (A0 2) (n0 2) (c0 2)) := HS.out.x1.slot (show 2 < 8 by omega)
  have z4 : U.cell? ⟨w.heap.size, 4, none⟩ = some (.slice (A0 3) (n0 3) (c0 3)) := HS.out.x1.slot (show 3 < 8 by omega)
  have z5 : U.cell? ⟨w.heap.size, 5, none⟩ = some (.slice (A0 4) (n0 4) (c0 4)) := HS.out.x1.slot (show 4 < 8 by omega)
  have z6 : U.cell? ⟨w.heap.size, 6, none⟩ = some (.slice (A0 5) (n0 5) (c0 5)) := HS.out.x1.slot (show 5 < 8 by omega)
  have z7 : U.cell? ⟨w.heap.size, 7, none⟩ = some (.slice (A0 6) (n0 6) (c0 6)) := HS.out.x1.slot (show 6 < 8 by omega)
  have z8 : U.cell? ⟨w.heap.size, 8, none⟩ = some (.slice (A0 7) (n0 7) (c0 7)) := HS.out.x1.slot (show 7 < 8 by omega)
  have HS3 := HS
  obtain ⟨rb, hrb⟩ : ∃ b, rightB nw ts = b := ⟨_, rfl⟩
  have HRB := Lib.hid hrb
  clear hrb
  have ARM := Lib.hid (rright_any U nw A0 n0 c0 ts (HR0.out.below HS.out.bw) (by omega))
  cases rb with
  | false =>
    have HE := Lib.hid (canE_arg (nw := nw) (ts := ts) (id := id) (fun h => by have := rightB_yes h; rw [HRB.out] at this; cases this))
    go_upto_region 3 with (go_at_call 18; refine ARM.out.mono ?_; rw [HRB.out]; rintro e w4 ⟨rfl, hb4⟩; have HS := Lib.hid (HS3.out.below hb4); clear hb4 z0 z1 z2 z3 z4 z5 z6 z7 z8)
    have z0 : w4.cell? ⟨b3, 0, none⟩ = some (.int .i64 nw) := HS.out.x3.now
    have z1 : w4.cell? ⟨b3, 1, none⟩ = some (.slice (A 0) (n 0) (c 0)) := HS.out.x3.slot (show 0 < 8 by omega)
    have z2 : w4.cell? ⟨b3, 2, none⟩ = some (.slice (A 1) (n 1) (c 1)) := HS.out.x3.slot (show 1 < 8 by omega)
    have z3 : w4.cell? ⟨b3, 3, none⟩ = some (.slice (A 2) (n 2) (c 2)) := HS.out.x3.slot (show 2 < 8 by omega)
    have z4 : w4.cell? ⟨b3, 4, none⟩ = some (.slice (A 3) (n 3) (c 3)) := HS.out.x3.slot (show 3 < 8 by omega)
    have z5 : w4.cell? ⟨b3, 5, none⟩ = some (.slice (A 4) (n 4) (c 4)) := HS.out.x3.slot (show 4 < 8 by omega)
    have z6 : w4.cell? ⟨b3, 6, none⟩ = some (.slice (A 5) (n 5) (c 5)) := HS.out.x3.slot (show 5 < 8 by omega)
    have z7 : w4.cell? ⟨b3, 7, none⟩ = some (.slice (A 6) (n 6) (c 6)) := HS.out.x3.slot (show 6 < 8 by omega)
    have z8 : w4.cell? ⟨b3, 8, none⟩ = some (.slice (A 7) (n 7) (c 7)) := HS.out.x3.slot (show 7 < 8 by omega)
    have r0 := box_at HS.out.x2 0 _ rfl
    have r1 := box_at HS.out.x2 1 _ rfl
    have r2 := box_at HS.out.x2 2 _ rfl
    have r3 := box_at HS.out.x2 3 _ rfl
    have r4 := box_at HS.out.x2 4 _ rfl
    have r5 := box_at HS.out.x2 5 _ rfl
    have r6 := box_at HS.out.x2 6 _ rfl
    have r7 := box_at HS.out.x2 7 _ rfl
    have r8 := box_at HS.out.x2 8 _ rfl
    have rf := box_free HS.out.x2
    go_wp2_with fail
    refine bodyPost_ret (v := .tuple #[.agg #[.int .i64 nw, .slice (A 0) (n 0) (c 0), .slice (A 1) (n 1) (c 1), .slice (A 2) (n 2) (c 2), .slice (A 3) (n 3) (c 3), .slice (A 4) (n 4) (c 4), .slice (A 5) (n 5) (c 5), .slice (A 6) (n 6) (c 6), .slice (A 7) (n 7) (c 7)], .int .i64 1]) (by simp [results, Try.results16, go_sem, r0, r1, r2, r3, r4, r5, r6, r7, r8]) rfl ?_
    obtain ⟨he1, he2⟩ := HE.out
    rw [he1, he2]
    exact ⟨A, n, c, rfl, HS.out.fin⟩
  | true =>
    have HRW := Lib.hid (rightB_iff.1 HRB.out)
    go_upto_region 4 with (go_at_call 18; refine ARM.out.mono ?_; rw [HRB.out]; rintro e w4 ⟨rfl, hb4⟩; have HS := Lib.hid (HS3.out.below hb4); clear hb4 z0 z1 z2 z3 z4 z5 z6 z7 z8)
    clear HS3
    have z0 : w4.cell? ⟨w.heap.size, 0, none⟩ = some (.int .i64 nw) := HS.out.x1.now
    have z1 : w4.cell? ⟨w.heap.size, 1, none⟩ = some (.slice (A0 0) (n0 0) (c0 0)) := HS.out.x1.slot (show 0 < 8 by omega)
    have z2 : w4.cell? ⟨w.heap.size, 2, none⟩ = some (.slice (A0 1) (n0 1) (c0 1)) := HS.out.x1.slot (show 1 < 8 by omega)
    have z3 : w4.cell? ⟨w.heap.size, 3, none⟩ = some (.slice (A0 2) (n0 2) (c0 2)) := HS.out.x1.slot (show 2 < 8 by omega)
    have z4 : w4.cell? ⟨w.heap.size, 4, none⟩ = some (.slice (A0 3) (n0 3) (c0 3)) := HS.out.x1.slot (show 3 < 8 by omega)
    have z5 : w4.cell? ⟨w.heap.size, 5, none⟩ = some (.slice (A0 4) (n0 4) (c0 4)) := HS.out.x1.slot (show 4 < 8 by omega)
    have z6 : w4.cell? ⟨w.heap.size, 6, none⟩ = some (.slice (A0 5) (n0 5) (c0 5)) := HS.out.x1.slot (show 5 < 8 by omega)
    have z7 : w4.cell? ⟨w.heap.size, 7, none⟩ = some (.slice (A0 6) (n0 6) (c0 6)) := HS.out.x1.slot (show 6 < 8 by omega)
    have z8 : w4.cell? ⟨w.heap.size, 8, none⟩ = some (.slice (A0 7) (n0 7) (c0 7)) := HS.out.x1.slot (show 7 < 8 by omega)
    go_upto_region 5 with (go_at_call 30; refine (find_any w4 nw A0 n0 c0 ts id (HR0.out.below HS.out.bw)).mono ?_; rintro e w6 ⟨r, s, rfl, hf, hb6⟩; have HF := Lib.hid hf; replace HS := Lib.hid (HS.out.below hb6); clear hf hb6 z0 z1 z2 z3 z4 z5 z6 z7 z8)
    by_cases e4 : r < 0
    · have HE := Lib.hid (canE_none HRW.out HF.out e4)
      go_upto_region 6 with fail
      have z0 : w6.cell? ⟨b3, 0, none⟩ = some (.int .i64 nw) := HS.out.x3.now
      have z1 : w6.cell? ⟨b3, 1, none⟩ = some (.slice (A 0) (n 0) (c 0)) := HS.out.x3.slot (show 0 < 8 by omega)
      have z2 : w6.cell? ⟨b3, 2, none⟩ = some (.slice (A 1) (n 1) (c 1)) := HS.out.x3.slot (show 1 < 8 by omega)
      have z3 : w6.cell? ⟨b3, 3, none⟩ = some (.slice (A 2) (n 2) (c 2)) := HS.out.x3.slot (show 2 < 8 by omega)
      have z4 : w6.cell? ⟨b3, 4, none⟩ = some (.slice (A 3) (n 3) (c 3)) := HS.out.x3.slot (show 3 < 8 by omega)
      have z5 : w6.cell? ⟨b3, 5, none⟩ = some (.slice (A 4) (n 4) (c 4)) := HS.out.x3.slot (show 4 < 8 by omega)
      have z6 : w6.cell? ⟨b3, 6, none⟩ = some (.slice (A 5) (n 5) (c 5)) := HS.out.x3.slot (show 5 < 8 by omega)
      have z7 : w6.cell? ⟨b3, 7, none⟩ = some (.slice (A 6) (n 6) (c 6)) := HS.out.x3.slot (show 6 < 8 by omega)
      have z8 : w6.cell? ⟨b3, 8, none⟩ = some (.slice (A 7) (n 7) (c 7)) := HS.out.x3.slot (show 7 < 8 by omega)
      have r0 := box_at HS.out.x2 0 _ rfl
      have r1 := box_at HS.out.x2 1 _ rfl
      have r2 := box_at HS.out.x2 2 _ rfl
      have r3 := box_at HS.out.x2 3 _ rfl
      have r4 := box_at HS.out.x2 4 _ rfl
      have r5 := box_at HS.out.x2 5 _ rfl
      have r6 := box_at HS.out.x2 6 _ rfl
      have r7 := box_at HS.out.x2 7 _ rfl
      have r8 := box_at HS.out.x2 8 _ rfl
      have rf := box_free HS.out.x2
      go_wp2_with fail
      refine bodyPost_ret (v := .tuple #[.agg #[.int .i64 nw, .slice (A 0) (n 0) (c 0), .slice (A 1) (n 1) (c 1), .slice (A 2) (n 2) (c 2), .slice (A 3) (n 3) (c 3), .slice (A 4) (n 4) (c 4), .slice (A 5) (n 5) (c 5), .slice (A 6) (n 6) (c 6), .slice (A 7) (n 7) (c 7)], .int .i64 5]) (by simp [results, Try.results16, go_sem, r0, r1, r2, r3, r4, r5, r6, r7, r8]) rfl ?_
      obtain ⟨he1, he2⟩ := HE.out
      rw [he1, he2]
      exact ⟨A, n, c, rfl, HS.out.fin⟩
    rcases HF.out with ⟨h, _⟩ | ⟨i, k, t, hi1, hk1, hi8, hat, _⟩
    · omega
    subst hi1; subst hk1
    have HE := Lib.hid (canE_ok HRW.out HF.out)
    have hkl : k < (ts i).length := (List.getElem?_eq_some_iff.1 hat).1
    have hl0 := HLN.out i hi8
    have hnk := (HS.out.o.o i hi8).rd.len
    have hi8' : (i : Int) < 8 := by omega
    obtain ⟨b, off, hA, _, _, hnc, _, _⟩ := (HS.out.o.o i hi8).form (by omega)
    have hOk := HS.out.o.o i hi8
    rw [hA] at hOk
    have htk0 : tot n0 i + n0 i ≤ tot n0 8 := tot_mono n0 (show i + 1 ≤ 8 by omega)
    have hgr := Lib.hid (show (Value.slice (A i) (n i) (c i)).ownBlock = some b by rw [hA]; rfl)
    have zk := HS.out.x3.slot hi8
    have zf := HS.out.x3.free
    rw [hA] at zk
    have HAI := Lib.hid hA
    have hni : n i = n0 i := by omega
    have HNI := Lib.hid hni
    have hn1000 : n i ≤ 1000 := by omega
    have hkn : k < n i := by omega
    have k1 : (k : Int) + 1 ≤ (n i : Int) := by omega
    have k2 : (n i : Int) ≤ (c i : Int) := by omega
    have k5 : (k : Int) ≤ (c i : Int) := by omega
    have hkw : IntKind.i64.wrap ((k : Int) + 1) = (k : Int) + 1 := by rw [IntKind.wrap_i64]; omega
    have hi' := Try.info34
    obtain ⟨i0, hi⟩ : ∃ i, Try.prog.info? 34 = some i := by
      cases h : Try.prog.info? 34 with
      | none => rw [h] at hi'; simp at hi'
      | some i => exact ⟨i, rfl⟩
    rw [hi] at hi'
    simp only [Option.map_some, Option.some.injEq, Prod.mk.injEq] at hi'
    obtain ⟨_, hsz, _⟩ := hi'
    have hsl := cut_from (P := Try.prog) 22 34 .i64 Try.underlying22 hi 2 hsz (some ⟨b, off, none⟩) (n i) (c i) ((k : Int) + 1) (by omega) (by omega)
    rw [show ((k : Int) + 1).toNat = k + 1 by omega] at hsl
    have htk := hOk.take k (by omega)
    have hdr := (hOk.drop (k + 1) (by omega)).rd
    generalize (if c i = k + 1 then (some (⟨b, off, none⟩ : Addr)) else (some (⟨b, off, none⟩ : Addr)).map (fun x => x.add ((k + 1) * 2))) = A6 at hsl hdr
    have HTK := Lib.hid htk
    have HDR := Lib.hid hdr
    have hdl := hdr.len
    clear hi hsz htk hdr hA hni hl0 hat hOk htk0
    go_upto_region 7 with fail
    have hd : Below w6.heap.size w6 w6.drew := below_drew (Below.refl _ _)
    go_region_law (refine wp_app_stepE_room w.heap.size rfl _ _ 22 34 (.agg #[.int .i64 0, .int .i64 0]) 16 rfl Try.underlying22 Try.info34 (by omega) (b := b) (off := off) (n := k) (c := c i) (.slice A6 (n i - (k + 1)) (c i - (k + 1))) ((ts i).take k) ((ts i).drop (k + 1)) (by rfl) (by rfl) (HTK.out.below hd) (HDR.out.below hd) tenc1 (by omega) ?_; intro w8 hO8 hg8; rw [hdl, show k + (n i - (k + 1)) = n i - 1 by omega] at hO8; rw [hdl, show k + (n i - (k + 1)) = n i - 1 by omega]; have HO8 := Lib.hid hO8; have HG8 := Lib.hid (show w6.grownBy w8 (some b) from ⟨hg8.os, hg8.tape, hg8.output, hg8.size, hg8.block⟩); have z8 := (HS.out.x3.grown HG8.out (by rw [← hgr.out]; exact HS.out.x3.ne (HS.out.o.o i hi8))).slot hi8; have f8 := (HS.out.x3.grown HG8.out (by rw [← hgr.out]; exact HS.out.x3.ne (HS.out.o.o i hi8))).free; clear hO8 hg8 zk zf)
    all_goals
      clear hsl hd
      go_upto_region 8 with fail
      replace HS := Lib.hid (HS.out.put hi8 (by rw [hgr.out]; exact HG8.out) HO8.out (.inl (by rw [hgr.out]; rfl)))
      clear z8 f8 HO8 HG8 HNI
      generalize w8.setCell ⟨b3, 1 + i, none⟩ (.slice (some ⟨b, off, none⟩) (n i - 1) (c i)) = W9 at *
      generalize upd A i (some ⟨b, off, none⟩) = A9 at *
      generalize upd n i (n i - 1) = n9 at *
      generalize upd c i (c i) = c9 at *
      have z0 : W9.cell? ⟨b3, 0, none⟩ = some (.int .i64 nw) := HS.out.x3.now
      have z1 : W9.cell? ⟨b3, 1, none⟩ = some (.slice (A9 0) (n9 0) (c9 0)) := HS.out.x3.slot (show 0 < 8 by omega)
      have z2 : W9.cell? ⟨b3, 2, none⟩ = some (.slice (A9 1) (n9 1) (c9 1)) := HS.out.x3.slot (show 1 < 8 by omega)
      have z3 : W9.cell? ⟨b3, 3, none⟩ = some (.slice (A9 2) (n9 2) (c9 2)) := HS.out.x3.slot (show 2 < 8 by omega)
      have z4 : W9.cell? ⟨b3, 4, none⟩ = some (.slice (A9 3) (n9 3) (c9 3)) := HS.out.x3.slot (show 3 < 8 by omega)
      have z5 : W9.cell? ⟨b3, 5, none⟩ = some (.slice (A9 4) (n9 4) (c9 4)) := HS.out.x3.slot (show 4 < 8 by omega)
      have z6 : W9.cell? ⟨b3, 6, none⟩ = some (.slice (A9 5) (n9 5) (c9 5)) := HS.out.x3.slot (show 5 < 8 by omega)
      have z7 : W9.cell? ⟨b3, 7, none⟩ = some (.slice (A9 6) (n9 6) (c9 6)) := HS.out.x3.slot (show 6 < 8 by omega)
      have z8 : W9.cell? ⟨b3, 8, none⟩ = some (.slice (A9 7) (n9 7) (c9 7)) := HS.out.x3.slot (show 7 < 8 by omega)
      have r0 := box_at HS.out.x2 0 _ rfl
      have r1 := box_at HS.out.x2 1 _ rfl
      have r2 := box_at HS.out.x2 2 _ rfl
      have r3 := box_at HS.out.x2 3 _ rfl
      have r4 := box_at HS.out.x2 4 _ rfl
      have r5 := box_at HS.out.x2 5 _ rfl
      have r6 := box_at HS.out.x2 6 _ rfl
      have r7 := box_at HS.out.x2 7 _ rfl
      have r8 := box_at HS.out.x2 8 _ rfl
      have rf := box_free HS.out.x2
      go_wp2_with fail
      refine bodyPost_ret (v := .tuple #[.agg #[.int .i64 nw, .slice (A9 0) (n9 0) (c9 0), .slice (A9 1) (n9 1) (c9 1), .slice (A9 2) (n9 2) (c9 2), .slice (A9 3) (n9 3) (c9 3), .slice (A9 4) (n9 4) (c9 4), .slice (A9 5) (n9 5) (c9 5), .slice (A9 6) (n9 6) (c9 6), .slice (A9 7) (n9 7) (c9 7)], .int .i64 0]) (by simp [results, Try.results16, go_sem, r0, r1, r2, r3, r4, r5, r6, r7, r8]) rfl ?_
      obtain ⟨he1, he2⟩ := HE.out
      rw [he1, he2]
      exact ⟨A9, n9, c9, rfl, HS.out.fin⟩
end Go.Proofs.Ytnlgmfkgpaampaa
