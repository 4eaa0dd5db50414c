/- wheel.own, lockageref04.own: the walks. -/
import Derived.Test.YtnlgmfkgpaampaaD
set_option linter.unusedVariables false
set_option linter.unusedSimpArgs false
namespace Go.Proofs.Ytnlgmfkgpaampaa
open Go.RowKit
open Go.Proofs.YtnlgmfkgpaampaaW.PrintWords

set_option maxHeartbeats 4000000 in
theorem rown_any (w : World) (nw : Int) (A0 : Nat → Option Addr) (n0 c0 : Nat → Nat) (ts : Nat → List Tm) (hr : WhR w A0 n0 c0 ts) (hl : ∀ i, i < 8 → n0 i ≤ 1000) :
    Calls Try.prog 29 #[.agg #[.int .i64 nw, .slice (A0 0) (n0 0) (c0 0), .slice (A0 1) (n0 1) (c0 1), .slice (A0 2) (n0 2) (c0 2), .slice (A0 3) (n0 3) (c0 3), .slice (A0 4) (n0 4) (c0 4), .slice (A0 5) (n0 5) (c0 5), .slice (A0 6) (n0 6) (c0 6), .slice (A0 7) (n0 7) (c0 7)]] w (OwnPost w nw ts) := by
  have hal1 : Below w.heap.size w (w.alloc (.cells #[.int .i64 nw, .slice (A0 0) (n0 0) (c0 0), .slice (A0 1) (n0 1) (c0 1), .slice (A0 2) (n0 2) (c0 2), .slice (A0 3) (n0 3) (c0 3), .slice (A0 4) (n0 4) (c0 4), .slice (A0 5) (n0 5) (c0 5), .slice (A0 6) (n0 6) (c0 6), .slice (A0 7) (n0 7) (c0 7)] 25)) := (Below.refl _ _).alloc (Nat.le_refl _) _
  have hb1 := BoxW.alloc w nw (fun i => .slice (A0 i) (n0 i) (c0 i))
  generalize hV1 : w.alloc (.cells #[.int .i64 nw, .slice (A0 0) (n0 0) (c0 0), .slice (A0 1) (n0 1) (c0 1), .slice (A0 2) (n0 2) (c0 2), .slice (A0 3) (n0 3) (c0 3), .slice (A0 4) (n0 4) (c0 4), .slice (A0 5) (n0 5) (c0 5), .slice (A0 6) (n0 6) (c0 6), .slice (A0 7) (n0 7) (c0 7)] 25) = V1 at hal1 hb1
  have s1 : V1.heap.size = w.heap.size + 1 := by rw [← hV1]; simp
  have hal2 : Below V1.heap.size V1 (V1.alloc (.cells #[.int .i64 0, .slice none 0 0, .slice none 0 0, .slice none 0 0, .slice none 0 0, .slice none 0 0, .slice none 0 0, .slice none 0 0, .slice none 0 0] 25)) := (Below.refl _ _).alloc (Nat.le_refl _) _
  have x2 := heap_alloc_new V1 (.cells #[.int .i64 0, .slice none 0 0, .slice none 0 0, .slice none 0 0, .slice none 0 0, .slice none 0 0, .slice none 0 0, .slice none 0 0, .slice none 0 0] 25)
  rw [s1] at x2
  have HW := Lib.hid (hal1.trans (hal2.mono hal1.size))
  have HBX := Lib.hid (hb1.below hal2)
  have HX2 := Lib.hid x2
  have HR := Lib.hid hr
  clear hal1 hb1 hal2 x2 hr s1
  rw [← hV1] at HW HBX HX2
  clear hV1
  go_enter Try.func29, Try.ntmps29
  go_wp2_with fail
  generalize ((w.alloc (.cells #[.int .i64 nw, .slice (A0 0) (n0 0) (c0 0), .slice (A0 1) (n0 1) (c0 1), .slice (A0 2) (n0 2) (c0 2), .slice (A0 3) (n0 3) (c0 3), .slice (A0 4) (n0 4) (c0 4), .slice (A0 5) (n0 5) (c0 5), .slice (A0 6) (n0 6) (c0 6), .slice (A0 7) (n0 7) (c0 7)] 25)).alloc (.cells #[.int .i64 0, .slice none 0 0, .slice none 0 0, .slice none 0 0, .slice none 0 0, .slice none 0 0, .slice none 0 0, .slice none 0 0, .slice none 0 0] 25)) = V at *
  go_loopg [3] 8 (fun gg s7 wr => ∃ kk : Nat, kk ≤ 8 ∧ 8 - kk ≤ gg ∧ s7 = .int .i64 kk ∧ Below w.heap.size w wr ∧ ∃ A n c, Aside (OwnIs w wr w.heap.size nw A0 n0 c0 ts kk A n c ∧ wr.heap[w.heap.size + 1]? = some (.cells #[.int .i64 0, .slice none 0 0, .slice none 0 0, .slice none 0 0, .slice none 0 0, .slice none 0 0, .slice none 0 0, .slice none 0 0, .slice none 0 0] 25 (0, 0))))
  case atStart =>
    refine ⟨0, by omega, by omega, rfl, HW.out, A0, n0, c0, ?_⟩
    show Aside _
    exact ⟨⟨HBX.out, fun i hi => absurd hi (by omega), fun i j hi => absurd hi (by omega), fun i _ => ⟨rfl, rfl, rfl⟩⟩, HX2.out⟩
  case round =>
    obtain ⟨kk, hkk, hg, rfl, hB, A, n, c, HA⟩ := hrel
    obtain ⟨hOw, hX⟩ := HA.out
    have HOW := Lib.hid hOw
    have HX := Lib.hid hX
    clear HA hOw hX
    by_cases hlt : kk < 8
    · have hlt1 : (kk : Int) < 8 := by omega
      have hln := hl kk hlt
      have hrk := Lib.hid ((HR.out kk hlt).below hB)
      have htl := hrk.out.len
      have zf := HOW.out.b.free
      have zs := HOW.out.b.slot hlt
      obtain ⟨oa, on, oc⟩ := HOW.out.old kk (Nat.le_refl _)
      rw [oa, on, oc] at zs
      clear oa on oc
      go_wp2_with (at_builtin; refine wp_appE wr.heap.size rfl _ _ 22 34 (.agg #[.int .i64 0, .int .i64 0]) 16 rfl Try.underlying22 Try.info34 rfl (by omega) (by omega) (.slice none 0 0) (.slice (A0 kk) (n0 kk) (c0 kk)) [] (ts kk) rfl rfl ?c1 ?c2 tenc1 ?c3 ?c4 ?c5)
      case c1 => exact OwE.nil tencL _ _ _
      case c2 => exact hrk.out
      case c3 => simp; omega
      case c4 => exact Nat.le_refl _
      case c5 =>
        intro v1 w2 hv1 hg1 hat1
        obtain ⟨B, m, d, rfl⟩ := hv1.slice'
        have hb2 : Below wr.heap.size wr w2 := (Below.refl _ _).grown hg1 (Nat.le_refl _) (fun k hk => by simp [Value.ownBlock] at hk)
        have hO2 : OwE tenc 2 34 w2 wr.heap.size (.slice B m d) (ts kk) := hv1
        have z2 := (HOW.out.b.below hb2).slot hlt
        have zf2 := (HOW.out.b.below hb2).free
        clear hg1 hat1 zs zf
        go_wp2_with fail
        go_roundg (8 - (kk + 1))
        case measure => omega
        case rel =>
          refine ⟨kk + 1, by omega, by omega, by simp, (hB.trans (hb2.mono hB.size)).setCell (by simp) _, upd A kk B, upd n kk m, upd c kk d, ?_⟩
          show Aside _
          refine ⟨HOW.out.step (by omega) hB.size hb2 hO2, ?_⟩
          rw [Below.heap_setCell _ _ _ _ (by simp)]
          exact keep hb2 HX.out
    · obtain rfl : kk = 8 := by omega
      have z1 : wr.cell? ⟨w.heap.size, 1, none⟩ = some (.slice (A 0) (n 0) (c 0)) := HOW.out.b.slot (show 0 < 8 by omega)
      have z2 : wr.cell? ⟨w.heap.size, 2, none⟩ = some (.slice (A 1) (n 1) (c 1)) := HOW.out.b.slot (show 1 < 8 by omega)
      have z3 : wr.cell? ⟨w.heap.size, 3, none⟩ = some (.slice (A 2) (n 2) (c 2)) := HOW.out.b.slot (show 2 < 8 by omega)
      have z4 : wr.cell? ⟨w.heap.size, 4, none⟩ = some (.slice (A 3) (n 3) (c 3)) := HOW.out.b.slot (show 3 < 8 by omega)
      have z5 : wr.cell? ⟨w.heap.size, 5, none⟩ = some (.slice (A 4) (n 4) (c 4)) := HOW.out.b.slot (show 4 < 8 by omega)
      have z6 : wr.cell? ⟨w.heap.size, 6, none⟩ = some (.slice (A 5) (n 5) (c 5)) := HOW.out.b.slot (show 5 < 8 by omega)
      have z7 : wr.cell? ⟨w.heap.size, 7, none⟩ = some (.slice (A 6) (n 6) (c 6)) := HOW.out.b.slot (show 6 < 8 by omega)
      have z8 : wr.cell? ⟨w.heap.size, 8, none⟩ = some (.slice (A 7) (n 7) (c 7)) := HOW.out.b.slot (show 7 < 8 by omega)
      have z0 := HOW.out.b.now
      have r0 := box_at HX.out 0 _ rfl
      have r1 := box_at HX.out 1 _ rfl
      have r2 := box_at HX.out 2 _ rfl
      have r3 := box_at HX.out 3 _ rfl
      have r4 := box_at HX.out 4 _ rfl
      have r5 := box_at HX.out 5 _ rfl
      have r6 := box_at HX.out 6 _ rfl
      have r7 := box_at HX.out 7 _ rfl
      have r8 := box_at HX.out 8 _ rfl
      have rf := box_free HX.out
      go_wp2_with fail
      have nb : ∀ i, i < 8 → ∀ k, (Value.slice (A i) (n i) (c i)).ownBlock = some k → k ≠ w.heap.size + 1 := by
        intro i hi k hk
        obtain ⟨cur, hcur⟩ := (HOW.out.o i hi).typed k hk
        exact blocks_ne (by decide) hcur HX.out
      refine bodyPost_ret (v := .agg #[.int .i64 nw, .slice (A 0) (n 0) (c 0), .slice (A 1) (n 1) (c 1), .slice (A 2) (n 2) (c 2), .slice (A 3) (n 3) (c 3), .slice (A 4) (n 4) (c 4), .slice (A 5) (n 5) (c 5), .slice (A 6) (n 6) (c 6), .slice (A 7) (n 7) (c 7)]) (by simp [results, Try.results29, go_sem, r0, r1, r2, r3, r4, r5, r6, r7, r8]) rfl ?_
      refine ⟨A, n, c, rfl, ⟨fun i hi => ?_, HOW.out.ne⟩, ?_⟩
      · exact (((((((((HOW.out.o i hi).far (nb i hi) _).far (nb i hi) _).far (nb i hi) _).far (nb i hi) _).far (nb i hi) _).far (nb i hi) _).far (nb i hi) _).far (nb i hi) _).far (nb i hi) _
      · exact ((((((((hB.setCell (by simp) _).setCell (by simp) _).setCell (by simp) _).setCell (by simp) _).setCell (by simp) _).setCell (by simp) _).setCell (by simp) _).setCell (by simp) _).setCell (by simp) _

end Go.Proofs.Ytnlgmfkgpaampaa
