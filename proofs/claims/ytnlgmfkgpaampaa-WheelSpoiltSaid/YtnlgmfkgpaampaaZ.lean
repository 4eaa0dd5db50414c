/- wheel.Tick. -/
import Derived.Test.YtnlgmfkgpaampaaY
import Derived.Test.YtnlgmfkgpaampaaT
set_option linter.unusedVariables false
set_option linter.unusedSimpArgs false
namespace Go.Proofs.Ytnlgmfkgpaampaa
open Go.RowKit
open Go.Proofs.YtnlgmfkgpaampaaW.PrintWords

theorem TurnR.below {fb base m : Nat} {row : Option Nat} {W W1 : World} (h : TurnR fb base row W W1) (h1 : m ≤ fb) (h2 : m ≤ base) (h3 : m ≤ W.heap.size) (hr : ∀ k, row = some k → m ≤ k) : Below m W W1 :=
  ⟨h.os, h.tape, h.output, h.size, fun k hk => h.block k (by omega) (by omega) (fun he => by have := hr k he.symm; omega) (fun hb => by omega)⟩
theorem St2.time {w W : World} {mw : Int} {A : Nat → Option Addr} {n c : Nat → Nat} {ts : Nat → List Tm} (h : St2 w W mw A n c ts) (tw : Int) : St2 w (W.setCell ⟨w.heap.size, 0, none⟩ (.int .i64 tw)) tw A n c ts := by
  refine ⟨?_, h.x3.setNow tw, ⟨fun i hi => (h.o.o i hi).far (fun j hj => by
    rintro rfl
    exact h.x3.ne (h.o.o i hi) hj.symm) _, h.o.ne⟩, h.bw.setCell (by simp) _⟩
  rw [Below.heap_setCell _ _ _ _ (by simp)]
  exact h.x2
/-- a slot emptied in part by a call that turns the row and the list of ints -/
theorem St2.turn {w W w' : World} {mw : Int} {A : Nat → Option Addr} {n c : Nat → Nat} {ts : Nat → List Tm} (h : St2 w W mw A n c ts) {k : Nat} (hk : k < 8) {fb base m : Nat} {us : List Tm}
    (hT : TurnR fb base (Value.slice (A k) (n k) (c k)).ownBlock W w') (hv : OwE tenc 2 34 w' w.heap.size (.slice (A k) m (c k)) us) (hf : w.heap.size + 1 < fb) (hfx : ∃ cs, W.heap[fb]? = some (.cells cs 37 (0, 0))) (hb : w.heap.size ≤ base) :
    St2 w (w'.setCell ⟨w.heap.size, 1 + k, none⟩ (.slice (A k) m (c k))) mw A (upd n k m) c (upd ts k us) := by
  have hok := h.o.o k hk
  have y3 := hT.boxW h.x3 (by omega) (h.x3.ne hok)
  have y2 : w'.heap[w.heap.size + 1]? = some (.cells #[.int .i64 0, .slice none 0 0, .slice none 0 0, .slice none 0 0, .slice none 0 0, .slice none 0 0, .slice none 0 0, .slice none 0 0, .slice none 0 0] 25 (0, 0)) := hT.box h.x2 (by decide) (by omega) (fun he => by
    obtain ⟨cu, hcu⟩ := hok.typed _ he.symm
    exact blocks_ne (show (25 : TypeId) ≠ 34 by decide) h.x2 hcu rfl)
  have yw : Below w.heap.size w w' := h.bw.trans (hT.below (by omega) hb h.bw.size (fun q hq => hok.lo q hq))
  have hob : (Value.slice (A k) m (c k)).ownBlock = (Value.slice (A k) (n k) (c k)).ownBlock := by cases A k <;> rfl
  have far : ∀ {v : Value} {es : List Tm} {b0 : Nat}, OwE tenc 2 34 w' b0 v es → OwE tenc 2 34 (w'.setCell ⟨w.heap.size, 1 + k, none⟩ (.slice (A k) m (c k))) b0 v es := fun hv => hv.far (fun j hj => by
    rintro rfl
    exact y3.ne hv hj.symm) _
  refine ⟨?_, ?_, ⟨fun i hi => ?_, fun i j hi hj hij q hq => ?_⟩, yw.setCell (by simp) _⟩
  · rw [Below.heap_setCell _ _ _ _ (by simp)]
    exact y2
  · have := y3.set hk (.slice (A k) m (c k))
    refine this.congr fun i hi => ?_
    by_cases hik : i = k
    · subst hik
      simp [upd_at]
    · rw [if_neg hik, upd_ne _ _ hik]
  · by_cases hik : i = k
    · subst hik
      rw [upd_at, upd_at]
      exact far hv
    · rw [upd_ne _ _ hik, upd_ne _ _ hik]
      refine far ((h.o.o i hi).move fun q hq => ?_)
      obtain ⟨cu, hcu⟩ := (h.o.o i hi).typed q hq
      obtain ⟨cf, hcf⟩ := hfx
      rw [hT.box hcu (by decide) (blocks_ne (show (34 : TypeId) ≠ 37 by decide) hcu hcf) (fun he => h.o.ne i k hi hk hik q hq he.symm), hcu]
  · have e : ∀ i, (Value.slice (A i) (upd n k m i) (c i)).ownBlock = (Value.slice (A i) (n i) (c i)).ownBlock := fun i => by cases A i <;> rfl
    rw [e] at hq ⊢
    exact h.o.ne i j hi hj hij q hq
theorem St2.finI {w W : World} {mw : Int} {A : Nat → Option Addr} {n c : Nat → Nat} {ts : Nat → List Tm} (h : St2 w W mw A n c ts) {base : Nat} {v : Value} {es : List Int} (hv : OwE ienc 1 3 W base v es) :
    OwE ienc 1 3 (((((((((W.setCell ⟨w.heap.size + 1, 0, none⟩ (.int .i64 mw)).setCell ⟨w.heap.size + 1, 1, none⟩ (.slice (A 0) (n 0) (c 0))).setCell ⟨w.heap.size + 1, 2, none⟩ (.slice (A 1) (n 1) (c 1))).setCell ⟨w.heap.size + 1, 3, none⟩ (.slice (A 2) (n 2) (c 2))).setCell ⟨w.heap.size + 1, 4, none⟩ (.slice (A 3) (n 3) (c 3))).setCell ⟨w.heap.size + 1, 5, none⟩ (.slice (A 4) (n 4) (c 4))).setCell ⟨w.heap.size + 1, 6, none⟩ (.slice (A 5) (n 5) (c 5))).setCell ⟨w.heap.size + 1, 7, none⟩ (.slice (A 6) (n 6) (c 6))).setCell ⟨w.heap.size + 1, 8, none⟩ (.slice (A 7) (n 7) (c 7))) base v es := by
  have nb : ∀ k, v.ownBlock = some k → k ≠ w.heap.size + 1 := by
    intro k hk
    obtain ⟨cur, hcur⟩ := hv.typed k hk
    exact blocks_ne (show (3 : TypeId) ≠ 25 by decide) hcur h.x2
  exact (((((((((hv.far nb _).far nb _).far nb _).far nb _).far nb _).far nb _).far nb _).far nb _).far nb _)

/-- a wheel, who is due (in memory of its own), and an error are told -/
def TickPostO (w : World) (nw : Int) (ts : Nat → List Tm) (fs : List Int) (er : Nat) (e : Ending) (w' : World) : Prop :=
  ∃ A n c F fn fc, e = .returned (.tuple #[.agg #[.int .i64 nw, .slice (A 0) (n 0) (c 0), .slice (A 1) (n 1) (c 1), .slice (A 2) (n 2) (c 2), .slice (A 3) (n 3) (c 3), .slice (A 4) (n 4) (c 4), .slice (A 5) (n 5) (c 5), .slice (A 6) (n 6) (c 6), .slice (A 7) (n 7) (c 7)], .slice F fn fc, .int .i64 (er : Int)]) ∧ WhO w' w.heap.size A n c ts ∧ OwE ienc 1 3 w' w.heap.size (.slice F fn fc) fs ∧ Below w.heap.size w w'

set_option maxHeartbeats 16000000 in
theorem tickO_any (w : World) (nw : Int) (A0 : Nat → Option Addr) (n0 c0 : Nat → Nat) (ts : Nat → List Tm) (hr : WhR w A0 n0 c0 ts) (ht : tot n0 8 ≤ 1000) (hwf : ∀ i, i < 8 → ∀ t ∈ ts i, t.id ≤ 9223372036854775807) :
    Calls Try.prog 11 #[.agg #[.int .i64 nw, .slice (A0 0) (n0 0) (c0 0), .slice (A0 1) (n0 1) (c0 1), .slice (A0 2) (n0 2) (c0 2), .slice (A0 3) (n0 3) (c0 3), .slice (A0 4) (n0 4) (c0 4), .slice (A0 5) (n0 5) (c0 5), .slice (A0 6) (n0 6) (c0 6), .slice (A0 7) (n0 7) (c0 7)]] w (TickPostO w (tickN nw ts) (tickT nw ts) (tickF nw ts) (tickE nw ts)) := by
  have hln := hr.len
  have hal1 : Below w.heap.size w (w.alloc (.cells #[.int .i64 nw, .slice (A0 0) (n0 0) (c0 0), .slice (A0 1) (n0 1) (c0 1), .slice (A0 2) (n0 2) (c0 2), .slice (A0 3) (n0 3) (c0 3), .slice (A0 4) (n0 4) (c0 4), .slice (A0 5) (n0 5) (c0 5), .slice (A0 6) (n0 6) (c0 6), .slice (A0 7) (n0 7) (c0 7)] 25)) := (Below.refl _ _).alloc (Nat.le_refl _) _
  have hb1 := BoxW.alloc w nw (fun i => .slice (A0 i) (n0 i) (c0 i))
  generalize hV1 : w.alloc (.cells #[.int .i64 nw, .slice (A0 0) (n0 0) (c0 0), .slice (A0 1) (n0 1) (c0 1), .slice (A0 2) (n0 2) (c0 2), .slice (A0 3) (n0 3) (c0 3), .slice (A0 4) (n0 4) (c0 4), .slice (A0 5) (n0 5) (c0 5), .slice (A0 6) (n0 6) (c0 6), .slice (A0 7) (n0 7) (c0 7)] 25) = V1 at hal1 hb1
  have s1 : V1.heap.size = w.heap.size + 1 := by rw [← hV1]; simp
  have hal2 : Below V1.heap.size V1 (V1.alloc (.cells #[.int .i64 0, .slice none 0 0, .slice none 0 0, .slice none 0 0, .slice none 0 0, .slice none 0 0, .slice none 0 0, .slice none 0 0, .slice none 0 0] 25)) := (Below.refl _ _).alloc (Nat.le_refl _) _
  have s2 : (V1.alloc (.cells #[.int .i64 0, .slice none 0 0, .slice none 0 0, .slice none 0 0, .slice none 0 0, .slice none 0 0, .slice none 0 0, .slice none 0 0, .slice none 0 0] 25)).heap.size = w.heap.size + 2 := by simp [s1]
  have x2 := heap_alloc_new V1 (.cells #[.int .i64 0, .slice none 0 0, .slice none 0 0, .slice none 0 0, .slice none 0 0, .slice none 0 0, .slice none 0 0, .slice none 0 0, .slice none 0 0] 25)
  rw [s1] at x2
  have HW := Lib.hid (hal1.trans (hal2.mono hal1.size))
  have HBX := Lib.hid (hb1.below hal2)
  have HX2 := Lib.hid x2
  have HSZ := Lib.hid s2
  have HR0 := Lib.hid hr
  have hl1000 : ∀ i, i < 8 → n0 i ≤ 1000 := fun i hi => by
    have : tot n0 i + n0 i ≤ tot n0 8 := tot_mono n0 (show i + 1 ≤ 8 by omega)
    omega
  clear hal1 hb1 hal2 x2 hr s1 s2
  rw [← hV1] at HW HBX HX2 HSZ
  clear hV1
  go_enter Try.func11, Try.ntmps11
  go_upto_region 1 with fail
  generalize ((w.alloc (.cells #[.int .i64 nw, .slice (A0 0) (n0 0) (c0 0), .slice (A0 1) (n0 1) (c0 1), .slice (A0 2) (n0 2) (c0 2), .slice (A0 3) (n0 3) (c0 3), .slice (A0 4) (n0 4) (c0 4), .slice (A0 5) (n0 5) (c0 5), .slice (A0 6) (n0 6) (c0 6), .slice (A0 7) (n0 7) (c0 7)] 25)).alloc (.cells #[.int .i64 0, .slice none 0 0, .slice none 0 0, .slice none 0 0, .slice none 0 0, .slice none 0 0, .slice none 0 0, .slice none 0 0, .slice none 0 0] 25)) = V at *
  have z0 : V.cell? ⟨w.heap.size, 0, none⟩ = some (.int .i64 nw) := HBX.out.now
  have z1 : V.cell? ⟨w.heap.size, 1, none⟩ = some (.slice (A0 0) (n0 0) (c0 0)) := HBX.out.slot (show 0 < 8 by omega)
  have z2 : V.cell? ⟨w.heap.size, 2, none⟩ = some (.slice (A0 1) (n0 1) (c0 1)) := HBX.out.slot (show 1 < 8 by omega)
  have z3 : V.cell? ⟨w.heap.size, 3, none⟩ = some (.slice (A0 2) (n0 2) (c0 2)) := HBX.out.slot (show 2 < 8 by omega)
  have z4 : V.cell? ⟨w.heap.size, 4, none⟩ = some (.slice (A0 3) (n0 3) (c0 3)) := HBX.out.slot (show 3 < 8 by omega)
  have z5 : V.cell? ⟨w.heap.size, 5, none⟩ = some (.slice (A0 4) (n0 4) (c0 4)) := HBX.out.slot (show 4 < 8 by omega)
  have z6 : V.cell? ⟨w.heap.size, 6, none⟩ = some (.slice (A0 5) (n0 5) (c0 5)) := HBX.out.slot (show 5 < 8 by omega)
  have z7 : V.cell? ⟨w.heap.size, 7, none⟩ = some (.slice (A0 6) (n0 6) (c0 6)) := HBX.out.slot (show 6 < 8 by omega)
  have z8 : V.cell? ⟨w.heap.size, 8, none⟩ = some (.slice (A0 7) (n0 7) (c0 7)) := HBX.out.slot (show 7 < 8 by omega)
  have zf := HBX.out.free
  go_upto_region 2 with (go_at_call 21; refine (own_any V nw A0 n0 c0 ts (HR0.out.below HW.out) hl1000).mono ?_; rintro e w2 ⟨A, n, c, rfl, hO2, hb2⟩; have HB2 := Lib.hid (HBX.out.below hb2); clear z0 z1 z2 z3 z4 z5 z6 z7 z8 zf; have z0 := HB2.out.now; have z1 := HB2.out.slot (show 0 < 8 by omega); have z2 := HB2.out.slot (show 1 < 8 by omega); have z3 := HB2.out.slot (show 2 < 8 by omega); have z4 := HB2.out.slot (show 3 < 8 by omega); have z5 := HB2.out.slot (show 4 < 8 by omega); have z6 := HB2.out.slot (show 5 < 8 by omega); have z7 := HB2.out.slot (show 6 < 8 by omega); have z8 := HB2.out.slot (show 7 < 8 by omega); have zf := HB2.out.free)
  clear z0 z1 z2 z3 z4 z5 z6 z7 z8 zf
  have HS := Lib.hid (St2.start HB2.out (keep hb2 HX2.out) (hO2.lower HW.out.size) (HW.out.trans (hb2.mono HW.out.size)))
  clear hO2 hb2 HB2 HBX HX2 HW HSZ
  generalize (((((((((w2.setCell ⟨w.heap.size, 0, none⟩ (.int .i64 nw)).setCell ⟨w.heap.size, 1, none⟩ (.slice (A 0) (n 0) (c 0))).setCell ⟨w.heap.size, 2, none⟩ (.slice (A 1) (n 1) (c 1))).setCell ⟨w.heap.size, 3, none⟩ (.slice (A 2) (n 2) (c 2))).setCell ⟨w.heap.size, 4, none⟩ (.slice (A 3) (n 3) (c 3))).setCell ⟨w.heap.size, 5, none⟩ (.slice (A 4) (n 4) (c 4))).setCell ⟨w.heap.size, 6, none⟩ (.slice (A 5) (n 5) (c 5))).setCell ⟨w.heap.size, 7, none⟩ (.slice (A 6) (n 6) (c 6))).setCell ⟨w.heap.size, 8, none⟩ (.slice (A 7) (n 7) (c 7))) = U at *
  have hlA : ∀ i, i < 8 → n i = n0 i := fun i hi => by
    have h1 := (HS.out.o.o i hi).rd.len
    have h2 := hln i hi
    omega
  have htot : ∀ k, k ≤ 8 → tot n k = tot n0 k := by
    intro k hk
    induction k with
    | zero => rfl
    | succ k ih => simp only [tot]; rw [ih (by omega), hlA k (by omega)]
  have hts : tot n 8 ≤ 1000 := by rw [htot 8 (Nat.le_refl _)]; exact ht
  clear hlA htot hln
  obtain ⟨rb, hrb⟩ : ∃ b, rightB nw ts = b := ⟨_, rfl⟩
  have HRB := Lib.hid hrb
  clear hrb
  have ARM := Lib.hid (right_any U nw A n c ts HS.out.o.rd (by omega) hwf)
  have HS3 := HS
  have z0 : U.cell? ⟨w.heap.size, 0, none⟩ = some (.int .i64 nw) := HS.out.x3.now
  have z1 : U.cell? ⟨w.heap.size, 1, none⟩ = some (.slice (A 0) (n 0) (c 0)) := HS.out.x3.slot (show 0 < 8 by omega)
  have z2 : U.cell? ⟨w.heap.size, 2, none⟩ = some (.slice (A 1) (n 1) (c 1)) := HS.out.x3.slot (show 1 < 8 by omega)
  have z3 : U.cell? ⟨w.heap.size, 3, none⟩ = some (.slice (A 2) (n 2) (c 2)) := HS.out.x3.slot (show 2 < 8 by omega)
  have z4 : U.cell? ⟨w.heap.size, 4, none⟩ = some (.slice (A 3) (n 3) (c 3)) := HS.out.x3.slot (show 3 < 8 by omega)
  have z5 : U.cell? ⟨w.heap.size, 5, none⟩ = some (.slice (A 4) (n 4) (c 4)) := HS.out.x3.slot (show 4 < 8 by omega)
  have z6 : U.cell? ⟨w.heap.size, 6, none⟩ = some (.slice (A 5) (n 5) (c 5)) := HS.out.x3.slot (show 5 < 8 by omega)
  have z7 : U.cell? ⟨w.heap.size, 7, none⟩ = some (.slice (A 6) (n 6) (c 6)) := HS.out.x3.slot (show 6 < 8 by omega)
  have z8 : U.cell? ⟨w.heap.size, 8, none⟩ = some (.slice (A 7) (n 7) (c 7)) := HS.out.x3.slot (show 7 < 8 by omega)
  cases rb with
  | false =>
    have HE := Lib.hid (tick_arg (nw := nw) (ts := ts) (fun h => by have := rightB_yes h; rw [HRB.out] at this; cases this))
    go_upto_region 3 with (go_at_call 14; refine ARM.out.mono ?_; rw [HRB.out]; rintro e w4 ⟨rfl, hb4⟩; have HS := Lib.hid (HS3.out.below hb4); have zn : w4.cell? ⟨w.heap.size, 0, none⟩ = some (.int .i64 nw) := HS.out.x3.now; clear hb4 z0 z1 z2 z3 z4 z5 z6 z7 z8)
    have z0 : w4.cell? ⟨w.heap.size, 0, none⟩ = some (.int .i64 nw) := HS.out.x3.now
    have z1 : w4.cell? ⟨w.heap.size, 1, none⟩ = some (.slice (A 0) (n 0) (c 0)) := HS.out.x3.slot (show 0 < 8 by omega)
    have z2 : w4.cell? ⟨w.heap.size, 2, none⟩ = some (.slice (A 1) (n 1) (c 1)) := HS.out.x3.slot (show 1 < 8 by omega)
    have z3 : w4.cell? ⟨w.heap.size, 3, none⟩ = some (.slice (A 2) (n 2) (c 2)) := HS.out.x3.slot (show 2 < 8 by omega)
    have z4 : w4.cell? ⟨w.heap.size, 4, none⟩ = some (.slice (A 3) (n 3) (c 3)) := HS.out.x3.slot (show 3 < 8 by omega)
    have z5 : w4.cell? ⟨w.heap.size, 5, none⟩ = some (.slice (A 4) (n 4) (c 4)) := HS.out.x3.slot (show 4 < 8 by omega)
    have z6 : w4.cell? ⟨w.heap.size, 6, none⟩ = some (.slice (A 5) (n 5) (c 5)) := HS.out.x3.slot (show 5 < 8 by omega)
    have z7 : w4.cell? ⟨w.heap.size, 7, none⟩ = some (.slice (A 6) (n 6) (c 6)) := HS.out.x3.slot (show 6 < 8 by omega)
    have z8 : w4.cell? ⟨w.heap.size, 8, none⟩ = some (.slice (A 7) (n 7) (c 7)) := HS.out.x3.slot (show 7 < 8 by omega)
    have r0 := box_at HS.out.x2 0 _ rfl
    have r1 := box_at HS.out.x2 1 _ rfl
    have r2 := box_at HS.out.x2 2 _ rfl
    have r3 := box_at HS.out.x2 3 _ rfl
    have r4 := box_at HS.out.x2 4 _ rfl
    have r5 := box_at HS.out.x2 5 _ rfl
    have r6 := box_at HS.out.x2 6 _ rfl
    have r7 := box_at HS.out.x2 7 _ rfl
    have r8 := box_at HS.out.x2 8 _ rfl
    have rf := box_free HS.out.x2
    go_wp2_with fail
    refine bodyPost_ret (v := .tuple #[.agg #[.int .i64 nw, .slice (A 0) (n 0) (c 0), .slice (A 1) (n 1) (c 1), .slice (A 2) (n 2) (c 2), .slice (A 3) (n 3) (c 3), .slice (A 4) (n 4) (c 4), .slice (A 5) (n 5) (c 5), .slice (A 6) (n 6) (c 6), .slice (A 7) (n 7) (c 7)], .slice none 0 0, .int .i64 1]) (by simp [results, Try.results11, go_sem, r0, r1, r2, r3, r4, r5, r6, r7, r8]) rfl ?_
    obtain ⟨he1, he2, he3, he4⟩ := HE.out
    rw [he1, he2, he3, he4]
    exact ⟨A, n, c, none, 0, 0, rfl, HS.out.fin.1, OwE.nil iencL _ _ _, HS.out.fin.2⟩
  | true =>
    have HRW := Lib.hid (rightB_iff.1 HRB.out)
    by_cases hmax : nw = 9007199254740992
    · have HE := Lib.hid (tick_big HRW.out hmax)
      have hmx : (nw == (9007199254740992 : Int)) = true := by simp [hmax]
      clear hmax
      go_upto_region 5 with (go_at_call 14; refine ARM.out.mono ?_; rw [HRB.out]; rintro e w4 ⟨rfl, hb4⟩; have HS := Lib.hid (HS3.out.below hb4); have zn : w4.cell? ⟨w.heap.size, 0, none⟩ = some (.int .i64 nw) := HS.out.x3.now; clear hb4 z0 z1 z2 z3 z4 z5 z6 z7 z8)
      have z0 : w4.cell? ⟨w.heap.size, 0, none⟩ = some (.int .i64 nw) := HS.out.x3.now
      have z1 : w4.cell? ⟨w.heap.size, 1, none⟩ = some (.slice (A 0) (n 0) (c 0)) := HS.out.x3.slot (show 0 < 8 by omega)
      have z2 : w4.cell? ⟨w.heap.size, 2, none⟩ = some (.slice (A 1) (n 1) (c 1)) := HS.out.x3.slot (show 1 < 8 by omega)
      have z3 : w4.cell? ⟨w.heap.size, 3, none⟩ = some (.slice (A 2) (n 2) (c 2)) := HS.out.x3.slot (show 2 < 8 by omega)
      have z4 : w4.cell? ⟨w.heap.size, 4, none⟩ = some (.slice (A 3) (n 3) (c 3)) := HS.out.x3.slot (show 3 < 8 by omega)
      have z5 : w4.cell? ⟨w.heap.size, 5, none⟩ = some (.slice (A 4) (n 4) (c 4)) := HS.out.x3.slot (show 4 < 8 by omega)
      have z6 : w4.cell? ⟨w.heap.size, 6, none⟩ = some (.slice (A 5) (n 5) (c 5)) := HS.out.x3.slot (show 5 < 8 by omega)
      have z7 : w4.cell? ⟨w.heap.size, 7, none⟩ = some (.slice (A 6) (n 6) (c 6)) := HS.out.x3.slot (show 6 < 8 by omega)
      have z8 : w4.cell? ⟨w.heap.size, 8, none⟩ = some (.slice (A 7) (n 7) (c 7)) := HS.out.x3.slot (show 7 < 8 by omega)
      have r0 := box_at HS.out.x2 0 _ rfl
      have r1 := box_at HS.out.x2 1 _ rfl
      have r2 := box_at HS.out.x2 2 _ rfl
      have r3 := box_at HS.out.x2 3 _ rfl
      have r4 := box_at HS.out.x2 4 _ rfl
      have r5 := box_at HS.out.x2 5 _ rfl
      have r6 := box_at HS.out.x2 6 _ rfl
      have r7 := box_at HS.out.x2 7 _ rfl
      have r8 := box_at HS.out.x2 8 _ rfl
      have rf := box_free HS.out.x2
      go_wp2_with fail
      refine bodyPost_ret (v := .tuple #[.agg #[.int .i64 nw, .slice (A 0) (n 0) (c 0), .slice (A 1) (n 1) (c 1), .slice (A 2) (n 2) (c 2), .slice (A 3) (n 3) (c 3), .slice (A 4) (n 4) (c 4), .slice (A 5) (n 5) (c 5), .slice (A 6) (n 6) (c 6), .slice (A 7) (n 7) (c 7)], .slice none 0 0, .int .i64 3]) (by simp [results, Try.results11, go_sem, r0, r1, r2, r3, r4, r5, r6, r7, r8]) rfl ?_
      obtain ⟨he1, he2, he3, he4⟩ := HE.out
      rw [he1, he2, he3, he4]
      exact ⟨A, n, c, none, 0, 0, rfl, HS.out.fin.1, OwE.nil iencL _ _ _, HS.out.fin.2⟩
    have hmx : (nw == (9007199254740992 : Int)) = false := by simp [hmax]
    have hn0 : 0 ≤ nw := HRW.out.1.1
    have hn1 : nw ≤ 9007199254740992 := HRW.out.1.2
    obtain ⟨k, hk⟩ : ∃ k, (nw + 1).toNat % 8 = k := ⟨_, rfl⟩
    have HE := Lib.hid (tick_ok HRW.out hmax hk)
    have hq : (nw + 1) % 8 = (k : Int) := by omega
    have hk8 : k < 8 := by omega
    have hk8' : (k : Int) < 8 := by omega
    have hwn : IntKind.i64.wrap (nw + 1) = nw + 1 := by rw [IntKind.wrap_i64]; omega
    have h0n : 0 ≤ nw + 1 := by omega
    clear hk hmax
    go_upto_region 6 with (go_at_call 14; refine ARM.out.mono ?_; rw [HRB.out]; rintro e w4 ⟨rfl, hb4⟩; have HS := Lib.hid (HS3.out.below hb4); have zn : w4.cell? ⟨w.heap.size, 0, none⟩ = some (.int .i64 nw) := HS.out.x3.now; clear hb4 z0 z1 z2 z3 z4 z5 z6 z7 z8)
    clear HS3 ARM HRB zn
    have y0 := HS.out.x3.now
    have yf := HS.out.x3.free
    go_upto_region 7 with fail
    clear y0 yf
    replace HS := Lib.hid (HS.out.time (nw + 1))
    generalize w4.setCell ⟨w.heap.size, 0, none⟩ (.int .i64 (nw + 1)) = W5 at *
    go_upto_region 8 with fail
    have hal : Below W5.heap.size W5 (W5.alloc (.cells #[.slice none 0 0] 37)) := (Below.refl _ _).alloc (Nat.le_refl _) _
    have hfx := heap_alloc_new W5 (.cells #[.slice none 0 0] 37)
    have h5 : w.heap.size + 1 < W5.heap.size := (Array.getElem?_eq_some_iff.1 HS.out.x2).1
    replace HS := Lib.hid (HS.out.below hal)
    have HFX := Lib.hid hfx
    clear hal hfx
    generalize W5.alloc (.cells #[.slice none 0 0] 37) = W6 at *
    generalize W5.heap.size = fb at *
    have y0 := HS.out.x3.now
    have yk := HS.out.x3.slot hk8
    have yf := HS.out.x3.free
    go_upto_region 9 with fail
    simp only [hq]
    clear hq y0
    have hnk : tot n k + n k ≤ tot n 8 := tot_mono n (show k + 1 ≤ 8 by omega)
    have hbf : w.heap.size ≠ fb := by omega
    have HDEL := Lib.hid (deleteTick_any W6 w.heap.size fb w.heap.size w.heap.size (nw + 1) _ (A k) (n k) (c k) (ts k) (HS.out.o.o k hk8) HS.out.x3 ⟨none, 0, 0, HFX.out, OwE.nil iencL _ _ _⟩ (by omega) HS.out.bw.size hbf)
    go_upto_region 10 with (go_at_call 22; refine HDEL.out.mono ?_; rintro e w7 ⟨m7, rfl, hO7, hF7, hT7⟩; have HO7 := Lib.hid hO7; have HF7 := Lib.hid hF7; have HT7 := Lib.hid hT7; have yk7 := (hT7.boxW HS.out.x3 hbf (HS.out.x3.ne (HS.out.o.o k hk8))).slot hk8; have yf7 := (hT7.boxW HS.out.x3 hbf (HS.out.x3.ne (HS.out.o.o k hk8))).free; clear hO7 hF7 hT7 yk yf)
    have HS9 := Lib.hid (HS.out.turn hk8 HT7.out HO7.out h5 ⟨_, HFX.out⟩ (Nat.le_refl _))
    obtain ⟨F, fn, fc, hfx7, hF9⟩ := HF7.out
    have hx37 := HT7.out.boxW HS.out.x3 hbf (HS.out.x3.ne (HS.out.o.o k hk8))
    have hfx9 : (w7.setCell ⟨w.heap.size, 1 + k, none⟩ (.slice (A k) m7 (c k))).heap[fb]? = some (.cells #[.slice F fn fc] 37 (0, 0)) := by
      rw [Below.heap_setCell _ _ _ _ (by simp; omega)]
      exact hfx7
    have hF10 : OwE ienc 1 3 (w7.setCell ⟨w.heap.size, 1 + k, none⟩ (.slice (A k) m7 (c k))) w.heap.size (.slice F fn fc) (((ts k).filter (fun t => t.at' == nw + 1)).map Tm.id) := hF9.far (fun q hq' => by
      rintro rfl
      exact hx37.neI hF9 hq'.symm) _
    replace HS := HS9
    have HFF := Lib.hid hF10
    clear HS9 HT7 HO7 HF7 HDEL HFX yk7 yf7 hfx7 hF9 hF10 hx37
    generalize w7.setCell ⟨w.heap.size, 1 + k, none⟩ (.slice (A k) m7 (c k)) = W9 at *
    generalize upd n k m7 = n9 at *
    have hd : Below W9.heap.size W9 W9.drew := below_drew (Below.refl _ _)
    have q0 := box_at hfx9 0 _ rfl
    have z0 : W9.cell? ⟨w.heap.size, 0, none⟩ = some (.int .i64 (nw + 1)) := HS.out.x3.now
    have z1 : W9.cell? ⟨w.heap.size, 1, none⟩ = some (.slice (A 0) (n9 0) (c 0)) := HS.out.x3.slot (show 0 < 8 by omega)
    have z2 : W9.cell? ⟨w.heap.size, 2, none⟩ = some (.slice (A 1) (n9 1) (c 1)) := HS.out.x3.slot (show 1 < 8 by omega)
    have z3 : W9.cell? ⟨w.heap.size, 3, none⟩ = some (.slice (A 2) (n9 2) (c 2)) := HS.out.x3.slot (show 2 < 8 by omega)
    have z4 : W9.cell? ⟨w.heap.size, 4, none⟩ = some (.slice (A 3) (n9 3) (c 3)) := HS.out.x3.slot (show 3 < 8 by omega)
    have z5 : W9.cell? ⟨w.heap.size, 5, none⟩ = some (.slice (A 4) (n9 4) (c 4)) := HS.out.x3.slot (show 4 < 8 by omega)
    have z6 : W9.cell? ⟨w.heap.size, 6, none⟩ = some (.slice (A 5) (n9 5) (c 5)) := HS.out.x3.slot (show 5 < 8 by omega)
    have z7 : W9.cell? ⟨w.heap.size, 7, none⟩ = some (.slice (A 6) (n9 6) (c 6)) := HS.out.x3.slot (show 6 < 8 by omega)
    have z8 : W9.cell? ⟨w.heap.size, 8, none⟩ = some (.slice (A 7) (n9 7) (c 7)) := HS.out.x3.slot (show 7 < 8 by omega)
    have r0 := box_at HS.out.x2 0 _ rfl
    have r1 := box_at HS.out.x2 1 _ rfl
    have r2 := box_at HS.out.x2 2 _ rfl
    have r3 := box_at HS.out.x2 3 _ rfl
    have r4 := box_at HS.out.x2 4 _ rfl
    have r5 := box_at HS.out.x2 5 _ rfl
    have r6 := box_at HS.out.x2 6 _ rfl
    have r7 := box_at HS.out.x2 7 _ rfl
    have r8 := box_at HS.out.x2 8 _ rfl
    have rf := box_free HS.out.x2
    clear hd
    go_region
    go_wp2_with fail
    refine bodyPost_ret (v := .tuple #[.agg #[.int .i64 (nw + 1), .slice (A 0) (n9 0) (c 0), .slice (A 1) (n9 1) (c 1), .slice (A 2) (n9 2) (c 2), .slice (A 3) (n9 3) (c 3), .slice (A 4) (n9 4) (c 4), .slice (A 5) (n9 5) (c 5), .slice (A 6) (n9 6) (c 6), .slice (A 7) (n9 7) (c 7)], .slice F fn fc, .int .i64 0]) (by simp [results, Try.results11, go_sem, r0, r1, r2, r3, r4, r5, r6, r7, r8]) rfl ?_
    obtain ⟨he1, he2, he3, he4⟩ := HE.out
    rw [he1, he2, he3, he4]
    have hfin := HS.out.fin
    exact ⟨A, n9, c, F, fn, fc, rfl, hfin.1.below (below_drew (Below.refl _ _)), (HS.out.finI HFF.out).below (below_drew (Below.refl _ _)), below_drew hfin.2⟩
theorem tick_any (w : World) (nw : Int) (A0 : Nat → Option Addr) (n0 c0 : Nat → Nat) (ts : Nat → List Tm) (hr : WhR w A0 n0 c0 ts) (ht : tot n0 8 ≤ 1000) (hwf : ∀ i, i < 8 → ∀ t ∈ ts i, t.id ≤ 9223372036854775807) :
    Calls Try.prog 11 #[.agg #[.int .i64 nw, .slice (A0 0) (n0 0) (c0 0), .slice (A0 1) (n0 1) (c0 1), .slice (A0 2) (n0 2) (c0 2), .slice (A0 3) (n0 3) (c0 3), .slice (A0 4) (n0 4) (c0 4), .slice (A0 5) (n0 5) (c0 5), .slice (A0 6) (n0 6) (c0 6), .slice (A0 7) (n0 7) (c0 7)]] w (TickPost w (tickN nw ts) (tickT nw ts) (tickF nw ts) (tickE nw ts)) :=
  (tickO_any w nw A0 n0 c0 ts hr ht hwf).mono fun _ _ ⟨A, n, c, F, fn, fc, h1, h2, h3, h4⟩ => ⟨A, n, c, F, fn, fc, h1, h2, h3.rd, h4⟩
end Go.Proofs.Ytnlgmfkgpaampaa
