/- lockageref04.Tick. -/
import Derived.Test.YtnlgmfkgpaampaaR
import Derived.Deep.QuietTactic
import Derived.BigQuiet
set_option linter.unusedVariables false
set_option linter.unusedSimpArgs false
namespace Go.Proofs.Ytnlgmfkgpaampaa
open Go.RowKit
open Go.Proofs.YtnlgmfkgpaampaaW.PrintWords

def ienc (z : Int) : List Value := [.int .i64 z]
theorem iencL : ∀ z, (ienc z).length = 1 := fun _ => rfl
theorem ienc1 : ∀ z, ∀ u ∈ ienc z, u.oneCell' = true := by
  intro z u hu
  simp [ienc] at hu
  subst hu
  rfl
theorem Try.info3 : (Try.prog.info? 3).map (fun i => (i.zero, i.size, i.bytes)) = some (some (.int .i64 0), 1, 8) := by kernel_rfl
def due (nw : Int) (t : Tm) : Bool := t.at' == nw + 1
noncomputable def tickE (nw : Int) (ts : Nat → List Tm) : Nat := by
  classical exact if ¬ RightW nw ts then 1 else if nw = 9007199254740992 then 3 else 0
noncomputable def tickN (nw : Int) (ts : Nat → List Tm) : Int := if tickE nw ts = 0 then nw + 1 else nw
noncomputable def tickT (nw : Int) (ts : Nat → List Tm) : Nat → List Tm := if tickE nw ts = 0 then upd ts ((nw + 1).toNat % 8) ((ts ((nw + 1).toNat % 8)).filter (fun t => !due nw t)) else ts
noncomputable def tickF (nw : Int) (ts : Nat → List Tm) : List Int := if tickE nw ts = 0 then ((ts ((nw + 1).toNat % 8)).filter (due nw)).map Tm.id else []
theorem tick_arg {nw : Int} {ts : Nat → List Tm} (h : ¬ RightW nw ts) : tickE nw ts = 1 ∧ tickN nw ts = nw ∧ tickT nw ts = ts ∧ tickF nw ts = [] := by
  have h1 : tickE nw ts = 1 := by unfold tickE; rw [if_pos h]
  refine ⟨h1, ?_, ?_, ?_⟩
  · unfold tickN; rw [if_neg (by omega)]
  · unfold tickT; rw [if_neg (by omega)]
  · unfold tickF; rw [if_neg (by omega)]
theorem tick_big {nw : Int} {ts : Nat → List Tm} (h : RightW nw ts) (h2 : nw = 9007199254740992) : tickE nw ts = 3 ∧ tickN nw ts = nw ∧ tickT nw ts = ts ∧ tickF nw ts = [] := by
  have h1 : tickE nw ts = 3 := by unfold tickE; rw [if_neg (by simpa using h), if_pos h2]
  refine ⟨h1, ?_, ?_, ?_⟩
  · unfold tickN; rw [if_neg (by omega)]
  · unfold tickT; rw [if_neg (by omega)]
  · unfold tickF; rw [if_neg (by omega)]
theorem tick_ok {nw : Int} {ts : Nat → List Tm} {k : Nat} (h : RightW nw ts) (h2 : ¬ nw = 9007199254740992) (hk : (nw + 1).toNat % 8 = k) : tickE nw ts = 0 ∧ tickN nw ts = nw + 1 ∧ tickT nw ts = upd ts k ((ts k).filter (fun t => !due nw t)) ∧ tickF nw ts = ((ts k).filter (due nw)).map Tm.id := by
  have h1 : tickE nw ts = 0 := by unfold tickE; rw [if_neg (by simpa using h), if_neg h2]
  refine ⟨h1, ?_, ?_, ?_⟩
  · unfold tickN; rw [if_pos h1]
  · unfold tickT; rw [if_pos h1, hk]
  · unfold tickF; rw [if_pos h1, hk]
/-- a wheel, who is due, and an error are told -/
def TickPost (w : World) (nw : Int) (ts : Nat → List Tm) (fs : List Int) (er : Nat) (e : Ending) (w' : World) : Prop :=
  ∃ A n c F fn fc, e = .returned (.tuple #[.agg #[.int .i64 nw, .slice (A 0) (n 0) (c 0), .slice (A 1) (n 1) (c 1), .slice (A 2) (n 2) (c 2), .slice (A 3) (n 3) (c 3), .slice (A 4) (n 4) (c 4), .slice (A 5) (n 5) (c 5), .slice (A 6) (n 6) (c 6), .slice (A 7) (n 7) (c 7)], .slice F fn fc, .int .i64 (er : Int)]) ∧ WhO w' w.heap.size A n c ts ∧ RdE ienc 1 w' (.slice F fn fc) fs ∧ Below w.heap.size w w'
/-- a block of another type, or another row, grown -/
theorem St.grown {w W w5 : World} {b3 : Nat} {nw mw : Int} {S0 : Nat → Value} {A : Nat → Option Addr} {n c : Nat → Nat} {ts : Nat → List Tm} (h : St w W b3 nw S0 mw A n c ts) {row : Option Nat} (hg : W.grownBy w5 row)
    (h1 : some w.heap.size ≠ row) (h2 : some (w.heap.size + 1) ≠ row) (h3 : some b3 ≠ row) (ho : ∀ i, i < 8 → ∀ k, (Value.slice (A i) (n i) (c i)).ownBlock = some k → some k ≠ row) (hr : ∀ k, row = some k → w.heap.size ≤ k) :
    St w w5 b3 nw S0 mw A n c ts :=
  ⟨h.x1.grown hg h1, by rw [hg.block _ (Array.getElem?_eq_some_iff.1 h.x2).1 h2]; exact h.x2, h.x3.grown hg h3, ⟨fun i hi => (h.o.o i hi).grown hg (ho i hi), h.o.ne⟩, h.bw.grown hg h.bw.size hr, h.l⟩
/-- a slot stored into -/
theorem St.slot {w W : World} {b3 : Nat} {nw mw : Int} {S0 : Nat → Value} {A : Nat → Option Addr} {n c : Nat → Nat} {ts : Nat → List Tm} (h : St w W b3 nw S0 mw A n c ts) {k : Nat} (hk : k < 8) {B : Option Addr} {m d : Nat} {us : List Tm}
    (hv : OwE tenc 2 34 W w.heap.size (.slice B m d) us) (hne : ∀ i, i < 8 → i ≠ k → ∀ q, (Value.slice (A i) (n i) (c i)).ownBlock = some q → (Value.slice B m d).ownBlock ≠ some q) :
    St w (W.setCell ⟨b3, 1 + k, none⟩ (.slice B m d)) b3 nw S0 mw (upd A k B) (upd n k m) (upd c k d) (upd ts k us) := by
  have hl := h.l
  have far : ∀ {v : Value} {es : List Tm} {base : Nat}, OwE tenc 2 34 W base v es → OwE tenc 2 34 (W.setCell ⟨b3, 1 + k, none⟩ (.slice B m d)) base v es := fun hv => hv.far (fun j hj => by
    rintro rfl
    exact h.x3.ne hv hj.symm) _
  refine ⟨h.x1.far (by simp; omega) _, ?_, ?_, ⟨fun i hi => ?_, fun i j hi hj hij q hq => ?_⟩, h.bw.setCell (by simp; omega) _, hl⟩
  · rw [Below.heap_setCell _ _ _ _ (by simp; omega)]
    exact h.x2
  · have := h.x3.set hk (.slice B m d)
    have he : (fun j => if j = k then Value.slice B m d else Value.slice (A j) (n j) (c j)) = fun i => Value.slice (upd A k B i) (upd n k m i) (upd c k d i) := by
      funext j
      by_cases hj : j = k
      · subst hj; simp [upd_at]
      · rw [if_neg hj, upd_ne _ _ hj, upd_ne _ _ hj, upd_ne _ _ hj]
    rw [he] at this
    exact this
  · by_cases hik : i = k
    · subst hik
      rw [upd_at, upd_at, upd_at, upd_at]
      exact far hv
    · rw [upd_ne _ _ hik, upd_ne _ _ hik, upd_ne _ _ hik, upd_ne _ _ hik]
      exact far (h.o.o i hi)
  · by_cases hik : i = k
    · subst hik
      have hji : j ≠ i := Ne.symm hij
      rw [upd_at, upd_at, upd_at] at hq
      rw [upd_ne _ _ hji, upd_ne _ _ hji, upd_ne _ _ hji]
      intro he
      exact hne j hj hji q he hq
    · rw [upd_ne _ _ hik, upd_ne _ _ hik, upd_ne _ _ hik] at hq
      by_cases hjk : j = k
      · subst hjk
        rw [upd_at, upd_at, upd_at]
        exact hne i hi hik q hq
      · rw [upd_ne _ _ hjk, upd_ne _ _ hjk, upd_ne _ _ hjk]
        exact h.o.ne i j hi hj hij q hq
/-- the wheel's time stored into -/
theorem St.time {w W : World} {b3 : Nat} {nw mw : Int} {S0 : Nat → Value} {A : Nat → Option Addr} {n c : Nat → Nat} {ts : Nat → List Tm} (h : St w W b3 nw S0 mw A n c ts) (tw : Int) :
    St w (W.setCell ⟨b3, 0, none⟩ (.int .i64 tw)) b3 nw S0 tw A n c ts := by
  have hl := h.l
  refine ⟨h.x1.far (by simp; omega) _, ?_, h.x3.setNow tw, ⟨fun i hi => (h.o.o i hi).far (fun j hj => by
    rintro rfl
    exact h.x3.ne (h.o.o i hi) hj.symm) _, h.o.ne⟩, h.bw.setCell (by simp; omega) _, hl⟩
  rw [Below.heap_setCell _ _ _ _ (by simp; omega)]
  exact h.x2
theorem BoxW.neI {W : World} {bx base : Nat} {nw : Int} {S : Nat → Value} {v : Value} {es : List Int} (h : BoxW W bx nw S) (hv : OwE ienc 1 3 W base v es) : some bx ≠ v.ownBlock := by
  intro he
  obtain ⟨cur, hc, _⟩ := h
  obtain ⟨cur', hc'⟩ := hv.typed bx he.symm
  exact blocks_ne (show (25 : TypeId) ≠ 3 by decide) hc hc' rfl
theorem St.finI {w W : World} {b3 : Nat} {nw mw : Int} {S0 : Nat → Value} {A : Nat → Option Addr} {n c : Nat → Nat} {ts : Nat → List Tm} (h : St w W b3 nw S0 mw A n c ts) {base : Nat} {v : Value} {es : List Int} (hv : OwE ienc 1 3 W base v es) :
    RdE ienc 1 (((((((((W.setCell ⟨w.heap.size + 1, 0, none⟩ (.int .i64 mw)).setCell ⟨w.heap.size + 1, 1, none⟩ (.slice (A 0) (n 0) (c 0))).setCell ⟨w.heap.size + 1, 2, none⟩ (.slice (A 1) (n 1) (c 1))).setCell ⟨w.heap.size + 1, 3, none⟩ (.slice (A 2) (n 2) (c 2))).setCell ⟨w.heap.size + 1, 4, none⟩ (.slice (A 3) (n 3) (c 3))).setCell ⟨w.heap.size + 1, 5, none⟩ (.slice (A 4) (n 4) (c 4))).setCell ⟨w.heap.size + 1, 6, none⟩ (.slice (A 5) (n 5) (c 5))).setCell ⟨w.heap.size + 1, 7, none⟩ (.slice (A 6) (n 6) (c 6))).setCell ⟨w.heap.size + 1, 8, none⟩ (.slice (A 7) (n 7) (c 7))) v es := by
  have nb : ∀ k, v.ownBlock = some k → k ≠ w.heap.size + 1 := by
    intro k hk
    obtain ⟨cur, hcur⟩ := hv.typed k hk
    exact blocks_ne (show (3 : TypeId) ≠ 25 by decide) hcur h.x2
  exact (((((((((hv.far nb _).far nb _).far nb _).far nb _).far nb _).far nb _).far nb _).far nb _).far nb _).rd

set_option maxHeartbeats 16000000 in
theorem rtick_any (w : World) (nw : Int) (A0 : Nat → Option Addr) (n0 c0 : Nat → Nat) (ts : Nat → List Tm) (hr : WhR w A0 n0 c0 ts) (ht : tot n0 8 ≤ 1000) :
    Calls Try.prog 17 #[.agg #[.int .i64 nw, .slice (A0 0) (n0 0) (c0 0), .slice (A0 1) (n0 1) (c0 1), .slice (A0 2) (n0 2) (c0 2), .slice (A0 3) (n0 3) (c0 3), .slice (A0 4) (n0 4) (c0 4), .slice (A0 5) (n0 5) (c0 5), .slice (A0 6) (n0 6) (c0 6), .slice (A0 7) (n0 7) (c0 7)]] w (TickPost w (tickN nw ts) (tickT nw ts) (tickF nw ts) (tickE nw ts)) := by
  have hln := hr.len
  have HLN := Lib.hid hln
  clear hln
  have hal1 : Below w.heap.size w (w.alloc (.cells #[.int .i64 nw, .slice (A0 0) (n0 0) (c0 0), .slice (A0 1) (n0 1) (c0 1), .slice (A0 2) (n0 2) (c0 2), .slice (A0 3) (n0 3) (c0 3), .slice (A0 4) (n0 4) (c0 4), .slice (A0 5) (n0 5) (c0 5), .slice (A0 6) (n0 6) (c0 6), .slice (A0 7) (n0 7) (c0 7)] 25)) := (Below.refl _ _).alloc (Nat.le_refl _) _
  have hb1 := BoxW.alloc w nw (fun i => .slice (A0 i) (n0 i) (c0 i))
  generalize hV1 : w.alloc (.cells #[.int .i64 nw, .slice (A0 0) (n0 0) (c0 0), .slice (A0 1) (n0 1) (c0 1), .slice (A0 2) (n0 2) (c0 2), .slice (A0 3) (n0 3) (c0 3), .slice (A0 4) (n0 4) (c0 4), .slice (A0 5) (n0 5) (c0 5), .slice (A0 6) (n0 6) (c0 6), .slice (A0 7) (n0 7) (c0 7)] 25) = V1 at hal1 hb1
  have s1 : V1.heap.size = w.heap.size + 1 := by rw [← hV1]; simp
  have hal2 : Below V1.heap.size V1 (V1.alloc (.cells #[.int .i64 0, .slice none 0 0, .slice none 0 0, .slice none 0 0, .slice none 0 0, .slice none 0 0, .slice none 0 0, .slice none 0 0, .slice none 0 0] 25)) := (Below.refl _ _).alloc (Nat.le_refl _) _
  have s2 : (V1.alloc (.cells #[.int .i64 0, .slice none 0 0, .slice none 0 0, .slice none 0 0, .slice none 0 0, .slice none 0 0, .slice none 0 0, .slice none 0 0, .slice none 0 0] 25)).heap.size = w.heap.size + 2 := by simp [s1]
  have x2 := heap_alloc_new V1 (.cells #[.int .i64 0, .slice none 0 0, .slice none 0 0, .slice none 0 0, .slice none 0 0, .slice none 0 0, .slice none 0 0, .slice none 0 0, .slice none 0 0] 25)
  rw [s1] at x2
  have HW := Lib.hid (hal1.trans (hal2.mono hal1.size))
  have HBX := Lib.hid (hb1.below hal2)
  have HX2 := Lib.hid x2
  have HSZ := Lib.hid s2
  have HR0 := Lib.hid hr
  have hl1000 : ∀ i, i < 8 → n0 i ≤ 1000 := fun i hi => by
    have : tot n0 i + n0 i ≤ tot n0 8 := tot_mono n0 (show i + 1 ≤ 8 by omega)
    omega
  clear hal1 hb1 hal2 x2 hr s1 s2
  rw [← hV1] at HW HBX HX2 HSZ
  clear hV1
  go_enter Try.func17, Try.ntmps17
  go_upto_region 1 with fail
  generalize ((w.alloc (.cells #[.int .i64 nw, .slice (A0 0) (n0 0) (c0 0), .slice (A0 1) (n0 1) (c0 1), .slice (A0 2) (n0 2) (c0 2), .slice (A0 3) (n0 3) (c0 3), .slice (A0 4) (n0 4) (c0 4), .slice (A0 5) (n0 5) (c0 5), .slice (A0 6) (n0 6) (c0 6), .slice (A0 7) (n0 7) (c0 7)] 25)).alloc (.cells #[.int .i64 0, .slice none 0 0, .slice none 0 0, .slice none 0 0, .slice none 0 0, .slice none 0 0, .slice none 0 0, .slice none 0 0, .slice none 0 0] 25)) = V at *
  have z0 : V.cell? ⟨w.heap.size, 0, none⟩ = some (.int .i64 nw) := HBX.out.now
  have z1 : V.cell? ⟨w.heap.size, 1, none⟩ = some (.slice (A0 0) (n0 0) (c0 0)) := HBX.out.slot (show 0 < 8 by omega)
  have z2 : V.cell? ⟨w.heap.size, 2, none⟩ = some (.slice (A0 1) (n0 1) (c0 1)) := HBX.out.slot (show 1 < 8 by omega)
  have z3 : V.cell? ⟨w.heap.size, 3, none⟩ = some (.slice (A0 2) (n0 2) (c0 2)) := HBX.out.slot (show 2 < 8 by omega)
  have z4 : V.cell? ⟨w.heap.size, 4, none⟩ = some (.slice (A0 3) (n0 3) (c0 3)) := HBX.out.slot (show 3 < 8 by omega)
  have z5 : V.cell? ⟨w.heap.size, 5, none⟩ = some (.slice (A0 4) (n0 4) (c0 4)) := HBX.out.slot (show 4 < 8 by omega)
  have z6 : V.cell? ⟨w.heap.size, 6, none⟩ = some (.slice (A0 5) (n0 5) (c0 5)) := HBX.out.slot (show 5 < 8 by omega)
  have z7 : V.cell? ⟨w.heap.size, 7, none⟩ = some (.slice (A0 6) (n0 6) (c0 6)) := HBX.out.slot (show 6 < 8 by omega)
  have z8 : V.cell? ⟨w.heap.size, 8, none⟩ = some (.slice (A0 7) (n0 7) (c0 7)) := HBX.out.slot (show 7 < 8 by omega)
  go_upto_region 2 with (go_at_call 29; refine (rown_any V nw A0 n0 c0 ts (HR0.out.below HW.out) hl1000).mono ?_; rintro e w2 ⟨A, n, c, rfl, hO2, hb2⟩)
  clear z0 z1 z2 z3 z4 z5 z6 z7 z8
  have hal : Below w2.heap.size w2 (w2.alloc (.cells #[.int .i64 nw, .slice (A 0) (n 0) (c 0), .slice (A 1) (n 1) (c 1), .slice (A 2) (n 2) (c 2), .slice (A 3) (n 3) (c 3), .slice (A 4) (n 4) (c 4), .slice (A 5) (n 5) (c 5), .slice (A 6) (n 6) (c 6), .slice (A 7) (n 7) (c 7)] 25)) := (Below.refl _ _).alloc (Nat.le_refl _) _
  have hb3 := BoxW.alloc w2 nw (fun i => .slice (A i) (n i) (c i))
  have hs2 := hb2.size
  have hsz := HSZ.out
  have HS := Lib.hid (show St w (w2.alloc (.cells #[.int .i64 nw, .slice (A 0) (n 0) (c 0), .slice (A 1) (n 1) (c 1), .slice (A 2) (n 2) (c 2), .slice (A 3) (n 3) (c 3), .slice (A 4) (n 4) (c 4), .slice (A 5) (n 5) (c 5), .slice (A 6) (n 6) (c 6), .slice (A 7) (n 7) (c 7)] 25)) w2.heap.size nw (fun i => .slice (A0 i) (n0 i) (c0 i)) nw A n c ts from
    ⟨(HBX.out.below hb2).below hal, keep hal (keep hb2 HX2.out), hb3, (hO2.lower HW.out.size).below hal, (HW.out.trans (hb2.mono HW.out.size)).trans (hal.mono (by have := HW.out.size; omega)), by omega⟩)
  clear hal hb3 hO2 hb2 HBX HX2 HW HSZ hs2 hsz
  generalize w2.alloc (.cells #[.int .i64 nw, .slice (A 0) (n 0) (c 0), .slice (A 1) (n 1) (c 1), .slice (A 2) (n 2) (c 2), .slice (A 3) (n 3) (c 3), .slice (A 4) (n 4) (c 4), .slice (A 5) (n 5) (c 5), .slice (A 6) (n 6) (c 6), .slice (A 7) (n 7) (c 7)] 25) = U at *
  generalize w2.heap.size = b3 at *
  have z0 : U.cell? ⟨w.heap.size, 0, none⟩ = some (.int .i64 nw) := HS.out.x1.now
  have z1 : U.cell? ⟨w.heap.size, 1, none⟩ = some (.slice (A0 0) (n0 0) (c0 0)) := HS.out.x1.slot (show 0 < 8 by omega)
  have z2 : U.cell? ⟨w.heap.size, 2, none⟩ = some (.slice (A0 1) (n0 1) (c0 1)) := HS.out.x1.slot (show 1 < 8 by omega)
  have z3 : U.cell? ⟨w.heap.size, 3, none⟩ = some (.slice (A0 2) (n0 2) (c0 2)) := HS.out.x1.slot (show 2 < 8 by omega)
  have z4 : U.cell? ⟨w.heap.size, 4, none⟩ = some (.slice (A0 3) (n0 3) (c0 3)) := HS.out.x1.slot (show 3 < 8 by omega)
  have z5 : U.cell? ⟨w.heap.size, 5, none⟩ = some (.slice (A0 4) (n0 4) (c0 4)) := HS.out.x1.slot (show 4 < 8 by omega)
  have z6 : U.cell? ⟨w.heap.size, 6, none⟩ = some (.slice (A0 5) (n0 5) (c0 5)) := HS.out.x1.slot (show 5 < 8 by omega)
  have z7 : U.cell? ⟨w.heap.size, 7, none⟩ = some (.slice (A0 6) (n0 6) (c0 6)) := HS.out.x1.slot (show 6 < 8 by omega)
  have z8 : U.cell? ⟨w.heap.size, 8, none⟩ = some (.slice (A0 7) (n0 7) (c0 7)) := HS.out.x1.slot (show 7 < 8 by omega)
  have HS3 := HS
  obtain ⟨rb, hrb⟩ : ∃ b, rightB nw ts = b := ⟨_, rfl⟩
  have HRB := Lib.hid hrb
  clear hrb
  have ARM := Lib.hid (rright_any U nw A0 n0 c0 ts (HR0.out.below HS.out.bw) (by omega))
  cases rb with
  | false =>
    have HE := Lib.hid (tick_arg (nw := nw) (ts := ts) (fun h => by have := rightB_yes h; rw [HRB.out] at this; cases this))
    go_upto_region 3 with (go_at_call 18; refine ARM.out.mono ?_; rw [HRB.out]; rintro e w4 ⟨rfl, hb4⟩; have HS := Lib.hid (HS3.out.below hb4); have zn : w4.cell? ⟨w.heap.size, 0, none⟩ = some (.int .i64 nw) := HS.out.x1.now; clear hb4 z0 z1 z2 z3 z4 z5 z6 z7 z8)
    have z0 : w4.cell? ⟨b3, 0, none⟩ = some (.int .i64 nw) := HS.out.x3.now
    have z1 : w4.cell? ⟨b3, 1, none⟩ = some (.slice (A 0) (n 0) (c 0)) := HS.out.x3.slot (show 0 < 8 by omega)
    have z2 : w4.cell? ⟨b3, 2, none⟩ = some (.slice (A 1) (n 1) (c 1)) := HS.out.x3.slot (show 1 < 8 by omega)
    have z3 : w4.cell? ⟨b3, 3, none⟩ = some (.slice (A 2) (n 2) (c 2)) := HS.out.x3.slot (show 2 < 8 by omega)
    have z4 : w4.cell? ⟨b3, 4, none⟩ = some (.slice (A 3) (n 3) (c 3)) := HS.out.x3.slot (show 3 < 8 by omega)
    have z5 : w4.cell? ⟨b3, 5, none⟩ = some (.slice (A 4) (n 4) (c 4)) := HS.out.x3.slot (show 4 < 8 by omega)
    have z6 : w4.cell? ⟨b3, 6, none⟩ = some (.slice (A 5) (n 5) (c 5)) := HS.out.x3.slot (show 5 < 8 by omega)
    have z7 : w4.cell? ⟨b3, 7, none⟩ = some (.slice (A 6) (n 6) (c 6)) := HS.out.x3.slot (show 6 < 8 by omega)
    have z8 : w4.cell? ⟨b3, 8, none⟩ = some (.slice (A 7) (n 7) (c 7)) := HS.out.x3.slot (show 7 < 8 by omega)
    have r0 := box_at HS.out.x2 0 _ rfl
    have r1 := box_at HS.out.x2 1 _ rfl
    have r2 := box_at HS.out.x2 2 _ rfl
    have r3 := box_at HS.out.x2 3 _ rfl
    have r4 := box_at HS.out.x2 4 _ rfl
    have r5 := box_at HS.out.x2 5 _ rfl
    have r6 := box_at HS.out.x2 6 _ rfl
    have r7 := box_at HS.out.x2 7 _ rfl
    have r8 := box_at HS.out.x2 8 _ rfl
    have rf := box_free HS.out.x2
    go_wp2_with fail
    refine bodyPost_ret (v := .tuple #[.agg #[.int .i64 nw, .slice (A 0) (n 0) (c 0), .slice (A 1) (n 1) (c 1), .slice (A 2) (n 2) (c 2), .slice (A 3) (n 3) (c 3), .slice (A 4) (n 4) (c 4), .slice (A 5) (n 5) (c 5), .slice (A 6) (n 6) (c 6), .slice (A 7) (n 7) (c 7)], .slice none 0 0, .int .i64 1]) (by simp [results, Try.results17, go_sem, r0, r1, r2, r3, r4, r5, r6, r7, r8]) rfl ?_
    obtain ⟨he1, he2, he3, he4⟩ := HE.out
    rw [he1, he2, he3, he4]
    exact ⟨A, n, c, none, 0, 0, rfl, HS.out.fin.1, RdE.nil _ _ _, HS.out.fin.2⟩
  | true =>
    have HRW := Lib.hid (rightB_iff.1 HRB.out)
    go_upto_region 4 with (go_at_call 18; refine ARM.out.mono ?_; rw [HRB.out]; rintro e w4 ⟨rfl, hb4⟩; have HS := Lib.hid (HS3.out.below hb4); have zn : w4.cell? ⟨w.heap.size, 0, none⟩ = some (.int .i64 nw) := HS.out.x1.now; clear hb4 z0 z1 z2 z3 z4 z5 z6 z7 z8)
    clear HS3 ARM HRB
    by_cases hmax : nw = 9007199254740992
    · have HE := Lib.hid (tick_big HRW.out hmax)
      have hmx : (nw == (9007199254740992 : Int)) = true := by simp [hmax]
      clear hmax
      go_upto_region 5 with fail
      have z0 : w4.cell? ⟨b3, 0, none⟩ = some (.int .i64 nw) := HS.out.x3.now
      have z1 : w4.cell? ⟨b3, 1, none⟩ = some (.slice (A 0) (n 0) (c 0)) := HS.out.x3.slot (show 0 < 8 by omega)
      have z2 : w4.cell? ⟨b3, 2, none⟩ = some (.slice (A 1) (n 1) (c 1)) := HS.out.x3.slot (show 1 < 8 by omega)
      have z3 : w4.cell? ⟨b3, 3, none⟩ = some (.slice (A 2) (n 2) (c 2)) := HS.out.x3.slot (show 2 < 8 by omega)
      have z4 : w4.cell? ⟨b3, 4, none⟩ = some (.slice (A 3) (n 3) (c 3)) := HS.out.x3.slot (show 3 < 8 by omega)
      have z5 : w4.cell? ⟨b3, 5, none⟩ = some (.slice (A 4) (n 4) (c 4)) := HS.out.x3.slot (show 4 < 8 by omega)
      have z6 : w4.cell? ⟨b3, 6, none⟩ = some (.slice (A 5) (n 5) (c 5)) := HS.out.x3.slot (show 5 < 8 by omega)
      have z7 : w4.cell? ⟨b3, 7, none⟩ = some (.slice (A 6) (n 6) (c 6)) := HS.out.x3.slot (show 6 < 8 by omega)
      have z8 : w4.cell? ⟨b3, 8, none⟩ = some (.slice (A 7) (n 7) (c 7)) := HS.out.x3.slot (show 7 < 8 by omega)
      have r0 := box_at HS.out.x2 0 _ rfl
      have r1 := box_at HS.out.x2 1 _ rfl
      have r2 := box_at HS.out.x2 2 _ rfl
      have r3 := box_at HS.out.x2 3 _ rfl
      have r4 := box_at HS.out.x2 4 _ rfl
      have r5 := box_at HS.out.x2 5 _ rfl
      have r6 := box_at HS.out.x2 6 _ rfl
      have r7 := box_at HS.out.x2 7 _ rfl
      have r8 := box_at HS.out.x2 8 _ rfl
      have rf := box_free HS.out.x2
      go_wp2_with fail
      refine bodyPost_ret (v := .tuple #[.agg #[.int .i64 nw, .slice (A 0) (n 0) (c 0), .slice (A 1) (n 1) (c 1), .slice (A 2) (n 2) (c 2), .slice (A 3) (n 3) (c 3), .slice (A 4) (n 4) (c 4), .slice (A 5) (n 5) (c 5), .slice (A 6) (n 6) (c 6), .slice (A 7) (n 7) (c 7)], .slice none 0 0, .int .i64 3]) (by simp [results, Try.results17, go_sem, r0, r1, r2, r3, r4, r5, r6, r7, r8]) rfl ?_
      obtain ⟨he1, he2, he3, he4⟩ := HE.out
      rw [he1, he2, he3, he4]
      exact ⟨A, n, c, none, 0, 0, rfl, HS.out.fin.1, RdE.nil _ _ _, HS.out.fin.2⟩
    have hmx : (nw == (9007199254740992 : Int)) = false := by simp [hmax]
    have hn0 : 0 ≤ nw := HRW.out.1.1
    have hn1 : nw ≤ 9007199254740992 := HRW.out.1.2
    obtain ⟨k, hk⟩ : ∃ k, (nw + 1).toNat % 8 = k := ⟨_, rfl⟩
    have HE := Lib.hid (tick_ok HRW.out hmax hk)
    have hq : (nw + 1) % 8 = (k : Int) := by omega
    have hk8 : k < 8 := by omega
    have hk8' : (k : Int) < 8 := by omega
    have hwn : IntKind.i64.wrap (nw + 1) = nw + 1 := by rw [IntKind.wrap_i64]; omega
    have h0n : 0 ≤ nw + 1 := by omega
    have HQ := Lib.hid hq
    clear hk hmax
    have y0 := HS.out.x3.now
    have yf := HS.out.x3.free
    go_upto_region 7 with fail
    clear y0 yf zn
    replace HS := Lib.hid (HS.out.time (nw + 1))
    generalize w4.setCell ⟨b3, 0, none⟩ (.int .i64 (nw + 1)) = W5 at *
    have y0 := HS.out.x3.now
    have yk := HS.out.x3.slot hk8
    go_upto_region 10 with fail
    simp only [hq]
    clear hq y0 yk
    have hlk := (HS.out.o.o k hk8).rd.len
    have hlen := HLN.out k hk8
    have htk : tot n0 k + n0 k ≤ tot n0 8 := tot_mono n0 (show k + 1 ≤ 8 by omega)
    have hn9 : n k ≤ 1000 := by omega
    clear hlen htk
    go_wp2_with fail
    go_loopg [6, 7, 9] (n k) (fun gg s6 s7 s9 wr => ∃ jj : Nat, jj ≤ n k ∧ n k - jj ≤ gg ∧ s9 = .int .i64 jj ∧ ∃ F fn fc L ln lc, s6 = .slice F fn fc ∧ s7 = .slice L ln lc ∧
      W5.heap.size ≤ wr.heap.size ∧ Aside (St w wr b3 nw (fun i => .slice (A0 i) (n0 i) (c0 i)) (nw + 1) A n c ts ∧ OwE ienc 1 3 wr w.heap.size (.slice F fn fc) ((((ts k).take jj).filter (due nw)).map Tm.id) ∧ OwE tenc 2 34 wr W5.heap.size (.slice L ln lc) (((ts k).take jj).filter (fun t => !due nw t))))
    case atStart =>
      refine ⟨0, by omega, by omega, rfl, none, 0, 0, none, 0, 0, rfl, rfl, Nat.le_refl _, ?_⟩
      show Aside _
      exact ⟨HS.out, OwE.nil iencL _ _ _, OwE.nil tencL _ _ _⟩
    case round =>
      obtain ⟨jj, hjj, hg, rfl, F, fn, fc, L, ln, lc, rfl, rfl, hsz, HA⟩ := hrel
      have HS6 := Lib.hid HA.out.1
      have HF6 := Lib.hid HA.out.2.1
      have HL6 := Lib.hid HA.out.2.2
      clear HA
      have hlo : ∀ i, i < 8 → ∀ q, (Value.slice (A i) (n i) (c i)).ownBlock = some q → q < W5.heap.size := fun i hi q hq => (HS.out.o.o i hi).lt q hq
      have HLO := Lib.hid hlo
      clear hlo
      by_cases hlt : jj < n k
      · have hlt1 : (jj : Int) < (n k : Int) := by omega
        obtain ⟨b, off, hA, hbl, hcell⟩ := (HS6.out.o.o k hk8).rd.get (by omega)
        have hat : (ts k)[jj]? = some ((ts k)[jj]'(by omega)) := List.getElem?_eq_getElem _
        have hte : (ts k).take (jj + 1) = (ts k).take jj ++ [(ts k)[jj]'(by omega)] := List.take_succ_eq_append_getElem (by omega)
        generalize (ts k)[jj]'(by omega) = y at hat hte
        obtain ⟨yi, ya⟩ := y
        have c0' : wr.cell? ⟨b, off + jj * 2, none⟩ = some (.int .i64 yi) := hcell jj 0 _ _ hat rfl
        have c1' : wr.cell? ⟨b, off + jj * 2 + 1, none⟩ = some (.int .i64 ya) := hcell jj 1 _ _ hat rfl
        have HTE := Lib.hid hte
        have y0 := HS6.out.x3.now
        have hll := HF6.out.rd.len
        have hl2 := HL6.out.rd.len
        have hb1 : fn ≤ 1000 := by rw [← hll, List.length_map]; exact Nat.le_trans (List.length_filter_le _ _) (by rw [List.length_take]; omega)
        have hb2 : ln ≤ 1000 := by rw [← hl2]; exact Nat.le_trans (List.length_filter_le _ _) (by rw [List.length_take]; omega)
        have HLL := Lib.hid hll
        have HL2 := Lib.hid hl2
        clear hcell hat hte hll hl2
        go_upto_region 13 with fail
        rw [hA]
        by_cases hd : ya = nw + 1
        · have hd1 : (ya == nw + 1) = true := by simp [hd]
          have hdu : due nw ⟨yi, ya⟩ = true := hd1
          have HDU := Lib.hid hdu
          clear hdu hd
          go_quiet (fail)
          have hdr : Below wr.heap.size wr (wr.drewN nq) := pw_below_drewN (Below.refl _ _) _
          go_wp2_with (at_builtin; refine wp_appE w.heap.size rfl _ _ 37 3 (.int .i64 0) 8 rfl Try.underlying37 Try.info3 rfl (by omega) (by omega) (.slice F fn fc) (.slice (some ⟨wr.heap.size, 0, none⟩) 1 1) ((((ts k).take jj).filter (due nw)).map Tm.id) [yi] rfl rfl ?c1 ?c2 ienc1 ?c3 ?c4 ?c5)
          case c1 => exact (HF6.out.below hdr).below ((Below.refl _ _).alloc (Nat.le_refl _) _)
          case c2 => exact rd_boxE (enc := ienc) (wr.drewN nq) yi 3
          case c3 => rw [HLL.out]; simp; omega
          case c4 => have := HS6.out.bw.size; simp; omega
          case c5 =>
            intro v1 w7 hv1 hg1 hat1
            obtain ⟨F1, f1, g1, rfl⟩ := hv1.slice'
            have hS1 : St w ((wr.drewN nq).alloc (.cells #[.int .i64 yi] 3)) b3 nw (fun i => .slice (A0 i) (n0 i) (c0 i)) (nw + 1) A n c ts := (HS6.out.below hdr).below ((Below.refl _ _).alloc (Nat.le_refl _) _)
            have hF1 := (HF6.out.below hdr).below ((Below.refl _ _).alloc (Nat.le_refl _) (.cells #[.int .i64 yi] 3))
            have hL1 := (HL6.out.below hdr).below ((Below.refl _ _).alloc (Nat.le_refl _) (.cells #[.int .i64 yi] 3))
            have hne : ∀ {v : Value} {es : List Tm} {base : Nat}, OwE tenc 2 34 ((wr.drewN nq).alloc (.cells #[.int .i64 yi] 3)) base v es → ∀ q, v.ownBlock = some q → some q ≠ (Value.slice F fn fc).ownBlock := fun hv q hq he => by
              obtain ⟨cu, hcu⟩ := hv.typed q hq
              obtain ⟨cu', hcu'⟩ := hF1.typed q he.symm
              exact blocks_ne (show (34 : TypeId) ≠ 3 by decide) hcu hcu' rfl
            have hS7 := hS1.grown hg1 (hS1.x1.neI hF1) (fun he => by
              obtain ⟨cu', hcu'⟩ := hF1.typed _ he.symm
              exact blocks_ne (show (25 : TypeId) ≠ 3 by decide) hS1.x2 hcu' rfl) (hS1.x3.neI hF1) (fun i hi => hne (hS1.o.o i hi)) (fun q hq => hF1.lo q hq)
            have HS7 := Lib.hid hS7
            have HL7 := Lib.hid (hL1.grown hg1 (hne hL1))
            have HF7 := Lib.hid hv1
            have hg1s := hg1.size
            clear hS7 hS1 hF1 hL1 hne hv1 hg1 hat1 hdr c0' c1' y0
            go_wp2_with fail
            rw [← hA]
            go_roundg (n k - (jj + 1))
            case measure => omega
            case rel =>
              refine ⟨jj + 1, by omega, by omega, by simp, F1, f1, g1, L, ln, lc, rfl, rfl, by have := hg1s; simp at this; omega, ?_⟩
              show Aside _
              rw [HTE.out, List.filter_append, List.filter_append, List.map_append]
              simp only [List.filter_cons, List.filter_nil, HDU.out, if_true, Bool.not_true, if_false, List.append_nil, List.map_cons, List.map_nil, Bool.false_eq_true]
              exact ⟨HS7.out, HF7.out, HL7.out⟩
        · have hd1 : (ya == nw + 1) = false := by simp [hd]
          have hdu : due nw ⟨yi, ya⟩ = false := hd1
          have HDU := Lib.hid hdu
          clear hdu hd
          go_quiet (fail)
          have hdr : Below wr.heap.size wr (wr.drewN nq) := pw_below_drewN (Below.refl _ _) _
          have hlow := HS6.out.bw.size
          go_wp2_with (at_builtin; refine wp_appE W5.heap.size rfl _ _ 22 34 (.agg #[.int .i64 0, .int .i64 0]) 16 rfl Try.underlying22 Try.info34 rfl (by omega) (by omega) (.slice L ln lc) (.slice (some ⟨wr.heap.size, 0, none⟩) 1 1) (((ts k).take jj).filter (fun t => !due nw t)) [(⟨yi, ya⟩ : Tm)] rfl rfl ?c1 ?c2 tenc1 ?c3 ?c4 ?c5)
          case c1 => exact (HL6.out.below hdr).below ((Below.refl _ _).alloc (Nat.le_refl _) _)
          case c2 => exact rd_boxE (enc := tenc) (wr.drewN nq) (⟨yi, ya⟩ : Tm) 34
          case c3 => rw [HL2.out]; simp; omega
          case c4 => simp; omega
          case c5 =>
            intro v1 w7 hv1 hg1 hat1
            obtain ⟨L1, l1, m1, rfl⟩ := hv1.slice'
            have hS1 : St w ((wr.drewN nq).alloc (.cells #[.int .i64 yi, .int .i64 ya] 34)) b3 nw (fun i => .slice (A0 i) (n0 i) (c0 i)) (nw + 1) A n c ts := (HS6.out.below hdr).below ((Below.refl _ _).alloc (Nat.le_refl _) _)
            have hF1 := (HF6.out.below hdr).below ((Below.refl _ _).alloc (Nat.le_refl _) (.cells #[.int .i64 yi, .int .i64 ya] 34))
            have hL1 := (HL6.out.below hdr).below ((Below.refl _ _).alloc (Nat.le_refl _) (.cells #[.int .i64 yi, .int .i64 ya] 34))
            have hS7 := hS1.grown hg1 (hS1.x1.ne hL1) (fun he => by
              obtain ⟨cu', hcu'⟩ := hL1.typed _ he.symm
              exact blocks_ne (show (25 : TypeId) ≠ 34 by decide) hS1.x2 hcu' rfl) (hS1.x3.ne hL1) (fun i hi q hq he => by
              have h1 := HLO.out i hi q hq
              have h2 := hL1.lo q he.symm
              omega) (fun q hq => by
              have h2 := hL1.lo q hq
              have h3 := HS.out.bw.size
              omega)
            have HS7 := Lib.hid hS7
            have HF7 := Lib.hid (hF1.grown hg1 (fun q hq he => by
              obtain ⟨cu, hcu⟩ := hF1.typed q hq
              obtain ⟨cu', hcu'⟩ := hL1.typed q he.symm
              exact blocks_ne (show (3 : TypeId) ≠ 34 by decide) hcu hcu' rfl))
            have HL7 := Lib.hid hv1
            have hg1s := hg1.size
            clear hS7 hS1 hF1 hL1 hv1 hg1 hat1 hdr c0' c1' y0
            go_wp2_with fail
            rw [← hA]
            go_roundg (n k - (jj + 1))
            case measure => omega
            case rel =>
              refine ⟨jj + 1, by omega, by omega, by simp, F, fn, fc, L1, l1, m1, rfl, rfl, by have := hg1s; simp at this; omega, ?_⟩
              show Aside _
              rw [HTE.out, List.filter_append, List.filter_append, List.map_append]
              simp only [List.filter_cons, List.filter_nil, HDU.out, if_true, Bool.not_false, if_false, List.append_nil, List.map_cons, List.map_nil, Bool.false_eq_true]
              exact ⟨HS7.out, HF7.out, HL7.out⟩
      · obtain rfl : jj = n k := by omega
        have hlt1 : ¬ ((n k : Nat) : Int) < (n k : Int) := by omega
        have hF := HF6.out
        have hL := HL6.out
        rw [List.take_of_length_le (by omega)] at hF hL
        have HF := Lib.hid hF
        have HL := Lib.hid hL
        have y0 := HS6.out.x3.now
        have yk := HS6.out.x3.slot hk8
        have yf := HS6.out.x3.free
        have hq := HQ.out
        clear hF hL
        go_upto_region 17 with fail
        simp only [hq]
        clear hq y0 yk yf
        have HS := Lib.hid (HS6.out.slot hk8 (HL.out.lower (by have := HS.out.bw.size; omega)) (fun i hi hik q hq' he => by
          have h1 := HLO.out i hi q hq'
          have h2 := HL.out.lo q he
          omega))
        have HFF := Lib.hid HF.out
        have hx3 := HS6.out.x3
        clear HS6 HF6 HL6 HL HF
        have hF9 : OwE ienc 1 3 (wr.setCell ⟨b3, 1 + k, none⟩ (.slice L ln lc)) w.heap.size (.slice F fn fc) (((ts k).filter (due nw)).map Tm.id) := HFF.out.far (fun q hq' => by
          rintro rfl
          exact hx3.neI HFF.out hq'.symm) _
        have HF9 := Lib.hid hF9
        clear hF9 HFF hx3
        generalize wr.setCell ⟨b3, 1 + k, none⟩ (.slice L ln lc) = W9 at *
        generalize upd A k L = A9 at *
        generalize upd n k ln = n9 at *
        generalize upd c k lc = c9 at *
        have z0 : W9.cell? ⟨b3, 0, none⟩ = some (.int .i64 (nw + 1)) := HS.out.x3.now
        have z1 : W9.cell? ⟨b3, 1, none⟩ = some (.slice (A9 0) (n9 0) (c9 0)) := HS.out.x3.slot (show 0 < 8 by omega)
        have z2 : W9.cell? ⟨b3, 2, none⟩ = some (.slice (A9 1) (n9 1) (c9 1)) := HS.out.x3.slot (show 1 < 8 by omega)
        have z3 : W9.cell? ⟨b3, 3, none⟩ = some (.slice (A9 2) (n9 2) (c9 2)) := HS.out.x3.slot (show 2 < 8 by omega)
        have z4 : W9.cell? ⟨b3, 4, none⟩ = some (.slice (A9 3) (n9 3) (c9 3)) := HS.out.x3.slot (show 3 < 8 by omega)
        have z5 : W9.cell? ⟨b3, 5, none⟩ = some (.slice (A9 4) (n9 4) (c9 4)) := HS.out.x3.slot (show 4 < 8 by omega)
        have z6 : W9.cell? ⟨b3, 6, none⟩ = some (.slice (A9 5) (n9 5) (c9 5)) := HS.out.x3.slot (show 5 < 8 by omega)
        have z7 : W9.cell? ⟨b3, 7, none⟩ = some (.slice (A9 6) (n9 6) (c9 6)) := HS.out.x3.slot (show 6 < 8 by omega)
        have z8 : W9.cell? ⟨b3, 8, none⟩ = some (.slice (A9 7) (n9 7) (c9 7)) := HS.out.x3.slot (show 7 < 8 by omega)
        have r0 := box_at HS.out.x2 0 _ rfl
        have r1 := box_at HS.out.x2 1 _ rfl
        have r2 := box_at HS.out.x2 2 _ rfl
        have r3 := box_at HS.out.x2 3 _ rfl
        have r4 := box_at HS.out.x2 4 _ rfl
        have r5 := box_at HS.out.x2 5 _ rfl
        have r6 := box_at HS.out.x2 6 _ rfl
        have r7 := box_at HS.out.x2 7 _ rfl
        have r8 := box_at HS.out.x2 8 _ rfl
        have rf := box_free HS.out.x2
        go_wp2_with fail
        refine bodyPost_ret (v := .tuple #[.agg #[.int .i64 (nw + 1), .slice (A9 0) (n9 0) (c9 0), .slice (A9 1) (n9 1) (c9 1), .slice (A9 2) (n9 2) (c9 2), .slice (A9 3) (n9 3) (c9 3), .slice (A9 4) (n9 4) (c9 4), .slice (A9 5) (n9 5) (c9 5), .slice (A9 6) (n9 6) (c9 6), .slice (A9 7) (n9 7) (c9 7)], .slice F fn fc, .int .i64 0]) (by simp [results, Try.results17, go_sem, r0, r1, r2, r3, r4, r5, r6, r7, r8]) rfl ?_
        obtain ⟨he1, he2, he3, he4⟩ := HE.out
        rw [he1, he2, he3, he4]
        exact ⟨A9, n9, c9, F, fn, fc, rfl, HS.out.fin.1, HS.out.finI HF9.out, HS.out.fin.2⟩
end Go.Proofs.Ytnlgmfkgpaampaa
