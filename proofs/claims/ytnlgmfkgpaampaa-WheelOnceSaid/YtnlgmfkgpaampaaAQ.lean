/- Contract of lockagelaw04.WheelOnce. -/
import Derived.Test.YtnlgmfkgpaampaaAE
import Derived.Test.YtnlgmfkgpaampaaAO
import Derived.Test.YtnlgmfkgpaampaaZ
set_option linter.unusedVariables false
set_option linter.unusedSimpArgs false
namespace Go.Proofs.Ytnlgmfkgpaampaa
open Go.RowKit
open Go.Proofs.YtnlgmfkgpaampaaW.PrintWords

/-- the loop's memory -/
structure Mo (w W : World) (b4 b5 : Nat) (nw : Int) (A : Nat → Option Addr) (n c : Nat → Nat) (ts : Nat → List Tm) (d : Nat → Int) : Prop where
  b : BoxW W b4 nw (fun i => .slice (A i) (n i) (c i))
  x : ∃ cur, W.heap[b5]? = some (.cells cur 36 (0, 0)) ∧ cur.size = 16 ∧ ∀ j, j < 16 → cur[j]? = some (.int .i64 (d j))
  o : WhO W w.heap.size A n c ts
  bw : Below w.heap.size w W
  l4 : w.heap.size ≤ b4
  l5 : w.heap.size ≤ b5
section
variable {w W W1 : World} {b4 b5 : Nat} {nw mw : Int} {A B : Nat → Option Addr} {n c m e : Nat → Nat} {ts us : Nat → List Tm} {d : Nat → Int}
theorem Mo.below (h : Mo w W b4 b5 nw A n c ts d) (hb : Below W.heap.size W W1) : Mo w W1 b4 b5 nw A n c ts d := by
  obtain ⟨cur, h1, h2⟩ := h.x
  exact ⟨h.b.below hb, ⟨cur, keep hb h1, h2⟩, h.o.below hb, h.bw.trans (hb.mono h.bw.size), h.l4, h.l5⟩
theorem Mo.lt5 (h : Mo w W b4 b5 nw A n c ts d) : b5 < W.heap.size := by
  obtain ⟨cur, h1, _⟩ := h.x
  exact (Array.getElem?_eq_some_iff.1 h1).1
theorem Mo.due (h : Mo w W b4 b5 nw A n c ts d) {j : Nat} (hj : j < 16) : W.cell? ⟨b5, j, none⟩ = some (.int .i64 (d j)) := by
  obtain ⟨cur, h1, _, h2⟩ := h.x
  exact box_at h1 _ _ (h2 j hj)
theorem Mo.free5 (h : Mo w W b4 b5 nw A n c ts d) : ∀ j, W.frozen? ⟨b5, j, none⟩ = false := by
  obtain ⟨cur, h1, _⟩ := h.x
  exact box_free h1
theorem Mo.ne (h : Mo w W b4 b5 nw A n c ts d) : ¬ b4 = b5 := by
  obtain ⟨cur, h1, _⟩ := h.x
  obtain ⟨cur', h2, _⟩ := h.b
  exact blocks_ne (by decide) h2 h1
theorem Mo.put5 (h : Mo w W b4 b5 nw A n c ts d) {j : Nat} (hj : j < 16) (v : Int) : Mo w (W.setCell ⟨b5, j, none⟩ (.int .i64 v)) b4 b5 nw A n c ts (upd d j v) := by
  have hne := h.ne
  obtain ⟨cur, h1, hs, h2⟩ := h.x
  refine ⟨h.b.far (by simpa using hne) _, ⟨_, heap_set h1 _, by simpa using hs, fun i hi => ?_⟩, ⟨fun i hi => (h.o.o i hi).far (fun k hk => ?_) _, h.o.ne⟩, h.bw.setCell h.l5 _, h.l4, h.l5⟩
  · rw [Array.getElem?_setIfInBounds]
    split
    · rename_i he
      subst he
      rw [upd_at, if_pos (by omega)]
    · rename_i he
      rw [upd_ne _ _ (fun x => he x.symm)]
      exact h2 i hi
  · obtain ⟨cur', h3⟩ := (h.o.o i hi).typed k hk
    exact blocks_ne (by decide) h3 h1
/-- w = v, of a call's answer -/
theorem Mo.put4 (h : Mo w W b4 b5 nw A n c ts d) (hO : WhO W1 W.heap.size B m e us) (hb : Below W.heap.size W W1) :
    Mo w (((((((((W1.setCell ⟨b4, 0, none⟩ (.int .i64 mw)).setCell ⟨b4, 1, none⟩ (.slice (B 0) (m 0) (e 0))).setCell ⟨b4, 2, none⟩ (.slice (B 1) (m 1) (e 1))).setCell ⟨b4, 3, none⟩ (.slice (B 2) (m 2) (e 2))).setCell ⟨b4, 4, none⟩ (.slice (B 3) (m 3) (e 3))).setCell ⟨b4, 5, none⟩ (.slice (B 4) (m 4) (e 4))).setCell ⟨b4, 6, none⟩ (.slice (B 5) (m 5) (e 5))).setCell ⟨b4, 7, none⟩ (.slice (B 6) (m 6) (e 6))).setCell ⟨b4, 8, none⟩ (.slice (B 7) (m 7) (e 7))) b4 b5 mw B m e us d := by
  have h1 := h.below hb
  have hne := h1.ne
  have nb : ∀ i, i < 8 → ∀ k, (Value.slice (B i) (m i) (e i)).ownBlock = some k → k ≠ b4 := by
    intro i hi k hk
    obtain ⟨cur, hcur⟩ := (hO.o i hi).typed k hk
    obtain ⟨cur', hc', _⟩ := h1.b
    exact blocks_ne (by decide) hcur hc'
  have l4 := h.l4
  refine ⟨h1.b.sets, ?_, ⟨fun i hi => ?_, hO.ne⟩, ?_, h.l4, h.l5⟩
  · obtain ⟨cur, hc, h2⟩ := h1.x
    refine ⟨cur, ?_, h2⟩
    have hx : ∀ {V : World} {j : Nat} {v : Value}, V.heap[b5]? = some (.cells cur 36 (0, 0)) → (V.setCell ⟨b4, j, none⟩ v).heap[b5]? = some (.cells cur 36 (0, 0)) := fun {V} {j} {v} hv => by
      rw [Below.heap_setCell _ _ _ _ (by simp; omega)]
      exact hv
    exact hx (hx (hx (hx (hx (hx (hx (hx (hx hc))))))))
  · exact ((((((((((hO.o i hi).lower h.bw.size).far (nb i hi) _).far (nb i hi) _).far (nb i hi) _).far (nb i hi) _).far (nb i hi) _).far (nb i hi) _).far (nb i hi) _).far (nb i hi) _).far (nb i hi) _
  · exact ((((((((h1.bw.setCell l4 _).setCell l4 _).setCell l4 _).setCell l4 _).setCell l4 _).setCell l4 _).setCell l4 _).setCell l4 _).setCell l4 _
theorem Mo.tot (h : Mo w W b4 b5 nw A n c ts d) {k : Nat} (hi : Inv k nw ts d) : tot n 8 ≤ 1000 := by
  rw [cnt_tot h.o.rd, ← allT_cnt]
  have := hi.len
  omega
theorem Inv.wf {k : Nat} (hi : Inv k nw ts d) : ∀ i, i < 8 → ∀ t ∈ ts i, t.id ≤ 9223372036854775807 := fun i hi' t ht => by
  have := (hi.id i hi' t ht).1
  omega
/-- who is due: read, beside the times -/
theorem fired_far {W : World} {base : Nat} {v : Value} {fs : List Int} (h : Mo w W b4 b5 nw A n c ts d) (hf : OwE ienc 1 3 W base v fs) (j : Nat) (u : Value) : OwE ienc 1 3 (W.setCell ⟨b5, j, none⟩ u) base v fs := hf.far (fun k hk => by
  obtain ⟨cur, h1, _⟩ := h.x
  obtain ⟨cur', h3⟩ := hf.typed k hk
  exact blocks_ne (by decide) h3 h1) _
end

set_option maxRecDepth 4000 in
set_option maxHeartbeats 16000000 in
theorem wheelOnce_any (w : World) (Al : Option Addr) (nl cl : Nat) (l : List Nat) (hl : Rd w (.slice Al nl cl) (u8s l)) (h8 : ∀ x ∈ l, x < 256) :
    Calls Try.prog 6 #[.slice Al nl cl] w fun e w' => e = .returned (.bool true) ∧ Below w.heap.size w w' := by
  have ll := hl.len
  rw [u8s_len] at ll
  have hlm : l.length ≤ 9223372036854775807 := by obtain ⟨_, _, _, _, hm, _⟩ := hl; rwa [u8s_len] at hm
  have HL := Lib.hid hl
  clear hl
  go_enter Try.func6, Try.ntmps6
  go_upto_region 4 with (go_at_call 7; refine (awake_any _).mono ?_; rintro e w0 ⟨rfl, hB0⟩)
  go_upto_region 6 with fail
  have HM0 := Lib.hid (show Mo w ((w0.alloc (.cells #[.int .i64 0, .slice none 0 0, .slice none 0 0, .slice none 0 0, .slice none 0 0, .slice none 0 0, .slice none 0 0, .slice none 0 0, .slice none 0 0] 25)).alloc (.cells #[.int .i64 0, .int .i64 0, .int .i64 0, .int .i64 0, .int .i64 0, .int .i64 0, .int .i64 0, .int .i64 0, .int .i64 0, .int .i64 0, .int .i64 0, .int .i64 0, .int .i64 0, .int .i64 0, .int .i64 0, .int .i64 0] 36)) w0.heap.size (w0.heap.size + 1) 0 (fun _ => none) (fun _ => 0) (fun _ => 0) (fun _ => []) (fun _ => 0) from by
    have hal : Below (w0.heap.size + 1) (w0.alloc (.cells #[.int .i64 0, .slice none 0 0, .slice none 0 0, .slice none 0 0, .slice none 0 0, .slice none 0 0, .slice none 0 0, .slice none 0 0, .slice none 0 0] 25)) ((w0.alloc (.cells #[.int .i64 0, .slice none 0 0, .slice none 0 0, .slice none 0 0, .slice none 0 0, .slice none 0 0, .slice none 0 0, .slice none 0 0, .slice none 0 0] 25)).alloc (.cells #[.int .i64 0, .int .i64 0, .int .i64 0, .int .i64 0, .int .i64 0, .int .i64 0, .int .i64 0, .int .i64 0, .int .i64 0, .int .i64 0, .int .i64 0, .int .i64 0, .int .i64 0, .int .i64 0, .int .i64 0, .int .i64 0] 36)) := (Below.refl _ _).alloc (by simp) _
    have hx := heap_alloc_new (w0.alloc (.cells #[.int .i64 0, .slice none 0 0, .slice none 0 0, .slice none 0 0, .slice none 0 0, .slice none 0 0, .slice none 0 0, .slice none 0 0, .slice none 0 0] 25)) (.cells #[.int .i64 0, .int .i64 0, .int .i64 0, .int .i64 0, .int .i64 0, .int .i64 0, .int .i64 0, .int .i64 0, .int .i64 0, .int .i64 0, .int .i64 0, .int .i64 0, .int .i64 0, .int .i64 0, .int .i64 0, .int .i64 0] 36)
    rw [World.size_alloc] at hx
    refine ⟨(BoxW.alloc w0 0 (fun _ => .slice none 0 0)).below (by simpa using hal), ⟨_, hx, rfl, fun j hj => ?_⟩, ⟨fun i hi => OwE.nil tencL _ _ _, fun i j _ _ _ k hk => by simp [Value.ownBlock] at hk⟩, (hB0.alloc hB0.size _).alloc (by have := hB0.size; simp; omega) _, hB0.size, by have := hB0.size; omega⟩
    obtain rfl | rfl | rfl | rfl | rfl | rfl | rfl | rfl | rfl | rfl | rfl | rfl | rfl | rfl | rfl | rfl : j = 0 ∨ j = 1 ∨ j = 2 ∨ j = 3 ∨ j = 4 ∨ j = 5 ∨ j = 6 ∨ j = 7 ∨ j = 8 ∨ j = 9 ∨ j = 10 ∨ j = 11 ∨ j = 12 ∨ j = 13 ∨ j = 14 ∨ j = 15 := by omega
    all_goals rfl)
  generalize ((w0.alloc (.cells #[.int .i64 0, .slice none 0 0, .slice none 0 0, .slice none 0 0, .slice none 0 0, .slice none 0 0, .slice none 0 0, .slice none 0 0, .slice none 0 0] 25)).alloc (.cells #[.int .i64 0, .int .i64 0, .int .i64 0, .int .i64 0, .int .i64 0, .int .i64 0, .int .i64 0, .int .i64 0, .int .i64 0, .int .i64 0, .int .i64 0, .int .i64 0, .int .i64 0, .int .i64 0, .int .i64 0, .int .i64 0] 36)) = W0 at *
  generalize w0.heap.size + 1 = b5 at *
  generalize w0.heap.size = b4 at *
  clear hB0
  go_wp2_with fail
  go_loopg [6] (min nl 100) (fun gg s6 wr => ∃ kk : Nat, kk ≤ min nl 100 ∧ min nl 100 - kk ≤ gg ∧ s6 = .int .i64 kk ∧ ∃ A n c nw ts d, Aside (Mo w wr b4 b5 nw A n c ts d ∧ Inv kk nw ts d))
  case atStart =>
    refine ⟨0, Nat.zero_le _, by omega, rfl, fun _ => none, fun _ => 0, fun _ => 0, 0, fun _ => [], fun _ => 0, ?_⟩
    show Aside _
    exact ⟨HM0.out, Inv.start⟩
  case round =>
    clear HM0
    obtain ⟨kk, hkk, hg, rfl, A, n, c, nw, ts, d, HA⟩ := hrel
    have HM := Lib.hid HA.out.1
    have HV := Lib.hid HA.out.2
    clear HA
    have htot := HM.out.tot HV.out
    have hnw0 : 0 ≤ nw := HV.out.right.1.1
    have hnwk : nw ≤ kk := HV.out.n
    have z0 := HM.out.b.now
    have z1 := HM.out.b.slot (show 0 < 8 by omega)
    have z2 := HM.out.b.slot (show 1 < 8 by omega)
    have z3 := HM.out.b.slot (show 2 < 8 by omega)
    have z4 := HM.out.b.slot (show 3 < 8 by omega)
    have z5 := HM.out.b.slot (show 4 < 8 by omega)
    have z6 := HM.out.b.slot (show 5 < 8 by omega)
    have z7 := HM.out.b.slot (show 6 < 8 by omega)
    have z8 := HM.out.b.slot (show 7 < 8 by omega)
    have zf := HM.out.b.free
    by_cases hlt : kk < min nl 100
    · have hlt1 : (kk : Int) < (nl : Int) := by omega
      have hlt2 : (kk : Int) < 100 := by omega
      have hk100 : kk ≤ 100 := by omega
      obtain ⟨bl, ol, rfl, hbl, hlc⟩ := HL.out.get (by omega)
      have hkl : kk < l.length := by omega
      have hc := (HM.out.bw.cell (p := ⟨bl, ol + kk, none⟩) hbl).trans (hlc kk _ (u8s_at hkl))
      have hx8 := h8 l[kk] (List.getElem_mem hkl)
      generalize l[kk] = x at hc hx8
      clear hlc
      obtain ⟨d4, hd4⟩ : ∃ q, x / 4 = q := ⟨_, rfl⟩
      obtain ⟨j, hj⟩ : ∃ q, d4 % 16 = q := ⟨_, rfl⟩
      obtain ⟨m, hm⟩ : ∃ q, x % 19 = q := ⟨_, rfl⟩
      obtain ⟨q4, hq4⟩ : ∃ q, x % 4 = q := ⟨_, rfl⟩
      have t4 : (x : Int).tdiv 4 = (d4 : Int) := by rw [Int.tdiv_eq_ediv_of_nonneg (by omega)]; omega
      have t16 : (d4 : Int).tmod 16 = (j : Int) := by rw [Int.tmod_eq_emod_of_nonneg (by omega)]; omega
      have t19 : (x : Int).tmod 19 = (m : Int) := by rw [Int.tmod_eq_emod_of_nonneg (by omega)]; omega
      have e19 : (x : Int) % 19 = (m : Int) := by omega
      have q44 : (x : Int) % 4 = (q4 : Int) := by omega
      have wxx : IntKind.i64.wrap (x : Int) = (x : Int) := by rw [IntKind.wrap_i64]; omega
      have w4 : IntKind.i64.wrap (d4 : Int) = (d4 : Int) := by rw [IntKind.wrap_i64]; omega
      have wj : IntKind.i64.wrap (j : Int) = (j : Int) := by rw [IntKind.wrap_i64]; omega
      have wm : IntKind.i64.wrap (m : Int) = (m : Int) := by rw [IntKind.wrap_i64]; omega
      have wn1 : IntKind.i64.wrap (nw + 1) = nw + 1 := by rw [IntKind.wrap_i64]; omega
      have wn2 : IntKind.i64.wrap (nw + 1 + (m : Int)) = nw + 1 + (m : Int) := by rw [IntKind.wrap_i64]; omega
      have hj16 : j < 16 := by omega
      have hj16' : (j : Int) < 16 := by omega
      have hm19 : m < 19 := by omega
      have hq44 : q4 < 4 := by omega
      have hq0 : ¬ (q4 : Int) < 0 := by omega
      have dj := HM.out.due hj16
      have df := HM.out.free5
      clear hd4 hj hm hq4
      go_upto_block 2 with fail
      obtain rfl | rfl | rfl | rfl : q4 = 0 ∨ q4 = 1 ∨ q4 = 2 ∨ q4 = 3 := by omega
      · have q44b : (x : Int) % 4 = (0 : Int) := q44
        clear q44
        have hti := HV.out.tick hk100
        obtain ⟨hE, hN, hI, hfl, hfs, hdd⟩ := hti
        generalize hF : tickF nw ts = fs at hI hfl hfs hdd
        have HE := Lib.hid hE
        have HN := Lib.hid hN
        have HF := Lib.hid hF
        have HI := Lib.hid hI
        have HFS := Lib.hid hfs
        have HDD := Lib.hid hdd
        clear hE hN hF hI hfs hdd
        go_upto_region 22 with (go_at_call 11; refine (tickO_any wr nw A n c ts HM.out.o.rd htot HV.out.wf).mono ?_; unfold TickPostO; rw [HE.out, HN.out, HF.out]; rintro e w2 ⟨B, m', e', F, fn, fc, rfl, hO, hFO, hb⟩; have HO := Lib.hid hO; have HFO := Lib.hid hFO; have HB := Lib.hid hb; clear hO hFO hb)
        have hal : Below w2.heap.size w2 (w2.alloc (.cells #[.int .i64 (nw + 1), .slice (B 0) (m' 0) (e' 0), .slice (B 1) (m' 1) (e' 1), .slice (B 2) (m' 2) (e' 2), .slice (B 3) (m' 3) (e' 3), .slice (B 4) (m' 4) (e' 4), .slice (B 5) (m' 5) (e' 5), .slice (B 6) (m' 6) (e' 6), .slice (B 7) (m' 7) (e' 7)] 25)) := (Below.refl _ _).alloc (Nat.le_refl _) _
        have HY := Lib.hid (BoxW.alloc w2 (nw + 1) (fun i => .slice (B i) (m' i) (e' i)))
        have HB2 := Lib.hid (HB.out.trans (hal.mono HB.out.size))
        replace HO := Lib.hid (HO.out.below hal)
        replace HFO := Lib.hid (HFO.out.below hal)
        clear hal HB z0 z1 z2 z3 z4 z5 z6 z7 z8 zf dj df
        generalize w2.alloc (.cells #[.int .i64 (nw + 1), .slice (B 0) (m' 0) (e' 0), .slice (B 1) (m' 1) (e' 1), .slice (B 2) (m' 2) (e' 2), .slice (B 3) (m' 3) (e' 3), .slice (B 4) (m' 4) (e' 4), .slice (B 5) (m' 5) (e' 5), .slice (B 6) (m' 6) (e' 6), .slice (B 7) (m' 7) (e' 7)] 25) = W2 at *
        generalize w2.heap.size = bv at *
        have HX := Lib.hid (HM.out.b.below HB2.out)
        have HM3 := Lib.hid (HM.out.put4 (mw := nw + 1) HO.out HB2.out)
        have HFO3 : Hid (OwE ienc 1 3 (((((((((W2.setCell ⟨b4, 0, none⟩ (.int .i64 (nw + 1))).setCell ⟨b4, 1, none⟩ (.slice (B 0) (m' 0) (e' 0))).setCell ⟨b4, 2, none⟩ (.slice (B 1) (m' 1) (e' 1))).setCell ⟨b4, 3, none⟩ (.slice (B 2) (m' 2) (e' 2))).setCell ⟨b4, 4, none⟩ (.slice (B 3) (m' 3) (e' 3))).setCell ⟨b4, 5, none⟩ (.slice (B 4) (m' 4) (e' 4))).setCell ⟨b4, 6, none⟩ (.slice (B 5) (m' 5) (e' 5))).setCell ⟨b4, 7, none⟩ (.slice (B 6) (m' 6) (e' 6))).setCell ⟨b4, 8, none⟩ (.slice (B 7) (m' 7) (e' 7))) wr.heap.size (.slice F fn fc) fs) := Lib.hid (by
          obtain ⟨cx, hcx, _⟩ := HX.out
          have nf : ∀ k, (Value.slice F fn fc).ownBlock = some k → k ≠ b4 := fun k hk => by
            obtain ⟨cur, hcur⟩ := HFO.out.typed k hk
            exact blocks_ne (by decide) hcur hcx
          exact ((((((((HFO.out.far nf _).far nf _).far nf _).far nf _).far nf _).far nf _).far nf _).far nf _).far nf _)
        have y0 : W2.cell? ⟨bv, 0, none⟩ = some (.int .i64 (nw + 1)) := HY.out.now
        have y1 : W2.cell? ⟨bv, 1, none⟩ = some (.slice (B 0) (m' 0) (e' 0)) := HY.out.slot (show 0 < 8 by omega)
        have y2 : W2.cell? ⟨bv, 2, none⟩ = some (.slice (B 1) (m' 1) (e' 1)) := HY.out.slot (show 1 < 8 by omega)
        have y3 : W2.cell? ⟨bv, 3, none⟩ = some (.slice (B 2) (m' 2) (e' 2)) := HY.out.slot (show 2 < 8 by omega)
        have y4 : W2.cell? ⟨bv, 4, none⟩ = some (.slice (B 3) (m' 3) (e' 3)) := HY.out.slot (show 3 < 8 by omega)
        have y5 : W2.cell? ⟨bv, 5, none⟩ = some (.slice (B 4) (m' 4) (e' 4)) := HY.out.slot (show 4 < 8 by omega)
        have y6 : W2.cell? ⟨bv, 6, none⟩ = some (.slice (B 5) (m' 5) (e' 5)) := HY.out.slot (show 5 < 8 by omega)
        have y7 : W2.cell? ⟨bv, 7, none⟩ = some (.slice (B 6) (m' 6) (e' 6)) := HY.out.slot (show 6 < 8 by omega)
        have y8 : W2.cell? ⟨bv, 8, none⟩ = some (.slice (B 7) (m' 7) (e' 7)) := HY.out.slot (show 7 < 8 by omega)
        have z0 : W2.cell? ⟨b4, 0, none⟩ = some (.int .i64 nw) := HX.out.now
        have z1 : W2.cell? ⟨b4, 1, none⟩ = some (.slice (A 0) (n 0) (c 0)) := HX.out.slot (show 0 < 8 by omega)
        have z2 : W2.cell? ⟨b4, 2, none⟩ = some (.slice (A 1) (n 1) (c 1)) := HX.out.slot (show 1 < 8 by omega)
        have z3 : W2.cell? ⟨b4, 3, none⟩ = some (.slice (A 2) (n 2) (c 2)) := HX.out.slot (show 2 < 8 by omega)
        have z4 : W2.cell? ⟨b4, 4, none⟩ = some (.slice (A 3) (n 3) (c 3)) := HX.out.slot (show 3 < 8 by omega)
        have z5 : W2.cell? ⟨b4, 5, none⟩ = some (.slice (A 4) (n 4) (c 4)) := HX.out.slot (show 4 < 8 by omega)
        have z6 : W2.cell? ⟨b4, 6, none⟩ = some (.slice (A 5) (n 5) (c 5)) := HX.out.slot (show 5 < 8 by omega)
        have z7 : W2.cell? ⟨b4, 7, none⟩ = some (.slice (A 6) (n 6) (c 6)) := HX.out.slot (show 6 < 8 by omega)
        have z8 : W2.cell? ⟨b4, 8, none⟩ = some (.slice (A 7) (n 7) (c 7)) := HX.out.slot (show 7 < 8 by omega)
        have zf := HX.out.free
        go_upto_region 25 with fail
        generalize (((((((((W2.setCell ⟨b4, 0, none⟩ (.int .i64 (nw + 1))).setCell ⟨b4, 1, none⟩ (.slice (B 0) (m' 0) (e' 0))).setCell ⟨b4, 2, none⟩ (.slice (B 1) (m' 1) (e' 1))).setCell ⟨b4, 3, none⟩ (.slice (B 2) (m' 2) (e' 2))).setCell ⟨b4, 4, none⟩ (.slice (B 3) (m' 3) (e' 3))).setCell ⟨b4, 5, none⟩ (.slice (B 4) (m' 4) (e' 4))).setCell ⟨b4, 6, none⟩ (.slice (B 5) (m' 5) (e' 5))).setCell ⟨b4, 7, none⟩ (.slice (B 6) (m' 6) (e' 6))).setCell ⟨b4, 8, none⟩ (.slice (B 7) (m' 7) (e' 7))) = W3 at *
        clear z0 z1 z2 z3 z4 z5 z6 z7 z8 zf y0 y1 y2 y3 y4 y5 y6 y7 y8 HX HY HFO HO HB2 HM
        have hfn := HFO3.out.rd.len
        go_wp2_with fail
        go_loopg [12] fn (fun gg s12 wx => ∃ q : Nat, q ≤ fn ∧ fn - q ≤ gg ∧ s12 = .int .i64 q ∧ Aside (Mo w wx b4 b5 (nw + 1) B m' e' (tickT nw ts) (struck d (fs.take q)) ∧ OwE ienc 1 3 wx wr.heap.size (.slice F fn fc) fs))
        case atStart =>
          refine ⟨0, Nat.zero_le _, by omega, rfl, ?_⟩
          show Aside _
          rw [List.take_zero, struck_nil]
          exact ⟨HM3.out, HFO3.out⟩
        case round =>
          clear HM3 HFO3
          obtain ⟨q, hqq, hgq, rfl, HA⟩ := hrel
          have HMq := Lib.hid HA.out.1
          have HFq := Lib.hid HA.out.2
          clear HA
          have z0 := HMq.out.b.now
          have df := HMq.out.free5
          by_cases hq : q < fn
          · have hq1 : (q : Int) < (fn : Int) := by omega
            obtain ⟨bf, of', rfl, hbf, hfc⟩ := HFq.out.rd.get (by omega)
            have hfa : fs[q]? = some (fs[q]'(by omega)) := List.getElem?_eq_getElem _
            have htk : fs.take (q + 1) = fs.take q ++ [fs[q]'(by omega)] := List.take_succ_eq_append_getElem (by omega)
            generalize fs[q]'(by omega) = y at hfa htk
            obtain ⟨hy0, hy16, hys⟩ := HFS.out q y hfa
            obtain ⟨yn, rfl⟩ : ∃ k : Nat, y = k := ⟨y.toNat, by omega⟩
            rw [Int.toNat_natCast] at hys
            have hcy : wr.cell? ⟨bf, of' + q, none⟩ = some (.int .i64 (yn : Int)) := by have := hfc q 0 _ _ hfa rfl; simpa using this
            have hdy := HMq.out.due (j := yn) (by omega)
            rw [hys] at hdy
            have hy1 : ¬ (yn : Int) < 0 := by omega
            have hy2 : ¬ (15 : Int) < (yn : Int) := by omega
            have HTK := Lib.hid htk
            clear hfc hfa htk hys hy0
            go_upto_region 28 with fail
            go_quiet (fail)
            go_wp2_with fail
            go_roundg (fn - (q + 1))
            case measure => omega
            case rel =>
              refine ⟨q + 1, by omega, by omega, by simp, ?_⟩
              show Aside _
              rw [HTK.out, struck_snoc]
              have hdr := pw_below_drewN (Below.refl wr.heap.size wr) nq
              exact ⟨(HMq.out.below hdr).put5 (by omega) 0, fired_far (HMq.out.below hdr) (HFq.out.below hdr) _ _⟩
          · have hq1 : ¬ (q : Int) < (fn : Int) := by omega
            have hmq := HMq.out
            rw [List.take_of_length_le (by omega)] at hmq
            have HMe := Lib.hid hmq
            clear hmq HMq HFq
            go_wp2_with fail
            go_loopg [13] 16 (fun gg s13 wy => ∃ q : Nat, q ≤ 16 ∧ 16 - q ≤ gg ∧ s13 = .int .i64 q ∧ Aside (Mo w wy b4 b5 (nw + 1) B m' e' (tickT nw ts) (struck d fs)))
            case atStart =>
              refine ⟨0, Nat.zero_le _, by omega, rfl, ?_⟩
              show Aside _
              exact HMe.out
            case round =>
              clear HMe
              obtain ⟨q2, hq2, hg2, rfl, HA⟩ := hrel
              have HMe := Lib.hid HA.out
              have z0 := HMe.out.b.now
              clear HA
              by_cases hq3 : q2 < 16
              · have hq4 : (q2 : Int) < 16 := by omega
                have hdq := HMe.out.due hq3
                have hdx := HDD.out q2 hq3
                generalize struck d fs q2 = dv at hdq hdx
                by_cases hpos : 0 < dv
                · have hno : ¬ dv ≤ nw + 1 := by have := hdx hpos; omega
                  clear hdx
                  go_upto_region 34 with fail
                  go_quiet (fail)
                  go_wp2_with fail
                  go_roundg (16 - (q2 + 1))
                  case measure => omega
                  case rel =>
                    refine ⟨q2 + 1, by omega, by omega, by simp, ?_⟩
                    show Aside _
                    exact HMe.out.below (pw_below_drewN (Below.refl wr.heap.size wr) nq)
                · clear hdx
                  go_upto_region 34 with fail
                  go_quiet (fail)
                  go_wp2_with fail
                  go_roundg (16 - (q2 + 1))
                  case measure => omega
                  case rel =>
                    refine ⟨q2 + 1, by omega, by omega, by simp, ?_⟩
                    show Aside _
                    exact HMe.out.below (pw_below_drewN (Below.refl wr.heap.size wr) nq)
              · have hq4 : ¬ (q2 : Int) < 16 := by omega
                go_wp2_with fail
                go_roundg (min nl 100 - (kk + 1))
                case measure => omega
                case rel =>
                  refine ⟨kk + 1, by omega, by omega, by simp, B, m', e', (nw + 1), (tickT nw ts), (struck d fs), ?_⟩
                  show Aside _
                  exact ⟨HMe.out, HI.out⟩
      · have q44b : (x : Int) % 4 = (1 : Int) := q44
        clear q44
        have hti := HV.out.tick hk100
        obtain ⟨hE, hN, hI, hfl, hfs, hdd⟩ := hti
        generalize hF : tickF nw ts = fs at hI hfl hfs hdd
        have HE := Lib.hid hE
        have HN := Lib.hid hN
        have HF := Lib.hid hF
        have HI := Lib.hid hI
        have HFS := Lib.hid hfs
        have HDD := Lib.hid hdd
        clear hE hN hF hI hfs hdd
        go_upto_region 22 with (go_at_call 11; refine (tickO_any wr nw A n c ts HM.out.o.rd htot HV.out.wf).mono ?_; unfold TickPostO; rw [HE.out, HN.out, HF.out]; rintro e w2 ⟨B, m', e', F, fn, fc, rfl, hO, hFO, hb⟩; have HO := Lib.hid hO; have HFO := Lib.hid hFO; have HB := Lib.hid hb; clear hO hFO hb)
        have hal : Below w2.heap.size w2 (w2.alloc (.cells #[.int .i64 (nw + 1), .slice (B 0) (m' 0) (e' 0), .slice (B 1) (m' 1) (e' 1), .slice (B 2) (m' 2) (e' 2), .slice (B 3) (m' 3) (e' 3), .slice (B 4) (m' 4) (e' 4), .slice (B 5) (m' 5) (e' 5), .slice (B 6) (m' 6) (e' 6), .slice (B 7) (m' 7) (e' 7)] 25)) := (Below.refl _ _).alloc (Nat.le_refl _) _
        have HY := Lib.hid (BoxW.alloc w2 (nw + 1) (fun i => .slice (B i) (m' i) (e' i)))
        have HB2 := Lib.hid (HB.out.trans (hal.mono HB.out.size))
        replace HO := Lib.hid (HO.out.below hal)
        replace HFO := Lib.hid (HFO.out.below hal)
        clear hal HB z0 z1 z2 z3 z4 z5 z6 z7 z8 zf dj df
        generalize w2.alloc (.cells #[.int .i64 (nw + 1), .slice (B 0) (m' 0) (e' 0), .slice (B 1) (m' 1) (e' 1), .slice (B 2) (m' 2) (e' 2), .slice (B 3) (m' 3) (e' 3), .slice (B 4) (m' 4) (e' 4), .slice (B 5) (m' 5) (e' 5), .slice (B 6) (m' 6) (e' 6), .slice (B 7) (m' 7) (e' 7)] 25) = W2 at *
        generalize w2.heap.size = bv at *
        have HX := Lib.hid (HM.out.b.below HB2.out)
        have HM3 := Lib.hid (HM.out.put4 (mw := nw + 1) HO.out HB2.out)
        have HFO3 : Hid (OwE ienc 1 3 (((((((((W2.setCell ⟨b4, 0, none⟩ (.int .i64 (nw + 1))).setCell ⟨b4, 1, none⟩ (.slice (B 0) (m' 0) (e' 0))).setCell ⟨b4, 2, none⟩ (.slice (B 1) (m' 1) (e' 1))).setCell ⟨b4, 3, none⟩ (.slice (B 2) (m' 2) (e' 2))).setCell ⟨b4, 4, none⟩ (.slice (B 3) (m' 3) (e' 3))).setCell ⟨b4, 5, none⟩ (.slice (B 4) (m' 4) (e' 4))).setCell ⟨b4, 6, none⟩ (.slice (B 5) (m' 5) (e' 5))).setCell ⟨b4, 7, none⟩ (.slice (B 6) (m' 6) (e' 6))).setCell ⟨b4, 8, none⟩ (.slice (B 7) (m' 7) (e' 7))) wr.heap.size (.slice F fn fc) fs) := Lib.hid (by
          obtain ⟨cx, hcx, _⟩ := HX.out
          have nf : ∀ k, (Value.slice F fn fc).ownBlock = some k → k ≠ b4 := fun k hk => by
            obtain ⟨cur, hcur⟩ := HFO.out.typed k hk
            exact blocks_ne (by decide) hcur hcx
          exact ((((((((HFO.out.far nf _).far nf _).far nf _).far nf _).far nf _).far nf _).far nf _).far nf _).far nf _)
        have y0 : W2.cell? ⟨bv, 0, none⟩ = some (.int .i64 (nw + 1)) := HY.out.now
        have y1 : W2.cell? ⟨bv, 1, none⟩ = some (.slice (B 0) (m' 0) (e' 0)) := HY.out.slot (show 0 < 8 by omega)
        have y2 : W2.cell? ⟨bv, 2, none⟩ = some (.slice (B 1) (m' 1) (e' 1)) := HY.out.slot (show 1 < 8 by omega)
        have y3 : W2.cell? ⟨bv, 3, none⟩ = some (.slice (B 2) (m' 2) (e' 2)) := HY.out.slot (show 2 < 8 by omega)
        have y4 : W2.cell? ⟨bv, 4, none⟩ = some (.slice (B 3) (m' 3) (e' 3)) := HY.out.slot (show 3 < 8 by omega)
        have y5 : W2.cell? ⟨bv, 5, none⟩ = some (.slice (B 4) (m' 4) (e' 4)) := HY.out.slot (show 4 < 8 by omega)
        have y6 : W2.cell? ⟨bv, 6, none⟩ = some (.slice (B 5) (m' 5) (e' 5)) := HY.out.slot (show 5 < 8 by omega)
        have y7 : W2.cell? ⟨bv, 7, none⟩ = some (.slice (B 6) (m' 6) (e' 6)) := HY.out.slot (show 6 < 8 by omega)
        have y8 : W2.cell? ⟨bv, 8, none⟩ = some (.slice (B 7) (m' 7) (e' 7)) := HY.out.slot (show 7 < 8 by omega)
        have z0 : W2.cell? ⟨b4, 0, none⟩ = some (.int .i64 nw) := HX.out.now
        have z1 : W2.cell? ⟨b4, 1, none⟩ = some (.slice (A 0) (n 0) (c 0)) := HX.out.slot (show 0 < 8 by omega)
        have z2 : W2.cell? ⟨b4, 2, none⟩ = some (.slice (A 1) (n 1) (c 1)) := HX.out.slot (show 1 < 8 by omega)
        have z3 : W2.cell? ⟨b4, 3, none⟩ = some (.slice (A 2) (n 2) (c 2)) := HX.out.slot (show 2 < 8 by omega)
        have z4 : W2.cell? ⟨b4, 4, none⟩ = some (.slice (A 3) (n 3) (c 3)) := HX.out.slot (show 3 < 8 by omega)
        have z5 : W2.cell? ⟨b4, 5, none⟩ = some (.slice (A 4) (n 4) (c 4)) := HX.out.slot (show 4 < 8 by omega)
        have z6 : W2.cell? ⟨b4, 6, none⟩ = some (.slice (A 5) (n 5) (c 5)) := HX.out.slot (show 5 < 8 by omega)
        have z7 : W2.cell? ⟨b4, 7, none⟩ = some (.slice (A 6) (n 6) (c 6)) := HX.out.slot (show 6 < 8 by omega)
        have z8 : W2.cell? ⟨b4, 8, none⟩ = some (.slice (A 7) (n 7) (c 7)) := HX.out.slot (show 7 < 8 by omega)
        have zf := HX.out.free
        go_upto_region 25 with fail
        generalize (((((((((W2.setCell ⟨b4, 0, none⟩ (.int .i64 (nw + 1))).setCell ⟨b4, 1, none⟩ (.slice (B 0) (m' 0) (e' 0))).setCell ⟨b4, 2, none⟩ (.slice (B 1) (m' 1) (e' 1))).setCell ⟨b4, 3, none⟩ (.slice (B 2) (m' 2) (e' 2))).setCell ⟨b4, 4, none⟩ (.slice (B 3) (m' 3) (e' 3))).setCell ⟨b4, 5, none⟩ (.slice (B 4) (m' 4) (e' 4))).setCell ⟨b4, 6, none⟩ (.slice (B 5) (m' 5) (e' 5))).setCell ⟨b4, 7, none⟩ (.slice (B 6) (m' 6) (e' 6))).setCell ⟨b4, 8, none⟩ (.slice (B 7) (m' 7) (e' 7))) = W3 at *
        clear z0 z1 z2 z3 z4 z5 z6 z7 z8 zf y0 y1 y2 y3 y4 y5 y6 y7 y8 HX HY HFO HO HB2 HM
        have hfn := HFO3.out.rd.len
        go_wp2_with fail
        go_loopg [12] fn (fun gg s12 wx => ∃ q : Nat, q ≤ fn ∧ fn - q ≤ gg ∧ s12 = .int .i64 q ∧ Aside (Mo w wx b4 b5 (nw + 1) B m' e' (tickT nw ts) (struck d (fs.take q)) ∧ OwE ienc 1 3 wx wr.heap.size (.slice F fn fc) fs))
        case atStart =>
          refine ⟨0, Nat.zero_le _, by omega, rfl, ?_⟩
          show Aside _
          rw [List.take_zero, struck_nil]
          exact ⟨HM3.out, HFO3.out⟩
        case round =>
          clear HM3 HFO3
          obtain ⟨q, hqq, hgq, rfl, HA⟩ := hrel
          have HMq := Lib.hid HA.out.1
          have HFq := Lib.hid HA.out.2
          clear HA
          have z0 := HMq.out.b.now
          have df := HMq.out.free5
          by_cases hq : q < fn
          · have hq1 : (q : Int) < (fn : Int) := by omega
            obtain ⟨bf, of', rfl, hbf, hfc⟩ := HFq.out.rd.get (by omega)
            have hfa : fs[q]? = some (fs[q]'(by omega)) := List.getElem?_eq_getElem _
            have htk : fs.take (q + 1) = fs.take q ++ [fs[q]'(by omega)] := List.take_succ_eq_append_getElem (by omega)
            generalize fs[q]'(by omega) = y at hfa htk
            obtain ⟨hy0, hy16, hys⟩ := HFS.out q y hfa
            obtain ⟨yn, rfl⟩ : ∃ k : Nat, y = k := ⟨y.toNat, by omega⟩
            rw [Int.toNat_natCast] at hys
            have hcy : wr.cell? ⟨bf, of' + q, none⟩ = some (.int .i64 (yn : Int)) := by have := hfc q 0 _ _ hfa rfl; simpa using this
            have hdy := HMq.out.due (j := yn) (by omega)
            rw [hys] at hdy
            have hy1 : ¬ (yn : Int) < 0 := by omega
            have hy2 : ¬ (15 : Int) < (yn : Int) := by omega
            have HTK := Lib.hid htk
            clear hfc hfa htk hys hy0
            go_upto_region 28 with fail
            go_quiet (fail)
            go_wp2_with fail
            go_roundg (fn - (q + 1))
            case measure => omega
            case rel =>
              refine ⟨q + 1, by omega, by omega, by simp, ?_⟩
              show Aside _
              rw [HTK.out, struck_snoc]
              have hdr := pw_below_drewN (Below.refl wr.heap.size wr) nq
              exact ⟨(HMq.out.below hdr).put5 (by omega) 0, fired_far (HMq.out.below hdr) (HFq.out.below hdr) _ _⟩
          · have hq1 : ¬ (q : Int) < (fn : Int) := by omega
            have hmq := HMq.out
            rw [List.take_of_length_le (by omega)] at hmq
            have HMe := Lib.hid hmq
            clear hmq HMq HFq
            go_wp2_with fail
            go_loopg [13] 16 (fun gg s13 wy => ∃ q : Nat, q ≤ 16 ∧ 16 - q ≤ gg ∧ s13 = .int .i64 q ∧ Aside (Mo w wy b4 b5 (nw + 1) B m' e' (tickT nw ts) (struck d fs)))
            case atStart =>
              refine ⟨0, Nat.zero_le _, by omega, rfl, ?_⟩
              show Aside _
              exact HMe.out
            case round =>
              clear HMe
              obtain ⟨q2, hq2, hg2, rfl, HA⟩ := hrel
              have HMe := Lib.hid HA.out
              have z0 := HMe.out.b.now
              clear HA
              by_cases hq3 : q2 < 16
              · have hq4 : (q2 : Int) < 16 := by omega
                have hdq := HMe.out.due hq3
                have hdx := HDD.out q2 hq3
                generalize struck d fs q2 = dv at hdq hdx
                by_cases hpos : 0 < dv
                · have hno : ¬ dv ≤ nw + 1 := by have := hdx hpos; omega
                  clear hdx
                  go_upto_region 34 with fail
                  go_quiet (fail)
                  go_wp2_with fail
                  go_roundg (16 - (q2 + 1))
                  case measure => omega
                  case rel =>
                    refine ⟨q2 + 1, by omega, by omega, by simp, ?_⟩
                    show Aside _
                    exact HMe.out.below (pw_below_drewN (Below.refl wr.heap.size wr) nq)
                · clear hdx
                  go_upto_region 34 with fail
                  go_quiet (fail)
                  go_wp2_with fail
                  go_roundg (16 - (q2 + 1))
                  case measure => omega
                  case rel =>
                    refine ⟨q2 + 1, by omega, by omega, by simp, ?_⟩
                    show Aside _
                    exact HMe.out.below (pw_below_drewN (Below.refl wr.heap.size wr) nq)
              · have hq4 : ¬ (q2 : Int) < 16 := by omega
                go_wp2_with fail
                go_roundg (min nl 100 - (kk + 1))
                case measure => omega
                case rel =>
                  refine ⟨kk + 1, by omega, by omega, by simp, B, m', e', (nw + 1), (tickT nw ts), (struck d fs), ?_⟩
                  show Aside _
                  exact ⟨HMe.out, HI.out⟩
      · have q44b : (x : Int) % 4 = (2 : Int) := q44
        clear q44
        obtain ⟨hor, hI⟩ := HV.out.cancel hj16
        have HI := Lib.hid hI
        clear hI
        obtain ⟨hE, hp⟩ | ⟨hE, hp⟩ := hor
        · have HE := Lib.hid hE
          clear hE
          go_upto_region 38 with (go_at_call 12; refine (cancel_any wr nw A n c ts (j : Int) HM.out.o.rd htot HV.out.wf).mono ?_; unfold WePost; rw [HE.out]; rintro e w2 ⟨B, m', e', rfl, hO, hb⟩; have HO := Lib.hid hO; have HB := Lib.hid hb; clear hO hb)
          have hal : Below w2.heap.size w2 (w2.alloc (.cells #[.int .i64 nw, .slice (B 0) (m' 0) (e' 0), .slice (B 1) (m' 1) (e' 1), .slice (B 2) (m' 2) (e' 2), .slice (B 3) (m' 3) (e' 3), .slice (B 4) (m' 4) (e' 4), .slice (B 5) (m' 5) (e' 5), .slice (B 6) (m' 6) (e' 6), .slice (B 7) (m' 7) (e' 7)] 25)) := (Below.refl _ _).alloc (Nat.le_refl _) _
          have HY := Lib.hid (BoxW.alloc w2 nw (fun i => .slice (B i) (m' i) (e' i)))
          have HB2 := Lib.hid (HB.out.trans (hal.mono HB.out.size))
          replace HO := Lib.hid (HO.out.below hal)
          clear hal HB z0 z1 z2 z3 z4 z5 z6 z7 z8 zf dj df
          generalize w2.alloc (.cells #[.int .i64 nw, .slice (B 0) (m' 0) (e' 0), .slice (B 1) (m' 1) (e' 1), .slice (B 2) (m' 2) (e' 2), .slice (B 3) (m' 3) (e' 3), .slice (B 4) (m' 4) (e' 4), .slice (B 5) (m' 5) (e' 5), .slice (B 6) (m' 6) (e' 6), .slice (B 7) (m' 7) (e' 7)] 25) = W2 at *
          generalize w2.heap.size = bv at *
          have HX := Lib.hid (HM.out.b.below HB2.out)
          have HM3 := Lib.hid (HM.out.put4 (mw := nw) HO.out HB2.out)
          have y0 : W2.cell? ⟨bv, 0, none⟩ = some (.int .i64 nw) := HY.out.now
          have y1 : W2.cell? ⟨bv, 1, none⟩ = some (.slice (B 0) (m' 0) (e' 0)) := HY.out.slot (show 0 < 8 by omega)
          have y2 : W2.cell? ⟨bv, 2, none⟩ = some (.slice (B 1) (m' 1) (e' 1)) := HY.out.slot (show 1 < 8 by omega)
          have y3 : W2.cell? ⟨bv, 3, none⟩ = some (.slice (B 2) (m' 2) (e' 2)) := HY.out.slot (show 2 < 8 by omega)
          have y4 : W2.cell? ⟨bv, 4, none⟩ = some (.slice (B 3) (m' 3) (e' 3)) := HY.out.slot (show 3 < 8 by omega)
          have y5 : W2.cell? ⟨bv, 5, none⟩ = some (.slice (B 4) (m' 4) (e' 4)) := HY.out.slot (show 4 < 8 by omega)
          have y6 : W2.cell? ⟨bv, 6, none⟩ = some (.slice (B 5) (m' 5) (e' 5)) := HY.out.slot (show 5 < 8 by omega)
          have y7 : W2.cell? ⟨bv, 7, none⟩ = some (.slice (B 6) (m' 6) (e' 6)) := HY.out.slot (show 6 < 8 by omega)
          have y8 : W2.cell? ⟨bv, 8, none⟩ = some (.slice (B 7) (m' 7) (e' 7)) := HY.out.slot (show 7 < 8 by omega)
          have z0 : W2.cell? ⟨b4, 0, none⟩ = some (.int .i64 nw) := HX.out.now
          have z1 : W2.cell? ⟨b4, 1, none⟩ = some (.slice (A 0) (n 0) (c 0)) := HX.out.slot (show 0 < 8 by omega)
          have z2 : W2.cell? ⟨b4, 2, none⟩ = some (.slice (A 1) (n 1) (c 1)) := HX.out.slot (show 1 < 8 by omega)
          have z3 : W2.cell? ⟨b4, 3, none⟩ = some (.slice (A 2) (n 2) (c 2)) := HX.out.slot (show 2 < 8 by omega)
          have z4 : W2.cell? ⟨b4, 4, none⟩ = some (.slice (A 3) (n 3) (c 3)) := HX.out.slot (show 3 < 8 by omega)
          have z5 : W2.cell? ⟨b4, 5, none⟩ = some (.slice (A 4) (n 4) (c 4)) := HX.out.slot (show 4 < 8 by omega)
          have z6 : W2.cell? ⟨b4, 6, none⟩ = some (.slice (A 5) (n 5) (c 5)) := HX.out.slot (show 5 < 8 by omega)
          have z7 : W2.cell? ⟨b4, 7, none⟩ = some (.slice (A 6) (n 6) (c 6)) := HX.out.slot (show 6 < 8 by omega)
          have z8 : W2.cell? ⟨b4, 8, none⟩ = some (.slice (A 7) (n 7) (c 7)) := HX.out.slot (show 7 < 8 by omega)
          have zf := HX.out.free
          go_upto_region 41 with fail
          generalize (((((((((W2.setCell ⟨b4, 0, none⟩ (.int .i64 nw)).setCell ⟨b4, 1, none⟩ (.slice (B 0) (m' 0) (e' 0))).setCell ⟨b4, 2, none⟩ (.slice (B 1) (m' 1) (e' 1))).setCell ⟨b4, 3, none⟩ (.slice (B 2) (m' 2) (e' 2))).setCell ⟨b4, 4, none⟩ (.slice (B 3) (m' 3) (e' 3))).setCell ⟨b4, 5, none⟩ (.slice (B 4) (m' 4) (e' 4))).setCell ⟨b4, 6, none⟩ (.slice (B 5) (m' 5) (e' 5))).setCell ⟨b4, 7, none⟩ (.slice (B 6) (m' 6) (e' 6))).setCell ⟨b4, 8, none⟩ (.slice (B 7) (m' 7) (e' 7))) = W3 at *
          clear z0 z1 z2 z3 z4 z5 z6 z7 z8 zf y0 y1 y2 y3 y4 y5 y6 y7 y8 HX HY HO HB2 HM
          have df := HM3.out.free5
          have dj := HM3.out.due hj16
          go_wp2_with fail
          go_roundg (min nl 100 - (kk + 1))
          case measure => omega
          case rel =>
            refine ⟨kk + 1, by omega, by omega, by simp, B, m', e', nw, (canT nw ts (j : Int)), (upd d j 0), ?_⟩
            show Aside _
            exact ⟨HM3.out.put5 hj16 0, HI.out⟩
        · have hp1 : ¬ 0 < d j := by omega
          have HE := Lib.hid hE
          clear hE
          go_upto_region 38 with (go_at_call 12; refine (cancel_any wr nw A n c ts (j : Int) HM.out.o.rd htot HV.out.wf).mono ?_; unfold WePost; rw [HE.out]; rintro e w2 ⟨B, m', e', rfl, hO, hb⟩; have HO := Lib.hid hO; have HB := Lib.hid hb; clear hO hb)
          have hal : Below w2.heap.size w2 (w2.alloc (.cells #[.int .i64 nw, .slice (B 0) (m' 0) (e' 0), .slice (B 1) (m' 1) (e' 1), .slice (B 2) (m' 2) (e' 2), .slice (B 3) (m' 3) (e' 3), .slice (B 4) (m' 4) (e' 4), .slice (B 5) (m' 5) (e' 5), .slice (B 6) (m' 6) (e' 6), .slice (B 7) (m' 7) (e' 7)] 25)) := (Below.refl _ _).alloc (Nat.le_refl _) _
          have HY := Lib.hid (BoxW.alloc w2 nw (fun i => .slice (B i) (m' i) (e' i)))
          have HB2 := Lib.hid (HB.out.trans (hal.mono HB.out.size))
          replace HO := Lib.hid (HO.out.below hal)
          clear hal HB z0 z1 z2 z3 z4 z5 z6 z7 z8 zf dj df
          generalize w2.alloc (.cells #[.int .i64 nw, .slice (B 0) (m' 0) (e' 0), .slice (B 1) (m' 1) (e' 1), .slice (B 2) (m' 2) (e' 2), .slice (B 3) (m' 3) (e' 3), .slice (B 4) (m' 4) (e' 4), .slice (B 5) (m' 5) (e' 5), .slice (B 6) (m' 6) (e' 6), .slice (B 7) (m' 7) (e' 7)] 25) = W2 at *
          generalize w2.heap.size = bv at *
          have HX := Lib.hid (HM.out.b.below HB2.out)
          have HM3 := Lib.hid (HM.out.put4 (mw := nw) HO.out HB2.out)
          have y0 : W2.cell? ⟨bv, 0, none⟩ = some (.int .i64 nw) := HY.out.now
          have y1 : W2.cell? ⟨bv, 1, none⟩ = some (.slice (B 0) (m' 0) (e' 0)) := HY.out.slot (show 0 < 8 by omega)
          have y2 : W2.cell? ⟨bv, 2, none⟩ = some (.slice (B 1) (m' 1) (e' 1)) := HY.out.slot (show 1 < 8 by omega)
          have y3 : W2.cell? ⟨bv, 3, none⟩ = some (.slice (B 2) (m' 2) (e' 2)) := HY.out.slot (show 2 < 8 by omega)
          have y4 : W2.cell? ⟨bv, 4, none⟩ = some (.slice (B 3) (m' 3) (e' 3)) := HY.out.slot (show 3 < 8 by omega)
          have y5 : W2.cell? ⟨bv, 5, none⟩ = some (.slice (B 4) (m' 4) (e' 4)) := HY.out.slot (show 4 < 8 by omega)
          have y6 : W2.cell? ⟨bv, 6, none⟩ = some (.slice (B 5) (m' 5) (e' 5)) := HY.out.slot (show 5 < 8 by omega)
          have y7 : W2.cell? ⟨bv, 7, none⟩ = some (.slice (B 6) (m' 6) (e' 6)) := HY.out.slot (show 6 < 8 by omega)
          have y8 : W2.cell? ⟨bv, 8, none⟩ = some (.slice (B 7) (m' 7) (e' 7)) := HY.out.slot (show 7 < 8 by omega)
          have z0 : W2.cell? ⟨b4, 0, none⟩ = some (.int .i64 nw) := HX.out.now
          have z1 : W2.cell? ⟨b4, 1, none⟩ = some (.slice (A 0) (n 0) (c 0)) := HX.out.slot (show 0 < 8 by omega)
          have z2 : W2.cell? ⟨b4, 2, none⟩ = some (.slice (A 1) (n 1) (c 1)) := HX.out.slot (show 1 < 8 by omega)
          have z3 : W2.cell? ⟨b4, 3, none⟩ = some (.slice (A 2) (n 2) (c 2)) := HX.out.slot (show 2 < 8 by omega)
          have z4 : W2.cell? ⟨b4, 4, none⟩ = some (.slice (A 3) (n 3) (c 3)) := HX.out.slot (show 3 < 8 by omega)
          have z5 : W2.cell? ⟨b4, 5, none⟩ = some (.slice (A 4) (n 4) (c 4)) := HX.out.slot (show 4 < 8 by omega)
          have z6 : W2.cell? ⟨b4, 6, none⟩ = some (.slice (A 5) (n 5) (c 5)) := HX.out.slot (show 5 < 8 by omega)
          have z7 : W2.cell? ⟨b4, 7, none⟩ = some (.slice (A 6) (n 6) (c 6)) := HX.out.slot (show 6 < 8 by omega)
          have z8 : W2.cell? ⟨b4, 8, none⟩ = some (.slice (A 7) (n 7) (c 7)) := HX.out.slot (show 7 < 8 by omega)
          have zf := HX.out.free
          go_upto_region 41 with fail
          generalize (((((((((W2.setCell ⟨b4, 0, none⟩ (.int .i64 nw)).setCell ⟨b4, 1, none⟩ (.slice (B 0) (m' 0) (e' 0))).setCell ⟨b4, 2, none⟩ (.slice (B 1) (m' 1) (e' 1))).setCell ⟨b4, 3, none⟩ (.slice (B 2) (m' 2) (e' 2))).setCell ⟨b4, 4, none⟩ (.slice (B 3) (m' 3) (e' 3))).setCell ⟨b4, 5, none⟩ (.slice (B 4) (m' 4) (e' 4))).setCell ⟨b4, 6, none⟩ (.slice (B 5) (m' 5) (e' 5))).setCell ⟨b4, 7, none⟩ (.slice (B 6) (m' 6) (e' 6))).setCell ⟨b4, 8, none⟩ (.slice (B 7) (m' 7) (e' 7))) = W3 at *
          clear z0 z1 z2 z3 z4 z5 z6 z7 z8 zf y0 y1 y2 y3 y4 y5 y6 y7 y8 HX HY HO HB2 HM
          have df := HM3.out.free5
          have dj := HM3.out.due hj16
          go_wp2_with fail
          go_roundg (min nl 100 - (kk + 1))
          case measure => omega
          case rel =>
            refine ⟨kk + 1, by omega, by omega, by simp, B, m', e', nw, (canT nw ts (j : Int)), (upd d j 0), ?_⟩
            show Aside _
            exact ⟨HM3.out.put5 hj16 0, HI.out⟩
      · have q44b : (x : Int) % 4 = (3 : Int) := q44
        clear q44
        go_upto_region 12 with fail
        go_quiet (fail)
        replace HM := Lib.hid (HM.out.below (pw_below_drewN (Below.refl wr.heap.size wr) nq))
        replace htot := HM.out.tot HV.out
        clear z0 z1 z2 z3 z4 z5 z6 z7 z8 zf dj df hc
        generalize wr.drewN nq = V at *
        have z0 : V.cell? ⟨b4, 0, none⟩ = some (.int .i64 nw) := HM.out.b.now
        have z1 : V.cell? ⟨b4, 1, none⟩ = some (.slice (A 0) (n 0) (c 0)) := HM.out.b.slot (show 0 < 8 by omega)
        have z2 : V.cell? ⟨b4, 2, none⟩ = some (.slice (A 1) (n 1) (c 1)) := HM.out.b.slot (show 1 < 8 by omega)
        have z3 : V.cell? ⟨b4, 3, none⟩ = some (.slice (A 2) (n 2) (c 2)) := HM.out.b.slot (show 2 < 8 by omega)
        have z4 : V.cell? ⟨b4, 4, none⟩ = some (.slice (A 3) (n 3) (c 3)) := HM.out.b.slot (show 3 < 8 by omega)
        have z5 : V.cell? ⟨b4, 5, none⟩ = some (.slice (A 4) (n 4) (c 4)) := HM.out.b.slot (show 4 < 8 by omega)
        have z6 : V.cell? ⟨b4, 6, none⟩ = some (.slice (A 5) (n 5) (c 5)) := HM.out.b.slot (show 5 < 8 by omega)
        have z7 : V.cell? ⟨b4, 7, none⟩ = some (.slice (A 6) (n 6) (c 6)) := HM.out.b.slot (show 6 < 8 by omega)
        have z8 : V.cell? ⟨b4, 8, none⟩ = some (.slice (A 7) (n 7) (c 7)) := HM.out.b.slot (show 7 < 8 by omega)
        have zf := HM.out.b.free
        have dj := HM.out.due hj16
        have df := HM.out.free5
        obtain ⟨hs0, hs1⟩ := HV.out.set hk100 hj16 hm19
        by_cases hp : 0 < d j
        · obtain ⟨hE, hT⟩ := hs1 hp
          clear hs0 hs1
          have HI := Lib.hid (HV.out.more (Nat.le_succ kk))
          have HE := Lib.hid hE
          have HT := Lib.hid hT
          clear hE hT
          go_upto_region 14 with (go_at_call 13; refine (set_any V nw A n c ts (j : Int) (nw + 1 + (m : Int)) HM.out.o.rd htot HV.out.wf).mono ?_; unfold WePost; rw [HE.out, HT.out]; rintro e w2 ⟨B, m', e', rfl, hO, hb⟩; have HO := Lib.hid hO; have HB := Lib.hid hb; clear hO hb)
          have hal : Below w2.heap.size w2 (w2.alloc (.cells #[.int .i64 nw, .slice (B 0) (m' 0) (e' 0), .slice (B 1) (m' 1) (e' 1), .slice (B 2) (m' 2) (e' 2), .slice (B 3) (m' 3) (e' 3), .slice (B 4) (m' 4) (e' 4), .slice (B 5) (m' 5) (e' 5), .slice (B 6) (m' 6) (e' 6), .slice (B 7) (m' 7) (e' 7)] 25)) := (Below.refl _ _).alloc (Nat.le_refl _) _
          have HY := Lib.hid (BoxW.alloc w2 nw (fun i => .slice (B i) (m' i) (e' i)))
          have HB2 := Lib.hid (HB.out.trans (hal.mono HB.out.size))
          replace HO := Lib.hid (HO.out.below hal)
          clear hal HB z0 z1 z2 z3 z4 z5 z6 z7 z8 zf dj df
          generalize w2.alloc (.cells #[.int .i64 nw, .slice (B 0) (m' 0) (e' 0), .slice (B 1) (m' 1) (e' 1), .slice (B 2) (m' 2) (e' 2), .slice (B 3) (m' 3) (e' 3), .slice (B 4) (m' 4) (e' 4), .slice (B 5) (m' 5) (e' 5), .slice (B 6) (m' 6) (e' 6), .slice (B 7) (m' 7) (e' 7)] 25) = W2 at *
          generalize w2.heap.size = bv at *
          have HX := Lib.hid (HM.out.b.below HB2.out)
          have HM3 := Lib.hid (HM.out.put4 (mw := nw) HO.out HB2.out)
          have y0 : W2.cell? ⟨bv, 0, none⟩ = some (.int .i64 nw) := HY.out.now
          have y1 : W2.cell? ⟨bv, 1, none⟩ = some (.slice (B 0) (m' 0) (e' 0)) := HY.out.slot (show 0 < 8 by omega)
          have y2 : W2.cell? ⟨bv, 2, none⟩ = some (.slice (B 1) (m' 1) (e' 1)) := HY.out.slot (show 1 < 8 by omega)
          have y3 : W2.cell? ⟨bv, 3, none⟩ = some (.slice (B 2) (m' 2) (e' 2)) := HY.out.slot (show 2 < 8 by omega)
          have y4 : W2.cell? ⟨bv, 4, none⟩ = some (.slice (B 3) (m' 3) (e' 3)) := HY.out.slot (show 3 < 8 by omega)
          have y5 : W2.cell? ⟨bv, 5, none⟩ = some (.slice (B 4) (m' 4) (e' 4)) := HY.out.slot (show 4 < 8 by omega)
          have y6 : W2.cell? ⟨bv, 6, none⟩ = some (.slice (B 5) (m' 5) (e' 5)) := HY.out.slot (show 5 < 8 by omega)
          have y7 : W2.cell? ⟨bv, 7, none⟩ = some (.slice (B 6) (m' 6) (e' 6)) := HY.out.slot (show 6 < 8 by omega)
          have y8 : W2.cell? ⟨bv, 8, none⟩ = some (.slice (B 7) (m' 7) (e' 7)) := HY.out.slot (show 7 < 8 by omega)
          have z0 : W2.cell? ⟨b4, 0, none⟩ = some (.int .i64 nw) := HX.out.now
          have z1 : W2.cell? ⟨b4, 1, none⟩ = some (.slice (A 0) (n 0) (c 0)) := HX.out.slot (show 0 < 8 by omega)
          have z2 : W2.cell? ⟨b4, 2, none⟩ = some (.slice (A 1) (n 1) (c 1)) := HX.out.slot (show 1 < 8 by omega)
          have z3 : W2.cell? ⟨b4, 3, none⟩ = some (.slice (A 2) (n 2) (c 2)) := HX.out.slot (show 2 < 8 by omega)
          have z4 : W2.cell? ⟨b4, 4, none⟩ = some (.slice (A 3) (n 3) (c 3)) := HX.out.slot (show 3 < 8 by omega)
          have z5 : W2.cell? ⟨b4, 5, none⟩ = some (.slice (A 4) (n 4) (c 4)) := HX.out.slot (show 4 < 8 by omega)
          have z6 : W2.cell? ⟨b4, 6, none⟩ = some (.slice (A 5) (n 5) (c 5)) := HX.out.slot (show 5 < 8 by omega)
          have z7 : W2.cell? ⟨b4, 7, none⟩ = some (.slice (A 6) (n 6) (c 6)) := HX.out.slot (show 6 < 8 by omega)
          have z8 : W2.cell? ⟨b4, 8, none⟩ = some (.slice (A 7) (n 7) (c 7)) := HX.out.slot (show 7 < 8 by omega)
          have zf := HX.out.free
          go_upto_region 17 with fail
          generalize (((((((((W2.setCell ⟨b4, 0, none⟩ (.int .i64 nw)).setCell ⟨b4, 1, none⟩ (.slice (B 0) (m' 0) (e' 0))).setCell ⟨b4, 2, none⟩ (.slice (B 1) (m' 1) (e' 1))).setCell ⟨b4, 3, none⟩ (.slice (B 2) (m' 2) (e' 2))).setCell ⟨b4, 4, none⟩ (.slice (B 3) (m' 3) (e' 3))).setCell ⟨b4, 5, none⟩ (.slice (B 4) (m' 4) (e' 4))).setCell ⟨b4, 6, none⟩ (.slice (B 5) (m' 5) (e' 5))).setCell ⟨b4, 7, none⟩ (.slice (B 6) (m' 6) (e' 6))).setCell ⟨b4, 8, none⟩ (.slice (B 7) (m' 7) (e' 7))) = W3 at *
          clear z0 z1 z2 z3 z4 z5 z6 z7 z8 zf y0 y1 y2 y3 y4 y5 y6 y7 y8 HX HY HO HB2 HM
          have df := HM3.out.free5
          have dj := HM3.out.due hj16
          go_wp2_with fail
          go_roundg (min nl 100 - (kk + 1))
          case measure => omega
          case rel =>
            refine ⟨kk + 1, by omega, by omega, by simp, B, m', e', nw, ts, d, ?_⟩
            show Aside _
            exact ⟨HM3.out, HI.out⟩
        · obtain ⟨hE, hI⟩ := hs0 (by omega)
          clear hs0 hs1
          have hpb : decide (0 < d j) = false := by simp; omega
          obtain ⟨us, hT⟩ : ∃ us, setT nw ts (j : Int) (nw + 1 + (m : Int)) = us := ⟨_, rfl⟩
          rw [hT] at hI
          have HI := Lib.hid hI
          clear hI
          have HE := Lib.hid hE
          have HT := Lib.hid hT
          clear hE hT
          go_upto_region 14 with (go_at_call 13; refine (set_any V nw A n c ts (j : Int) (nw + 1 + (m : Int)) HM.out.o.rd htot HV.out.wf).mono ?_; unfold WePost; rw [HE.out, HT.out]; rintro e w2 ⟨B, m', e', rfl, hO, hb⟩; have HO := Lib.hid hO; have HB := Lib.hid hb; clear hO hb)
          have hal : Below w2.heap.size w2 (w2.alloc (.cells #[.int .i64 nw, .slice (B 0) (m' 0) (e' 0), .slice (B 1) (m' 1) (e' 1), .slice (B 2) (m' 2) (e' 2), .slice (B 3) (m' 3) (e' 3), .slice (B 4) (m' 4) (e' 4), .slice (B 5) (m' 5) (e' 5), .slice (B 6) (m' 6) (e' 6), .slice (B 7) (m' 7) (e' 7)] 25)) := (Below.refl _ _).alloc (Nat.le_refl _) _
          have HY := Lib.hid (BoxW.alloc w2 nw (fun i => .slice (B i) (m' i) (e' i)))
          have HB2 := Lib.hid (HB.out.trans (hal.mono HB.out.size))
          replace HO := Lib.hid (HO.out.below hal)
          clear hal HB z0 z1 z2 z3 z4 z5 z6 z7 z8 zf dj df
          generalize w2.alloc (.cells #[.int .i64 nw, .slice (B 0) (m' 0) (e' 0), .slice (B 1) (m' 1) (e' 1), .slice (B 2) (m' 2) (e' 2), .slice (B 3) (m' 3) (e' 3), .slice (B 4) (m' 4) (e' 4), .slice (B 5) (m' 5) (e' 5), .slice (B 6) (m' 6) (e' 6), .slice (B 7) (m' 7) (e' 7)] 25) = W2 at *
          generalize w2.heap.size = bv at *
          have HX := Lib.hid (HM.out.b.below HB2.out)
          have HM3 := Lib.hid (HM.out.put4 (mw := nw) HO.out HB2.out)
          have y0 : W2.cell? ⟨bv, 0, none⟩ = some (.int .i64 nw) := HY.out.now
          have y1 : W2.cell? ⟨bv, 1, none⟩ = some (.slice (B 0) (m' 0) (e' 0)) := HY.out.slot (show 0 < 8 by omega)
          have y2 : W2.cell? ⟨bv, 2, none⟩ = some (.slice (B 1) (m' 1) (e' 1)) := HY.out.slot (show 1 < 8 by omega)
          have y3 : W2.cell? ⟨bv, 3, none⟩ = some (.slice (B 2) (m' 2) (e' 2)) := HY.out.slot (show 2 < 8 by omega)
          have y4 : W2.cell? ⟨bv, 4, none⟩ = some (.slice (B 3) (m' 3) (e' 3)) := HY.out.slot (show 3 < 8 by omega)
          have y5 : W2.cell? ⟨bv, 5, none⟩ = some (.slice (B 4) (m' 4) (e' 4)) := HY.out.slot (show 4 < 8 by omega)
          have y6 : W2.cell? ⟨bv, 6, none⟩ = some (.slice (B 5) (m' 5) (e' 5)) := HY.out.slot (show 5 < 8 by omega)
          have y7 : W2.cell? ⟨bv, 7, none⟩ = some (.slice (B 6) (m' 6) (e' 6)) := HY.out.slot (show 6 < 8 by omega)
          have y8 : W2.cell? ⟨bv, 8, none⟩ = some (.slice (B 7) (m' 7) (e' 7)) := HY.out.slot (show 7 < 8 by omega)
          have z0 : W2.cell? ⟨b4, 0, none⟩ = some (.int .i64 nw) := HX.out.now
          have z1 : W2.cell? ⟨b4, 1, none⟩ = some (.slice (A 0) (n 0) (c 0)) := HX.out.slot (show 0 < 8 by omega)
          have z2 : W2.cell? ⟨b4, 2, none⟩ = some (.slice (A 1) (n 1) (c 1)) := HX.out.slot (show 1 < 8 by omega)
          have z3 : W2.cell? ⟨b4, 3, none⟩ = some (.slice (A 2) (n 2) (c 2)) := HX.out.slot (show 2 < 8 by omega)
          have z4 : W2.cell? ⟨b4, 4, none⟩ = some (.slice (A 3) (n 3) (c 3)) := HX.out.slot (show 3 < 8 by omega)
          have z5 : W2.cell? ⟨b4, 5, none⟩ = some (.slice (A 4) (n 4) (c 4)) := HX.out.slot (show 4 < 8 by omega)
          have z6 : W2.cell? ⟨b4, 6, none⟩ = some (.slice (A 5) (n 5) (c 5)) := HX.out.slot (show 5 < 8 by omega)
          have z7 : W2.cell? ⟨b4, 7, none⟩ = some (.slice (A 6) (n 6) (c 6)) := HX.out.slot (show 6 < 8 by omega)
          have z8 : W2.cell? ⟨b4, 8, none⟩ = some (.slice (A 7) (n 7) (c 7)) := HX.out.slot (show 7 < 8 by omega)
          have zf := HX.out.free
          go_upto_region 17 with fail
          generalize (((((((((W2.setCell ⟨b4, 0, none⟩ (.int .i64 nw)).setCell ⟨b4, 1, none⟩ (.slice (B 0) (m' 0) (e' 0))).setCell ⟨b4, 2, none⟩ (.slice (B 1) (m' 1) (e' 1))).setCell ⟨b4, 3, none⟩ (.slice (B 2) (m' 2) (e' 2))).setCell ⟨b4, 4, none⟩ (.slice (B 3) (m' 3) (e' 3))).setCell ⟨b4, 5, none⟩ (.slice (B 4) (m' 4) (e' 4))).setCell ⟨b4, 6, none⟩ (.slice (B 5) (m' 5) (e' 5))).setCell ⟨b4, 7, none⟩ (.slice (B 6) (m' 6) (e' 6))).setCell ⟨b4, 8, none⟩ (.slice (B 7) (m' 7) (e' 7))) = W3 at *
          clear z0 z1 z2 z3 z4 z5 z6 z7 z8 zf y0 y1 y2 y3 y4 y5 y6 y7 y8 HX HY HO HB2 HM
          have df := HM3.out.free5
          have dj := HM3.out.due hj16
          go_wp2_with fail
          go_roundg (min nl 100 - (kk + 1))
          case measure => omega
          case rel =>
            refine ⟨kk + 1, by omega, by omega, by simp, B, m', e', nw, us, (upd d j (nw + 1 + (m : Int))), ?_⟩
            show Aside _
            exact ⟨HM3.out.put5 hj16 _, HI.out⟩
    · have hR := Lib.hid (rightB_yes HV.out.right)
      by_cases hlt1 : (kk : Int) < (nl : Int)
      · have hlt2 : ¬ (kk : Int) < 100 := by omega
        go_wp2_with (go_at_call 14; refine (right_any _ nw A n c ts HM.out.o.rd (by omega) HV.out.wf).mono ?_; rw [hR.out]; rintro e w5 ⟨rfl, hb5⟩; have HB5 := Lib.hid (HM.out.bw.trans (hb5.mono HM.out.bw.size)); clear hb5)
        go_ret
        exact ⟨by simp, HB5.out⟩
      · go_wp2_with (go_at_call 14; refine (right_any _ nw A n c ts HM.out.o.rd (by omega) HV.out.wf).mono ?_; rw [hR.out]; rintro e w5 ⟨rfl, hb5⟩; have HB5 := Lib.hid (HM.out.bw.trans (hb5.mono HM.out.bw.size)); clear hb5)
        go_ret
        exact ⟨by simp, HB5.out⟩
end Go.Proofs.Ytnlgmfkgpaampaa
