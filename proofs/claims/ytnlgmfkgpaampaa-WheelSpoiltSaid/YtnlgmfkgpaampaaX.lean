/- The closure of wheel.Tick; slices.IndexFunc with it. -/
import Derived.Test.YtnlgmfkgpaampaaV
set_option linter.unusedVariables false
set_option linter.unusedSimpArgs false
namespace Go.Proofs.Ytnlgmfkgpaampaa
open Go.RowKit
open Go.Proofs.YtnlgmfkgpaampaaW.PrintWords

/-- the box fb and the rows of ints from base on may have turned; else nothing -/
structure Turn (fb base : Nat) (W W' : World) : Prop where
  os : W'.os = W.os
  tape : W'.tape = W.tape
  output : W'.output = W.output
  size : W.heap.size ≤ W'.heap.size
  block : ∀ k, k < W.heap.size → k ≠ fb → (base ≤ k → ∀ cs, W.heap[k]? ≠ some (.cells cs 3 (0, 0))) → W'.heap[k]? = W.heap[k]?
theorem Turn.refl (fb base : Nat) (W : World) : Turn fb base W W := ⟨rfl, rfl, rfl, Nat.le_refl _, fun _ _ _ _ => rfl⟩
theorem Turn.trans {fb base : Nat} {W W1 W2 : World} (h1 : Turn fb base W W1) (h2 : Turn fb base W1 W2) : Turn fb base W W2 :=
  ⟨h2.os.trans h1.os, h2.tape.trans h1.tape, h2.output.trans h1.output, Nat.le_trans h1.size h2.size, fun k hk hf ht => by
    have e1 := h1.block k hk hf ht
    rw [h2.block k (Nat.lt_of_lt_of_le hk h1.size) hf (fun hb cs => by rw [e1]; exact ht hb cs), e1]⟩
theorem Turn.of_below {fb base : Nat} {W W1 : World} (h : Below W.heap.size W W1) : Turn fb base W W1 := ⟨h.os, h.tape, h.output, h.size, fun k hk _ _ => h.block k hk⟩
theorem Turn.below {fb base m : Nat} {W W1 : World} (h : Turn fb base W W1) (h1 : m ≤ fb) (h2 : m ≤ base) (h3 : m ≤ W.heap.size) : Below m W W1 :=
  ⟨h.os, h.tape, h.output, h.size, fun k hk => h.block k (by omega) (by omega) (fun hb => by omega)⟩
theorem Turn.box {fb base : Nat} {W W1 : World} (h : Turn fb base W W1) {b : Nat} {cs : Array Value} {T : TypeId} (hx : W.heap[b]? = some (.cells cs T (0, 0))) (hT : T ≠ 3) (hb : b ≠ fb) : W1.heap[b]? = some (.cells cs T (0, 0)) := by
  rw [h.block b (Array.getElem?_eq_some_iff.1 hx).1 hb (fun _ cs' he => by
    rw [hx] at he
    injection he with he
    injection he with _ he
    exact hT he)]
  exact hx
theorem Turn.boxW {fb base bx : Nat} {W W1 : World} {mw : Int} {S : Nat → Value} (h : Turn fb base W W1) (hx : BoxW W bx mw S) (hb : bx ≠ fb) : BoxW W1 bx mw S := by
  obtain ⟨cur, hc, h2⟩ := hx
  exact ⟨cur, h.box hc (by decide) hb, h2⟩
theorem Turn.own {fb base b0 : Nat} {W W1 : World} {v : Value} {es : List Tm} (h : Turn fb base W W1) (hv : OwE tenc 2 34 W b0 v es) (hf : ∃ cs, W.heap[fb]? = some (.cells cs 37 (0, 0))) : OwE tenc 2 34 W1 b0 v es := hv.move fun k hk => by
  obtain ⟨cu, hcu⟩ := hv.typed k hk
  obtain ⟨cf, hcf⟩ := hf
  rw [h.box hcu (by decide) (blocks_ne (show (34 : TypeId) ≠ 37 by decide) hcu hcf), hcu]

/-- the list that the closure appends to -/
def Fired (W : World) (fb base : Nat) (fs : List Int) : Prop := ∃ F fn fc, W.heap[fb]? = some (.cells #[.slice F fn fc] 37 (0, 0)) ∧ OwE ienc 1 3 W base (.slice F fn fc) fs
theorem Fired.below {W W1 : World} {fb base : Nat} {fs : List Int} (h : Fired W fb base fs) (hb : Below W.heap.size W W1) : Fired W1 fb base fs := by
  obtain ⟨F, fn, fc, h1, h2⟩ := h
  exact ⟨F, fn, fc, keep hb h1, h2.below hb⟩

set_option maxHeartbeats 4000000 in
theorem tick1_any (W : World) (bw fb base : Nat) (mw : Int) (S : Nat → Value) (fs : List Int) (y : Tm) (hb : BoxW W bw mw S) (hf : Fired W fb base fs) (hl : fs.length ≤ 1000) (hbs : base ≤ W.heap.size) :
    Calls Try.prog 23 #[y.v, .pointer (some ⟨bw, 0, none⟩), .pointer (some ⟨fb, 0, none⟩)] W fun e W' => e = .returned (.bool (y.at' == mw)) ∧ Fired W' fb base (fs ++ if y.at' == mw then [y.id] else []) ∧ Turn fb base W W' := by
  obtain ⟨yi, ya⟩ := y
  obtain ⟨F, fn, fc, hx, hF⟩ := hf
  have hfl := hF.rd.len
  have hal : Below W.heap.size W (W.alloc (.cells #[.int .i64 yi, .int .i64 ya] 34)) := (Below.refl _ _).alloc (Nat.le_refl _) _
  have z0 := (hb.below hal).now
  have hx1 := keep hal hx
  have f0 : (W.alloc (.cells #[.int .i64 yi, .int .i64 ya] 34)).cell? ⟨fb, 0, none⟩ = some (.slice F fn fc) := box_at hx1 0 _ rfl
  have HF := Lib.hid (hF.below hal)
  have HX := Lib.hid hx1
  have HAL := Lib.hid hal
  have HB := Lib.hid hb
  have hsz : (W.alloc (.cells #[.int .i64 yi, .int .i64 ya] 34)).heap.size = W.heap.size + 1 := by simp
  show Calls Try.prog 23 #[.agg #[.int .i64 yi, .int .i64 ya], .pointer (some ⟨bw, 0, none⟩), .pointer (some ⟨fb, 0, none⟩)] W _
  clear hx hF hal hx1 hb
  by_cases hd : ya = mw
  · have hd1 : (ya != mw) = false := by simp [hd]
    have hd2 : (ya == mw) = true := by simp [hd]
    clear hd
    go_enter Try.func23, Try.ntmps23
    go_upto_region 3 with fail
    have ht := heap_alloc_new W (.cells #[.int .i64 yi, .int .i64 ya] 34)
    generalize W.alloc (.cells #[.int .i64 yi, .int .i64 ya] 34) = U at *
    have t0 := box_at ht 0 _ rfl
    have hbU : base ≤ U.heap.size := by omega
    clear hsz
    go_wp2_with (at_builtin; refine wp_appE base rfl _ _ 37 3 (.int .i64 0) 8 rfl Try.underlying37 Try.info3 rfl (by omega) (by omega) (.slice F fn fc) (.slice (some ⟨U.heap.size, 0, none⟩) 1 1) fs [yi] rfl rfl ?c1 ?c2 ienc1 ?c3 ?c4 ?c5)
    case c1 => exact HF.out.below ((Below.refl _ _).alloc (Nat.le_refl _) _)
    case c2 => exact rd_boxE (enc := ienc) U yi 3
    case c3 => simp; omega
    case c4 => simp; omega
    case c5 =>
      intro v1 w7 hv1 hg1 hat1
      obtain ⟨F1, f1, g1, rfl⟩ := hv1.slice'
      have hal2 : Below U.heap.size U (U.alloc (.cells #[.int .i64 yi] 3)) := (Below.refl _ _).alloc (Nat.le_refl _) _
      have hF2 := HF.out.below hal2
      have hX2 := keep hal2 HX.out
      have hne : some fb ≠ (Value.slice F fn fc).ownBlock := fun he => by
        obtain ⟨cu, hcu⟩ := hF2.typed fb he.symm
        exact blocks_ne (show (37 : TypeId) ≠ 3 by decide) hX2 hcu rfl
      have hX7 : w7.heap[fb]? = some (.cells #[.slice F fn fc] 37 (0, 0)) := by
        rw [hg1.block fb (Array.getElem?_eq_some_iff.1 hX2).1 hne]
        exact hX2
      have hT7 : Turn fb base W w7 := by
        refine (Turn.of_below HAL.out).trans ((Turn.of_below hal2).trans ⟨hg1.os, hg1.tape, hg1.output, hg1.size, fun k hk hkf ht => hg1.block k hk (fun he => ?_)⟩)
        obtain ⟨cu, hcu⟩ := hF2.typed k he.symm
        exact ht (hF2.lo k he.symm) cu hcu
      have x0 := box_at hX7 0 _ rfl
      have xf := box_free hX7
      have HX7 := Lib.hid hX7
      have HT7 := Lib.hid hT7
      have HV := Lib.hid hv1
      clear hal2 hF2 hX2 hne hX7 hT7 hv1 hg1 hat1 f0 t0 z0
      go_wp2_with fail
      go_ret
      refine ⟨by simp [hd2], ?_, HT7.out.trans ⟨rfl, rfl, rfl, by simp, fun k hk hkf _ => Below.heap_setCell _ _ _ _ hkf⟩⟩
      have hfin : Fired (w7.setCell ⟨fb, 0, none⟩ (.slice F1 f1 g1)) fb base (fs ++ [yi]) := by
        refine ⟨F1, f1, g1, ?_, HV.out.far (fun k hk => ?_) _⟩
        · rw [heap_set HX7.out _ (o := 0)]
          rfl
        · obtain ⟨cu, hcu⟩ := HV.out.typed k hk
          exact blocks_ne (show (3 : TypeId) ≠ 37 by decide) hcu HX7.out
      simpa [hd2] using hfin
  · have hd1 : (ya != mw) = true := by simp [hd]
    have hd2 : (ya == mw) = false := by simp [hd]
    clear hd
    go_enter Try.func23, Try.ntmps23
    go_wp2_with fail
    go_ret
    refine ⟨by simp [hd2], ?_, Turn.of_below HAL.out⟩
    have hfin : Fired (W.alloc (.cells #[.int .i64 yi, .int .i64 ya] 34)) fb base fs := ⟨F, fn, fc, HX.out, HF.out⟩
    simpa [hd2] using hfin

/-- what IndexFunc has told the closure of -/
def firstF (p : Tm → Bool) (xs : List Tm) (r : Int) : List Int := if r < 0 then [] else ((xs[r.toNat]?).map fun t => t.id).toList
set_option maxHeartbeats 4000000 in
theorem indexTick_any (w : World) (bw fb base : Nat) (mw : Int) (S : Nat → Value) (fs : List Int) (v : Value) (xs : List Tm) (b0 : Nat) (hr : OwE tenc 2 34 w b0 v xs) (hb : BoxW w bw mw S) (hf : Fired w fb base fs) (hl : fs.length ≤ 1000) (hbs : base ≤ w.heap.size) (hbf : bw ≠ fb) :
    Calls Try.prog 24 #[v, .func (.func 23) #[] #[.pointer (some ⟨bw, 0, none⟩), .pointer (some ⟨fb, 0, none⟩)]] w fun e w' => ∃ r, e = .returned (.int .i64 r) ∧ IdxIs (fun t => t.at' == mw) xs r ∧ Fired w' fb base (fs ++ firstF (fun t => t.at' == mw) xs r) ∧ Turn fb base w w' := by
  obtain ⟨A, n, c, rfl⟩ := hr.slice'
  have hln := hr.rd.len
  have hmx := hr.rd.max
  have hnm : n ≤ 9223372036854775807 := by omega
  have eg : ∀ args w, (callFunc 23 args).run Try.prog w = .ok (.enter 23 args) w := enters_of Try.func23 (by kernel_rfl) rfl
  have hfb : ∃ cs, w.heap[fb]? = some (.cells cs 37 (0, 0)) := by
    obtain ⟨F, fn, fc, h, _⟩ := hf
    exact ⟨_, h⟩
  have HFB := Lib.hid hfb
  have HR := Lib.hid hr
  have HB := Lib.hid hb
  have HF := Lib.hid hf
  clear hr hb hf hfb hmx
  go_enter Try.func24, Try.ntmps24
  go_wp2
  go_loopg [5, 8] n (fun gg _ s8 wr => ∃ kk : Nat, kk ≤ n ∧ n - kk ≤ gg ∧ s8 = .int .i64 kk ∧ Aside (Turn fb base w wr ∧ Fired wr fb base fs ∧ ∀ j x, j < kk → xs[j]? = some x → (x.at' == mw) = false))
  case atStart =>
    refine ⟨0, Nat.zero_le _, by omega, rfl, ?_⟩
    show Aside _
    exact ⟨Turn.refl _ _ _, HF.out, fun j x hj => absurd hj (Nat.not_lt_zero _)⟩
  case round =>
    obtain ⟨kk, hkk, hg, rfl, HA⟩ := hrel
    obtain ⟨hT, hF, hN⟩ := HA.out
    have HT := Lib.hid hT
    have HF1 := Lib.hid hF
    have HN := Lib.hid hN
    have HRw := Lib.hid (hT.own HR.out HFB.out)
    clear HA hT hF hN
    by_cases hlt : kk < n
    · obtain ⟨b, off, rfl, hbl, hc⟩ := HRw.out.rd.get (by omega)
      have hat : xs[kk]? = some (xs[kk]'(by omega)) := List.getElem?_eq_getElem _
      generalize xs[kk]'(by omega) = y at hat
      obtain ⟨yi, ya⟩ := y
      have k0 : wr.cell? ⟨b, off + kk * 2, none⟩ = some (.int .i64 yi) := hc kk 0 _ _ hat rfl
      have k1 : wr.cell? ⟨b, off + kk * 2 + 1, none⟩ = some (.int .i64 ya) := hc kk 1 _ _ hat rfl
      have hltz : (kk : Int) < (n : Int) := by omega
      have HY := Lib.hid hat
      have HC := Lib.hid (tick1_any wr bw fb base mw S fs ⟨yi, ya⟩ (HT.out.boxW HB.out hbf) HF1.out hl (Nat.le_trans hbs HT.out.size))
      clear hc hat
      cases hq : (ya == mw) with
      | true =>
        have HQ := Lib.hid hq; clear hq
        go_wp2_with (go_at_fn 23; refine (HC.out).mono ?_; simp only [HQ.out, if_true]; rintro e w' ⟨rfl, hf', ht'⟩)
        go_ret
        refine ⟨_, rfl, .inr ⟨kk, _, rfl, HY.out, HQ.out, HN.out⟩, ?_, HT.out.trans ht'⟩
        unfold firstF
        rw [if_neg (by omega), Int.toNat_natCast, HY.out]
        exact hf'
      | false =>
        have HQ := Lib.hid hq; clear hq
        go_wp2_with (go_at_fn 23; refine (HC.out).mono ?_; simp only [HQ.out, Bool.false_eq_true, if_false, List.append_nil]; rintro e w' ⟨rfl, hf', ht'⟩)
        have HF2 := Lib.hid hf'
        have HT2 := Lib.hid ht'
        go_roundg (n - (kk + 1))
        case measure => omega
        case rel =>
          refine ⟨kk + 1, by omega, by omega, by go_num, ?_⟩
          show Aside _
          refine ⟨HT.out.trans HT2.out, HF2.out, fun j x hj hx => ?_⟩
          rcases Nat.lt_or_ge j kk with h | h
          · exact HN.out j x h hx
          · obtain rfl : j = kk := by omega
            rw [HY.out] at hx
            injection hx with hx
            subst hx
            exact HQ.out
    · have hltz : ¬ (kk : Int) < (n : Int) := by omega
      go_wp2
      go_ret
      refine ⟨_, rfl, .inl ⟨rfl, fun j x hx => HN.out j x (by have := (List.getElem?_eq_some_iff.1 hx).1; omega) hx⟩, ?_, HT.out⟩
      unfold firstF
      rw [if_pos (by decide), List.append_nil]
      exact HF1.out
end Go.Proofs.Ytnlgmfkgpaampaa
