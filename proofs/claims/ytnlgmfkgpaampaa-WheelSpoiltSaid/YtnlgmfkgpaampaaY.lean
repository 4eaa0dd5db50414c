/- slices.DeleteFunc with Tick's closure. -/
import Derived.Test.YtnlgmfkgpaampaaX
set_option linter.unusedVariables false
set_option linter.unusedSimpArgs false
namespace Go.Proofs.Ytnlgmfkgpaampaa
open Go.RowKit
open Go.Proofs.YtnlgmfkgpaampaaW.PrintWords

/-- Turn, and the row's block may have turned too -/
structure TurnR (fb base : Nat) (row : Option Nat) (W W' : World) : Prop where
  os : W'.os = W.os
  tape : W'.tape = W.tape
  output : W'.output = W.output
  size : W.heap.size ≤ W'.heap.size
  block : ∀ k, k < W.heap.size → k ≠ fb → some k ≠ row → (base ≤ k → ∀ cs, W.heap[k]? ≠ some (.cells cs 3 (0, 0))) → W'.heap[k]? = W.heap[k]?
theorem TurnR.of {fb base : Nat} {row : Option Nat} {W W' : World} (h : Turn fb base W W') : TurnR fb base row W W' := ⟨h.os, h.tape, h.output, h.size, fun k h1 h2 _ h4 => h.block k h1 h2 h4⟩
theorem TurnR.trans {fb base : Nat} {row : Option Nat} {W W1 W2 : World} (h1 : TurnR fb base row W W1) (h2 : TurnR fb base row W1 W2) : TurnR fb base row W W2 :=
  ⟨h2.os.trans h1.os, h2.tape.trans h1.tape, h2.output.trans h1.output, Nat.le_trans h1.size h2.size, fun k hk hf hr ht => by
    have e1 := h1.block k hk hf hr ht
    rw [h2.block k (Nat.lt_of_lt_of_le hk h1.size) hf hr (fun hb cs => by rw [e1]; exact ht hb cs), e1]⟩
theorem TurnR.set {fb base b o : Nat} {W W1 : World} (h : TurnR fb base (some b) W W1) (u : Value) : TurnR fb base (some b) W (W1.setCell ⟨b, o, none⟩ u) :=
  h.trans ⟨rfl, rfl, rfl, by simp, fun k _ _ hr _ => Below.heap_setCell _ _ _ _ (fun he => hr (by rw [he]))⟩
theorem TurnR.grown {fb base : Nat} {row : Option Nat} {W W1 W2 : World} (h : TurnR fb base row W W1) (hg : W1.grownBy W2 row) : TurnR fb base row W W2 :=
  h.trans ⟨hg.os, hg.tape, hg.output, hg.size, fun k hk _ hr _ => hg.block k hk hr⟩
theorem TurnR.box {fb base : Nat} {row : Option Nat} {W W1 : World} (h : TurnR fb base row W W1) {b : Nat} {cs : Array Value} {T : TypeId} (hx : W.heap[b]? = some (.cells cs T (0, 0))) (hT : T ≠ 3) (hb : b ≠ fb) (hr : some b ≠ row) : W1.heap[b]? = some (.cells cs T (0, 0)) := by
  rw [h.block b (Array.getElem?_eq_some_iff.1 hx).1 hb hr (fun _ cs' he => by
    rw [hx] at he
    injection he with he
    injection he with _ he
    exact hT he)]
  exact hx
theorem TurnR.boxW {fb base bx : Nat} {row : Option Nat} {W W1 : World} {mw : Int} {S : Nat → Value} (h : TurnR fb base row W W1) (hx : BoxW W bx mw S) (hb : bx ≠ fb) (hr : some bx ≠ row) : BoxW W1 bx mw S := by
  obtain ⟨cur, hc, h2⟩ := hx
  exact ⟨cur, h.box hc (by decide) hb hr, h2⟩

theorem filter_first {p : Tm → Bool} {xs : List Tm} {kk : Nat} {y : Tm} (hat : xs[kk]? = some y) (hy : p y = true) (hn : ∀ j x, j < kk → xs[j]? = some x → p x = false) :
    (xs.take (kk + 1)).filter p = [y] ∧ (xs.take (kk + 1)).filter (fun t => !p t) = xs.take kk := by
  have hlt := (List.getElem?_eq_some_iff.1 hat).1
  have hte : xs.take (kk + 1) = xs.take kk ++ [y] := by
    rw [List.take_succ_eq_append_getElem hlt]
    rw [List.getElem?_eq_getElem hlt] at hat
    injection hat with hat
    rw [hat]
  have hall : ∀ x ∈ xs.take kk, p x = false := fun x hx => by
    obtain ⟨j, hj⟩ := List.getElem?_of_mem hx
    rw [List.getElem?_take] at hj
    split at hj
    · rename_i hjk
      exact hn j x hjk hj
    · cases hj
  rw [hte, List.filter_append, List.filter_append]
  constructor
  · rw [List.filter_eq_nil_iff.2 (fun x hx => by simp [hall x hx])]
    simp [hy]
  · rw [List.filter_eq_self.2 (fun x hx => by simp [hall x hx])]
    simp [hy]

/-- how far DeleteFunc has come -/
structure Del (p : Tm → Bool) (xs es : List Tm) (ii jj : Nat) : Prop where
  l : es.length = xs.length
  i : ii < jj
  j : jj ≤ xs.length
  k : es.take ii = (xs.take jj).filter (fun t => !p t)
  r : ∀ q, jj ≤ q → es[q]? = xs[q]?
theorem Del.drop {p : Tm → Bool} {xs es : List Tm} {ii jj : Nat} (h : Del p xs es ii jj) {y : Tm} (hy : xs[jj]? = some y) (hp : p y = true) : Del p xs es ii (jj + 1) := by
  have hlt := (List.getElem?_eq_some_iff.1 hy).1
  refine ⟨h.l, Nat.lt_succ_of_lt h.i, hlt, ?_, fun q hq => h.r q (by omega)⟩
  rw [List.take_succ_eq_append_getElem hlt, List.filter_append, ← h.k]
  rw [List.getElem?_eq_getElem hlt] at hy
  injection hy with hy
  simp [hy, hp]
theorem Del.keep {p : Tm → Bool} {xs es : List Tm} {ii jj : Nat} (h : Del p xs es ii jj) {y : Tm} (hy : xs[jj]? = some y) (hp : p y = false) : Del p xs (es.set ii y) (ii + 1) (jj + 1) := by
  have hlt := (List.getElem?_eq_some_iff.1 hy).1
  have hi := h.i
  have hl := h.l
  refine ⟨by simpa using h.l, by omega, hlt, ?_, fun q hq => ?_⟩
  · rw [List.take_succ_eq_append_getElem hlt, List.filter_append, ← h.k, List.take_succ_eq_append_getElem (by simp; omega)]
    rw [List.getElem?_eq_getElem hlt] at hy
    injection hy with hy
    rw [List.take_set, List.set_eq_of_length_le (by simp; omega)]
    simp [hy, hp]
  · rw [List.getElem?_set_ne (by omega)]
    exact h.r q (by omega)

set_option maxHeartbeats 8000000 in
theorem deleteTick_any (w : World) (bw fb base b0 : Nat) (mw : Int) (S : Nat → Value) (A : Option Addr) (n c : Nat) (xs : List Tm) (hr : OwE tenc 2 34 w b0 (.slice A n c) xs) (hb : BoxW w bw mw S) (hf : Fired w fb base []) (hn : n ≤ 1000) (hbs : base ≤ w.heap.size) (hbf : bw ≠ fb) :
    Calls Try.prog 22 #[.slice A n c, .func (.func 23) #[] #[.pointer (some ⟨bw, 0, none⟩), .pointer (some ⟨fb, 0, none⟩)]] w fun e w' => ∃ m, e = .returned (.slice A m c) ∧ OwE tenc 2 34 w' b0 (.slice A m c) (xs.filter (fun t => !(t.at' == mw))) ∧
      Fired w' fb base ((xs.filter (fun t => t.at' == mw)).map Tm.id) ∧ TurnR fb base (Value.slice A n c).ownBlock w w' := by
  have hln := hr.rd.len
  have eg : ∀ args w, (callFunc 23 args).run Try.prog w = .ok (.enter 23 args) w := enters_of Try.func23 (by kernel_rfl) rfl
  have hfb : ∃ cs, w.heap[fb]? = some (.cells cs 37 (0, 0)) := by
    obtain ⟨F, fn, fc, h, _⟩ := hf
    exact ⟨_, h⟩
  have HFB := Lib.hid hfb
  have HR := Lib.hid hr
  have HB := Lib.hid hb
  have HF := Lib.hid hf
  clear hr hb hf hfb
  go_enter Try.func22, Try.ntmps22
  go_upto_region 2 with (go_at_call 24; refine (indexTick_any w bw fb base mw S [] (.slice A n c) xs b0 HR.out HB.out HF.out (by simp) hbs hbf).mono ?_; rintro e w2 ⟨r, rfl, hri, hf2, ht2⟩)
  rw [List.nil_append] at hf2
  have HT2 := Lib.hid ht2
  have HF2 := Lib.hid hf2
  have HR2 := Lib.hid (ht2.own HR.out HFB.out)
  have HRI := Lib.hid hri
  clear hri ht2 hf2 HF
  rcases HRI.out with ⟨hr1, hall⟩ | ⟨kk, y0, hr1, hat, hpy, hbef⟩
  · have hr2 : r = -1 := hr1
    subst hr2
    have hall' : ∀ x ∈ xs, (x.at' == mw) = false := fun x hx => by
      obtain ⟨j, hj⟩ := List.getElem?_of_mem hx
      exact hall j x hj
    have HALL := Lib.hid hall'
    clear hr1 hall hall' HRI
    go_wp2_with fail
    go_ret
    refine ⟨n, rfl, ?_, ?_, TurnR.of HT2.out⟩
    · rw [List.filter_eq_self.2 (fun x hx => by simp [HALL.out x hx])]
      exact HR2.out
    · rw [List.filter_eq_nil_iff.2 (fun x hx => by simp [HALL.out x hx])]
      exact HF2.out
  · subst hr1
    have hkl : kk < n := by have := (List.getElem?_eq_some_iff.1 hat).1; omega
    obtain ⟨f1, f2⟩ := filter_first (p := fun t => t.at' == mw) hat hpy hbef
    have hD : Del (fun t => t.at' == mw) xs xs kk (kk + 1) := ⟨rfl, by omega, by omega, f2.symm, fun _ _ => rfl⟩
    have hF3 : Fired w2 fb base (((xs.take (kk + 1)).filter (fun t => t.at' == mw)).map Tm.id) := by
      rw [f1]
      have := HF2.out
      unfold firstF at this
      rw [if_neg (by omega), Int.toNat_natCast, hat] at this
      exact this
    have HD := Lib.hid hD
    have HF3 := Lib.hid hF3
    obtain ⟨b, off, rfl, hb0, _, hnc, _, _⟩ := HR2.out.form (by omega)
    have hbr : some bw ≠ some b := HB.out.ne HR.out
    have HBR := Lib.hid hbr
    clear hbr
    clear hat hpy hbef f1 f2 hD hF3 HF2 HRI
    have k1 : ¬ (kk : Int) = -1 := by omega
    have k2 : ((kk : Int) == -1) = false := by rw [beq_eq_false_iff_ne]; omega
    have k3 : IntKind.i64.wrap ((kk : Int) + 1) = (((kk + 1 : Nat)) : Int) := by rw [IntKind.wrap_i64]; omega
    go_wp2_with fail
    go_loopg [5, 6] n (fun gg s5 s6 wr => ∃ ii jj : Nat, jj ≤ n ∧ n - jj ≤ gg ∧ s5 = .int .i64 ii ∧ s6 = .int .i64 jj ∧ ∃ es, Aside (Del (fun t => t.at' == mw) xs es ii jj ∧ OwE tenc 2 34 wr b0 (.slice (some ⟨b, off, none⟩) n c) es ∧ Fired wr fb base (((xs.take jj).filter (fun t => t.at' == mw)).map Tm.id) ∧ TurnR fb base (some b) w wr))
    case atStart =>
      refine ⟨kk, kk + 1, by omega, by omega, rfl, by simp, xs, ?_⟩
      show Aside _
      exact ⟨HD.out, HR2.out, HF3.out, TurnR.of HT2.out⟩
    case round =>
      clear HD HR2 HF3 HT2 k1 k2 k3
      obtain ⟨ii, jj, hjj, hg, rfl, rfl, es, HA⟩ := hrel
      obtain ⟨hD, hO, hF, hT⟩ := HA.out
      have hij := hD.i
      have hel := hD.l
      have HD := Lib.hid hD
      have HO := Lib.hid hO
      have HF := Lib.hid hF
      have HT := Lib.hid hT
      clear HA hD hO hF hT
      obtain ⟨b', off', hA, hb0', ⟨cur, hcur⟩, _, hcell, hfz⟩ := HO.out.form (by omega)
      injection hA with hA
      injection hA with hA1 hA2
      subst hA1; subst hA2
      have HCUR := Lib.hid hcur
      clear hcur
      by_cases hlt : jj < n
      · have hltz : (jj : Int) < (n : Int) := by omega
        have hltzi : (ii : Int) < (n : Int) := by omega
        have hat : es[jj]? = some (es[jj]'(by omega)) := List.getElem?_eq_getElem _
        have hati : es[ii]? = some (es[ii]'(by omega)) := List.getElem?_eq_getElem _
        generalize es[jj]'(by omega) = y at hat
        generalize es[ii]'(by omega) = z at hati
        have hxj : xs[jj]? = some y := by rw [← HD.out.r jj (Nat.le_refl _)]; exact hat
        have hmem : (((xs.take jj).filter (fun t => t.at' == mw)).map Tm.id).length ≤ 1000 := by
          rw [List.length_map]
          exact Nat.le_trans (List.length_filter_le _ _) (by rw [List.length_take]; omega)
        obtain ⟨yi, ya⟩ := y
        obtain ⟨zi, za⟩ := z
        have c0 : wr.cell? ⟨b, off + jj * 2, none⟩ = some (.int .i64 yi) := hcell jj 0 _ _ hat rfl
        have c1 : wr.cell? ⟨b, off + jj * 2 + 1, none⟩ = some (.int .i64 ya) := hcell jj 1 _ _ hat rfl
        have hte : xs.take (jj + 1) = xs.take jj ++ [(⟨yi, ya⟩ : Tm)] := by
          have hl2 := (List.getElem?_eq_some_iff.1 hxj).1
          rw [List.take_succ_eq_append_getElem hl2]
          rw [List.getElem?_eq_getElem hl2] at hxj
          injection hxj with hxj
          rw [hxj]
        have HTE := Lib.hid hte
        have HXJ := Lib.hid hxj
        have HZ := Lib.hid hati
        clear hcell hat hati hxj hte
        go_upto_region 8 with fail
        clear c0 c1
        have hal : Below wr.heap.size wr (wr.alloc (.cells #[.int .i64 yi, .int .i64 ya] 34)) := (Below.refl _ _).alloc (Nat.le_refl _) _
        have hx := heap_alloc_new wr (.cells #[.int .i64 yi, .int .i64 ya] 34)
        have HO1 := Lib.hid (HO.out.below hal)
        have HF1 := Lib.hid (HF.out.below hal)
        have HT1 := Lib.hid (HT.out.trans (TurnR.of (Turn.of_below hal)))
        have HB1 := Lib.hid (HT1.out.boxW HB.out hbf HBR.out)
        have hbs1 : base ≤ (wr.alloc (.cells #[.int .i64 yi, .int .i64 ya] 34)).heap.size := Nat.le_trans hbs HT1.out.size
        have HC := Lib.hid (tick1_any (wr.alloc (.cells #[.int .i64 yi, .int .i64 ya] 34)) bw fb base mw S (((xs.take jj).filter (fun t => t.at' == mw)).map Tm.id) ⟨yi, ya⟩ HB1.out HF1.out hmem hbs1)
        have HFB1 := Lib.hid (show ∃ cs, (wr.alloc (.cells #[.int .i64 yi, .int .i64 ya] 34)).heap[fb]? = some (.cells cs 37 (0, 0)) from by
          obtain ⟨F, fn, fc, h, _⟩ := HF1.out
          exact ⟨_, h⟩)
        clear hal
        generalize wr.alloc (.cells #[.int .i64 yi, .int .i64 ya] 34) = U at *
        generalize wr.heap.size = tb at *
        have t0 := box_at hx 0 _ rfl
        have t1 := box_at hx 1 _ rfl
        have HX := Lib.hid hx
        have htf : tb ≠ fb := by
          obtain ⟨cs, hcs⟩ := HFB1.out
          exact blocks_ne (show (34 : TypeId) ≠ 37 by decide) hx hcs
        clear hx
        cases hq : (ya == mw) with
        | true =>
          have HQ := Lib.hid hq; clear hq
          go_wp2_with (go_at_fn 23; refine (HC.out).mono ?_; simp only [HQ.out, if_true]; rintro e w' ⟨rfl, hf', ht'⟩; have HF2 := Lib.hid hf'; have HT2 := Lib.hid ht'; have HO2 := Lib.hid (ht'.own HO1.out HFB1.out); clear hf' ht' t0 t1)
          go_roundg (n - (jj + 1))
          case measure => omega
          case rel =>
            refine ⟨ii, jj + 1, by omega, by omega, rfl, by simp, es, ?_⟩
            show Aside _
            refine ⟨HD.out.drop HXJ.out HQ.out, HO2.out, ?_, HT1.out.trans (TurnR.of HT2.out)⟩
            rw [HTE.out, List.filter_append, List.map_append]
            simp only [List.filter_cons, List.filter_nil, HQ.out, if_true, List.map_cons, List.map_nil]
            exact HF2.out
        | false =>
          have HQ := Lib.hid hq; clear hq
          go_upto_region 9 with (go_at_fn 23; refine (HC.out).mono ?_; simp only [HQ.out, Bool.false_eq_true, if_false, List.append_nil]; rintro e w' ⟨rfl, hf', ht'⟩; have HF2 := Lib.hid hf'; have HT2 := Lib.hid ht'; have HO2 := Lib.hid (ht'.own HO1.out HFB1.out); have hx' := ht'.box HX.out (by decide) htf; clear hf' ht' t0 t1; have t0 := box_at hx' 0 _ rfl; have t1 := box_at hx' 1 _ rfl; clear hx')
          obtain ⟨b', off', hA, _, ⟨cur2, hcur2⟩, _, hcell2, hfz2⟩ := HO2.out.form (by omega)
          injection hA with hA
          injection hA with hA1 hA2
          subst hA1; subst hA2
          have d0 : w'.cell? ⟨b, off + ii * 2, none⟩ = some (.int .i64 zi) := hcell2 ii 0 _ _ HZ.out rfl
          have d1 : w'.cell? ⟨b, off + ii * 2 + 1, none⟩ = some (.int .i64 za) := hcell2 ii 1 _ _ HZ.out rfl
          have HS1 := Lib.hid (HO2.out.set (y' := (⟨yi, za⟩ : Tm)) HZ.out (show 0 < 2 by decide) (x := .int .i64 yi) rfl)
          have HS2 := Lib.hid (HS1.out.set (i := ii) (j := 1) (y := (⟨yi, za⟩ : Tm)) (y' := (⟨yi, ya⟩ : Tm)) (by rw [List.getElem?_set_self (by omega)]) (by decide) (x := .int .i64 ya) rfl)
          have hbfb : b ≠ fb := by
            obtain ⟨cs, hcs⟩ := HFB1.out
            obtain ⟨cu, hcu⟩ := HO1.out.typed b rfl
            exact blocks_ne (show (34 : TypeId) ≠ 37 by decide) hcu hcs
          have HBFB := Lib.hid hbfb
          clear hcell2 hcur2 hbfb htf
          have hiw : IntKind.i64.wrap ((ii : Int) + 1) = ((ii + 1 : Nat) : Int) := by rw [IntKind.wrap_i64]; omega
          go_wp2_with fail
          go_roundg (n - (jj + 1))
          case measure => omega
          case rel =>
            refine ⟨ii + 1, jj + 1, by omega, by omega, by simp, by simp, es.set ii ⟨yi, ya⟩, ?_⟩
            show Aside _
            have hS := HS2.out
            rw [List.set_set] at hS
            refine ⟨HD.out.keep HXJ.out HQ.out, by simpa using hS, ?_, ((HT1.out.trans (TurnR.of HT2.out)).set _).set _⟩
            rw [HTE.out, List.filter_append, List.map_append]
            simp only [List.filter_cons, List.filter_nil, HQ.out, Bool.false_eq_true, if_false, List.map_nil, List.append_nil]
            obtain ⟨F, fn, fc, hx1, hF1⟩ := HF2.out
            have nb : ∀ k, (Value.slice F fn fc).ownBlock = some k → k ≠ b := by
              intro k hk
              obtain ⟨cu, hcu⟩ := hF1.typed k hk
              obtain ⟨cu', hcu'⟩ := HO2.out.typed b rfl
              exact blocks_ne (show (3 : TypeId) ≠ 34 by decide) hcu hcu'
            refine ⟨F, fn, fc, ?_, (hF1.far nb _).far nb _⟩
            rw [Below.heap_setCell _ _ _ _ (Ne.symm HBFB.out), Below.heap_setCell _ _ _ _ (Ne.symm HBFB.out)]
            exact hx1
      · obtain rfl : jj = n := by omega
        have hltz : ¬ (jj : Int) < (jj : Int) := by omega
        have i1 : (ii : Int) ≤ (jj : Int) := by omega
        have i2 : (ii : Int) ≤ (c : Int) := by omega
        have i3 : ¬ c = ii := by omega
        have hk := HD.out.k
        rw [List.take_of_length_le (show xs.length ≤ jj by omega)] at hk
        have hF := HF.out
        rw [List.take_of_length_le (show xs.length ≤ jj by omega)] at hF
        have htk := HO.out.take ii (by omega)
        rw [hk] at htk
        have HTK := Lib.hid htk
        have HFX := Lib.hid hF
        have i4 : ii + (jj - ii) ≤ c := by omega
        clear hcell hk hF htk HD HF
        go_wp2_with (refine wp_clearE (n := ii) (q := jj - ii) (d := c - ii) b0 rfl _ 22 34 (.agg #[.int .i64 0, .int .i64 0]) rfl Try.underlying22 zero34 rfl (by intro u hu; simp [Value.cells] at hu; rw [hu]; rfl) HTK.out i4 rfl ?c4)
        case c4 =>
          intro w3 hO3 hg3
          have HO3 := Lib.hid hO3
          have HT3 := Lib.hid (HT.out.grown hg3)
          have hfx : Fired w3 fb base ((xs.filter (fun t => t.at' == mw)).map Tm.id) := by
            obtain ⟨F, fn, fc, hx1, hF1⟩ := HFX.out
            obtain ⟨cu', hcu'⟩ := HO.out.typed b rfl
            refine ⟨F, fn, fc, ?_, hF1.grown hg3 (fun k hk he => ?_)⟩
            · rw [hg3.block fb (Array.getElem?_eq_some_iff.1 hx1).1 (fun he => by
                injection he with he
                subst he
                exact blocks_ne (show (34 : TypeId) ≠ 37 by decide) hcu' hx1 rfl)]
              exact hx1
            · injection he with he
              subst he
              obtain ⟨cu, hcu⟩ := hF1.typed k hk
              exact blocks_ne (show (3 : TypeId) ≠ 34 by decide) hcu hcu' rfl
          have HFX3 := Lib.hid hfx
          clear hO3 hg3 hfx
          go_wp2_with fail
          go_ret
          exact ⟨ii, rfl, HO3.out, HFX3.out, HT3.out⟩
end Go.Proofs.Ytnlgmfkgpaampaa
