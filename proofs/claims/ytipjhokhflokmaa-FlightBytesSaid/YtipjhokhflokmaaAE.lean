/- slices.DeleteFunc with room's closure. -/
import Derived.Test.YtipjhokhflokmaaAD
set_option linter.unusedVariables false
set_option linter.unusedSimpArgs false
namespace Go.Proofs.Ytipjhokhflokmaa
open Go.RowKit
open Go.Proofs.YtipjhokhflokmaaW.PrintWords

theorem gb_trans {row : Option Nat} {W W1 W2 : World} (h1 : W.grownBy W1 row) (h2 : W1.grownBy W2 row) : W.grownBy W2 row :=
  ⟨h2.os.trans h1.os, h2.tape.trans h1.tape, h2.output.trans h1.output, Nat.le_trans h1.size h2.size, fun k hk hr => by
    rw [h2.block k (Nat.lt_of_lt_of_le hk h1.size) hr, h1.block k hk hr]⟩
theorem gb_below {row : Option Nat} {W W1 : World} (h : Below W.heap.size W W1) : W.grownBy W1 row := ⟨h.os, h.tape, h.output, h.size, fun k hk _ => h.block k hk⟩
theorem gb_set {b o : Nat} {W W1 : World} (h : W.grownBy W1 (some b)) (u : Value) : W.grownBy (W1.setCell ⟨b, o, none⟩ u) (some b) :=
  gb_trans h ⟨rfl, rfl, rfl, by simp, fun k _ hr => Below.heap_setCell _ _ _ _ (fun he => hr (by rw [he]))⟩
theorem gb_none {row : Option Nat} {W W1 : World} (h : W.grownBy W1 none) : W.grownBy W1 row := ⟨h.os, h.tape, h.output, h.size, fun k hk _ => h.block k hk (by simp)⟩
theorem gb_box {row : Option Nat} {W W1 : World} (h : W.grownBy W1 row) {k : Nat} {o : Obj} (hx : W.heap[k]? = some o) (hk : some k ≠ row) : W1.heap[k]? = some o := (h.block k (Array.getElem?_eq_some_iff.1 hx).1 hk).trans hx
theorem gb_cell {row : Option Nat} {W W1 : World} (h : W.grownBy W1 row) {p : Addr} {v : Value} (hx : W.cell? p = some v) (hl : p.block < W.heap.size) (hk : some p.block ≠ row) : W1.cell? p = some v := (World.cell?_of_block (w := W) (w' := W1) (h.block _ hl hk)).trans hx

set_option maxRecDepth 100000 in
set_option maxHeartbeats 1600000 in
theorem late1 (W : World) (bx b o : Nat) (fb : Int) (t : Tm) (hb : W.heap[bx]? = some (.cells #[.pointer (some ⟨b, o, none⟩)] 61 (0, 0))) (h3 : W.cell? ⟨b, o + 3, none⟩ = some (.int .i64 fb)) :
    Calls Try.prog 49 #[t.v, .pointer (some ⟨bx, 0, none⟩)] W fun e w' => e = .returned (.bool (t.at' == fb)) ∧ Below W.heap.size W w' := by
  obtain ⟨ti, ta⟩ := t
  have hal : Below W.heap.size W (W.alloc (.cells #[.int .i64 ti, .int .i64 ta] 47)) := (Below.refl _ _).alloc (Nat.le_refl _) _
  have q1 : (W.alloc (.cells #[.int .i64 ti, .int .i64 ta] 47)).cell? ⟨W.heap.size, 1, none⟩ = some (.int .i64 ta) := box_at (heap_alloc_new W (.cells #[.int .i64 ti, .int .i64 ta] 47)) 1 _ rfl
  have q2 : (W.alloc (.cells #[.int .i64 ti, .int .i64 ta] 47)).cell? ⟨bx, 0, none⟩ = some (.pointer (some ⟨b, o, none⟩)) := box_at (keep hal hb) 0 _ rfl
  have q3 : (W.alloc (.cells #[.int .i64 ti, .int .i64 ta] 47)).cell? ⟨b, o + 3, none⟩ = some (.int .i64 fb) := cell_al h3 _
  have HAL := Lib.hid hal
  clear hal hb h3
  show Calls Try.prog 49 #[.agg #[.int .i64 ti, .int .i64 ta], .pointer (some ⟨bx, 0, none⟩)] W _
  go_enter Try.func49, Try.ntmps49
  go_upto_region 1 with fail
  generalize W.alloc (.cells #[.int .i64 ti, .int .i64 ta] 47) = U at *
  go_quiet (fail)
  go_wp2_with fail
  go_ret
  exact ⟨ret_bool (by first | rfl | simp), pw_below_drewN HAL.out _⟩

theorem filter_first {p : Tm → Bool} {xs : List Tm} {kk : Nat} {y : Tm} (hat : xs[kk]? = some y) (hy : p y = true) (hn : ∀ j x, j < kk → xs[j]? = some x → p x = false) :
    (xs.take (kk + 1)).filter (fun t => !p t) = xs.take kk := by
  have hlt := (List.getElem?_eq_some_iff.1 hat).1
  have hte : xs.take (kk + 1) = xs.take kk ++ [y] := by
    rw [List.take_succ_eq_append_getElem hlt]
    rw [List.getElem?_eq_getElem hlt] at hat
    injection hat with hat
    rw [hat]
  have hall : ∀ x ∈ xs.take kk, p x = false := fun x hx => by
    obtain ⟨j, hj⟩ := List.getElem?_of_mem hx
    rw [List.getElem?_take] at hj
    split at hj
    · rename_i hjk
      exact hn j x hjk hj
    · cases hj
  rw [hte, List.filter_append]
  rw [List.filter_eq_self.2 (fun x hx => by simp [hall x hx])]
  simp [hy]

/-- how far DeleteFunc has come -/
structure Del (p : Tm → Bool) (xs es : List Tm) (ii jj : Nat) : Prop where
  l : es.length = xs.length
  i : ii < jj
  j : jj ≤ xs.length
  k : es.take ii = (xs.take jj).filter (fun t => !p t)
  r : ∀ q, jj ≤ q → es[q]? = xs[q]?
theorem Del.drop {p : Tm → Bool} {xs es : List Tm} {ii jj : Nat} (h : Del p xs es ii jj) {y : Tm} (hy : xs[jj]? = some y) (hp : p y = true) : Del p xs es ii (jj + 1) := by
  have hlt := (List.getElem?_eq_some_iff.1 hy).1
  refine ⟨h.l, Nat.lt_succ_of_lt h.i, hlt, ?_, fun q hq => h.r q (by omega)⟩
  rw [List.take_succ_eq_append_getElem hlt, List.filter_append, ← h.k]
  rw [List.getElem?_eq_getElem hlt] at hy
  injection hy with hy
  simp [hy, hp]
theorem Del.keep {p : Tm → Bool} {xs es : List Tm} {ii jj : Nat} (h : Del p xs es ii jj) {y : Tm} (hy : xs[jj]? = some y) (hp : p y = false) : Del p xs (es.set ii y) (ii + 1) (jj + 1) := by
  have hlt := (List.getElem?_eq_some_iff.1 hy).1
  have hi := h.i
  have hl := h.l
  refine ⟨by simpa using h.l, by omega, hlt, ?_, fun q hq => ?_⟩
  · rw [List.take_succ_eq_append_getElem hlt, List.filter_append, ← h.k, List.take_succ_eq_append_getElem (by simp; omega)]
    rw [List.getElem?_eq_getElem hlt] at hy
    injection hy with hy
    rw [List.take_set, List.set_eq_of_length_le (by simp; omega)]
    simp [hy, hp]
  · rw [List.getElem?_set_ne (by omega)]
    exact h.r q (by omega)

set_option maxRecDepth 100000 in
set_option maxHeartbeats 8000000 in
theorem deleteLate_any (w : World) (bx b o : Nat) (fb : Int) (b0 : Nat) (A : Option Addr) (n c : Nat) (xs : List Tm) (hr : OwE tenc 2 47 w b0 (.slice A n c) xs) (hx : w.heap[bx]? = some (.cells #[.pointer (some ⟨b, o, none⟩)] 61 (0, 0))) (hbt : ∃ cs, w.heap[b]? = some (.cells cs 45 (0, 0))) (h3 : w.cell? ⟨b, o + 3, none⟩ = some (.int .i64 fb)) (hn : n ≤ 1000) :
    Calls Try.prog 50 #[.slice A n c, .func (.func 49) #[] #[.pointer (some ⟨bx, 0, none⟩)]] w fun e w' => ∃ m, e = .returned (.slice A m c) ∧ OwE tenc 2 47 w' b0 (.slice A m c) (xs.filter (fun t => !(t.at' == fb))) ∧ w.grownBy w' (Value.slice A n c).ownBlock := by
  have hln := hr.rd.len
  have eg : ∀ args w, (callFunc 49 args).run Try.prog w = .ok (.enter 49 args) w := enters_of Try.func49 (by kernel_rfl) rfl
  have hbl : b < w.heap.size := by obtain ⟨cs, h⟩ := hbt; exact (Array.getElem?_eq_some_iff.1 h).1
  have hg49 : ∀ (W : World) (t : Tm), w.grownBy W (Value.slice A n c).ownBlock → Calls Try.prog 49 #[t.v, .pointer (some ⟨bx, 0, none⟩)] W fun e w' => e = .returned (.bool (t.at' == fb)) ∧ Below W.heap.size W w' := by
    intro W t hg
    refine late1 W bx b o fb t (gb_box hg hx (fun he => ?_)) (gb_cell hg h3 hbl (fun he => ?_))
    · obtain ⟨cur, hcur⟩ := hr.typed bx he.symm
      exact blocks_ne (show (47 : TypeId) ≠ 61 by decide) hcur hx rfl
    · obtain ⟨cur, hcur⟩ := hr.typed b he.symm
      obtain ⟨cs, hcs⟩ := hbt
      exact blocks_ne (show (47 : TypeId) ≠ 45 by decide) hcur hcs rfl
  have hP : PredB Try.prog 49 #[.pointer (some ⟨bx, 0, none⟩)] Tm.v (fun t => t.at' == fb) w := fun W t hB => hg49 W t (gb_below hB)
  have HG := Lib.hid hg49
  have HR := Lib.hid hr
  have HI := Lib.hid (indexFunc_tms 49 #[.pointer (some ⟨bx, 0, none⟩)] eg (fun t => t.at' == fb) w (.slice A n c) xs hr.rd hP)
  clear hr hx hbt h3 hg49 hP
  go_enter Try.func50, Try.ntmps50
  go_upto_region 2 with (go_at_call 57; refine HI.out.mono ?_; rintro e w2 ⟨r, rfl, hri, hb2⟩)
  have HT2 := Lib.hid hb2
  have HR2 := Lib.hid (HR.out.below hb2)
  have HRI := Lib.hid hri
  clear hri hb2 HI
  rcases HRI.out with ⟨hr1, hall⟩ | ⟨kk, y0, hr1, hat, hpy, hbef⟩
  · have hr2 : r = -1 := hr1
    subst hr2
    have hall' : ∀ x ∈ xs, (x.at' == fb) = false := fun x hx => by
      obtain ⟨j, hj⟩ := List.getElem?_of_mem hx
      exact hall j x hj
    have HALL := Lib.hid hall'
    clear hr1 hall hall' HRI
    go_wp2_with fail
    go_ret
    refine ⟨n, rfl, ?_, gb_below HT2.out⟩
    rw [List.filter_eq_self.2 (fun x hx => by simp [HALL.out x hx])]
    exact HR2.out
  · subst hr1
    have hkl : kk < n := by have := (List.getElem?_eq_some_iff.1 hat).1; omega
    have f2 := filter_first (p := fun t => t.at' == fb) hat hpy hbef
    have hD : Del (fun t => t.at' == fb) xs xs kk (kk + 1) := ⟨rfl, by omega, by omega, f2.symm, fun _ _ => rfl⟩
    have HD := Lib.hid hD
    obtain ⟨b, off, rfl, hb0, _, hnc, _, _⟩ := HR2.out.form (by omega)
    clear hat hpy hbef f2 hD HRI
    have k1 : ¬ (kk : Int) = -1 := by omega
    have k2 : ((kk : Int) == -1) = false := by rw [beq_eq_false_iff_ne]; omega
    have k3 : IntKind.i64.wrap ((kk : Int) + 1) = (((kk + 1 : Nat)) : Int) := by rw [IntKind.wrap_i64]; omega
    go_wp2_with fail
    go_loopg [5, 6] n (fun gg s5 s6 wr => ∃ ii jj : Nat, jj ≤ n ∧ n - jj ≤ gg ∧ s5 = .int .i64 ii ∧ s6 = .int .i64 jj ∧ ∃ es, Aside (Del (fun t => t.at' == fb) xs es ii jj ∧ OwE tenc 2 47 wr b0 (.slice (some ⟨b, off, none⟩) n c) es ∧ w.grownBy wr (some b)))
    case atStart =>
      refine ⟨kk, kk + 1, by omega, by omega, rfl, by simp, xs, ?_⟩
      show Aside _
      exact ⟨HD.out, HR2.out, gb_below HT2.out⟩
    case round =>
      clear HD HR2 HT2 k1 k2 k3
      obtain ⟨ii, jj, hjj, hg, rfl, rfl, es, HA⟩ := hrel
      obtain ⟨hD, hO, hT⟩ := HA.out
      have hij := hD.i
      have hel := hD.l
      have HD := Lib.hid hD
      have HO := Lib.hid hO
      have HT := Lib.hid hT
      clear HA hD hO hT
      obtain ⟨b', off', hA, hb0', ⟨cur, hcur⟩, _, hcell, hfz⟩ := HO.out.form (by omega)
      injection hA with hA
      injection hA with hA1 hA2
      subst hA1; subst hA2
      have HCUR := Lib.hid hcur
      clear hcur
      by_cases hlt : jj < n
      · have hltz : (jj : Int) < (n : Int) := by omega
        have hltzi : (ii : Int) < (n : Int) := by omega
        have hat : es[jj]? = some (es[jj]'(by omega)) := List.getElem?_eq_getElem _
        have hati : es[ii]? = some (es[ii]'(by omega)) := List.getElem?_eq_getElem _
        generalize es[jj]'(by omega) = y at hat
        generalize es[ii]'(by omega) = z at hati
        have hxj : xs[jj]? = some y := by rw [← HD.out.r jj (Nat.le_refl _)]; exact hat
        obtain ⟨yi, ya⟩ := y
        obtain ⟨zi, za⟩ := z
        have c0 : wr.cell? ⟨b, off + jj * 2, none⟩ = some (.int .i64 yi) := hcell jj 0 _ _ hat rfl
        have c1 : wr.cell? ⟨b, off + jj * 2 + 1, none⟩ = some (.int .i64 ya) := hcell jj 1 _ _ hat rfl
        have HXJ := Lib.hid hxj
        have HZ := Lib.hid hati
        clear hcell hat hati hxj
        go_upto_region 8 with fail
        clear c0 c1
        have hal : Below wr.heap.size wr (wr.alloc (.cells #[.int .i64 yi, .int .i64 ya] 47)) := (Below.refl _ _).alloc (Nat.le_refl _) _
        have hx := heap_alloc_new wr (.cells #[.int .i64 yi, .int .i64 ya] 47)
        have HO1 := Lib.hid (HO.out.below hal)
        have HT1 := Lib.hid (gb_trans HT.out (gb_below hal))
        have HC := Lib.hid (HG.out _ ⟨yi, ya⟩ HT1.out)
        clear hal
        generalize wr.alloc (.cells #[.int .i64 yi, .int .i64 ya] 47) = U at *
        generalize wr.heap.size = tb at *
        have t0 := box_at hx 0 _ rfl
        have t1 := box_at hx 1 _ rfl
        have HX := Lib.hid hx
        clear hx
        cases hq : (ya == fb) with
        | true =>
          have HQ := Lib.hid hq; clear hq
          go_wp2_with (go_at_fn 49; refine (HC.out).mono ?_; simp only [HQ.out]; rintro e w' ⟨rfl, hb'⟩; have HT2 := Lib.hid (gb_trans HT1.out (gb_below hb')); have HO2 := Lib.hid (HO1.out.below hb'); clear hb' t0 t1)
          go_roundg (n - (jj + 1))
          case measure => omega
          case rel =>
            refine ⟨ii, jj + 1, by omega, by omega, rfl, by simp, es, ?_⟩
            show Aside _
            exact ⟨HD.out.drop HXJ.out HQ.out, HO2.out, HT2.out⟩
        | false =>
          have HQ := Lib.hid hq; clear hq
          go_upto_region 9 with (go_at_fn 49; refine (HC.out).mono ?_; simp only [HQ.out]; rintro e w' ⟨rfl, hb'⟩; have HT2 := Lib.hid (gb_trans HT1.out (gb_below hb')); have HO2 := Lib.hid (HO1.out.below hb'); have hx' := keep hb' HX.out; clear hb' t0 t1; have t0 := box_at hx' 0 _ rfl; have t1 := box_at hx' 1 _ rfl; clear hx')
          obtain ⟨b', off', hA, _, ⟨cur2, hcur2⟩, _, hcell2, hfz2⟩ := HO2.out.form (by omega)
          injection hA with hA
          injection hA with hA1 hA2
          subst hA1; subst hA2
          have d0 : w'.cell? ⟨b, off + ii * 2, none⟩ = some (.int .i64 zi) := hcell2 ii 0 _ _ HZ.out rfl
          have d1 : w'.cell? ⟨b, off + ii * 2 + 1, none⟩ = some (.int .i64 za) := hcell2 ii 1 _ _ HZ.out rfl
          have HS1 := Lib.hid (HO2.out.set (y' := (⟨yi, za⟩ : Tm)) HZ.out (show 0 < 2 by decide) (x := .int .i64 yi) rfl)
          have HS2 := Lib.hid (HS1.out.set (i := ii) (j := 1) (y := (⟨yi, za⟩ : Tm)) (y' := (⟨yi, ya⟩ : Tm)) (by rw [List.getElem?_set_self (by omega)]) (by decide) (x := .int .i64 ya) rfl)
          clear hcell2 hcur2
          have hiw : IntKind.i64.wrap ((ii : Int) + 1) = ((ii + 1 : Nat) : Int) := by rw [IntKind.wrap_i64]; omega
          go_wp2_with fail
          go_roundg (n - (jj + 1))
          case measure => omega
          case rel =>
            refine ⟨ii + 1, jj + 1, by omega, by omega, by simp, by simp, es.set ii ⟨yi, ya⟩, ?_⟩
            show Aside _
            have hS := HS2.out
            rw [List.set_set] at hS
            exact ⟨HD.out.keep HXJ.out HQ.out, by simpa using hS, gb_set (gb_set HT2.out _) _⟩
      · obtain rfl : jj = n := by omega
        have hltz : ¬ (jj : Int) < (jj : Int) := by omega
        have i1 : (ii : Int) ≤ (jj : Int) := by omega
        have i2 : (ii : Int) ≤ (c : Int) := by omega
        have i3 : ¬ c = ii := by omega
        have hk := HD.out.k
        rw [List.take_of_length_le (show xs.length ≤ jj by omega)] at hk
        have htk := HO.out.take ii (by omega)
        rw [hk] at htk
        have HTK := Lib.hid htk
        have i4 : ii + (jj - ii) ≤ c := by omega
        clear hcell hk htk HD
        go_wp2_with (refine wp_clearE (n := ii) (q := jj - ii) (d := c - ii) b0 rfl _ 43 47 (.agg #[.int .i64 0, .int .i64 0]) rfl Try.underlying43 zero47 rfl (by intro u hu; simp [Value.cells] at hu; rw [hu]; rfl) HTK.out i4 rfl ?c4)
        case c4 =>
          intro w3 hO3 hg3
          have HO3 := Lib.hid hO3
          have HT3 := Lib.hid (gb_trans HT.out hg3)
          clear hO3 hg3
          go_wp2_with fail
          go_ret
          exact ⟨ii, rfl, HO3.out, HT3.out⟩
end Go.Proofs.Ytipjhokhflokmaa
