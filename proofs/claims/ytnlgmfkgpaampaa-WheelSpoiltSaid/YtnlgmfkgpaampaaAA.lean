/- lockageref04.Same at wheels alike; lockageref02.Ints at lists alike. -/
import Derived.Test.YtnlgmfkgpaampaaZ
import Derived.Deep.QuietTactic
import Derived.BigQuiet
set_option linter.unusedVariables false
set_option linter.unusedSimpArgs false
namespace Go.Proofs.Ytnlgmfkgpaampaa
open Go.RowKit
open Go.Proofs.YtnlgmfkgpaampaaW.PrintWords

set_option maxHeartbeats 4000000 in
theorem ints_any (w : World) (A B : Option Addr) (n c m d : Nat) (xs : List Int) (hr : RdE ienc 1 w (.slice A n c) xs) (hs : RdE ienc 1 w (.slice B m d) xs) :
    Calls Try.prog 20 #[.slice A n c, .slice B m d] w fun e w' => e = .returned (.bool true) ∧ Below w.heap.size w w' := by
  have hnm : n = m := by have := hr.len; have := hs.len; omega
  subst hnm
  have hl := hr.len
  have hmx := hr.max
  have hnx : n ≤ 9223372036854775807 := by omega
  have HR := Lib.hid hr
  have HS := Lib.hid hs
  clear hr hs hmx
  go_enter Try.func20, Try.ntmps20
  go_wp2_with fail
  go_loopg [5] n (fun gg s5 wr => ∃ kk : Nat, kk ≤ n ∧ n - kk ≤ gg ∧ s5 = .int .i64 kk ∧ Below w.heap.size w wr)
  case atStart => exact ⟨0, Nat.zero_le _, by omega, rfl, Below.refl _ _⟩
  case round =>
    obtain ⟨kk, hkk, hg, rfl, hB⟩ := hrel
    by_cases hlt : kk < n
    · have hltz : (kk : Int) < (n : Int) := by omega
      obtain ⟨b, off, rfl, hbl, hc⟩ := HR.out.get (by omega)
      obtain ⟨b2, off2, rfl, hbl2, hc2⟩ := HS.out.get (by omega)
      have hat : xs[kk]? = some (xs[kk]'(by omega)) := List.getElem?_eq_getElem _
      generalize xs[kk]'(by omega) = y at hat
      have k0 : wr.cell? ⟨b, off + kk, none⟩ = some (.int .i64 y) := (hB.cell (p := ⟨b, off + kk, none⟩) hbl).trans (by have := hc kk 0 _ _ hat rfl; rwa [Nat.mul_one, Nat.add_zero] at this)
      have j0 : wr.cell? ⟨b2, off2 + kk, none⟩ = some (.int .i64 y) := (hB.cell (p := ⟨b2, off2 + kk, none⟩) hbl2).trans (by have := hc2 kk 0 _ _ hat rfl; rwa [Nat.mul_one, Nat.add_zero] at this)
      clear hc hc2 hat
      have HB := Lib.hid hB
      clear hB
      go_upto_region 6 with fail
      go_quiet (fail)
      go_wp2_with fail
      go_roundg (n - (kk + 1))
      case measure => omega
      case rel => exact ⟨kk + 1, by omega, by omega, by simp, pw_below_drewN HB.out _⟩
    · have hltz : ¬ (kk : Int) < (n : Int) := by omega
      go_wp2_with fail
      go_ret
      exact ⟨rfl, hB⟩

set_option maxHeartbeats 8000000 in
theorem same_any (w : World) (nw : Int) (A B : Nat → Option Addr) (n c m d : Nat → Nat) (ts : Nat → List Tm) (hr : WhR w A n c ts) (hs : WhR w B m d ts) :
    Calls Try.prog 19 #[.agg #[.int .i64 nw, .slice (A 0) (n 0) (c 0), .slice (A 1) (n 1) (c 1), .slice (A 2) (n 2) (c 2), .slice (A 3) (n 3) (c 3), .slice (A 4) (n 4) (c 4), .slice (A 5) (n 5) (c 5), .slice (A 6) (n 6) (c 6), .slice (A 7) (n 7) (c 7)], .agg #[.int .i64 nw, .slice (B 0) (m 0) (d 0), .slice (B 1) (m 1) (d 1), .slice (B 2) (m 2) (d 2), .slice (B 3) (m 3) (d 3), .slice (B 4) (m 4) (d 4), .slice (B 5) (m 5) (d 5), .slice (B 6) (m 6) (d 6), .slice (B 7) (m 7) (d 7)]] w fun e w' => e = .returned (.bool true) ∧ Below w.heap.size w w' := by
  have hln := hr.len
  have hlm := hs.len
  have HLN := Lib.hid hln
  have HLM := Lib.hid hlm
  have hal1 : Below w.heap.size w (w.alloc (.cells #[.int .i64 nw, .slice (A 0) (n 0) (c 0), .slice (A 1) (n 1) (c 1), .slice (A 2) (n 2) (c 2), .slice (A 3) (n 3) (c 3), .slice (A 4) (n 4) (c 4), .slice (A 5) (n 5) (c 5), .slice (A 6) (n 6) (c 6), .slice (A 7) (n 7) (c 7)] 25)) := (Below.refl _ _).alloc (Nat.le_refl _) _
  have hb1 := BoxW.alloc w nw (fun i => .slice (A i) (n i) (c i))
  generalize hV1 : w.alloc (.cells #[.int .i64 nw, .slice (A 0) (n 0) (c 0), .slice (A 1) (n 1) (c 1), .slice (A 2) (n 2) (c 2), .slice (A 3) (n 3) (c 3), .slice (A 4) (n 4) (c 4), .slice (A 5) (n 5) (c 5), .slice (A 6) (n 6) (c 6), .slice (A 7) (n 7) (c 7)] 25) = V1 at hal1 hb1
  have s1 : V1.heap.size = w.heap.size + 1 := by rw [← hV1]; simp
  have hal2 : Below V1.heap.size V1 (V1.alloc (.cells #[.int .i64 nw, .slice (B 0) (m 0) (d 0), .slice (B 1) (m 1) (d 1), .slice (B 2) (m 2) (d 2), .slice (B 3) (m 3) (d 3), .slice (B 4) (m 4) (d 4), .slice (B 5) (m 5) (d 5), .slice (B 6) (m 6) (d 6), .slice (B 7) (m 7) (d 7)] 25)) := (Below.refl _ _).alloc (Nat.le_refl _) _
  have hb2 := BoxW.alloc V1 nw (fun i => .slice (B i) (m i) (d i))
  rw [s1] at hb2
  have HW := Lib.hid (hal1.trans (hal2.mono hal1.size))
  have HB1 := Lib.hid (hb1.below hal2)
  have HB2 := Lib.hid hb2
  have HR := Lib.hid hr
  have HS := Lib.hid hs
  clear hal1 hal2 hb1 hb2 s1 hr hs hln hlm
  rw [← hV1] at HW HB1 HB2
  clear hV1
  go_enter Try.func19, Try.ntmps19
  go_wp2_with fail
  generalize ((w.alloc (.cells #[.int .i64 nw, .slice (A 0) (n 0) (c 0), .slice (A 1) (n 1) (c 1), .slice (A 2) (n 2) (c 2), .slice (A 3) (n 3) (c 3), .slice (A 4) (n 4) (c 4), .slice (A 5) (n 5) (c 5), .slice (A 6) (n 6) (c 6), .slice (A 7) (n 7) (c 7)] 25)).alloc (.cells #[.int .i64 nw, .slice (B 0) (m 0) (d 0), .slice (B 1) (m 1) (d 1), .slice (B 2) (m 2) (d 2), .slice (B 3) (m 3) (d 3), .slice (B 4) (m 4) (d 4), .slice (B 5) (m 5) (d 5), .slice (B 6) (m 6) (d 6), .slice (B 7) (m 7) (d 7)] 25)) = V at *
  go_loopg [5] 8 (fun gg s5 wr => ∃ kk : Nat, kk ≤ 8 ∧ 8 - kk ≤ gg ∧ s5 = .int .i64 kk ∧ Aside (Below w.heap.size w wr ∧ BoxW wr w.heap.size nw (fun i => .slice (A i) (n i) (c i)) ∧ BoxW wr (w.heap.size + 1) nw (fun i => .slice (B i) (m i) (d i))))
  case atStart =>
    refine ⟨0, by omega, by omega, rfl, ?_⟩
    show Aside _
    exact ⟨HW.out, HB1.out, HB2.out⟩
  case round =>
    clear HW HB1 HB2
    obtain ⟨kk, hkk, hg, rfl, HA⟩ := hrel
    have HA := Lib.hid HA.out
    by_cases hlt : kk < 8
    · have hlt1 : (kk : Int) < 8 := by omega
      have z1 := HA.out.2.1.slot hlt
      have z2 := HA.out.2.2.slot hlt
      have hmn : m kk = n kk := by rw [← HLN.out kk hlt, ← HLM.out kk hlt]
      rw [hmn] at z2
      have HRK := Lib.hid (HR.out kk hlt)
      have HSK := Lib.hid (HS.out kk hlt)
      rw [hmn] at HSK
      have hnl := HLN.out kk hlt
      have hmx := HRK.out.max
      have hnx : n kk ≤ 9223372036854775807 := by omega
      clear hmn hmx
      generalize hNK : n kk = nk at *
      generalize hAK : A kk = Ak at *
      generalize hCK : c kk = ck at *
      generalize hBK : B kk = Bk' at *
      generalize hDK : d kk = dk at *
      clear hNK hAK hCK hBK hDK
      go_upto_region 4 with fail
      go_quiet (fail)
      have HA2 := Lib.hid (show Below w.heap.size w (wr.drewN nq) ∧ BoxW (wr.drewN nq) w.heap.size nw (fun i => .slice (A i) (n i) (c i)) ∧ BoxW (wr.drewN nq) (w.heap.size + 1) nw (fun i => .slice (B i) (m i) (d i)) from
        ⟨pw_below_drewN HA.out.1 _, HA.out.2.1.below (pw_below_drewN (Below.refl _ _) _), HA.out.2.2.below (pw_below_drewN (Below.refl _ _) _)⟩)
      have y1 : (wr.drewN nq).cell? ⟨w.heap.size, 1 + kk, none⟩ = some (.slice Ak nk ck) := z1
      have y2 : (wr.drewN nq).cell? ⟨w.heap.size + 1, 1 + kk, none⟩ = some (.slice Bk' nk dk) := z2
      have HY1 := Lib.hid y1
      have HY2 := Lib.hid y2
      clear HA z1 z2 y1 y2
      go_wp2_with fail
      generalize wr.drewN nq = W4 at *
      go_loopg [6] nk (fun gg s6 wx => ∃ jj : Nat, jj ≤ nk ∧ nk - jj ≤ gg ∧ s6 = .int .i64 jj ∧ Aside (Below w.heap.size w wx ∧ Below W4.heap.size W4 wx))
      case atStart =>
        refine ⟨0, by omega, by omega, rfl, ?_⟩
        show Aside _
        exact ⟨HA2.out.1, Below.refl _ _⟩
      case round =>
        obtain ⟨jj, hjj, hgj, rfl, HJ⟩ := hrel
        have HJ := Lib.hid HJ.out
        have l1 : w.heap.size < W4.heap.size := HA2.out.2.1.lt
        have l2 : w.heap.size + 1 < W4.heap.size := HA2.out.2.2.lt
        have y1 : wr.cell? ⟨w.heap.size, 1 + kk, none⟩ = some (.slice Ak nk ck) := (HJ.out.2.cell (p := ⟨w.heap.size, 1 + kk, none⟩) l1).trans HY1.out
        have y2 : wr.cell? ⟨w.heap.size + 1, 1 + kk, none⟩ = some (.slice Bk' nk dk) := (HJ.out.2.cell (p := ⟨w.heap.size + 1, 1 + kk, none⟩) l2).trans HY2.out
        by_cases hltj : jj < nk
        · have hltj1 : (jj : Int) < (nk : Int) := by omega
          obtain ⟨b, off, hA', hbl, hc⟩ := HRK.out.get (by omega)
          obtain ⟨b2, off2, hB', hbl2, hc2⟩ := HSK.out.get (by omega)
          have hat : (ts kk)[jj]? = some ((ts kk)[jj]'(by omega)) := List.getElem?_eq_getElem _
          generalize (ts kk)[jj]'(by omega) = y at hat
          obtain ⟨yi, ya⟩ := y
          have k0 : wr.cell? ⟨b, off + jj * 2, none⟩ = some (.int .i64 yi) := (HJ.out.1.cell (p := ⟨b, off + jj * 2, none⟩) hbl).trans (hc jj 0 _ _ hat rfl)
          have k1 : wr.cell? ⟨b, off + jj * 2 + 1, none⟩ = some (.int .i64 ya) := (HJ.out.1.cell (p := ⟨b, off + jj * 2 + 1, none⟩) hbl).trans (hc jj 1 _ _ hat rfl)
          have j0 : wr.cell? ⟨b2, off2 + jj * 2, none⟩ = some (.int .i64 yi) := (HJ.out.1.cell (p := ⟨b2, off2 + jj * 2, none⟩) hbl2).trans (hc2 jj 0 _ _ hat rfl)
          have j1 : wr.cell? ⟨b2, off2 + jj * 2 + 1, none⟩ = some (.int .i64 ya) := (HJ.out.1.cell (p := ⟨b2, off2 + jj * 2 + 1, none⟩) hbl2).trans (hc2 jj 1 _ _ hat rfl)
          clear hc hc2 hat
          subst hA'; subst hB'
          go_upto_region 9 with fail
          go_quiet (fail)
          go_wp2_with fail
          go_roundg (nk - (jj + 1))
          case measure => omega
          case rel =>
            refine ⟨jj + 1, by omega, by omega, by simp, ?_⟩
            show Aside _
            exact ⟨pw_below_drewN HJ.out.1 _, pw_below_drewN HJ.out.2 _⟩
        · obtain rfl : jj = nk := by omega
          have hltj1 : ¬ (jj : Int) < (jj : Int) := by omega
          have HA3 := Lib.hid (show _ ∧ _ ∧ _ from ⟨HJ.out.1, HA2.out.2.1.below HJ.out.2, HA2.out.2.2.below HJ.out.2⟩)
          go_wp2_with fail
          go_roundg (8 - (kk + 1))
          case measure => omega
          case rel =>
            refine ⟨kk + 1, by omega, by omega, by simp, ?_⟩
            show Aside _
            exact HA3.out
    · obtain rfl : kk = 8 := by omega
      have z1 := HA.out.2.1.now
      have z2 := HA.out.2.2.now
      go_wp2_with fail
      go_ret
      exact ⟨by simp, HA.out.1⟩
end Go.Proofs.Ytnlgmfkgpaampaa
