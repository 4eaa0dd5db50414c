/- Contract of lockagelaw02.IdsAny. -/
import Derived.Test.YteaifndkmknanaaAB
import Derived.Test.YteaifndkmknanaaAC
set_option linter.unusedVariables false
namespace Go.Proofs.Yteaifndkmknanaa
open Go.RowKit
open Go.Proofs.YteaifndkmknanaaW.PrintWords

set_option maxHeartbeats 4000000 in
theorem idsAny_big (w : World) (Ag : Option Addr) (ng cg : Nat) (Ab : Option Addr) (nb cb : Nat) (Af : Option Addr) (nf cf : Nat) (id room : Int) (hbig : 100 < ng ∨ 100 < nf ∨ 100 < nb) :
    Calls Try.prog 3 #[.agg #[.slice Ag ng cg, .slice Ab nb cb, .slice Af nf cf], .int .i64 id, .int .i64 room] w fun e w' => e = .returned (.bool true) ∧ Below w.heap.size w w' := by
  have key : ∀ (p q r : Bool), decide ((ng : Int) > 100) = p → decide ((nf : Int) > 100) = q → decide ((nb : Int) > 100) = r → (p || q || r) = true →
      Calls Try.prog 3 #[.agg #[.slice Ag ng cg, .slice Ab nb cb, .slice Af nf cf], .int .i64 id, .int .i64 room] w fun e w' => e = .returned (.bool true) ∧ Below w.heap.size w w' := by
    clear hbig
    intro p q r hp hq hr hpqr
    cases p <;> cases q <;> cases r <;> simp only [decide_eq_true_eq, decide_eq_false_iff_not, Int.not_lt, Bool.or_true, Bool.or_false, Bool.false_eq_true] at hp hq hr hpqr <;>
    · go_enter Try.func3, Try.ntmps3
      go_wp2_with fail
      refine (awake_any _).mono ?_
      rintro e w1 ⟨rfl, hb1⟩
      have hb := (alloc1 hb1).1
      clear hb1
      go_wp2_with fail
      go_ret
      exact ⟨by simp, hb⟩
  exact key _ _ _ rfl rfl rfl (by simp; omega)

set_option maxHeartbeats 4000000 in
theorem idsAny_any (w : World) (Ag : Option Addr) (ng cg : Nat) (Ab : Option Addr) (nb cb : Nat) (Af : Option Addr) (nf cf : Nat) (t : Tab) (id room : Int) (ht : TabR w (.slice Ag ng cg) (.slice Ab nb cb) (.slice Af nf cf) t) (hid : id ≤ 9223372036854775807) :
    Calls Try.prog 3 #[.agg #[.slice Ag ng cg, .slice Ab nb cb, .slice Af nf cf], .int .i64 id, .int .i64 room] w fun e w' => e = .returned (.bool true) ∧ Below w.heap.size w w' := by
  by_cases hbig : 100 < ng ∨ 100 < nf ∨ 100 < nb
  · exact idsAny_big w Ag ng cg Ab nb cb Af nf cf id room hbig
  have lg := ht.g.len
  have lb := ht.b.len
  have lf := ht.f.len
  rw [ints_len] at lg lf
  rw [bls_len] at lb
  have hs : t.small := ⟨by omega, by omega, by omega⟩
  have k1 : (ng : Int) ≤ 100 := by omega
  have k2 : (nf : Int) ≤ 100 := by omega
  have k3 : (nb : Int) ≤ 100 := by omega
  have HT := Lib.hid ht
  clear ht hbig lg lb lf
  go_enter Try.func3, Try.ntmps3
  go_wp2_with fail
  refine (awake_any _).mono ?_
  rintro e w1 ⟨rfl, hb1⟩
  obtain ⟨hB1, X1⟩ := alloc1 hb1
  have z0 := box_at X1 0 _ rfl
  have z1 := box_at X1 1 _ rfl
  have z2 := box_at X1 2 _ rfl
  clear hb1
  go_wp2_with fail
  refine (told_any _ Ag ng cg Ab nb cb Af nf cf t id (HT.out.below hB1) hs hid).mono ?_
  rintro e w2 ⟨rfl, hb2⟩
  have hB2 := hB1.trans (hb2.mono hB1.size)
  clear hb2 z0 z1 z2 X1 hB1
  go_wp2_with fail
  refine (new_any _ room).mono ?_
  generalize hN : newS room = N
  rintro e w3 ⟨A1, n1, c1, A2, n2, c2, A3, n3, c3, rfl, hO1, hb3⟩
  have R1 := Lib.hid hO1.r
  have hB3 := hB2.trans (hb3.mono hB2.size)
  clear hb3 hO1 hB2
  go_wp2_with fail
  refine (rnew_any _ room).mono ?_
  rw [hN]
  rintro e w4 ⟨B1, m1, d1, B2, m2, d2, B3, m3, d3, rfl, hO2, hb4⟩
  have R1 := Lib.hid (R1.out.below hb4)
  have R2 := Lib.hid hO2.r
  have hB4 := hB3.trans (hb4.mono hB3.size)
  clear hb4 hO2 hB3
  go_wp2_with fail
  refine (same_any _ A1 n1 c1 A2 n2 c2 A3 n3 c3 _ R1.out B1 m1 d1 B2 m2 d2 B3 m3 d3 R2.out).mono ?_
  rintro e w5 ⟨rfl, hb5⟩
  have hB5 := hB4.trans (hb5.mono hB4.size)
  clear hb5 hB4
  go_wp2_with fail
  go_ret
  exact ⟨by simp, hB5⟩
end Go.Proofs.Yteaifndkmknanaa
