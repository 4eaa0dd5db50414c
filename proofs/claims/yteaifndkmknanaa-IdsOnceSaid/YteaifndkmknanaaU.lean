/- Contracts of lockageref02.Has. -/
import Derived.Test.YteaifndkmknanaaR
import Derived.Test.YteaifndkmknanaaT
set_option linter.unusedVariables false
namespace Go.Proofs.Yteaifndkmknanaa
open Go.RowKit
open Go.Proofs.YteaifndkmknanaaW.PrintWords

theorem mul_mod_eq {g k n : Nat} (hn : 0 < n) : ((g : Int) * n + (k % n : Nat) == (k : Int)) = ((g : Int) == (k : Int) / (n : Int)) := by
  have h := Nat.div_add_mod k n
  have e : ((k : Int) / (n : Int)) = ((k / n : Nat) : Int) := by simp
  rw [e]
  generalize k / n = d at h
  generalize k % n = r at h
  by_cases hq : g = d
  · subst hq
    have h1 : ((g : Int) * n + r == (k : Int)) = true := by
      rw [beq_iff_eq, ← h, Nat.mul_comm]
      simp
    rw [h1]
    simp
  · have h1 : ((g : Int) * n + r == (k : Int)) = false := by
      rw [beq_eq_false_iff_ne, ← h]
      intro he
      have he2 : ((g * n + r : Nat) : Int) = ((n * d + r : Nat) : Int) := by simpa using he
      have : g * n + r = n * d + r := by omega
      have : n * g = n * d := by rw [Nat.mul_comm n g]; omega
      exact hq (Nat.eq_of_mul_eq_mul_left hn this)
    have h2 : ((g : Int) == (d : Int)) = false := by rw [beq_eq_false_iff_ne]; omega
    rw [h1, h2]

set_option maxHeartbeats 1000000 in
theorem rhas_no (w : World) (Ag : Option Addr) (ng cg : Nat) (Ab : Option Addr) (nb cb : Nat) (Af : Option Addr) (nf cf : Nat) (t : Tab) (id : Int) (ht : TabR w (.slice Ag ng cg) (.slice Ab nb cb) (.slice Af nf cf) t) (hs : t.small) (hn : rightB t = false) :
    Calls Try.prog 20 #[.agg #[.slice Ag ng cg, .slice Ab nb cb, .slice Af nf cf], .int .i64 id] w fun e w' => e = .returned (.bool false) ∧ Below w.heap.size w w' := by
  have HT := Lib.hid ht
  have HR := Lib.hid hn
  clear ht hn
  go_enter Try.func20, Try.ntmps20
  go_wp2_with (go_at_call 19; refine (rright_any _ Ag ng cg Ab nb cb Af nf cf t (HT.out.below ?_) hs).mono ?_; (exact (Below.refl _ _).alloc (Nat.le_refl _) _); rw [HR.out]; rintro e w1 ⟨rfl, hb⟩; obtain ⟨hb0, hsz, x0, x1, x2⟩ := box3 hb; clear hb)
  go_ret
  exact ⟨rfl, hb0⟩
set_option maxHeartbeats 1000000 in
theorem rhas_neg (w : World) (Ag : Option Addr) (ng cg : Nat) (Ab : Option Addr) (nb cb : Nat) (Af : Option Addr) (nf cf : Nat) (t : Tab) (id : Int) (ht : TabR w (.slice Ag ng cg) (.slice Ab nb cb) (.slice Af nf cf) t) (hs : t.small) (hn : rightB t = true) (hi : id < 0) :
    Calls Try.prog 20 #[.agg #[.slice Ag ng cg, .slice Ab nb cb, .slice Af nf cf], .int .i64 id] w fun e w' => e = .returned (.bool false) ∧ Below w.heap.size w w' := by
  have HT := Lib.hid ht
  have HR := Lib.hid hn
  clear ht hn
  go_enter Try.func20, Try.ntmps20
  go_wp2_with (go_at_call 19; refine (rright_any _ Ag ng cg Ab nb cb Af nf cf t (HT.out.below ?_) hs).mono ?_; (exact (Below.refl _ _).alloc (Nat.le_refl _) _); rw [HR.out]; rintro e w1 ⟨rfl, hb⟩; obtain ⟨hb0, hsz, x0, x1, x2⟩ := box3 hb; clear hb)
  go_ret
  exact ⟨rfl, hb0⟩
set_option maxHeartbeats 1000000 in
theorem rhas_yes (k : Nat) (w : World) (Ag : Option Addr) (ng cg : Nat) (Ab : Option Addr) (nb cb : Nat) (Af : Option Addr) (nf cf : Nat) (t : Tab) (ht : TabR w (.slice Ag ng cg) (.slice Ab nb cb) (.slice Af nf cf) t) (hs : t.small) (hp : RightP t) (hkm : (k : Int) ≤ 9223372036854775807) :
    Calls Try.prog 20 #[.agg #[.slice Ag ng cg, .slice Ab nb cb, .slice Af nf cf], .int .i64 k] w fun e w' => e = .returned (.bool (placeB t k)) ∧ Below w.heap.size w w' := by
  have h1 := hp.h1
  have lg := ht.g.len
  have lb := ht.b.len
  rw [ints_len] at lg
  rw [bls_len] at lb
  have hlt := Nat.mod_lt k (show t.gens.length > 0 by omega)
  have hlb : k % t.gens.length < t.busy.length := by rw [hp.h3]; exact hlt
  obtain ⟨bb, ob, rfl, hbl, hbc⟩ := ht.b.get (by have := hp.h3; omega)
  obtain ⟨bg, og, rfl, hgl, hgc⟩ := ht.g.get (by omega)
  have hb := hbc _ _ (bls_at hlb)
  have hg := hgc _ _ (ints_at hlt)
  have hgen := hp.gen hlt
  obtain ⟨g, hgn⟩ := Int.eq_ofNat_of_zero_le hgen.1
  have hmod : ((k : Int) % (ng : Int)) = ((k % ng : Nat) : Int) := by simp
  have hfin : placeB t k = (t.busy[k % t.gens.length] && ((g : Int) == (k : Int) / (ng : Int))) := by
    have hmod' : ((k : Int) % (t.gens.length : Int)) = ((k % t.gens.length : Nat) : Int) := by simp
    have hdv : (k : Int) / (ng : Int) = (k : Int) / (t.gens.length : Int) := by rw [lg]
    unfold placeB
    rw [hmod', hdv, Int.toNat_natCast, List.getD_eq_getElem?_getD, List.getD_eq_getElem?_getD, List.getElem?_eq_getElem hlt, List.getElem?_eq_getElem hlb]
    simp only [Option.getD_some]
    rw [hgn, mul_mod_eq (by omega)]
    simp
  rw [hgn] at hg
  obtain ⟨y, hyy⟩ : ∃ y, t.busy[k % t.gens.length] = y := ⟨_, rfl⟩
  rw [hyy] at hfin hb
  rw [lg] at hb hg hlt
  have hng : ¬ ng = 0 := by omega
  have hz : ((k % ng : Nat) : Int) < (nb : Int) := by have := hp.h3; omega
  have hz2 : ((k % ng : Nat) : Int) < (ng : Int) := by omega
  have hz0 : (0 : Int) ≤ ((k % ng : Nat) : Int) := by omega
  have htm : (k : Int).tmod (ng : Int) = ((k % ng : Nat) : Int) := by rw [Int.tmod_eq_emod_of_nonneg (by omega)]; exact hmod
  have HFIN := Lib.hid hfin
  have HT := Lib.hid ht
  have HR := Lib.hid (rightB_yes hp)
  clear ht hp hfin hyy hlb hgn hgen hgc hbc lg lb hmod
  have hk0 : decide ((k : Int) < 0) = false := by simp
  cases y
  all_goals
    go_enter Try.func20, Try.ntmps20
    go_wp2_with (go_at_call 19; refine (rright_any _ _ ng cg _ nb cb Af nf cf t (HT.out.below ?_) hs).mono ?_; (exact (Below.refl _ _).alloc (Nat.le_refl _) _); rw [HR.out]; rintro e w1 ⟨rfl, hb'⟩; obtain ⟨hb0, hsz, x0, x1, x2⟩ := box3 hb'; clear hb'; have k1 := (hb0.cell (p := ⟨bb, ob + k % ng, none⟩) hbl).trans hb; have k2 := (hb0.cell (p := ⟨bg, og + k % ng, none⟩) hgl).trans hg)
    go_quiet (fail)
    go_wp2
    go_ret
    refine ⟨?_, pw_below_drewN hb0 _⟩
    rw [HFIN.out]
    have hd0 : (0 : Int) ≤ (k : Int) / (ng : Int) := Int.ediv_nonneg (by omega) (by omega)
    have hd1 : (k : Int) / (ng : Int) ≤ (k : Int) := Int.ediv_le_self _ (by omega)
    exact ret_bool (by simp [w64 (x := (k : Int) / (ng : Int)) (by omega) (by omega)])

theorem rhas_any (w : World) (Ag : Option Addr) (ng cg : Nat) (Ab : Option Addr) (nb cb : Nat) (Af : Option Addr) (nf cf : Nat) (t : Tab) (id : Int) (ht : TabR w (.slice Ag ng cg) (.slice Ab nb cb) (.slice Af nf cf) t) (hs : t.small) (hid : id ≤ 9223372036854775807) :
    Calls Try.prog 20 #[.agg #[.slice Ag ng cg, .slice Ab nb cb, .slice Af nf cf], .int .i64 id] w fun e w' => e = .returned (.bool (hasB t id)) ∧ Below w.heap.size w w' := by
  by_cases hp : RightP t
  · have hh : hasB t id = placeB t id := by unfold hasB; rw [if_pos hp]
    rw [hh]
    by_cases hn : id < 0
    · have h2 : placeB t id = false := by simp [placeB]; omega
      rw [h2]
      exact rhas_neg w Ag ng cg Ab nb cb Af nf cf t id ht hs (rightB_yes hp) hn
    · obtain ⟨k, rfl⟩ := Int.eq_ofNat_of_zero_le (show 0 ≤ id by omega)
      exact rhas_yes k w Ag ng cg Ab nb cb Af nf cf t ht hs hp hid
  · have hh : hasB t id = false := by unfold hasB; rw [if_neg hp]
    rw [hh]
    exact rhas_no w Ag ng cg Ab nb cb Af nf cf t id ht hs (rightB_no hp)
end Go.Proofs.Yteaifndkmknanaa
