/- Plain: when a table is right, told the other way. -/
import Derived.Test.YteaifndkmknanaaL
import Derived.Test.YteaifndkmknanaaF
set_option linter.unusedVariables false
namespace Go.Proofs.Yteaifndkmknanaa

theorem right_count {t : Tab} (h1 : 1 ≤ t.gens.length) (h2 : t.gens.length ≤ 64) (h3 : t.busy.length = t.gens.length) (h4 : t.gens.any oddS = false) (h5 : ∀ x ∈ t.free, freeOk t x = true) (h6 : t.free.Nodup)
    (hc : idle t.busy = t.free.length) : RightP t := by
  have hsub : ∀ x ∈ t.free, x ∈ idles t.busy := fun x hx => by
    have := h5 x hx
    rw [mem_idles, h3]
    simp [freeOk] at this
    exact ⟨this.1.1, this.1.2, by simpa using this.2⟩
  have hback := sub_of_len h6 hsub (by rw [idles_len, hc]; exact Nat.le_refl _)
  refine ⟨h1, h2, h3, h4, h5, h6, fun i hi he => ?_⟩
  cases hb : t.busy.getD i false with
  | false =>
    rw [hb] at he
    have hm := hback (i : Int) ((mem_idles _ _).2 ⟨by omega, by omega, by simpa using hb⟩)
    rw [List.contains_eq_mem, decide_eq_false_iff_not] at he
    exact he hm
  | true =>
    rw [hb, List.contains_eq_mem, decide_eq_true_eq] at he
    have := h5 _ he
    simp only [freeOk, Int.toNat_natCast, hb] at this
    simp at this
theorem RightP.count {t : Tab} (h : RightP t) : idle t.busy = t.free.length := by
  have a : t.free.length ≤ (idles t.busy).length := len_le _ _ h.h6 fun x hx => by
    have := h.h5 x hx
    rw [mem_idles, h.h3]
    simp [freeOk] at this
    exact ⟨this.1.1, this.1.2, by simpa using this.2⟩
  have b : (idles t.busy).length ≤ t.free.length := len_le _ _ (idles_nodup _) fun x hx => by
    obtain ⟨h0, h1, h2⟩ := (mem_idles _ _).1 hx
    have := h.h7 x.toNat (by omega)
    rw [h2] at this
    have e : ((x.toNat : Nat) : Int) = x := by omega
    rw [e] at this
    rw [Ne, Bool.not_eq_false] at this
    rwa [List.contains_eq_mem, decide_eq_true_eq] at this
  rw [idles_len] at a b
  omega
end Go.Proofs.Yteaifndkmknanaa
