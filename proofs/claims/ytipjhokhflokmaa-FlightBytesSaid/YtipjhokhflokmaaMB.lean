/- append in a drawn region, of elements of m cells; a fresh row of one element. For any program. -/
import Derived.Test.YtipjhokhflokmaaM
set_option linter.unusedVariables false
namespace Go.Proofs.Ytipjhokhflokmaa
open Go.RowKit
open Go.Proofs.YtipjhokhflokmaaW.PrintWords

theorem OwE.one {α : Type} {enc : α → List Value} {m : Nat} {W : World} {base b : Nat} {x : α} {e : TypeId} (hm : ∀ a, (enc a).length = m) (h : W.heap[b]? = some (.cells (enc x).toArray e (0, 0))) (hb : base ≤ b) :
    OwE enc m e W base (.slice (some ⟨b, 0, none⟩) 1 1) [x] :=
  ⟨hm, by simp [hm], .inr ⟨b, 0, 1, _, by simp, hb, h, Nat.le_refl _, by decide, by simp [hm], (by simpa using List.take_of_length_le (by rw [hm]; omega))⟩⟩

section
variable {α : Type} {enc : α → List Value} {m : Nat} {P : Program} {ops : Array Oper} {o : Oper} {a : Act} {Kc : Act → World → Prop} {Q' : Exit → Act → World → Prop} {E : Prop}
theorem wp_app_stepE {W : World} (base : Nat) (hgd : o.guard = none) (s x : Operand) (t e : TypeId) (z : Value) (bytes : Nat)
    (ho : o.op = .call { callee := .builtin .append, args := #[s, x], argTypes := #[t, t] })
    (ht : P.underlying t = some (.slice e)) (hinfo : (P.info? e).map (fun i => (i.zero, i.size, i.bytes)) = some (some z, m, bytes)) (hz : z.cells.size = m) (hm0 : 0 < m) (hb0 : 0 < bytes)
    (v src : Value) (xs ys : List α) (hs : a.eval s = v) (hx : a.eval x = src)
    (hown : OwE enc m e W base v xs) (hsrc : RdE enc m W src ys) (h1 : ∀ a, ∀ u ∈ enc a, u.oneCell' = true) (hbytes : (xs.length + ys.length) * bytes ≤ 140737488355328) (hbase : base ≤ W.heap.size)
    (h : ∀ v1 w1, OwE enc m e w1 base v1 (xs ++ ys) → W.grownBy w1 v.ownBlock → (v1.ownBlock = v.ownBlock ∨ ∃ b, v1.ownBlock = some b ∧ W.heap.size ≤ b) → Kc (a.put o.dst v1) w1) :
    if Region.wanted o (yielded ops a.tmps) = true then Oper.wp P o a W Kc Q' else E := by
  obtain ⟨v1, w1, hr1, h2, hg, hat⟩ := run_appE (P := P) W base t o.type e z bytes ht hinfo hz hm0 hown hsrc h1 hbytes hb0 hbase
  have hw : Region.wanted o (yielded ops a.tmps) = true := by simp [Region.wanted, hgd]
  rw [if_pos hw]
  unfold Oper.wp execOp
  simp only [ho, resolve, invoke, builtin, Sem.run_bind, Sem.run_pure, Result.andThen_ok, List.map_toArray, List.map_cons, List.map_nil, hs, hx, hr1]
  exact h v1 w1 h2 hg hat
end
end Go.Proofs.Ytipjhokhflokmaa
