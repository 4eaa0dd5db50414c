/- Opening an argument of type []uint8. For any program. -/
import Derived.Test.YtipjhokhflokmaaQ
set_option linter.unusedVariables false
namespace Go.Proofs.Ytipjhokhflokmaa
open Go.ChangeShapes Go.WideShapes Go.ChangeAt Go.RowKit Go.Joins

def u8s (xs : List Nat) : List Value := xs.map (fun x : Nat => Value.int .u8 (x : Int))
theorem u8s_len (xs : List Nat) : (u8s xs).length = xs.length := by simp [u8s]
theorem u8s_at {xs : List Nat} {i : Nat} (h : i < xs.length) : (u8s xs)[i]? = some (.int .u8 (xs[i] : Int)) := by simp [u8s, h]
theorem open_u8s {H : Type} {en : TypeId × Value → H} {P : Program} {w : World} {base b0 : Nat} {spare : Nat → Bool} {held : Bool} {r : Reach} {t e : TypeId} {v : Value} {d : DataW H} {p : List MemPlace}
    (ht : P.underlying t = some (.slice e)) (he : P.underlying e = some (.int .u8)) (hc : P.cellsOf e = 1) (hv : Value.okWide P w r b0 t v) (h : DataW.Trod en P w base spare held t v d p) :
    ∃ (A : Option Addr) (n c : Nat) (xs : List Nat), v = .slice A n c ∧ Rd w (.slice A n c) (u8s xs) ∧ ∀ x ∈ xs, x < 256 := by
  obtain ⟨a0, l0, c0, rfl⟩ := okWide_slice ht hv
  obtain ⟨fuel, hf⟩ := h
  obtain ⟨A, n, c, xs, hq, hR, hw⟩ := open_rd_ints ht he hc (v := .slice a0 l0 c0) hf
  refine ⟨A, n, c, xs.map Int.toNat, hq, ?_, ?_⟩
  · have hx : u8s (xs.map Int.toNat) = xs.map (Value.int .u8) := by
      unfold u8s
      rw [List.map_map]
      refine List.map_congr_left fun x hx => ?_
      have := hw x hx
      simp [Lit.wf, IntKind.max, IntKind.min, IntKind.signed, IntKind.bits] at this
      show Value.int .u8 ((x.toNat : Nat) : Int) = Value.int .u8 x
      rw [Int.toNat_of_nonneg this.1]
    rw [hx]
    exact hR
  · intro x hx
    obtain ⟨y, hy, rfl⟩ := List.mem_map.1 hx
    have := hw y hy
    simp [Lit.wf, IntKind.max, IntKind.min, IntKind.signed, IntKind.bits] at this
    omega
theorem u8_nat {a : Int} (h : (Lit.int .u8 a).wf = true) : ∃ n : Nat, a = n ∧ n < 256 := by
  simp [Lit.wf, IntKind.max, IntKind.min, IntKind.signed, IntKind.bits] at h
  exact ⟨a.toNat, by omega, by omega⟩

end Go.Proofs.Ytipjhokhflokmaa
