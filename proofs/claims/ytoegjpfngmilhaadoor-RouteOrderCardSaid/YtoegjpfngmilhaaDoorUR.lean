/- Opening a slice of slices of bytes that comes in. -/
import Derived.Test.YtoegjpfngmilhaaDoorUJ
import Derived.Test.YtoegjpfngmilhaaDoorUO
set_option linter.unusedVariables false
set_option linter.unusedSimpArgs false
namespace Go.Proofs.YtoegjpfngmilhaaDoor
open Go.ChangeShapes Go.WideShapes Go.ChangeAt Go.RowKit Go.Joins
open Go.Proofs.YtoegjpfngmilhaaDoorW.PrintWords

def RowP (w : World) (a : Value × List Nat) : Prop := ∃ (A : Option Addr) (n c : Nat), a.1 = .slice A n c ∧ Rd w (.slice A n c) (u8s a.2) ∧ ∀ x ∈ a.2, x < 256
theorem u8_rows {w : World} {A : Option Addr} {n c : Nat} {xs : List Int} (hR : Rd w (.slice A n c) (xs.map (Value.int .u8))) (hw : ∀ x ∈ xs, (Lit.int .u8 x).wf = true) :
    Rd w (.slice A n c) (u8s (xs.map Int.toNat)) ∧ ∀ x ∈ xs.map Int.toNat, x < 256 := by
  refine ⟨?_, ?_⟩
  · have hx : u8s (xs.map Int.toNat) = xs.map (Value.int .u8) := by
      unfold u8s
      rw [List.map_map]
      refine List.map_congr_left fun x hx => ?_
      have := hw x hx
      simp [Lit.wf, IntKind.max, IntKind.min, IntKind.signed, IntKind.bits] at this
      show Value.int .u8 ((x.toNat : Nat) : Int) = Value.int .u8 x
      rw [Int.toNat_of_nonneg this.1]
    rw [hx]
    exact hR
  · intro x hx
    obtain ⟨y, hy, rfl⟩ := List.mem_map.1 hx
    have := hw y hy
    simp [Lit.wf, IntKind.max, IntKind.min, IntKind.signed, IntKind.bits] at this
    omega
theorem row_open {H : Type} {en : TypeId × Value → H} {w : World} {base : Nat} {spare : Nat → Bool} {held : Bool} (fuel : Nat) (cs : List Value) (x : DataW H × List MemPlace)
    (h : DataW.trod en Tryd.prog w base spare held fuel 30 cs = some x) : ∃ a : Value × List Nat, RowP w a ∧ cs = [a.1] := by
  have hcs : ∃ A n c, cs = [Value.slice A n c] := by
    rcases _root_.Go.Deep.open_slice Tryd.underlying30 h with ⟨hcs, _⟩ | ⟨a, n, c, mm, k, D, Pl, hcs, _⟩
    · exact ⟨_, _, _, hcs⟩
    · exact ⟨_, _, _, hcs⟩
  obtain ⟨A0, n0, c0, rfl⟩ := hcs
  obtain ⟨A, n, c, xs, hq, hR, hw⟩ := open_rd_ints Tryd.underlying30 Tryd.underlying5 (by kernel_rfl) (v := .slice A0 n0 c0) h
  have := u8_rows hR hw
  exact ⟨(.slice A n c, xs.map Int.toNat), ⟨A, n, c, rfl, this.1, this.2⟩, by rw [hq]⟩
theorem open_rows {H : Type} {en : TypeId × Value → H} {w : World} {base b0 : Nat} {spare : Nat → Bool} {held : Bool} {r : Reach} {v : Value} {d : DataW H} {p : List MemPlace}
    (hv : Value.okWide Tryd.prog w r b0 29 v) (h : DataW.Trod en Tryd.prog w base spare held 29 v d p) : ∃ (A : Option Addr) (n c : Nat) (ls : List (List Nat)), v = .slice A n c ∧ RdV w (.slice A n c) ls := by
  obtain ⟨a0, l0, c0, rfl⟩ := okWide_slice Tryd.underlying29 hv
  obtain ⟨fuel, hf⟩ := h
  obtain ⟨A, n, c, xs, hq, hR, hp⟩ := open_rdE (m := 1) (en := fun a : Value × List Nat => [a.1]) (p := RowP w) Tryd.underlying29 (by kernel_rfl) (by decide) (fun _ => rfl) row_open (v := .slice a0 l0 c0) hf
  refine ⟨A, n, c, xs.map Prod.snd, hq, xs.map Prod.fst, by simp, ?_, fun i u ys hu hy => ?_⟩
  · obtain ⟨A', c', he, hle, hm, hr⟩ := hR
    refine ⟨A', c', by rw [List.length_map]; exact he, by rw [List.length_map]; exact hle, by rw [List.length_map]; exact hm, fun hp0 => ?_⟩
    rw [List.length_map] at hp0
    obtain ⟨b, off, hA, hlt, hc⟩ := hr hp0
    refine ⟨b, off, hA, hlt, fun i y hy => ?_⟩
    rw [List.getElem?_map] at hy
    cases hx : xs[i]? with
    | none => rw [hx] at hy; cases hy
    | some z =>
      rw [hx] at hy
      simp only [Option.map_some] at hy
      injection hy with hy
      have := hc i 0 z y hx (by simp [hy])
      simpa using this
  · rw [List.getElem?_map] at hu hy
    cases hx : xs[i]? with
    | none => rw [hx] at hu; cases hu
    | some z =>
      rw [hx] at hu hy
      simp only [Option.map_some] at hu hy
      injection hu with hu
      injection hy with hy
      subst hu hy
      obtain ⟨A1, n1, c1, e, h1, h2⟩ := hp z (List.mem_of_getElem? hx)
      exact ⟨A1, n1, c1, e, h1, h2⟩
end Go.Proofs.YtoegjpfngmilhaaDoor
