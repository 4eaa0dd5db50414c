/- Opening a wheel that comes in. -/
import Derived.Test.YtnlgmfkgpaampaaAF
import Derived.Test.YtnlgmfkgpaampaaLG
import Derived.OpenShut
import Derived.SizedLaws
set_option linter.unusedVariables false
set_option linter.unusedSimpArgs false
namespace Go.Proofs.Ytnlgmfkgpaampaa
open Go.ChangeShapes Go.WideShapes Go.ChangeAt Go.RowKit Go.Joins

theorem tm_open {H : Type} {en : TypeId × Value → H} {w : World} {base : Nat} {spare : Nat → Bool} {held : Bool} (fuel : Nat) (cs : List Value) (x : DataW H × List MemPlace)
    (h : DataW.trod en Try.prog w base spare held fuel 34 cs = some x) : ∃ a : Tm, a.id ≤ 9223372036854775807 ∧ cs = tenc a := by
  obtain ⟨xs, n, rfl, _, hl, hxl, hf⟩ := DataW.trod_struct Try.underlying34 h
  have hc : Try.prog.cellsOf 34 = 2 := by kernel_rfl
  have hc3 : Try.prog.cellsOf 3 = 1 := by kernel_rfl
  rw [hc] at hl
  match cs, hl with
  | [v0, v1], _ =>
    match xs, hxl with
    | [y0, y1], _ =>
      have g0 := hf 0 _ rfl
      have g1 := hf 1 _ rfl
      simp [hc3] at g0 g1
      obtain ⟨a0, e0, _, w0⟩ := DataW.trod_int Try.underlying3 g0
      obtain ⟨a1, e1, _⟩ := DataW.trod_int Try.underlying3 g1
      refine ⟨⟨a0, a1⟩, ?_, ?_⟩
      · simp [Lit.wf, IntKind.max, IntKind.min, IntKind.signed, IntKind.bits] at w0
        simp only
        omega
      · simp_all [tenc]

theorem fin8 {p : Nat → Option Addr × Nat × Nat × List Tm → Prop} (h : ∀ i, i < 8 → ∃ q, p i q) : ∃ f : Nat → Option Addr × Nat × Nat × List Tm, ∀ i, i < 8 → p i (f i) := by
  classical exact ⟨fun i => if hi : i < 8 then (h i hi).choose else (none, 0, 0, []), fun i hi => by simp only [dif_pos hi]; exact (h i hi).choose_spec⟩

theorem weightsAll_mem {H : Type} {P : Program} {e : TypeId} : ∀ {l : List (DataW H)} {d : DataW H}, d ∈ l → ∀ n ∈ d.weights P e, n ∈ DataW.weightsAll P e l
  | d' :: r, d, hd, n, hn => by
    simp only [DataW.weightsAll, List.mem_append]
    rcases List.mem_cons.1 hd with rfl | h
    · exact Or.inl hn
    · exact Or.inr (weightsAll_mem h n hn)
/-- a slice of timers that comes in: its datum's length too -/
theorem open_tms {H : Type} {en : TypeId × Value → H} {w : World} {base : Nat} {spare : Nat → Bool} {held : Bool} {fuel : Nat} {v : Value} {y : DataW H × List MemPlace} (h : DataW.trod en Try.prog w base spare held fuel 22 [v] = some y) :
    ∃ (A : Option Addr) (n c : Nat) (xs : List Tm), v = .slice A n c ∧ RdE tenc 2 w (.slice A n c) xs ∧ (∀ x ∈ xs, x.id ≤ 9223372036854775807) ∧ (n = 0 ∨ ∃ el sp, y.1 = .slice el sp ∧ el.length = n) := by
  obtain ⟨A, n, c, xs, rfl, hR, hw⟩ := open_rdE (m := 2) (en := tenc) Try.underlying22 (by kernel_rfl) (by decide) tencL tm_open h
  refine ⟨A, n, c, xs, rfl, hR, hw, ?_⟩
  rcases _root_.Go.Deep.open_slice Try.underlying22 h with ⟨hcs, _⟩ | ⟨a, len, cap, mm, k, D, Pl, hcs, _, _, _, _, rfl, _⟩
  · injection hcs with hcs _
    injection hcs with _ hcs _
    exact .inl hcs
  · injection hcs with hcs _
    injection hcs with _ hcs _
    exact .inr ⟨_, _, rfl, by simp [hcs]⟩

theorem open_wheel {H : Type} {en : TypeId × Value → H} {w : World} {base b0 : Nat} {spare : Nat → Bool} {held : Bool} {r : Reach} {v : Value} {d : DataW H} {p : List MemPlace}
    (hv : Value.okWide Try.prog w r b0 25 v) (h : DataW.Trod en Try.prog w base spare held 25 v d p) (hwt : ∀ m ∈ d.weights Try.prog 25, m ≤ reachBytes) :
    ∃ (nw : Int) (A : Nat → Option Addr) (n c : Nat → Nat) (ts : Nat → List Tm), v = .agg #[.int .i64 nw, .slice (A 0) (n 0) (c 0), .slice (A 1) (n 1) (c 1), .slice (A 2) (n 2) (c 2), .slice (A 3) (n 3) (c 3), .slice (A 4) (n 4) (c 4), .slice (A 5) (n 5) (c 5), .slice (A 6) (n 6) (c 6), .slice (A 7) (n 7) (c 7)] ∧
      WhR w A n c ts ∧ (∀ i, i < 8 → ∀ t ∈ ts i, t.id ≤ 9223372036854775807) ∧ ∀ i, i < 8 → n i ≤ 8796093022208 := by
  obtain ⟨cs, rfl, hsz⟩ := okWide_struct Try.underlying25 hv
  have hc25 : Try.prog.cellsOf 25 = 9 := by kernel_rfl
  have hc23 : Try.prog.cellsOf 23 = 8 := by kernel_rfl
  have hc22 : Try.prog.cellsOf 22 = 1 := by kernel_rfl
  have hc3 : Try.prog.cellsOf 3 = 1 := by kernel_rfl
  rw [hc25] at hsz
  obtain ⟨fuel, hf⟩ := h
  obtain ⟨xs, m, _, hxd, hl, hxl, hfs⟩ := DataW.trod_struct Try.underlying25 hf
  have g0 := hfs 0 _ rfl
  have g1 := hfs 1 _ rfl
  have hx2 : xs.length = 2 := by simpa using hxl
  obtain ⟨y0, y1, rfl⟩ : ∃ a b, xs = [a, b] := by
    match xs, hx2 with
    | [a, b], _ => exact ⟨a, b, rfl⟩
  obtain ⟨l, rfl⟩ : ∃ l, cs = ⟨l⟩ := ⟨cs.toList, by simp⟩
  have hll : l.length = 9 := by simpa using hsz
  match l, hll with
  | [v0, v1, v2, v3, v4, v5, v6, v7, v8], _ =>
    simp [hc3, hc23, Value.cells] at g0 g1
    obtain ⟨nw, e0, _⟩ := DataW.trod_int Try.underlying3 g0
    injection e0 with e0 _
    subst e0
    obtain ⟨zs, m2, _, hzd, _, hz8, hel⟩ := DataW.trod_array Try.underlying23 g1
    have hd : d = .agg [y0.1, .agg (zs.map (·.1))] := by
      have := congrArg Prod.fst hxd
      simp only at this
      rw [this, List.map_cons, List.map_cons, List.map_nil, hzd]
    have hb16 : Try.prog.bytesOf 34 = 16 := by kernel_rfl
    have hwz : ∀ (i : Nat) (z : DataW H × List MemPlace), zs[i]? = some z → ∀ m ∈ z.1.weights Try.prog 22, m ≤ reachBytes := fun i z hz m hm => by
      refine hwt m ?_
      rw [hd]
      simp only [DataW.weights, Try.underlying25, List.map_cons, List.map_nil, DataW.weightsEach, List.mem_append, Try.underlying23]
      exact Or.inr (Or.inl (weightsAll_mem (List.mem_map.2 ⟨z, List.mem_of_getElem? hz, rfl⟩) m hm))
    have each : ∀ i, i < 8 → ∃ q : Option Addr × Nat × Nat × List Tm, [v1, v2, v3, v4, v5, v6, v7, v8][i]? = some (.slice q.1 q.2.1 q.2.2.1) ∧ RdE tenc 2 w (.slice q.1 q.2.1 q.2.2.1) q.2.2.2 ∧ (∀ t ∈ q.2.2.2, t.id ≤ 9223372036854775807) ∧ q.2.1 ≤ 8796093022208 := by
      intro i hi
      have hi2 := hel i hi
      rw [hc22, Nat.mul_one] at hi2
      have hzi : zs[i]? = some (zs[i]'(by omega)) := List.getElem?_eq_getElem _
      rw [hzi] at hi2
      have hdr : ∃ u, [v1, v2, v3, v4, v5, v6, v7, v8][i]? = some u ∧ ([v1, v2, v3, v4, v5, v6, v7, v8].drop i).take 1 = [u] := by
        obtain rfl | rfl | rfl | rfl | rfl | rfl | rfl | rfl : i = 0 ∨ i = 1 ∨ i = 2 ∨ i = 3 ∨ i = 4 ∨ i = 5 ∨ i = 6 ∨ i = 7 := by omega
        all_goals exact ⟨_, rfl, rfl⟩
      obtain ⟨u, hu, hd⟩ := hdr
      rw [hd] at hi2
      obtain ⟨A, n, c, us, rfl, hR, hw, hn⟩ := open_tms hi2
      refine ⟨(A, n, c, us), hu, hR, hw, ?_⟩
      rcases hn with h0 | ⟨el, sp, hy, hel2⟩
      · simp only
        omega
      · have hm := hwz i _ hzi ((el.length + sp.length) * Try.prog.bytesOf 34) (by rw [hy]; simp [DataW.weights, Try.underlying22])
        rw [hb16, hel2] at hm
        simp only [reachBytes] at hm
        simp only
        omega
    obtain ⟨f, hf8⟩ := fin8 each
    refine ⟨nw, fun i => (f i).1, fun i => (f i).2.1, fun i => (f i).2.2.1, fun i => (f i).2.2.2, ?_, fun i hi => (hf8 i hi).2.1, fun i hi => (hf8 i hi).2.2.1, fun i hi => (hf8 i hi).2.2.2⟩
    have q0 := (hf8 0 (by omega)).1
    have q1 := (hf8 1 (by omega)).1
    have q2 := (hf8 2 (by omega)).1
    have q3 := (hf8 3 (by omega)).1
    have q4 := (hf8 4 (by omega)).1
    have q5 := (hf8 5 (by omega)).1
    have q6 := (hf8 6 (by omega)).1
    have q7 := (hf8 7 (by omega)).1
    simp at q0 q1 q2 q3 q4 q5 q6 q7
    subst q0; subst q1; subst q2; subst q3; subst q4; subst q5; subst q6; subst q7
    rfl
end Go.Proofs.Ytnlgmfkgpaampaa
