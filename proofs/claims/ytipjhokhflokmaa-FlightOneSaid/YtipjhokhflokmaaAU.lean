/- Opening flights that come in. -/
import Derived.Test.YtipjhokhflokmaaAT
import Derived.Test.YtipjhokhflokmaaLG
import Derived.OpenShut
import Derived.SizedLaws
set_option linter.unusedVariables false
set_option linter.unusedSimpArgs false
namespace Go.Proofs.Ytipjhokhflokmaa
open Go.ChangeShapes Go.WideShapes Go.ChangeAt Go.RowKit Go.Joins
open Go.Proofs.YtipjhokhflokmaaW.PrintWords

theorem weightsAll_mem {H : Type} {P : Program} {e : TypeId} : ∀ {l : List (DataW H)} {d : DataW H}, d ∈ l → ∀ n ∈ d.weights P e, n ∈ DataW.weightsAll P e l
  | d' :: r, d, hd, n, hn => by
    simp only [DataW.weightsAll, List.mem_append]
    rcases List.mem_cons.1 hd with rfl | h
    · exact Or.inl hn
    · exact Or.inr (weightsAll_mem h n hn)
section
variable {H : Type} {enc : TypeId × Value → H} {P : Program} {w : World} {base : Nat} {spare : Nat → Bool} {held : Bool}
/-- a slice that comes in, with what its elements weigh -/
theorem open_rdD {α : Type} {en : α → List Value} {m : Nat} {p : DataW H → α → Prop} {t e : TypeId} {fuel : Nat} {v : Value} {y : DataW H × List MemPlace} (ht : P.underlying t = some (.slice e)) (hc : P.cellsOf e = m) (hm0 : 0 < m) (hw : ∀ a, (en a).length = m)
    (hel : ∀ fuel cs x, DataW.trod enc P w base spare held fuel e cs = some x → ∃ a, p x.1 a ∧ cs = en a)
    (h : DataW.trod enc P w base spare held fuel t [v] = some y) :
    ∃ (A : Option Addr) (n c : Nat) (xs : List α), v = .slice A n c ∧ RdE en m w (.slice A n c) xs ∧ (∀ x ∈ xs, ∃ d, p d x ∧ ∀ k ∈ d.weights P e, k ∈ y.1.weights P t) ∧ (n = 0 ∨ ∃ k ∈ y.1.weights P t, n * P.bytesOf e ≤ k) := by
  rcases _root_.Go.Deep.open_slice ht h with ⟨hcs, _⟩ | ⟨a, n, c, mm, k, D, Pl, hcs, hb, hl, hm, hmm, hy, hx⟩
  · injection hcs with hcs _
    exact ⟨_, 0, _, [], hcs, RdE.nil _ _ _, by simp, .inl rfl⟩
  · injection hcs with hcs _
    have hle : n ≤ mm := by rw [hmm]; split <;> omega
    have each : ∀ i, i < n → ∃ b, (∃ d, p d b ∧ ∀ k ∈ d.weights P e, k ∈ y.1.weights P t) ∧ w.cells? base (a.add (i * m)) m = some (en b) := by
      intro i hi
      obtain ⟨cs', h1, h2⟩ := hx i (by omega)
      obtain ⟨b, hpb, rfl⟩ := hel _ _ _ h2
      rw [hc] at h1
      refine ⟨b, ⟨_, hpb, fun k hk => ?_⟩, h1⟩
      rw [hy]
      simp only [DataW.weights, ht]
      refine List.mem_cons_of_mem _ (List.mem_append_left _ (weightsAll_mem (d := D i) ?_ k hk))
      exact List.mem_map.2 ⟨i, List.mem_range.2 hi, rfl⟩
    obtain ⟨xs, hxl, hxp, hxc⟩ := mapM_all (f := fun i b => w.cells? base (a.add (i * m)) m = some (en b)) id each
    subst hxl
    have hcell : ∀ i j x u, xs[i]? = some x → (en x)[j]? = some u → w.cell? (a.add (i * m + j)) = some u := by
      intro i j x u h1 h2
      have hj := (List.getElem?_eq_some_iff.1 h2).1
      rw [hw] at hj
      have := (World.cells?_some (hxc i x h1)).2.2 j hj
      rw [_root_.Go.Deep.add_add] at this
      rw [show a.add (i * m + j) = a.add (id i * m + j) from rfl, this, h2]
    refine ⟨_, _, _, xs, hcs, ⟨_, c, rfl, hl, Nat.le_trans hl (Nat.le_trans hm (by decide)), fun hp => ?_⟩, hxp, .inr ⟨_, by rw [hy]; simp only [DataW.weights, ht]; exact List.mem_cons_self .., ?_⟩⟩
    · have h0 := hcell 0 0 _ _ (List.getElem?_eq_getElem hp) (List.getElem?_eq_getElem (by rw [hw]; exact hm0))
      obtain ⟨b, off, spot⟩ := a
      have hs : spot = none := by
        cases spot with
        | none => rfl
        | some k =>
          simp only [World.cell?, Addr.add] at h0
          split at h0 <;> simp at h0
      subst hs
      refine ⟨b, off, rfl, (by simpa [add_at] using World.block_lt_of_cell? w _ h0), fun i j x u hi hj => ?_⟩
      rw [← hcell i j x u hi hj]
      rw [add_at, Nat.add_assoc]
    · rw [List.length_map, List.length_range]
      exact Nat.mul_le_mul_right _ (Nat.le_add_right _ _)
end
variable {H : Type} {en : TypeId × Value → H} {w : World} {base : Nat} {spare : Nat → Bool} {held : Bool}
theorem okI_wf {x : Int} (h : (Lit.int .i64 x).wf = true) : okI x := by
  simp [Lit.wf, IntKind.max, IntKind.min, IntKind.signed, IntKind.bits] at h
  unfold okI
  omega
theorem tm_open (fuel : Nat) (cs : List Value) (x : DataW H × List MemPlace) (h : DataW.trod en Try.prog w base spare held fuel 47 cs = some x) : ∃ a : Tm, okI a.id ∧ cs = tenc a := by
  obtain ⟨xs, n, rfl, _, hl, hxl, hf⟩ := DataW.trod_struct Try.underlying47 h
  have hc : Try.prog.cellsOf 47 = 2 := by kernel_rfl
  have hc3 : Try.prog.cellsOf 3 = 1 := by kernel_rfl
  rw [hc] at hl
  match cs, hl with
  | [v0, v1], _ =>
    match xs, hxl with
    | [y0, y1], _ =>
      have g0 := hf 0 _ rfl
      have g1 := hf 1 _ rfl
      simp [hc3] at g0 g1
      obtain ⟨a0, e0, _, w0⟩ := DataW.trod_int Try.underlying3 g0
      obtain ⟨a1, e1, _⟩ := DataW.trod_int Try.underlying3 g1
      refine ⟨⟨a0, a1⟩, okI_wf w0, ?_⟩
      simp_all [tenc]
theorem str_of (s : ByteArray) : Value.string s = str s.data.toList := by
  obtain ⟨d⟩ := s
  simp
/-- what is known of a flight that comes in -/
def FlP (w : World) (d : DataW H) (y : FV) : Prop := RdE tenc 2 w y.2.v y.1.ws ∧ (∀ t ∈ y.1.ws, okI t.id) ∧ ((∀ k ∈ d.weights Try.prog 45, k ≤ reachBytes) → szF y.1 ≤ 3 * reachBytes)
theorem fl_open (fuel : Nat) (cs : List Value) (x : DataW H × List MemPlace) (h : DataW.trod en Try.prog w base spare held fuel 45 cs = some x) : ∃ a : FV, FlP w x.1 a ∧ cs = fenc a := by
  obtain ⟨xs, n, rfl, hx, hl, hxl, hf⟩ := DataW.trod_struct Try.underlying45 h
  have hc : Try.prog.cellsOf 45 = 8 := by kernel_rfl
  have hc3 : Try.prog.cellsOf 3 = 1 := by kernel_rfl
  have hc4 : Try.prog.cellsOf 4 = 1 := by kernel_rfl
  have hc9 : Try.prog.cellsOf 9 = 1 := by kernel_rfl
  have hc43 : Try.prog.cellsOf 43 = 1 := by kernel_rfl
  have hb47 : Try.prog.bytesOf 47 = 16 := by kernel_rfl
  rw [hc] at hl
  match cs, hl with
  | [v0, v1, v2, v3, v4, v5, v6, v7], _ =>
    match xs, hxl with
    | [y0, y1, y2, y3, y4, y5, y6, y7], _ =>
      have g0 := hf 0 _ rfl
      have g1 := hf 1 _ rfl
      have g2 := hf 2 _ rfl
      have g3 := hf 3 _ rfl
      have g4 := hf 4 _ rfl
      have g5 := hf 5 _ rfl
      have g6 := hf 6 _ rfl
      have g7 := hf 7 _ rfl
      simp [hc3, hc4, hc9, hc43] at g0 g1 g2 g3 g4 g5 g6 g7
      obtain ⟨s0, e0, z0, _⟩ := DataW.trod_string Try.underlying9 g0
      obtain ⟨b1, e1, _⟩ := DataW.trod_bool Try.underlying4 g1
      obtain ⟨a2, e2, _⟩ := DataW.trod_int Try.underlying3 g2
      obtain ⟨a3, e3, _⟩ := DataW.trod_int Try.underlying3 g3
      obtain ⟨s4, e4, z4, _⟩ := DataW.trod_string Try.underlying9 g4
      obtain ⟨a5, e5, _⟩ := DataW.trod_int Try.underlying3 g5
      obtain ⟨b6, e6, _⟩ := DataW.trod_bool Try.underlying4 g6
      obtain ⟨A, m, c, us, e7, hR, hp, hn⟩ := open_rdD (p := fun _ t => okI t.id) Try.underlying43 (by kernel_rfl) (by decide) tencL tm_open g7
      injection e0 with e0 _
      injection e1 with e1 _
      injection e2 with e2 _
      injection e3 with e3 _
      injection e4 with e4 _
      injection e5 with e5 _
      injection e6 with e6 _
      subst e0 e1 e2 e3 e4 e5 e6 e7
      have hum : us.length = m := hR.len
      refine ⟨(⟨s0.data.toList, b1, a2, a3, s4.data.toList, a5, b6, us⟩, ⟨A, m, c⟩), ⟨hR, fun t ht => by obtain ⟨_, h1, _⟩ := hp t ht; exact h1, fun hk => ?_⟩, ?_⟩
      · have hkx : ∀ k ∈ DataW.weightsEach Try.prog ((#[9, 4, 3, 3, 9, 3, 4, 43] : Array TypeId).toList) [y0.1, y1.1, y2.1, y3.1, y4.1, y5.1, y6.1, y7.1], k ≤ reachBytes := fun k hk2 => hk k (by
          rw [hx]
          simp only [DataW.weights, Try.underlying45]
          exact hk2)
        have k0 : s0.data.toList.length ≤ reachBytes := hkx _ (by rw [z0]; simp [DataW.weightsEach, DataW.weights])
        have k4 : s4.data.toList.length ≤ reachBytes := hkx _ (by rw [z4]; simp [DataW.weightsEach, DataW.weights])
        have k7 : us.length ≤ reachBytes := by
          rcases hn with h0 | ⟨k, hk1, hk2⟩
          · rw [hum, h0]
            exact Nat.zero_le _
          · have := hkx k (by simp only [DataW.weightsEach, List.mem_append]; simp [hk1])
            rw [hb47] at hk2
            omega
        unfold szF
        simp only
        omega
      · rw [str_of s0, str_of s4]
        rfl
theorem open_flights {r : Reach} {b0 : Nat} {v : Value} {d : DataW H} {p : List MemPlace}
    (hv : Value.okWide Try.prog w r b0 26 v) (h : DataW.Trod en Try.prog w base spare held 26 v d p) (hwt : ∀ m ∈ d.weights Try.prog 26, m ≤ reachBytes) :
    ∃ (room next : Int) (A : Option Addr) (n c : Nat) (ys : List FV), v = fv room next (.slice A n c) ∧ RdF w (.slice A n c) ys ∧ n ≤ 1000000000000000 ∧ (∀ x ∈ fls ys, szF x ≤ 4611686018427387904) ∧ ∀ x ∈ fls ys, ∀ t ∈ x.ws, okI t.id := by
  obtain ⟨cs, rfl, hsz⟩ := okWide_struct Try.underlying26 hv
  have hc26 : Try.prog.cellsOf 26 = 3 := by kernel_rfl
  have hc24 : Try.prog.cellsOf 24 = 1 := by kernel_rfl
  have hc3 : Try.prog.cellsOf 3 = 1 := by kernel_rfl
  have hb45 : Try.prog.bytesOf 45 = 96 := by kernel_rfl
  rw [hc26] at hsz
  obtain ⟨fuel, hf⟩ := h
  obtain ⟨xs, m, _, hxd, hl, hxl, hfs⟩ := DataW.trod_struct Try.underlying26 hf
  have g0 := hfs 0 _ rfl
  have g1 := hfs 1 _ rfl
  have g2 := hfs 2 _ rfl
  have hx3 : xs.length = 3 := by simpa using hxl
  obtain ⟨y0, y1, y2, rfl⟩ : ∃ a b c, xs = [a, b, c] := by
    match xs, hx3 with
    | [a, b, c], _ => exact ⟨a, b, c, rfl⟩
  obtain ⟨l, rfl⟩ : ∃ l, cs = ⟨l⟩ := ⟨cs.toList, by simp⟩
  have hll : l.length = 3 := by simpa using hsz
  match l, hll with
  | [v0, v1, v2], _ =>
    simp [hc3, hc24, Value.cells] at g0 g1 g2
    obtain ⟨room, e0, _⟩ := DataW.trod_int Try.underlying3 g0
    obtain ⟨next, e1, _⟩ := DataW.trod_int Try.underlying3 g1
    injection e0 with e0 _
    injection e1 with e1 _
    subst e0 e1
    obtain ⟨A, n, c, ys, rfl, hR, hp, hn⟩ := open_rdD (p := FlP w) (en := fenc) Try.underlying24 (by kernel_rfl) (by decide) fencL fl_open g2
    have hd : d = .agg [y0.1, y1.1, y2.1] := congrArg Prod.fst hxd
    have hw2 : ∀ k ∈ y2.1.weights Try.prog 24, k ≤ reachBytes := fun k hk => hwt k (by
      rw [hd]
      simp only [DataW.weights, Try.underlying26, List.map_cons, List.map_nil, DataW.weightsEach, List.mem_append]
      simp [hk])
    have hP : ∀ y ∈ ys, RdE tenc 2 w y.2.v y.1.ws ∧ (∀ t ∈ y.1.ws, okI t.id) ∧ szF y.1 ≤ 3 * reachBytes := fun y hy => by
      obtain ⟨d1, ⟨h1, h2, h3⟩, h4⟩ := hp y hy
      exact ⟨h1, h2, h3 (fun k hk => hw2 k (h4 k hk))⟩
    refine ⟨room, next, A, n, c, ys, rfl, ⟨hR, fun i y hy => (hP y (List.mem_of_getElem? hy)).1⟩, ?_, fun x hx => ?_, fun x hx => ?_⟩
    · rcases hn with rfl | ⟨k, hk1, hk2⟩
      · exact Nat.zero_le _
      · have := hw2 k hk1
        rw [hb45] at hk2
        unfold reachBytes at this
        omega
    · obtain ⟨y, hy, rfl⟩ := List.mem_map.1 hx
      have := (hP y hy).2.2
      unfold reachBytes at this
      omega
    · obtain ⟨y, hy, rfl⟩ := List.mem_map.1 hx
      exact (hP y hy).2.1
end Go.Proofs.Ytipjhokhflokmaa
