/- The row and the card of RouteAny. -/
import Derived.Test.YtoegjpfngmilhaaDoorUJ
import Derived.Test.YtoegjpfngmilhaaDoorUI
import Derived.Test.YtoegjpfngmilhaaDoorTie
import Derived.Test.YtoegjpfngmilhaaDoorCards
import Derived.SevenTiedAt
set_option linter.unusedVariables false
namespace Go.Proofs.YtoegjpfngmilhaaDoor
open Go.ChangeShapes Go.WideShapes Go.ChangeAt Go.RowKit Go.Joins

theorem rows_routeAny : ∀ t ∈ Tryd.f3.params.toList, Tryd.prog.readableRec t = true ∧ t < Tryd.prog.types.size := by
  rw [Tryd.params3]
  intro t ht
  simp at ht
  rcases ht with rfl | rfl <;> exact ⟨by kernel_rfl, of_decide_eq_true (by kernel_rfl)⟩

theorem rt_open {H : Type} {en : TypeId × Value → H} {w : World} {base : Nat} {spare : Nat → Bool} {held : Bool} (fuel : Nat) (cs : List Value) (x : DataW H × List MemPlace)
    (h : DataW.trod en Tryd.prog w base spare held fuel 24 cs = some x) : ∃ a : Rt, (a.1.length ∈ x.1.weights Tryd.prog 24 ∧ -9223372036854775808 ≤ a.2 ∧ a.2 ≤ 9223372036854775807) ∧ cs = encR a := by
  obtain ⟨xs, n, rfl, hxd, hl, hxl, hf⟩ := DataW.trod_struct Tryd.underlying24 h
  have hc : Tryd.prog.cellsOf 24 = 2 := by kernel_rfl
  have hc9 : Tryd.prog.cellsOf 9 = 1 := by kernel_rfl
  have hc3 : Tryd.prog.cellsOf 3 = 1 := by kernel_rfl
  rw [hc] at hl
  match cs, hl with
  | [v0, v1], _ =>
    match xs, hxl with
    | [y0, y1], _ =>
      have g0 := hf 0 _ rfl
      have g1 := hf 1 _ rfl
      simp [hc3, hc9] at g0 g1
      obtain ⟨s0, e0, hy0, _⟩ := DataW.trod_string Tryd.underlying9 g0
      obtain ⟨a1, e1, _, w1⟩ := DataW.trod_int Tryd.underlying3 g1
      simp [Lit.wf, IntKind.max, IntKind.min, IntKind.signed, IntKind.bits] at w1
      refine ⟨(lst s0, a1), ⟨?_, w1⟩, ?_⟩
      · have hx1 : x.1 = .agg [y0.1, y1.1] := by rw [hxd]; rfl
        rw [hx1, hy0]
        simp [DataW.weights, Tryd.underlying24, DataW.weightsEach, lst]
      · injection e0 with e0 _
        injection e1 with e1 _
        subst e0 e1
        rfl
theorem open_rts {H : Type} {en : TypeId × Value → H} {w : World} {base b0 : Nat} {spare : Nat → Bool} {held : Bool} {r : Reach} {v : Value} {d : DataW H} {p : List MemPlace}
    (hv : Value.okWide Tryd.prog w r b0 22 v) (h : DataW.Trod en Tryd.prog w base spare held 22 v d p) (hwt : ∀ m ∈ d.weights Tryd.prog 22, m ≤ reachBytes) :
    ∃ (A : Option Addr) (n c : Nat) (xs : List Rt), v = .slice A n c ∧ RdE encR 2 w (.slice A n c) xs ∧ ∀ x ∈ xs, x.1.length ≤ 140737488355328 ∧ -9223372036854775808 ≤ x.2 ∧ x.2 ≤ 9223372036854775807 := by
  obtain ⟨a0, l0, c0, rfl⟩ := okWide_slice Tryd.underlying22 hv
  obtain ⟨fuel, hf⟩ := h
  obtain ⟨A, n, c, xs, hq, hR, hp⟩ := open_rdW (m := 2) (en := encR) (p := fun a d => a.1.length ∈ d.weights Tryd.prog 24 ∧ -9223372036854775808 ≤ a.2 ∧ a.2 ≤ 9223372036854775807) Tryd.underlying22 (by kernel_rfl) (by decide) encR_len rt_open (v := .slice a0 l0 c0) hf
  refine ⟨A, n, c, xs, hq, hR, fun x hx => ?_⟩
  obtain ⟨d1, el, sp, hy, hd, hm, hb⟩ := hp x hx
  simp only at hy
  subst hy
  refine ⟨?_, hb⟩
  have := hwt x.1.length (by simp only [DataW.weights, Tryd.underlying22, List.mem_cons, List.mem_append]; exact .inr (.inl (weightsAll_mem hd _ hm)))
  simp only [reachBytes] at this
  omega

set_option maxRecDepth 100000 in
theorem routeAny_lifted (os : Os) (started : os.Started) (H : Type) (enc : TypeId × Value → H) :
    ReturnsInHanded {} Tryd.checked os 3 .any (fun w args => (Rows.routeAnySpec.pre enc Tryd.prog Tryd.f3 [] false w args ∧ laidMetH Tryd.prog laid3 w) ∧ sizedMet enc Tryd.prog Tryd.f3 (OpenSpec.ofChange Rows.routeAnySpec) false w args)
      (Rows.routeAnySpec.post enc Tryd.prog Tryd.f3 false true false false) := by
  refine handed_shaped (C := Tryd.checked) (X := fun w _ => laidMetH Tryd.prog laid3 w) own started (by kernel_rfl) Tryd.func3
    (ChangeSpec.witness_shaped (enc := enc) (C := Tryd.checked) (os := os) (X := fun w _ => laidMetH Tryd.prog laid3 w) false (World.laidAll Tryd.prog os laid3) #[.slice none 0 0, .string ⟨#[]⟩, .string ⟨#[]⟩] 8 (World.laidAll_os _ _ _)
      (World.shaped_of_ZipB (by kernel_rfl) (by kernel_rfl)) (by kernel_rfl) (by kernel_rfl) (by kernel_rfl)
      (by rw [MakeChecks.laidMetH_plain _ _ _ (by kernel_rfl)]; exact laidMet_laidAll _ (by kernel_rfl) (by kernel_rfl))) ?_
  intro W base args ds gs before hval0 hW hsh hsz0
  have hval : ∀ (j : Nat) t v, Tryd.f3.params[j]? = some t → args[j]? = some v → Value.okWide Tryd.prog W .any base t v := hval0
  have hW' := hW
  obtain ⟨p, q, hA0, hV, rfl, hfz, hnd⟩ := hW
  have hA : DataW.TrodAll enc Tryd.prog W 0 (fun _ => true) true Tryd.f3.params.toList args.toList ds p := hA0
  have hsz : (DataW.weightsEach Tryd.prog (Tryd.f3.params.toList ++ Rows.routeAnySpec.plain.varTypes Tryd.prog) (ds ++ gs)).all (· ≤ reachBytes) = true := hsz0
  rw [Tryd.params3] at hA hval hsz
  obtain ⟨v0, vs0, d0, ds0, p0, q0, hargs, rfl, rfl, h0, r0⟩ := trodAll_cons hA
  obtain ⟨v1, vs1, d1, ds1, p1, q1, rfl, rfl, rfl, h1, r1⟩ := trodAll_cons r0
  obtain ⟨v2, vs2, d2, ds2, p2, q2, rfl, rfl, rfl, h2, r2⟩ := trodAll_cons r1
  obtain ⟨rfl, rfl, rfl⟩ := trodAll_nil r2
  obtain rfl : args = #[v0, v1, v2] := by cases args; simp_all
  obtain ⟨rfl, rfl⟩ := trodVars_none hV
  have hwt : ∀ m ∈ d0.weights Tryd.prog 22, m ≤ reachBytes := fun m hm => of_decide_eq_true (List.all_eq_true.1 hsz _ (DataW.weights_mem_each (j := 0) (t := 22) (d := d0) rfl rfl m hm))
  obtain ⟨A0, n0, k0, xs0, rfl, g0, b0⟩ := open_rts (hval 0 22 v0 rfl rfl) h0 hwt
  obtain ⟨s1, rfl, rfl, rfl, ws1⟩ := Go.ChangeMaps.open_string Tryd.underlying9 (hval 1 9 v1 rfl rfl) h1
  obtain ⟨s2, rfl, rfl, rfl, ws2⟩ := Go.ChangeMaps.open_string Tryd.underlying9 (hval 2 9 v2 rfl rfl) h2
  have hw1 : s1.size ≤ reachBytes := by
    have := of_decide_eq_true (List.all_eq_true.1 hsz _ (DataW.weights_mem_each (j := 1) (t := 9) (d := .lit (.string s1.data.toList)) rfl rfl s1.data.toList.length (by simp [DataW.weights])))
    rw [Lib.size_eq]
    exact this
  have hw2 : s2.size ≤ reachBytes := by
    have := of_decide_eq_true (List.all_eq_true.1 hsz _ (DataW.weights_mem_each (j := 2) (t := 9) (d := .lit (.string s2.data.toList)) rfl rfl s2.data.toList.length (by simp [DataW.weights])))
    rw [Lib.size_eq]
    exact this
  obtain ⟨mx, hmx⟩ := cell_of_shapedOpen_int (g := 0) (t := 3) (zero := #[.int .i64 0]) (k := .i64) hsh (of_decide_eq_true (by kernel_rfl)) (by kernel_rfl) rfl (by kernel_rfl) (by kernel_rfl) Tryd.underlying3
  refine (routeAny_any A0 n0 k0 xs0 (lst s1) (lst s2) W mx hmx g0 (fun r hr => (b0 r hr).1) (by rw [lst_len]; simp only [reachBytes] at hw1; omega) (by rw [lst_len]; simp only [reachBytes] at hw2; omega)).mono fun e W' ⟨he, hb⟩ => ?_
  subst he
  exact ⟨_, rfl, law_post laidOut rows_routeAny rfl rfl Tryd.underlying4 rfl rfl rfl hW' hb⟩

theorem routeAny_row : Rows.RouteAnySaid :=
  OpenClaim.holds_of_wide 3 Tryd.f3 rfl rfl rfl rfl rfl rfl rfl ⟨rfl, rfl, rfl, rfl, rfl⟩ rfl rfl rfl rfl rfl (by kernel_rfl) Tryd.func3 (by kernel_rfl)
    (of_decide_eq_true (by kernel_rfl)) (by unfold Func.isWrapper; first | (rw [if_pos (by decide +kernel)]; kernel_rfl) | (rw [if_neg (by decide +kernel)]; exact ⟨rfl, rfl⟩))
    (fun os started H enc _ => routeAny_lifted os started H enc)
theorem routeAny_said : Rows.RouteAnyCardSaid :=
  Claim7.holds_tied_plain_at .later [] [.data, .pinned] true (true, "22f9a463a985452ba00487521a7793bbeb02911f0699ae285120748beeff1b30") false
    routeAny_row (fun _ h => by cases h) (by kernel_rfl) (fun _ h => by cases h) routeAny_row_tie rfl ⟨rfl, rfl⟩ (by kernel_rfl) rfl
    (fun f fn hf hfn => by
      obtain rfl : f = 3 := Option.some.inj ((show Tryd.prog.funcNamed Rows.routeAnyRow.func = some 3 by kernel_rfl).symm.trans hf) |>.symm
      obtain rfl : fn = Tryd.f3 := (Option.some.inj (Tryd.func3.symm.trans hfn)).symm
      exact ⟨by kernel_rfl, fun j t ht => by
        rw [Tryd.params3] at ht
        have hm : t ∈ [22, 9, 9] := by simpa using Array.mem_of_getElem? ht
        have hall : ([22, 9, 9].all fun u => !Tryd.prog.wantsStandIn u) = true := by kernel_rfl
        exact (show Tryd.prog.wantsStandIn t = false by simpa using List.all_eq_true.1 hall t hm)⟩)
    (by kernel_rfl)
end Go.Proofs.YtoegjpfngmilhaaDoor
