/- target.kept, the walk. -/
import Derived.Test.YtoegjpfngmilhaaDoorM
set_option linter.unusedVariables false
set_option linter.unusedSimpArgs false
namespace Go.Proofs.YtoegjpfngmilhaaDoor
open Go.RowKit Go.Lib Go.Shelf
open Go.Proofs.YtoegjpfngmilhaaDoorW.PrintWords
attribute [local go_sem] Oper.semAt_some

/-- the world that SplitSeq leaves -/
def seqW (w : World) (r : List UInt8) : World := ((w.alloc (.cells #[str r] 9)).alloc (.cells #[str [47]] 9)).alloc (.cells #[.int .i64 0] 3)
theorem pieces_len (c : UInt8) (l : List UInt8) : (pieces c l).length ≤ l.length + 1 := by
  induction l with
  | nil => simp [pieces]
  | cons x r ih =>
    by_cases h : x = c
    · unfold pieces
      rw [if_pos h]
      simpa using ih
    · rw [pieces_cons h]
      split
      · simp
      · rename_i h2
        rw [h2] at ih
        simp at ih ⊢
        omega
theorem split40_in (F : Fence) (k : Nat) (h40 : F.fn 49) (hro : F.round = none) (r : List UInt8) (w : World) :
    CallsIn F k Tryd.prog 49 #[str r, str [47], .int .i64 0] w fun e w' => e = .returned (.func (.func 56) #[] #[.pointer (some ⟨w.heap.size + 1, 0, none⟩), .pointer (some ⟨w.heap.size, 0, none⟩), .pointer (some ⟨w.heap.size + 2, 0, none⟩)]) ∧ w' = seqW w r := by
  refine callsIn_of_wp Tryd.func49 rfl h40 ?_ hro
  simp only [Tryd.ntmps49, List.size_toArray, List.length_cons, List.length_nil, Nat.reduceAdd, Nat.reduceSub, Array.replicate_succ, Array.replicate_zero, List.push_toArray, List.append_toArray, List.nil_append, List.cons_append]
  gi_wp2
  go_ret
  exact ⟨by simp, rfl⟩
theorem split_in (F : Fence) (k : Nat) (hk : 1 ≤ k) (h32 : F.fn 41) (h40 : F.fn 49) (hro : F.round = none) (r : List UInt8) (w : World) :
    CallsIn F k Tryd.prog 41 #[str r, str [47]] w fun e w' => e = .returned (.func (.func 56) #[] #[.pointer (some ⟨w.heap.size + 1, 0, none⟩), .pointer (some ⟨w.heap.size, 0, none⟩), .pointer (some ⟨w.heap.size + 2, 0, none⟩)]) ∧ w' = seqW w r := by
  refine callsIn_of_wp Tryd.func41 rfl h32 ?_ hro
  simp only [Tryd.ntmps41, List.size_toArray, List.length_cons, List.length_nil, Nat.reduceAdd, Nat.reduceSub, Array.replicate_succ, Array.replicate_zero, List.push_toArray, List.append_toArray, List.nil_append, List.cons_append]
  gi_wp2_with (gi_at_call 49; refine (split40_in F _ h40 hro r w).mono ?_; rintro e w1 ⟨rfl, rfl⟩)
  go_ret
  exact ⟨rfl, rfl⟩

/-- where the loop begins -/
def kW (w : World) (r : List UInt8) : World := seqW ((w.alloc (.cells #[.slice none 0 0] 42)).alloc (.cells #[str []] 9)) r
theorem Kt.start (w : World) (r : List UInt8) : Kt w (kW w r) w.heap.size (.slice none 0 0) [] [] r := by
  have hs : ((w.alloc (.cells #[.slice none 0 0] 42)).alloc (.cells #[str []] 9)).heap.size = w.heap.size + 2 := by simp
  have h0 := heap_alloc_new w (.cells #[.slice none 0 0] 42)
  have h1 := heap_alloc_new (w.alloc (.cells #[.slice none 0 0] 42)) (.cells #[str []] 9)
  have h2 := heap_alloc_new ((w.alloc (.cells #[.slice none 0 0] 42)).alloc (.cells #[str []] 9)) (.cells #[str r] 9)
  have h3 := heap_alloc_new (((w.alloc (.cells #[.slice none 0 0] 42)).alloc (.cells #[str []] 9)).alloc (.cells #[str r] 9)) (.cells #[str [47]] 9)
  have h4 := heap_alloc_new ((((w.alloc (.cells #[.slice none 0 0] 42)).alloc (.cells #[str []] 9)).alloc (.cells #[str r] 9)).alloc (.cells #[str [47]] 9)) (.cells #[.int .i64 0] 3)
  simp only [World.size_alloc] at h1 h2 h3 h4
  refine ⟨?_, Ow.nil _ _ _, ?_, ⟨?_, ?_, ?_⟩, Nat.le_refl _, ?_, by simp [kW, seqW]⟩
  · refine (Below.heap_alloc _ _ _ (by simp; omega)).trans ((Below.heap_alloc _ _ _ (by simp; omega)).trans ((Below.heap_alloc _ _ _ (by simp; omega)).trans ((Below.heap_alloc _ _ _ (by simp)).trans h0)))
  · refine (Below.heap_alloc _ _ _ (by simp; try omega)).trans ((Below.heap_alloc _ _ _ (by simp; try omega)).trans ((Below.heap_alloc _ _ _ (by simp)).trans h1))
  · refine (Below.heap_alloc _ _ _ (by simp; try omega)).trans ((Below.heap_alloc _ _ _ (by simp)).trans h2)
  · refine (Below.heap_alloc _ _ _ (by simp)).trans h3
  · exact h4
  · unfold kW seqW
    exact (((((Below.refl _ w).alloc (Nat.le_refl _) _).alloc (by simp) _).alloc (by simp; omega) _).alloc (by simp; omega) _).alloc (by simp; omega) _

/-- behind out = append(out, ..) -/
theorem Kt.app {w W w1 : World} {bo : Nat} {v v1 : Value} {out out1 : List (List UInt8)} {en r : List UInt8} (h : Kt w W bo v out en r) (hg : W.grownBy w1 v.ownBlock) (hv : Ow 9 w1 (bo + 5) v1 (strs out1)) :
    w1.cell? ⟨bo, 0, none⟩ = some v ∧ (∀ j, w1.frozen? ⟨bo, j, none⟩ = false) ∧ Kt w (w1.setCell ⟨bo, 0, none⟩ v1) bo v1 out1 en r := by
  have hb : ∀ k, v.ownBlock = some k → bo + 5 ≤ k := fun k hk => h.ow.base k hk
  have at_ : ∀ {k : Nat} {o : Obj}, W.heap[k]? = some o → k < bo + 5 → w1.heap[k]? = some o := fun {k o} hk hlt => (hg.block k (Array.getElem?_eq_some_iff.1 hk).1 (fun e => by have := hb k e.symm; omega)).trans hk
  have ho := at_ h.o (by omega)
  have hlo := h.lo
  have h1 : Kt w w1 bo v1 out1 en r → Kt w (w1.setCell ⟨bo, 0, none⟩ v1) bo v1 out1 en r := fun k => k.out2 k.ow
  refine ⟨box_at ho 0 _ rfl, box_free ho, ?_⟩
  have set_ : ∀ {k : Nat} {o : Obj}, w1.heap[k]? = some o → k ≠ bo → (w1.setCell ⟨bo, 0, none⟩ v1).heap[k]? = some o := fun {k o} hk hne => (setCell_other w1 _ _ _ hne).trans hk
  exact ⟨heap_set ho v1, hv.far (p := ⟨bo, 0, none⟩) (fun k hk => by have := hv.base k hk; simp only; omega) v1, set_ (at_ h.e (by omega)) (by omega), ⟨set_ (at_ h.it.s (by omega)) (by omega), set_ (at_ h.it.sep (by omega)) (by omega), set_ (at_ h.it.sv (by omega)) (by omega)⟩, hlo, (h.bw.grown hg h.bw.size (fun k e => by have := hb k e; omega)).setCell hlo v1, by have := Nat.le_trans h.sz hg.size; simpa [World.setCell] using this⟩

theorem results20 {tmps : Array Value} {w : World} {b0 n c : Nat} {A : Option Addr} (h : tmps.getD 2 undef = .pointer (some ⟨b0, 0, none⟩)) (hc : w.cell? ⟨b0, 0, none⟩ = some (.slice A n c)) : (results Tryd.f30 tmps).run Tryd.prog w = .ok (.slice A n c) w := by
  have hp : tmps[2]?.getD undef = .pointer (some ⟨b0, 0, none⟩) := by simpa using h
  have hr : Tryd.f30.results = #[.cell 2 42] := rfl
  have hu := run_underlying (P := Tryd.prog) (w := w) Tryd.underlying42
  simp [results, hr, hp, asAddr, loadVar, hu, hc, go_sem]

/-- behind the boxes: what kept hands back -/
theorem Kt.ret {w W : World} {bo : Nat} {v : Value} {out : List (List UInt8)} {en r : List UInt8} (h : Kt w W bo v out en r) : Ow 9 W w.heap.size v (strs out) := h.ow.lower (by have := h.lo; omega)

theorem kept_end {w W : World} {b0 n c D : Nat} {A : Option Addr} {out xs : List (List UInt8)} {en r : List UInt8} {tmps : Array Value} (h : Kt w W b0 (.slice A n c) out en r) (hx : xs = out) (hD : b0 + 5 ≤ D) (hd : W.heap[D]? = some (.deferred (some []))) (ht : tmps.getD 2 undef = .pointer (some ⟨b0, 0, none⟩)) :
    LeavesInM Fence.wide 6 Tryd.prog Tryd.f30 tmps (fun e w' => ∃ v, e = Ending.returned v ∧ Ow 9 w' w.heap.size v (strs xs) ∧ Below w.heap.size w w') [{ target := .collected D, args := #[] }] .returning W := by
  refine ⟨by simp, .inl ⟨_, _, rfl, run_takeDeferred hd, ?_⟩⟩
  have h2 := h.obj hD hd rfl (.deferred none)
  rw [hx]
  exact ⟨_, results20 ht (box_at h2.o 0 _ rfl), _, rfl, h2.ret, h2.bw⟩

set_option maxRecDepth 100000 in
set_option maxHeartbeats 4000000 in
theorem kept_any (w : World) (c : UInt8) (r0 : List UInt8) (hr0 : r0.length ≤ 1000) :
    Calls Tryd.prog 30 #[str (c :: r0)] w fun e w' => ∃ v, e = .returned v ∧ Ow 9 w' w.heap.size v (strs (keptS (pieces 47 r0))) ∧ Below w.heap.size w w' := by
  have hx : (⟨(c :: r0).toArray⟩ : ByteArray).extract 1 (r0.length + 1) = ⟨r0.toArray⟩ := by
    apply ByteArray.ext
    apply Array.ext'
    rw [ByteArray.data_extract]
    simp
  have hx1 : (1 : Int) ≤ (r0.length : Int) + 1 := by omega
  refine (callsIn_wide (n := 6)).1 ?_
  refine callsIn_of_wp_marks Tryd.func30 rfl trivial ?_ rfl
  simp only [Tryd.ntmps30, List.size_toArray, List.length_cons, List.length_nil, Nat.reduceAdd, Nat.reduceSub, Array.replicate_succ, Array.replicate_zero, List.push_toArray, List.append_toArray, List.nil_append, List.cons_append]
  gi_wp2_with (refine ⟨trivial, ?_⟩; gi_at_call 41; refine (split_in Fence.wide _ (by decide) trivial trivial rfl r0 _).mono ?_; rintro e w1 ⟨rfl, rfl⟩)
  have hkt := Kt.start w r0
  change Code.wpIn _ _ _ _ _ _ (kW w r0)
  generalize kW w r0 = W1 at *
  obtain ⟨b0, hb0⟩ : ∃ b, w.heap.size = b := ⟨_, rfl⟩
  rw [hb0] at hkt
  simp only [hb0]
  clear hx hx1
  refine range_it (n := 6) (w := W1) rfl (by decide) (b0 + 2) rfl trivial trivial (fun r W => callsIn_wide.2 (Tryd.strings_Index_one ⟨r.toArray⟩ 47 W)) rfl (by have := hkt.sz; omega) (fun pre r W => ∃ v, Kt w W b0 v (foldK pre) (pre.getLastD []) r) ⟨?_, ?_, ?_, ?_⟩ r0 hr0 ⟨_, hkt⟩
    (fun x => { tmps := #[str (c :: r0), undef, .pointer (some ⟨b0, 0, none⟩), .pointer (some ⟨b0 + 1, 0, none⟩), str x, str (c :: r0), .string ⟨r0.toArray⟩, .func (.func 56) #[] #[.pointer (some ⟨b0 + 1 + 1 + 1, 0, none⟩), .pointer (some ⟨b0 + 1 + 1, 0, none⟩), .pointer (some ⟨b0 + 1 + 1 + 2, 0, none⟩)], str x, undef, undef, undef, undef, undef, undef, undef, undef, undef, undef, undef, undef, undef, undef, undef, undef, undef, undef, undef, undef, undef, undef, undef, undef, undef, undef], defers := [] }) ?assign ?body ?done
  · exact fun pre r W h => h.choose_spec.it
  · rintro pre r r2 W ⟨v, h⟩ _
    exact ⟨v, h.rest2 r2⟩
  · rintro pre r W o ⟨v, h⟩
    exact ⟨v, h.alloc o⟩
  · rintro pre r W l o o' ⟨v, h⟩ hl ho hc
    exact ⟨v, h.obj (by have := hkt.sz; omega) ho hc o'⟩
  case assign =>
    intro l x W K hK
    gi_wp2
    exact hK
  case body =>
    rintro l pre r x W ⟨v, hk⟩ hxr hpre
    have hfl := foldK_len pre
    have hK2 := hk.end2 x
    have z1 := box_at hk.e 0 _ rfl
    have f1 := box_free hk.e
    obtain ⟨A, cp, rfl, hcp⟩ := hk.ow.slice
    obtain ⟨N, hN⟩ : ∃ N, (foldK pre).length = N := ⟨_, rfl⟩
    rw [strs_len, hN] at hk hK2 hcp
    rw [hN] at hfl
    have z0 := box_at hK2.o 0 _ rfl
    have f0 := box_free hK2.o
    have z0' : W.cell? ⟨b0, 0, none⟩ = some (.slice A N cp) := box_at hk.o 0 _ rfl
    have f0' := box_free hk.o
    have HK2 := Lib.hid hK2
    have hke : KeepsOthers W (W.setCell ⟨b0 + 1, 0, none⟩ (str x)) := KeepsOthers.setCell _ _ _
    have hlast : (pre ++ [x]).getLastD [] = x := by simp
    rw [hlast, foldK_snoc]
    clear hlast
    have HN := Lib.hid hN
    clear hN
    by_cases h1 : x = [46, 46]
    · subst h1
      obtain ⟨m, hm⟩ : ∃ m, N - 1 = m := ⟨_, rfl⟩
      have hmax : max ((N : Int) - 1) 0 = (m : Int) := by omega
      have hm1 : (m : Int) ≤ (cp : Int) := by omega
      have hst : stepK (foldK pre) [46, 46] = (foldK pre).take m := by
        unfold stepK
        rw [if_pos rfl, List.dropLast_eq_take, ← hm, HN.out]
      have hfin := HK2.out.out2 (v1 := .slice A m cp) (out1 := stepK (foldK pre) [46, 46]) (by rw [hst]; have := HK2.out.ow.take m (by omega); simpa [strs, List.map_take] using this)
      have HF := Lib.hid hfin
      clear hst hfin hm
      gi_wp2
      exact ⟨hke.trans (KeepsOthers.setCell _ _ _), _, HF.out⟩
    · have h1' : (x == [46, 46]) = false := by simpa using h1
      by_cases h2 : x = [46]
      · subst h2
        have HF := Lib.hid (show stepK (foldK pre) [46] = foldK pre by rfl)
        gi_wp2
        rw [HF.out]
        exact ⟨_, HK2.out⟩
      · have h2' : (x == [46]) = false := by simpa using h2
        have HF := Lib.hid (show stepK (foldK pre) x = foldK pre ++ [x] by unfold stepK; rw [if_neg h1, if_neg h2])
        gi_wp2_with (gi_at_builtin; refine wpIn_app (b0 + 5) rfl _ _ 42 9 (.string ByteArray.empty) 16 rfl Tryd.underlying42 (by kernel_rfl) rfl (by omega) _ _ (strs (foldK pre)) [str x] rfl rfl ?c1 ?c2 ?c3 ?c4 ?c5 ?c6)
        case c1 => exact (HK2.out.alloc _).ow
        case c2 =>
          have := rd_box (W.setCell ⟨b0 + 1, 0, none⟩ (str x)) (str x) 9
          rwa [show (W.setCell ⟨b0 + 1, 0, none⟩ (str x)).heap.size = W.heap.size by simp [World.setCell]] at this
        case c3 => exact strs_one [x]
        case c4 =>
          rw [strs_len, HN.out]
          simp
          omega
        case c5 => exact (HK2.out.alloc _).sz
        case c6 =>
          intro v1 w1 hv1 hg1 hat1
          obtain ⟨A1, n1, c1, rfl⟩ := hv1.slice'
          obtain ⟨y0, y1, hK3⟩ := Kt.app (out1 := foldK pre ++ [x]) (HK2.out.alloc (.cells #[str x] 9)) hg1 (by rw [strs_app]; exact hv1)
          have hko := ((hke.trans (KeepsOthers.alloc _ (.cells #[str x] 9))).trans (KeepsOthers.of_grownBy hg1 (fun j o hj ho => by
            obtain ⟨cs, hcs⟩ := (HK2.out.alloc (.cells #[str x] 9)).ow.typed j hj
            rw [ho] at hcs
            injection hcs with hcs
            subst hcs
            rfl))).trans (KeepsOthers.setCell w1 ⟨b0, 0, none⟩ (.slice A1 n1 c1))
          have HKO := Lib.hid hko
          have HK3 := Lib.hid hK3
          clear hko hK3 hg1 hat1 hv1
          gi_wp2
          rw [HF.out]
          exact ⟨HKO.out, _, HK3.out⟩
  case done =>
    rintro D r W hD ⟨v, hk⟩ hdf
    have hfl := foldK_len (pieces 47 r0)
    have hpl := pieces_len 47 r0
    obtain ⟨en, hen⟩ : ∃ en, (pieces 47 r0).getLastD [] = en := ⟨_, rfl⟩
    rw [hen] at hk
    have HEN := Lib.hid hen
    obtain ⟨A, n, cp, rfl⟩ := hk.ow.slice'
    have HK := Lib.hid hk
    have hbD : D ≠ b0 := by have := hkt.sz; omega
    have z0 := box_at hk.o 0 _ rfl
    have z1 := box_at hk.e 0 _ rfl
    have f0 := box_free hk.o
    clear hk hen
    by_cases h1 : dotB en = true
    · have hfin : keptS (pieces 47 r0) = foldK (pieces 47 r0) ++ [[]] := by
        unfold keptS
        rw [HEN.out, if_pos h1]
      have HF := Lib.hid hfin
      have h3 : en = [46] ∨ en = [46, 46] := by simpa [dotB] using h1
      clear h1 hfin
      rcases h3 with h3 | h3
      · subst h3
        gi_wp2_with (gi_at_builtin; refine wpIn_app (b0 + 5) rfl _ _ 42 9 (.string ByteArray.empty) 16 rfl Tryd.underlying42 (by kernel_rfl) rfl (by omega) _ _ (strs (foldK (pieces 47 r0))) [str []] rfl rfl ?c1 ?c2 ?c3 ?c4 ?c5 ?c6)
        case c1 => exact (HK.out.alloc _).ow
        case c2 => exact rd_box W (str []) 9
        case c3 => exact strs_one [[]]
        case c4 =>
          rw [strs_len]
          simp
          omega
        case c5 => exact (HK.out.alloc _).sz
        case c6 =>
          intro v1 w1 hv1 hg1 hat1
          obtain ⟨A1, n1, c1, rfl⟩ := hv1.slice'
          obtain ⟨y0, y1, hK3⟩ := Kt.app (out1 := foldK (pieces 47 r0) ++ [[]]) (HK.out.alloc (.cells #[str []] 9)) hg1 (by rw [strs_app]; exact hv1)
          have hdf1 : w1.heap[D]? = some (.deferred (some [])) := by
            refine (hg1.block D ?_ (fun e => ?_)).trans ((Below.heap_alloc W _ _ (Array.getElem?_eq_some_iff.1 hdf).1).trans hdf)
            · have := (Array.getElem?_eq_some_iff.1 hdf).1
              simp
              omega
            · obtain ⟨cs, hcs⟩ := (HK.out.alloc (.cells #[str []] 9)).ow.typed D e.symm
              rw [(Below.heap_alloc W _ _ (Array.getElem?_eq_some_iff.1 hdf).1).trans hdf] at hcs
              cases hcs
          have HK3 := Lib.hid hK3
          have w0c := box_at hK3.o 0 _ rfl
          have w0f := box_free hK3.o
          clear hK3 hg1 hat1 hv1
          gi_wp2
          have hset : ∀ u : Value, (w1.setCell ⟨b0, 0, none⟩ u).heap[D]? = some (.deferred (some [])) := fun u => (setCell_other w1 _ _ _ hbD).trans hdf1
          have hK4 := HK3.out.out2 HK3.out.ow
          exact kept_end hK4 HF.out (by have := hkt.sz; omega) ((setCell_other _ _ _ _ hbD).trans (hset _)) rfl
      · subst h3
        gi_wp2_with (gi_at_builtin; refine wpIn_app (b0 + 5) rfl _ _ 42 9 (.string ByteArray.empty) 16 rfl Tryd.underlying42 (by kernel_rfl) rfl (by omega) _ _ (strs (foldK (pieces 47 r0))) [str []] rfl rfl ?c1 ?c2 ?c3 ?c4 ?c5 ?c6)
        case c1 => exact (HK.out.alloc _).ow
        case c2 => exact rd_box W (str []) 9
        case c3 => exact strs_one [[]]
        case c4 =>
          rw [strs_len]
          simp
          omega
        case c5 => exact (HK.out.alloc _).sz
        case c6 =>
          intro v1 w1 hv1 hg1 hat1
          obtain ⟨A1, n1, c1, rfl⟩ := hv1.slice'
          obtain ⟨y0, y1, hK3⟩ := Kt.app (out1 := foldK (pieces 47 r0) ++ [[]]) (HK.out.alloc (.cells #[str []] 9)) hg1 (by rw [strs_app]; exact hv1)
          have hdf1 : w1.heap[D]? = some (.deferred (some [])) := by
            refine (hg1.block D ?_ (fun e => ?_)).trans ((Below.heap_alloc W _ _ (Array.getElem?_eq_some_iff.1 hdf).1).trans hdf)
            · have := (Array.getElem?_eq_some_iff.1 hdf).1
              simp
              omega
            · obtain ⟨cs, hcs⟩ := (HK.out.alloc (.cells #[str []] 9)).ow.typed D e.symm
              rw [(Below.heap_alloc W _ _ (Array.getElem?_eq_some_iff.1 hdf).1).trans hdf] at hcs
              cases hcs
          have HK3 := Lib.hid hK3
          have w0c := box_at hK3.o 0 _ rfl
          have w0f := box_free hK3.o
          clear hK3 hg1 hat1 hv1
          gi_wp2
          have hset : ∀ u : Value, (w1.setCell ⟨b0, 0, none⟩ u).heap[D]? = some (.deferred (some [])) := fun u => (setCell_other w1 _ _ _ hbD).trans hdf1
          have hK4 := HK3.out.out2 HK3.out.ow
          exact kept_end hK4 HF.out (by have := hkt.sz; omega) ((setCell_other _ _ _ _ hbD).trans (hset _)) rfl
    · have hfin : keptS (pieces 47 r0) = foldK (pieces 47 r0) := by
        unfold keptS
        rw [HEN.out, if_neg h1]
      have HF := Lib.hid hfin
      have h3 : (en == [46]) = false := by
        simp only [dotB, decide_eq_true_eq, not_or] at h1
        simpa using h1.1
      have h4 : (en == [46, 46]) = false := by
        simp only [dotB, decide_eq_true_eq, not_or] at h1
        simpa using h1.2
      clear h1 hfin
      gi_wp2
      have hK4 := HK.out.out2 HK.out.ow
      exact kept_end hK4 HF.out (by have := hkt.sz; omega) ((setCell_other _ _ _ _ hbD).trans hdf) rfl
end Go.Proofs.YtoegjpfngmilhaaDoor
