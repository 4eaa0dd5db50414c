/- Contract of lockageref02.Take. -/
import Derived.Test.YteaifndkmknanaaU
set_option linter.unusedVariables false
namespace Go.Proofs.Yteaifndkmknanaa
open Go.RowKit
open Go.Proofs.YteaifndkmknanaaW.PrintWords

/-- a table and more told, in memory of the call's own -/
def TabPostO (w : World) (t : Tab) (more : List Value) (e : Ending) (w' : World) : Prop :=
  ∃ Ag ng cg Ab nb cb Af nf cf, e = .returned (.tuple (.agg #[.slice Ag ng cg, .slice Ab nb cb, .slice Af nf cf] :: more).toArray) ∧ TabO w' w.heap.size (.slice Ag ng cg) (.slice Ab nb cb) (.slice Af nf cf) t ∧ Below w.heap.size w w'

theorem boxes0 {w w2 : World} {cs ds : Array Value} {T U : TypeId} (hb2 : Below ((w.alloc (.cells cs T)).alloc (.cells ds U)).heap.size ((w.alloc (.cells cs T)).alloc (.cells ds U)) w2) :
    Below w.heap.size w w2 ∧ w.heap.size + 2 ≤ w2.heap.size ∧ w2.heap[w.heap.size]? = some (.cells cs T (0, 0)) ∧ w2.heap[w.heap.size + 1]? = some (.cells ds U (0, 0)) := by
  have s2 := hb2.size
  simp only [World.size_alloc] at s2
  refine ⟨(((Below.refl _ _).alloc (Nat.le_refl _) _).alloc (by simp) _).trans (hb2.mono (by simp; omega)), by omega, ?_, ?_⟩
  · rw [hb2.block _ (by simp; omega), Below.heap_alloc _ _ _ (by simp)]
    exact heap_alloc_new _ _
  · rw [hb2.block _ (by simp)]
    have := heap_alloc_new (w.alloc (.cells cs T)) (.cells ds U)
    simpa using this

set_option maxHeartbeats 1000000 in
theorem rtake_no (w : World) (Ag : Option Addr) (ng cg : Nat) (Ab : Option Addr) (nb cb : Nat) (Af : Option Addr) (nf cf : Nat) (t : Tab) (ht : TabR w (.slice Ag ng cg) (.slice Ab nb cb) (.slice Af nf cf) t) (hs : t.small) (hr : rightB t = false) :
    Calls Try.prog 17 #[.agg #[.slice Ag ng cg, .slice Ab nb cb, .slice Af nf cf]] w (TabPostO w t [.int .i64 0, .int .i64 1]) := by
  have HT := Lib.hid ht
  have HR := Lib.hid hr
  clear ht hr
  go_enter Try.func17, Try.ntmps17
  go_wp2_with (first
    | (go_at_call 19
       refine (rright_any _ _ ng cg _ nb cb _ nf cf t (HT.out.below ?_) hs).mono ?_
       · exact ((Below.refl _ _).alloc (Nat.le_refl _) _).alloc (by simp) _
       rw [HR.out]
       rintro e w2 ⟨rfl, hb2⟩
       obtain ⟨q0, q1, q2, q3⟩ := boxes0 hb2
       have y0 := box_at q2 0 _ rfl
       have y1 := box_at q2 1 _ rfl
       have y2 := box_at q2 2 _ rfl)
    | (go_at_call 27
       refine (own_any _ _ ng cg _ nb cb _ nf cf t (HT.out.below q0) hs).mono ?_
       rintro e w3 ⟨A1, n1, c1, A2, n2, c2, A3, n3, c3, rfl, hO, hb3⟩
       clear y0 y1 y2
       obtain ⟨p0, p1, p2, p3⟩ := boxes0 (hb2.trans (hb3.mono (Nat.le_trans (by simp) q1)))
       have HO := Lib.hid (hO.lower (base' := w.heap.size + 2) q1)
       have HQ := Lib.hid p0
       clear q0 q1 q2 q3 hO hb2 hb3 p0
       have r0 := box_at p3 0 _ rfl
       have r1 := box_at p3 1 _ rfl
       have r2 := box_at p3 2 _ rfl
       have rf := box_free p3
       have y0 := box_at p2 0 _ rfl
       have y1 := box_at p2 1 _ rfl
       have y2 := box_at p2 2 _ rfl
       have Q2 := Lib.hid p2
       have Q3 := Lib.hid p3
       clear p2 p3))
  refine bodyPost_ret (v := .tuple #[.agg #[.slice A1 n1 c1, .slice A2 n2 c2, .slice A3 n3 c3], .int .i64 0, .int .i64 1]) (by simp [results, Try.results17, go_sem, r0, r1, r2]) rfl ?_
  refine ⟨A1, n1, c1, A2, n2, c2, A3, n3, c3, rfl, ?_, ?_⟩
  · exact (((HO.out.far (by simp) _).far (by simp) _).far (by simp) _).lower (by simp)
  · exact ((HQ.out.setCell (by simp) _).setCell (by simp) _).setCell (by simp) _

set_option maxHeartbeats 1000000 in
theorem rtake_none (w : World) (Ag : Option Addr) (ng cg : Nat) (Ab : Option Addr) (nb cb : Nat) (Af : Option Addr) (nf cf : Nat) (t : Tab) (ht : TabR w (.slice Ag ng cg) (.slice Ab nb cb) (.slice Af nf cf) t) (hs : t.small) (hr : rightB t = true) (hn : nf = 0) :
    Calls Try.prog 17 #[.agg #[.slice Ag ng cg, .slice Ab nb cb, .slice Af nf cf]] w (TabPostO w t [.int .i64 0, .int .i64 4]) := by
  have HT := Lib.hid ht
  have HR := Lib.hid hr
  have h0' : ((nf : Int) == 0) = true := by simp [hn]
  clear ht hr hn
  go_enter Try.func17, Try.ntmps17
  go_wp2_with (first
    | (go_at_call 19
       refine (rright_any _ _ ng cg _ nb cb _ nf cf t (HT.out.below ?_) hs).mono ?_
       · exact ((Below.refl _ _).alloc (Nat.le_refl _) _).alloc (by simp) _
       rw [HR.out]
       rintro e w2 ⟨rfl, hb2⟩
       obtain ⟨q0, q1, q2, q3⟩ := boxes0 hb2
       have y0 := box_at q2 0 _ rfl
       have y1 := box_at q2 1 _ rfl
       have y2 := box_at q2 2 _ rfl)
    | (go_at_call 27
       refine (own_any _ _ ng cg _ nb cb _ nf cf t (HT.out.below q0) hs).mono ?_
       rintro e w3 ⟨A1, n1, c1, A2, n2, c2, A3, n3, c3, rfl, hO, hb3⟩
       clear y0 y1 y2
       obtain ⟨p0, p1, p2, p3⟩ := boxes0 (hb2.trans (hb3.mono (Nat.le_trans (by simp) q1)))
       have HO := Lib.hid (hO.lower (base' := w.heap.size + 2) q1)
       have HQ := Lib.hid p0
       clear q0 q1 q2 q3 hO hb2 hb3 p0
       have r0 := box_at p3 0 _ rfl
       have r1 := box_at p3 1 _ rfl
       have r2 := box_at p3 2 _ rfl
       have rf := box_free p3
       have y0 := box_at p2 0 _ rfl
       have y1 := box_at p2 1 _ rfl
       have y2 := box_at p2 2 _ rfl
       have Q2 := Lib.hid p2
       have Q3 := Lib.hid p3
       clear p2 p3))
  refine bodyPost_ret (v := .tuple #[.agg #[.slice A1 n1 c1, .slice A2 n2 c2, .slice A3 n3 c3], .int .i64 0, .int .i64 4]) (by simp [results, Try.results17, go_sem, r0, r1, r2]) rfl ?_
  refine ⟨A1, n1, c1, A2, n2, c2, A3, n3, c3, rfl, ?_, ?_⟩
  · exact (((HO.out.far (by simp) _).far (by simp) _).far (by simp) _).lower (by simp)
  · exact ((HQ.out.setCell (by simp) _).setCell (by simp) _).setCell (by simp) _


theorem ne_of_lt_base {w : World} {base k : Nat} {e : TypeId} {v : Value} {xs : List Value} (h : Ow e w base v xs) (hk : k < base) : ∀ q, v.ownBlock = some q → q ≠ k := fun q hq => by
  have := h.base q hq
  omega

/-- behind 'a := own(t); a.Free = a.Free[1:]; a.Busy[k] = true' -/
theorem rtake_mid {w w3 : World} {bb ob n2 c2 m : Nat} {v1 v3 v4 : Value} {t : Tab} {r : List Int} (hO : TabO w3 (w.heap.size + 2) v1 (.slice (some ⟨bb, ob, none⟩) n2 c2) v3 t) (hd : Ow 3 w3 (w.heap.size + 2) v4 (ints r)) (h4 : ∀ k, v4.ownBlock = some k → v3.ownBlock = some k) (hm : m < t.busy.length) (o : Obj) :
    TabO ((w3.setCell ⟨bb, ob + m, none⟩ (.bool true)).alloc o) (w.heap.size + 2) v1 (.slice (some ⟨bb, ob, none⟩) n2 c2) v4 ⟨t.gens, t.busy.set m true, r⟩ := by
  obtain ⟨cb0, hcb0⟩ := hO.b.typed bb rfl
  have nb : ∀ k (v : Value) (xs : List Value), Ow 3 w3 (w.heap.size + 2) v xs → v.ownBlock = some k → k ≠ bb := by
    intro k v xs h hk
    obtain ⟨cur, hcur⟩ := h.typed k hk
    exact blocks_ne (by decide) hcur hcb0
  have al : Below (w3.setCell ⟨bb, ob + m, none⟩ (.bool true)).heap.size (w3.setCell ⟨bb, ob + m, none⟩ (.bool true)) ((w3.setCell ⟨bb, ob + m, none⟩ (.bool true)).alloc o) := (Below.refl _ _).alloc (Nat.le_refl _) _
  refine ⟨(hO.g.far (fun k hk => nb k _ _ hO.g hk) _).below al, ?_, (hd.far (fun k hk => nb k _ _ hd hk) _).below al, fun k h1 h2 => hO.ne k h1 (h4 k h2)⟩
  have h2 := (hO.b.set m (by rw [bls_len]; exact hm) (.bool true)).below al
  rwa [show (bls t.busy).set m (.bool true) = bls (t.busy.set m true) by simp [bls, List.map_set]] at h2

set_option maxHeartbeats 2000000 in
theorem rtake_some (w : World) (Ag : Option Addr) (ng cg : Nat) (Ab : Option Addr) (nb cb : Nat) (Af : Option Addr) (nf cf : Nat) (t : Tab) (ht : TabR w (.slice Ag ng cg) (.slice Ab nb cb) (.slice Af nf cf) t) (hs : t.small) (hp : RightP t) (m : Nat) (r : List Int) (hxr : t.free = (m : Int) :: r) :
    Calls Try.prog 17 #[.agg #[.slice Ag ng cg, .slice Ab nb cb, .slice Af nf cf]] w (TabPostO w ⟨t.gens, t.busy.set m true, r⟩ [.int .i64 (t.gens.getD m 0 * t.gens.length + m), .int .i64 0]) := by
  have hok := hp.h5 m (by rw [hxr]; simp)
  have lf := ht.f.len
  have lg := ht.g.len
  rw [ints_len] at lf lg
  have hnf : 0 < nf := by rw [← lf, hxr]; simp
  have hnfz : (0 : Int) < (nf : Int) := by omega
  have h0' : ((nf : Int) == 0) = false := by rw [beq_eq_false_iff_ne]; omega
  have hml : m < t.gens.length := by simp [freeOk] at hok; omega
  have hmb : m < t.busy.length := by rw [hp.h3]; exact hml
  obtain ⟨bf0, of0, rfl, hfl0, hfc0⟩ := ht.f.get hnf
  obtain ⟨bg0, og0, rfl, hgl0, hgc0⟩ := ht.g.get (by omega)
  have f0 := hfc0 0 (.int .i64 m) (by rw [hxr]; rfl)
  have g0 := hgc0 m _ (ints_at hml)
  rw [Nat.add_zero] at f0
  have hgb := hp.gen hml
  have hres : t.gens.getD m 0 = t.gens[m] := by simp [hml]
  have hlg64 : ng ≤ 64 := by have := hp.h2; omega
  rw [hres, lg]
  obtain ⟨g, hg⟩ : ∃ g, t.gens[m] = g := ⟨_, rfl⟩
  rw [hg] at hgb g0 ⊢
  have hmg : (m : Int) < (ng : Int) := by omega
  have hmul := mul_bd hgb.1 hgb.2 hlg64
  have hfin : wrap64 (wrap64 (g * ng) + m) = g * ng + m := by rw [w64 (x := g * ng) (by omega) (by omega), w64 (by omega) (by omega)]
  have HFIN := Lib.hid hfin
  have HT := Lib.hid ht
  have HR := Lib.hid (rightB_yes hp)
  have HP := Lib.hid hp
  have HXR := Lib.hid hxr
  have HLF := Lib.hid lf
  have HLG := Lib.hid lg
  clear ht hxr hok hp hfc0 hgc0 hres hg lf lg hfin
  go_enter Try.func17, Try.ntmps17
  go_wp2_with (first
    | (go_at_call 19
       refine (rright_any _ _ ng cg _ nb cb _ nf cf t (HT.out.below ?_) hs).mono ?_
       · exact ((Below.refl _ _).alloc (Nat.le_refl _) _).alloc (by simp) _
       rw [HR.out]
       rintro e w2 ⟨rfl, hb2⟩
       obtain ⟨q0, q1, q2, q3⟩ := boxes0 hb2
       have y0 := box_at q2 0 _ rfl
       have y1 := box_at q2 1 _ rfl
       have y2 := box_at q2 2 _ rfl
       have f1 := (q0.cell (p := ⟨bf0, of0, none⟩) hfl0).trans f0)
    | (go_at_call 27
       refine (own_any _ _ ng cg _ nb cb _ nf cf t (HT.out.below q0) hs).mono ?_
       rintro e w3 ⟨A1, n1, c1, A2, n2, c2, A3, n3, c3, rfl, hO, hb3⟩
       clear y0 y1 y2 f1
       obtain ⟨p0, p1, p2, p3⟩ := boxes0 (hb2.trans (hb3.mono (Nat.le_trans (by simp) q1)))
       have HO := Lib.hid (hO.lower (base' := w.heap.size + 2) q1)
       have HQ := Lib.hid p0
       have g1 := (p0.cell (p := ⟨bg0, og0 + m, none⟩) hgl0).trans g0
       clear q0 q1 q2 q3 hO hb2 hb3 p0
       have r0 := box_at p3 0 _ rfl
       have r1 := box_at p3 1 _ rfl
       have r2 := box_at p3 2 _ rfl
       have rf := box_free p3
       have y0 := box_at p2 0 _ rfl
       have y1 := box_at p2 1 _ rfl
       have y2 := box_at p2 2 _ rfl
       have Q2 := Lib.hid p2
       have Q3 := Lib.hid p3
       clear p2 p3
       have hnb' : 0 < n2 := by
         have := HO.out.b.rd.len
         rw [bls_len] at this
         omega
       have hnf' : 0 < n3 := by
         have := HO.out.f.rd.len
         rw [ints_len] at this
         have h2 := HLF.out
         omega
       obtain ⟨i3, hi3, _⟩ := Option.map_eq_some_iff.1 Try.info3
       have hsl := cut_from (P := Try.prog) 22 3 .i64 Try.underlying22 hi3 1 (by have := Try.info3; rw [hi3] at this; simp at this; exact this.2.1) A3 n3 c3 1 (by omega) (by omega)
       have hfd := Lib.hid (HO.out.f.drop 1 (by omega))
       simp only [Int.toNat_one, Nat.mul_one] at hsl
       have h4 : ∀ k, (Value.slice (if c3 = 1 then A3 else A3.map (fun x => x.add 1)) (n3 - 1) (c3 - 1)).ownBlock = some k → (Value.slice A3 n3 c3).ownBlock = some k := by
         intro k hk
         cases A3 with
         | none => simp [Value.ownBlock] at hk
         | some a =>
           split at hk
           · exact hk
           · simpa [Value.ownBlock, Addr.add] using hk
       have H4 := Lib.hid h4
       clear h4
       generalize (if c3 = 1 then A3 else A3.map (fun x => x.add 1)) = A4 at hsl hfd H4
       clear hi3
       obtain ⟨bb, ob, rfl, hbb, hbb2, _, hbc, hbfr⟩ := HO.out.b.form' hnb'
       have b0 := hbc m _ (bls_at hmb)
       generalize t.busy[m] = ob0 at b0
       have hmz : (m : Int) < (n2 : Int) := by
         have := HO.out.b.rd.len
         rw [bls_len] at this
         omega
       have hb32 := (Array.getElem?_eq_some_iff.1 hbb2.choose_spec).1
       have ne1 : ¬ bb = w3.heap.size := by omega
       have ne2 : ¬ w3.heap.size = bb := by omega
       have ne3 : ¬ bb = w.heap.size := by omega
       have ne4 : ¬ w.heap.size = bb := by omega
       have hlt3 : w.heap.size + 2 ≤ w3.heap.size := by omega
       clear hbc hbb2))
  have hfd2 : Ow 3 w3 (w.heap.size + 2) (.slice A4 (n3 - 1) (c3 - 1)) (ints r) := by
    have := hfd.out
    rw [HXR.out] at this
    exact this
  have hmid := rtake_mid (w := w) HO.out hfd2 H4.out hmb (Obj.cells #[.slice A1 n1 c1, .slice (some ⟨bb, ob, none⟩) n2 c2, .slice A4 (n3 - 1) (c3 - 1)] 25)
  have hbel : Below w.heap.size w ((w3.setCell ⟨bb, ob + m, none⟩ (.bool true)).alloc (Obj.cells #[.slice A1 n1 c1, .slice (some ⟨bb, ob, none⟩) n2 c2, .slice A4 (n3 - 1) (c3 - 1)] 25)) := (HQ.out.setCell (by simp; omega) _).alloc (by simp; omega) _
  have blk : ∀ k, ¬ k = bb → k < w3.heap.size → ((w3.setCell ⟨bb, ob + m, none⟩ (.bool true)).alloc (Obj.cells #[.slice A1 n1 c1, .slice (some ⟨bb, ob, none⟩) n2 c2, .slice A4 (n3 - 1) (c3 - 1)] 25)).heap[k]? = w3.heap[k]? := fun k h1 h2 => by
    rw [Below.heap_alloc _ _ _ (by simpa [World.setCell] using h2), Below.heap_setCell _ _ _ _ h1]
  have nbx : ((w3.setCell ⟨bb, ob + m, none⟩ (.bool true)).alloc (Obj.cells #[.slice A1 n1 c1, .slice (some ⟨bb, ob, none⟩) n2 c2, .slice A4 (n3 - 1) (c3 - 1)] 25)).heap[w3.heap.size]? = some (.cells #[.slice A1 n1 c1, .slice (some ⟨bb, ob, none⟩) n2 c2, .slice A4 (n3 - 1) (c3 - 1)] 25 (0, 0)) := by
    have := heap_alloc_new (w3.setCell ⟨bb, ob + m, none⟩ (.bool true)) (Obj.cells #[.slice A1 n1 c1, .slice (some ⟨bb, ob, none⟩) n2 c2, .slice A4 (n3 - 1) (c3 - 1)] 25)
    simpa [World.setCell] using this
  have p2 := (blk w.heap.size (by omega) (by omega)).trans Q2.out
  have p3 := (blk (w.heap.size + 1) (by omega) (by omega)).trans Q3.out
  have HG1 := Lib.hid ((hbel.cell (p := ⟨bg0, og0 + m, none⟩) hgl0).trans g0)
  clear hsl hfd hfd2 H4 r0 r1 r2 rf y0 y1 y2 g1 b0 hbfr HO HQ Q2 Q3 blk g0 f0
  generalize ((w3.setCell ⟨bb, ob + m, none⟩ (.bool true)).alloc (Obj.cells #[.slice A1 n1 c1, .slice (some ⟨bb, ob, none⟩) n2 c2, .slice A4 (n3 - 1) (c3 - 1)] 25)) = W at *
  have g1 := HG1.out
  have y0 := box_at p2 0 _ rfl
  have y1 := box_at p2 1 _ rfl
  have y2 := box_at p2 2 _ rfl
  have r0 := box_at p3 0 _ rfl
  have r1 := box_at p3 1 _ rfl
  have r2 := box_at p3 2 _ rfl
  have rf := box_free p3
  have z0 := box_at nbx 0 _ rfl
  have z1 := box_at nbx 1 _ rfl
  have z2 := box_at nbx 2 _ rfl
  have HM := Lib.hid hmid
  clear p2 p3 nbx hmid HG1
  go_region
  go_wp2
  refine bodyPost_ret (v := .tuple #[.agg #[.slice A1 n1 c1, .slice (some ⟨bb, ob, none⟩) n2 c2, .slice A4 (n3 - 1) (c3 - 1)], .int .i64 (g * ng + m), .int .i64 0]) (by simp [results, Try.results17, go_sem, r0, r1, r2]) rfl ?_
  refine ⟨A1, n1, c1, _, n2, c2, A4, _, _, rfl, ?_, ?_⟩
  · exact ((((HM.out.far (by simp) _).far (by simp) _).far (by simp) _).below (below_drew (Below.refl _ _))).lower (by simp)
  · exact (((hbel.setCell (by simp) _).setCell (by simp) _).setCell (by simp) _).drew

theorem rtake_any (w : World) (Ag : Option Addr) (ng cg : Nat) (Ab : Option Addr) (nb cb : Nat) (Af : Option Addr) (nf cf : Nat) (t : Tab) (ht : TabR w (.slice Ag ng cg) (.slice Ab nb cb) (.slice Af nf cf) t) (hs : t.small) :
    Calls Try.prog 17 #[.agg #[.slice Ag ng cg, .slice Ab nb cb, .slice Af nf cf]] w (TabPostO w (takeS t).1 [.int .i64 (takeS t).2.1, .int .i64 (takeS t).2.2]) := by
  by_cases hp : RightP t
  · cases hq : t.free with
    | nil =>
      have hh : takeS t = (t, 0, 4) := by unfold takeS; rw [if_pos hp, hq]
      rw [hh]
      refine rtake_none w Ag ng cg Ab nb cb Af nf cf t ht hs (rightB_yes hp) ?_
      have := ht.f.len
      rw [ints_len, hq] at this
      exact this.symm
    | cons x r =>
      have hok := hp.h5 x (by rw [hq]; simp)
      obtain ⟨m, rfl⟩ := Int.eq_ofNat_of_zero_le (show 0 ≤ x by simp [freeOk] at hok; omega)
      have hh : takeS t = (⟨t.gens, t.busy.set m true, r⟩, t.gens.getD m 0 * t.gens.length + m, 0) := by unfold takeS; rw [if_pos hp, hq]; rfl
      rw [hh]
      exact rtake_some w Ag ng cg Ab nb cb Af nf cf t ht hs hp m r hq
  · have hh : takeS t = (t, 0, 1) := by unfold takeS; rw [if_neg hp]
    rw [hh]
    exact rtake_no w Ag ng cg Ab nb cb Af nf cf t ht hs (rightB_no hp)
end Go.Proofs.Yteaifndkmknanaa
