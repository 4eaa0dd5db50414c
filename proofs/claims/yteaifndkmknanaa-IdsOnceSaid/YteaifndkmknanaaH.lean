/- Contract of ids.Take. -/
import Derived.Test.YteaifndkmknanaaG
set_option linter.unusedVariables false
namespace Go.Proofs.Yteaifndkmknanaa
open Go.RowKit
open Go.Proofs.YteaifndkmknanaaW.PrintWords

open Classical in
/-- what Take answers -/
noncomputable def takeS (t : Tab) : Tab × Int × Int :=
  if RightP t then match t.free with
    | [] => (t, 0, 4)
    | k :: r => (⟨t.gens, t.busy.set k.toNat true, r⟩, t.gens.getD k.toNat 0 * t.gens.length + k, 0)
  else (t, 0, 1)

/-- a table and more told, in new memory that is only read -/
def TabPost (w : World) (t : Tab) (more : List Value) (e : Ending) (w' : World) : Prop :=
  ∃ Ag ng cg Ab nb cb Af nf cf, e = .returned (.tuple (.agg #[.slice Ag ng cg, .slice Ab nb cb, .slice Af nf cf] :: more).toArray) ∧ TabR w' (.slice Ag ng cg) (.slice Ab nb cb) (.slice Af nf cf) t ∧ Below w.heap.size w w' ∧ FreshT w.heap.size (.slice Ag ng cg) (.slice Ab nb cb) (.slice Af nf cf)

/-- two boxes laid, then calls: all still there -/
theorem boxes2 {w w2 w3 : World} {cs ds es : Array Value} {T U : TypeId} {bx : Nat} (hb2 : Below ((w.alloc (.cells cs T)).alloc (.cells ds U)).heap.size ((w.alloc (.cells cs T)).alloc (.cells ds U)) w2)
    (hx : w2.heap[bx]? = some (.cells es 47 (0, 0))) (hb3 : Below w2.heap.size w2 w3) :
    Below w.heap.size w w3 ∧ w.heap.size + 2 ≤ w3.heap.size ∧ w3.heap[w.heap.size]? = some (.cells cs T (0, 0)) ∧ w3.heap[w.heap.size + 1]? = some (.cells ds U (0, 0)) ∧ w3.heap[bx]? = some (.cells es 47 (0, 0)) := by
  have s2 := hb2.size
  have s3 := hb3.size
  simp only [World.size_alloc] at s2
  have h0 : Below w.heap.size w w2 := (((Below.refl _ _).alloc (Nat.le_refl _) _).alloc (by simp) _).trans (hb2.mono (by simp; omega))
  refine ⟨h0.trans (hb3.mono (by omega)), by omega, ?_, ?_, ?_⟩
  · rw [hb3.block _ (by omega), hb2.block _ (by simp; omega), Below.heap_alloc _ _ _ (by simp)]
    exact heap_alloc_new _ _
  · rw [hb3.block _ (by omega), hb2.block _ (by simp)]
    have := heap_alloc_new (w.alloc (.cells cs T)) (.cells ds U)
    simpa using this
  · rw [hb3.block _ (Array.getElem?_eq_some_iff.1 hx).1]
    exact hx

theorem TabO.far {w : World} {base : Nat} {vg vb vf : Value} {t : Tab} (h : TabO w base vg vb vf t) {p : Addr} (hp : p.block < base) (u : Value) : TabO (w.setCell p u) base vg vb vf t :=
  ⟨h.g.far (fun k hk => by have := h.g.base k hk; omega) u, h.b.far (fun k hk => by have := h.b.base k hk; omega) u, h.f.far (fun k hk => by have := h.f.base k hk; omega) u, h.ne⟩

theorem TabR.far3 {W : World} {B : Nat} {vg vb vf : Value} {t : Tab} (h : TabR W vg vb vf t) (hg : ∀ k, vg.ownBlock = some k → k ≠ B) (hb : ∀ k, vb.ownBlock = some k → k ≠ B) (hf : ∀ k, vf.ownBlock = some k → k ≠ B) (q : Nat) (u0 u1 u2 : Value) :
    TabR ((((W.drewN q).setCell ⟨B, 0, none⟩ u0).setCell ⟨B, 1, none⟩ u1).setCell ⟨B, 2, none⟩ u2) vg vb vf t :=
  ⟨(((h.g.drewN q).far (p := ⟨B, 0, none⟩) hg u0).far (p := ⟨B, 1, none⟩) hg u1).far (p := ⟨B, 2, none⟩) hg u2, (((h.b.drewN q).far (p := ⟨B, 0, none⟩) hb u0).far (p := ⟨B, 1, none⟩) hb u1).far (p := ⟨B, 2, none⟩) hb u2,
    (((h.f.drewN q).far (p := ⟨B, 0, none⟩) hf u0).far (p := ⟨B, 1, none⟩) hf u1).far (p := ⟨B, 2, none⟩) hf u2⟩

/-- behind 'x.Free, x.Busy[i] = x.Free[1:], true' -/
theorem take_mid {w3 : World} {B bx bb ob nb cb m base : Nat} {vg vf vf2 : Value} {t : Tab} {r : List Int} (hO : TabO w3 base vg (.slice (some ⟨bb, ob, none⟩) nb cb) vf t) (hd : Ow 3 w3 base vf2 (ints r)) (hm : m < t.busy.length)
    (hx : w3.heap[bx]? = some (.cells #[vg, .slice (some ⟨bb, ob, none⟩) nb cb, vf] 47 (0, 0))) (hB : Below B w3 w3) :
    (((w3.setCell ⟨bx, 2, none⟩ vf2).setCell ⟨bb, ob + m, none⟩ (.bool true)).drew).heap[bx]? = some (.cells #[vg, .slice (some ⟨bb, ob, none⟩) nb cb, vf2] 47 (0, 0)) ∧
    TabR (((w3.setCell ⟨bx, 2, none⟩ vf2).setCell ⟨bb, ob + m, none⟩ (.bool true)).drew) vg (.slice (some ⟨bb, ob, none⟩) nb cb) vf2 ⟨t.gens, t.busy.set m true, r⟩ := by
  obtain ⟨cb0, hcb0⟩ := hO.b.typed bb rfl
  have nx : ∀ k (v : Value) (e : TypeId) (xs : List Value), e ≠ 47 → Ow e w3 base v xs → v.ownBlock = some k → k ≠ bx := by
    rintro k v e xs he h hk rfl
    obtain ⟨cur, hcur⟩ := h.typed k hk
    rw [hx] at hcur
    injection hcur with hcur
    injection hcur with _ hcur
    exact he hcur.symm
  have nb : ∀ k (v : Value) (e : TypeId) (xs : List Value), e ≠ 4 → Ow e w3 base v xs → v.ownBlock = some k → k ≠ bb := by
    rintro k v e xs he h hk rfl
    obtain ⟨cur, hcur⟩ := h.typed k hk
    rw [hcb0] at hcur
    injection hcur with hcur
    injection hcur with _ hcur
    exact he hcur.symm
  have hbx : bb ≠ bx := nx bb _ 4 _ (by decide) hO.b rfl
  refine ⟨?_, ⟨?_, ?_, ?_⟩⟩
  · show ((w3.setCell ⟨bx, 2, none⟩ vf2).setCell ⟨bb, ob + m, none⟩ (.bool true)).heap[bx]? = _
    rw [Below.heap_setCell _ _ _ _ (show bx ≠ bb from fun e => hbx e.symm), heap_set hx]
    rfl
  · exact (((hO.g.far (fun k hk => nx k _ 3 _ (by decide) hO.g hk) vf2).far (fun k hk => nb k _ 3 _ (by decide) hO.g hk) _).below (below_drew (Below.refl _ _))).rd
  · have h2 := (hO.b.far (p := ⟨bx, 2, none⟩) (fun k hk => nx k _ 4 _ (by decide) hO.b hk) vf2).set m (by rw [bls_len]; exact hm) (.bool true)
    have h3 := (h2.below (below_drew (Below.refl _ _))).rd
    have e : (bls t.busy).set m (.bool true) = bls (t.busy.set m true) := by simp [bls, List.map_set]
    rw [e] at h3
    exact h3
  · exact (((hd.far (fun k hk => nx k _ 3 _ (by decide) hd hk) vf2).far (fun k hk => nb k _ 3 _ (by decide) hd hk) _).below (below_drew (Below.refl _ _))).rd

set_option maxHeartbeats 1000000 in
theorem take_no (w : World) (Ag : Option Addr) (ng cg : Nat) (Ab : Option Addr) (nb cb : Nat) (Af : Option Addr) (nf cf : Nat) (t : Tab) (ht : TabR w (.slice Ag ng cg) (.slice Ab nb cb) (.slice Af nf cf) t) (hs : t.small) (hr : rightB t = false) :
    Calls Try.prog 13 #[.agg #[.slice Ag ng cg, .slice Ab nb cb, .slice Af nf cf]] w (TabPost w t [.int .i64 0, .int .i64 1]) := by
  have HT := Lib.hid ht
  have HR := Lib.hid hr
  clear ht hr
  go_enter Try.func13, Try.ntmps13
  go_wp2_with (first
    | (go_at_call 22
       refine (of_any _ _ _ _ t (HT.out.below ?_) hs).mono ?_
       · exact ((Below.refl _ _).alloc (Nat.le_refl _) _).alloc (by simp) _
       rintro e w2 ⟨bx, Ag', ng', cg', Ab', nb', cb', Af', nf', cf', rfl, hx, hxl, hO, hb2⟩
       have HO := Lib.hid hO
       clear hO
       obtain ⟨q0, q1, q2, q3, q4⟩ := boxes2 hb2 hx (Below.refl _ _)
       have y0 := box_at q2 0 (.slice Ag ng cg) rfl
       have y1 := box_at q2 1 (.slice Ab nb cb) rfl
       have y2 := box_at q2 2 (.slice Af nf cf) rfl
       clear q1 q2 q3 q4)
    | (go_at_call 16
       refine (right_any _ Ag ng cg Ab nb cb Af nf cf t (HT.out.below q0) hs).mono ?_
       rw [HR.out]
       rintro e w3 ⟨rfl, hb3⟩
       clear y0 y1 y2
       have HO' := Lib.hid ((HO.out.below hb3).lower (base' := w.heap.size + 2) (by simp))
       obtain ⟨q0, q1, q2, q3, q4⟩ := boxes2 hb2 hx hb3
       have HQ := Lib.hid q0
       have hbx2 : w.heap.size + 1 < bx := by simp at hxl; omega
       clear q0 hb2 hb3 hx HO hxl
       have r0 := box_at q3 0 (.slice none 0 0) rfl
       have r1 := box_at q3 1 (.slice none 0 0) rfl
       have r2 := box_at q3 2 (.slice none 0 0) rfl
       have rf := box_free q3
       have z0 := box_at q4 0 (.slice Ag' ng' cg') rfl
       have z1 := box_at q4 1 (.slice Ab' nb' cb') rfl
       have z2 := box_at q4 2 (.slice Af' nf' cf') rfl
       have zf := box_free q4
       have a2 := box_at q2 2 (.slice Af nf cf) rfl
       have Q4 := Lib.hid q4
       have Q3 := Lib.hid q3
       clear q2 q3 q4))
  refine bodyPost_ret (v := .tuple #[.agg #[.slice Ag' ng' cg', .slice Ab' nb' cb', .slice Af' nf' cf'], .int .i64 0, .int .i64 1]) (by simp [results, Try.results13, go_sem, r0, r1, r2]) rfl ?_
  refine ⟨Ag', ng', cg', Ab', nb', cb', Af', nf', cf', rfl, ?_, ?_, HO'.out.fresh (by omega)⟩
  · exact (((HO'.out.far (by simp) _).far (by simp) _).far (by simp) _).r
  · exact ((HQ.out.setCell (by simp) _).setCell (by simp) _).setCell (by simp) _

set_option maxHeartbeats 1000000 in
theorem take_none (w : World) (Ag : Option Addr) (ng cg : Nat) (Ab : Option Addr) (nb cb : Nat) (Af : Option Addr) (nf cf : Nat) (t : Tab) (ht : TabR w (.slice Ag ng cg) (.slice Ab nb cb) (.slice Af nf cf) t) (hs : t.small) (hr : rightB t = true) (hn : nf = 0) :
    Calls Try.prog 13 #[.agg #[.slice Ag ng cg, .slice Ab nb cb, .slice Af nf cf]] w (TabPost w t [.int .i64 0, .int .i64 4]) := by
  have HT := Lib.hid ht
  have HR := Lib.hid hr
  have h0' : ((nf : Int) == 0) = true := by simp [hn]
  clear ht hr hn
  go_enter Try.func13, Try.ntmps13
  go_wp2_with (first
    | (go_at_call 22
       refine (of_any _ _ _ _ t (HT.out.below ?_) hs).mono ?_
       · exact ((Below.refl _ _).alloc (Nat.le_refl _) _).alloc (by simp) _
       rintro e w2 ⟨bx, Ag', ng', cg', Ab', nb', cb', Af', nf', cf', rfl, hx, hxl, hO, hb2⟩
       have HO := Lib.hid hO
       clear hO
       obtain ⟨q0, q1, q2, q3, q4⟩ := boxes2 hb2 hx (Below.refl _ _)
       have y0 := box_at q2 0 (.slice Ag ng cg) rfl
       have y1 := box_at q2 1 (.slice Ab nb cb) rfl
       have y2 := box_at q2 2 (.slice Af nf cf) rfl
       clear q1 q2 q3 q4)
    | (go_at_call 16
       refine (right_any _ Ag ng cg Ab nb cb Af nf cf t (HT.out.below q0) hs).mono ?_
       rw [HR.out]
       rintro e w3 ⟨rfl, hb3⟩
       clear y0 y1 y2
       have HO' := Lib.hid ((HO.out.below hb3).lower (base' := w.heap.size + 2) (by simp))
       obtain ⟨q0, q1, q2, q3, q4⟩ := boxes2 hb2 hx hb3
       have HQ := Lib.hid q0
       have hbx2 : w.heap.size + 1 < bx := by simp at hxl; omega
       clear q0 hb2 hb3 hx HO hxl
       have r0 := box_at q3 0 (.slice none 0 0) rfl
       have r1 := box_at q3 1 (.slice none 0 0) rfl
       have r2 := box_at q3 2 (.slice none 0 0) rfl
       have rf := box_free q3
       have z0 := box_at q4 0 (.slice Ag' ng' cg') rfl
       have z1 := box_at q4 1 (.slice Ab' nb' cb') rfl
       have z2 := box_at q4 2 (.slice Af' nf' cf') rfl
       have zf := box_free q4
       have a2 := box_at q2 2 (.slice Af nf cf) rfl
       have Q4 := Lib.hid q4
       have Q3 := Lib.hid q3
       clear q2 q3 q4))
  refine bodyPost_ret (v := .tuple #[.agg #[.slice Ag' ng' cg', .slice Ab' nb' cb', .slice Af' nf' cf'], .int .i64 0, .int .i64 4]) (by simp [results, Try.results13, go_sem, r0, r1, r2]) rfl ?_
  refine ⟨Ag', ng', cg', Ab', nb', cb', Af', nf', cf', rfl, ?_, ?_, HO'.out.fresh (by omega)⟩
  · exact (((HO'.out.far (by simp) _).far (by simp) _).far (by simp) _).r
  · exact ((HQ.out.setCell (by simp) _).setCell (by simp) _).setCell (by simp) _


set_option maxHeartbeats 2000000 in
theorem take_some (w : World) (Ag : Option Addr) (ng cg : Nat) (Ab : Option Addr) (nb cb : Nat) (Af : Option Addr) (nf cf : Nat) (t : Tab) (ht : TabR w (.slice Ag ng cg) (.slice Ab nb cb) (.slice Af nf cf) t) (hs : t.small) (hp : RightP t) (m : Nat) (r : List Int) (hxr : t.free = (m : Int) :: r) :
    Calls Try.prog 13 #[.agg #[.slice Ag ng cg, .slice Ab nb cb, .slice Af nf cf]] w (TabPost w ⟨t.gens, t.busy.set m true, r⟩ [.int .i64 (t.gens.getD m 0 * t.gens.length + m), .int .i64 0]) := by
  have hok := hp.h5 m (by rw [hxr]; simp)
  have hnf : 0 < nf := by
    have := ht.f.len
    rw [ints_len, hxr] at this
    simp at this
    omega
  have h0' : ((nf : Int) == 0) = false := by rw [beq_eq_false_iff_ne]; omega
  have hml : m < t.gens.length := by simp [freeOk] at hok; omega
  have hmb : m < t.busy.length := by rw [hp.h3]; exact hml
  have HF0 := Lib.hid (show (ints t.free)[0]? = some (.int .i64 m) by rw [hxr]; rfl)
  have HT := Lib.hid ht
  have HR := Lib.hid (rightB_yes hp)
  have HP := Lib.hid hp
  have HXR := Lib.hid hxr
  clear ht hxr hok hp
  go_enter Try.func13, Try.ntmps13
  go_wp2_with (first
    | (go_at_call 22
       refine (of_any _ _ _ _ t (HT.out.below ?_) hs).mono ?_
       · exact ((Below.refl _ _).alloc (Nat.le_refl _) _).alloc (by simp) _
       rintro e w2 ⟨bx, Ag', ng', cg', Ab', nb', cb', Af', nf', cf', rfl, hx, hxl, hO, hb2⟩
       have HO := Lib.hid hO
       clear hO
       obtain ⟨q0, q1, q2, q3, q4⟩ := boxes2 hb2 hx (Below.refl _ _)
       have y0 := box_at q2 0 (.slice Ag ng cg) rfl
       have y1 := box_at q2 1 (.slice Ab nb cb) rfl
       have y2 := box_at q2 2 (.slice Af nf cf) rfl
       clear q1 q2 q3 q4)
    | (go_at_call 16
       refine (right_any _ Ag ng cg Ab nb cb Af nf cf t (HT.out.below q0) hs).mono ?_
       rw [HR.out]
       rintro e w3 ⟨rfl, hb3⟩
       clear y0 y1 y2
       have HO' := Lib.hid ((HO.out.below hb3).lower (base' := w.heap.size + 2) (by simp))
       obtain ⟨q0, q1, q2, q3, q4⟩ := boxes2 hb2 hx hb3
       have HQ := Lib.hid q0
       have hbx2 : w.heap.size + 1 < bx := by simp at hxl; omega
       clear q0 hb2 hb3 hx HO hxl
       have r0 := box_at q3 0 (.slice none 0 0) rfl
       have r1 := box_at q3 1 (.slice none 0 0) rfl
       have r2 := box_at q3 2 (.slice none 0 0) rfl
       have rf := box_free q3
       have z0 := box_at q4 0 (.slice Ag' ng' cg') rfl
       have z1 := box_at q4 1 (.slice Ab' nb' cb') rfl
       have z2 := box_at q4 2 (.slice Af' nf' cf') rfl
       have zf := box_free q4
       have a2 := box_at q2 2 (.slice Af nf cf) rfl
       have Q4 := Lib.hid q4
       have Q3 := Lib.hid q3
       clear q2 q3 q4
       have hnf' : 0 < nf' := by
         have := HO'.out.f.rd.len
         have h2 := HT.out.f.len
         omega
       have hnfz : (0 : Int) < (nf' : Int) := by omega
       obtain ⟨bf, off, rfl, hbf, hbf2, hcf, hfc, hff⟩ := HO'.out.f.form' hnf'
       have f0 := hfc 0 _ HF0.out
       rw [Nat.add_zero] at f0
       obtain ⟨i3, hi3, _⟩ := Option.map_eq_some_iff.1 Try.info3
       have hsl := cut_from (P := Try.prog) 22 3 .i64 Try.underlying22 hi3 1 (by have := Try.info3; rw [hi3] at this; simp at this; exact this.2.1) (some ⟨bf, off, none⟩) nf' cf' 1 (by omega) (by omega)
       have hfd := Lib.hid (HO'.out.f.drop 1 (by omega))
       simp only [Int.toNat_one, Nat.mul_one] at hsl
       generalize (if cf' = 1 then some (⟨bf, off, none⟩ : Addr) else (some (⟨bf, off, none⟩ : Addr)).map (fun x => x.add 1)) = A2 at hsl hfd
       clear hi3
       have HBF := Lib.hid hbf2
       clear hfc hff hbf2
       have hnb' : 0 < nb' := by
         have := HO'.out.b.rd.len
         rw [bls_len] at this
         omega
       obtain ⟨bb, ob, rfl, hbb, hbb2, _, hbc, hbfr⟩ := HO'.out.b.form' hnb'
       have b0 := hbc m _ (bls_at hmb)
       generalize t.busy[m] = ob0 at b0
       have hng' : 0 < ng' := by
         have := HO'.out.g.rd.len
         rw [ints_len] at this
         omega
       have hng64 : ng' ≤ 64 := by
         have := HO'.out.g.rd.len
         rw [ints_len] at this
         have := HP.out.h2
         omega
       have hmg : m < ng' := by
         have := HO'.out.g.rd.len
         rw [ints_len] at this
         omega
       obtain ⟨bg, og, rfl, hbg, _, _, _, _⟩ := HO'.out.g.form' hng'
       have hmz : (m : Int) < (nb' : Int) := by
         have := HO'.out.b.rd.len
         rw [bls_len] at this
         omega
       have hne : ¬ bx = bb := by
         rintro rfl
         obtain ⟨cur, hcur⟩ := hbb2
         rw [Q4.out] at hcur
         injection hcur with hcur
         injection hcur with _ hcur
         cases hcur
       clear hbc hbb2))
  go_region
  go_wp2_with fail
  have hfd2 : Ow 3 w3 (w.heap.size + 2) (.slice A2 (nf' - 1) (cf' - 1)) (ints r) := by
    have := hfd.out
    rw [HXR.out] at this
    exact this
  obtain ⟨m1, m2⟩ := take_mid (B := 0) HO'.out hfd2 hmb Q4.out (Below.refl _ _)
  have hbel : Below w.heap.size w (((w3.setCell ⟨bx, 2, none⟩ (.slice A2 (nf' - 1) (cf' - 1))).setCell ⟨bb, ob + m, none⟩ (.bool true)).drew) := ((HQ.out.setCell (by simp; omega) _).setCell (by simp; omega) _).drew
  have s0 : (((w3.setCell ⟨bx, 2, none⟩ (.slice A2 (nf' - 1) (cf' - 1))).setCell ⟨bb, ob + m, none⟩ (.bool true)).drew).heap[w.heap.size + 1]? = some (.cells #[.slice none 0 0, .slice none 0 0, .slice none 0 0] 25) := by
    show ((w3.setCell ⟨bx, 2, none⟩ _).setCell ⟨bb, ob + m, none⟩ _).heap[w.heap.size + 1]? = _
    rw [Below.heap_setCell _ _ _ _ (by simp; omega), Below.heap_setCell _ _ _ _ (by simp; omega)]
    exact Q3.out
  have HFB := Lib.hid hfd2.base
  clear hsl hfd hfd2 r0 r1 r2 rf z0 z1 z2 zf a2 f0 b0 hbfr HBF HO' Q4 HQ
  generalize (((w3.setCell ⟨bx, 2, none⟩ (.slice A2 (nf' - 1) (cf' - 1))).setCell ⟨bb, ob + m, none⟩ (.bool true)).drew) = W at *
  have z0 := box_at m1 0 _ rfl
  have z1 := box_at m1 1 _ rfl
  have z2 := box_at m1 2 _ rfl
  have r0 := box_at s0 0 (.slice none 0 0) rfl
  have r1 := box_at s0 1 (.slice none 0 0) rfl
  have r2 := box_at s0 2 (.slice none 0 0) rfl
  have rf := box_free s0
  obtain ⟨_, _, he, _, hgc⟩ := m2.g.get hng'
  cases he
  have g0 := hgc m _ (ints_at hml)
  have hgb := HP.out.gen hml
  have hres : t.gens.getD m 0 = t.gens[m] := by simp [hml]
  have HRES := Lib.hid hres
  have hlg : t.gens.length = ng' := by
    have := m2.g.len
    rw [ints_len] at this
    exact this
  have M1 := Lib.hid m1
  have M2 := Lib.hid m2
  have HLG := Lib.hid hlg
  clear hgc m1 m2 s0 hres hlg
  generalize t.gens[m] = g at *
  have ne1 : ¬ bx = w.heap.size + 1 := by omega
  have ne2 : ¬ w.heap.size + 1 = bx := by omega
  have ne3 : ¬ bg = w.heap.size + 1 := by omega
  have ne4 : ¬ w.heap.size + 1 = bg := by omega
  go_region_held3 (fun w' => w'.cell? ⟨bx, 0, none⟩ = some (.slice (some ⟨bg, og, none⟩) ng' cg') ∧ w'.cell? ⟨bx, 1, none⟩ = some (.slice (some ⟨bb, ob, none⟩) nb' cb') ∧ w'.cell? ⟨bx, 2, none⟩ = some (.slice A2 (nf' - 1) (cf' - 1)) ∧ w'.cell? ⟨bg, og + m, none⟩ = some (.int .i64 g))
    (go_keep)
    (first | (go_at_call 23; refine (id_any m _ bx bg og ng' cg' g hmg hng64 hgb.1 hgb.2 ?_ ?_).mono ?_; (simp [*]); (simp [*]); rintro e w' ⟨rfl, q, rfl⟩))
  go_wp2
  refine bodyPost_ret (v := .tuple #[.agg #[.slice (some ⟨bg, og, none⟩) ng' cg', .slice (some ⟨bb, ob, none⟩) nb' cb', .slice A2 (nf' - 1) (cf' - 1)], .int .i64 (g * ng' + m), .int .i64 0]) (by simp [results, Try.results13, go_sem, r0, r1, r2]) rfl ?_
  refine ⟨_, _, _, _, _, _, _, _, _, by rw [HRES.out, HLG.out], ?_, ?_, fun k hk => ?_, fun k hk => ?_, fun k hk => by have := HFB.out k hk; omega⟩
  · refine M2.out.far3 (fun k hk => ?_) (fun k hk => ?_) (fun k hk => by have := HFB.out k hk; omega) _ _ _ _
    · have : bg = k := by simpa [Value.ownBlock] using hk
      omega
    · have : bb = k := by simpa [Value.ownBlock] using hk
      omega
  · exact (((pw_below_drewN hbel _).setCell (by simp) _).setCell (by simp) _).setCell (by simp) _
  · have : bg = k := by simpa [Value.ownBlock] using hk
    omega
  · have : bb = k := by simpa [Value.ownBlock] using hk
    omega
theorem take_any (w : World) (Ag : Option Addr) (ng cg : Nat) (Ab : Option Addr) (nb cb : Nat) (Af : Option Addr) (nf cf : Nat) (t : Tab) (ht : TabR w (.slice Ag ng cg) (.slice Ab nb cb) (.slice Af nf cf) t) (hs : t.small) :
    Calls Try.prog 13 #[.agg #[.slice Ag ng cg, .slice Ab nb cb, .slice Af nf cf]] w (TabPost w (takeS t).1 [.int .i64 (takeS t).2.1, .int .i64 (takeS t).2.2]) := by
  by_cases hp : RightP t
  · cases hq : t.free with
    | nil =>
      have hh : takeS t = (t, 0, 4) := by unfold takeS; rw [if_pos hp, hq]
      rw [hh]
      refine take_none w Ag ng cg Ab nb cb Af nf cf t ht hs (rightB_yes hp) ?_
      have := ht.f.len
      rw [ints_len, hq] at this
      exact this.symm
    | cons x r =>
      have hok := hp.h5 x (by rw [hq]; simp)
      obtain ⟨m, rfl⟩ := Int.eq_ofNat_of_zero_le (show 0 ≤ x by simp [freeOk] at hok; omega)
      have hh : takeS t = (⟨t.gens, t.busy.set m true, r⟩, t.gens.getD m 0 * t.gens.length + m, 0) := by unfold takeS; rw [if_pos hp, hq]; rfl
      rw [hh]
      exact take_some w Ag ng cg Ab nb cb Af nf cf t ht hs hp m r hq
  · have hh : takeS t = (t, 0, 1) := by unfold takeS; rw [if_neg hp]
    rw [hh]
    exact take_no w Ag ng cg Ab nb cb Af nf cf t ht hs (rightB_no hp)
end Go.Proofs.Yteaifndkmknanaa
