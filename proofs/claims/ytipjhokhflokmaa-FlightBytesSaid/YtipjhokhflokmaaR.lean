/- flight.of. -/
import Derived.Test.YtipjhokhflokmaaO
set_option linter.unusedVariables false
set_option linter.unusedSimpArgs false
namespace Go.Proofs.Ytipjhokhflokmaa
open Go.RowKit Go.Maps
open Go.Proofs.YtipjhokhflokmaaW.PrintWords

/-- flights whose lists are short -/
structure SmF (fs : List Fl) : Prop where
  n : fs.length ≤ 1000
  w : ∀ x ∈ fs, x.ws.length ≤ 1000
  k : ∀ x ∈ fs, ∀ t ∈ x.ws, okI t.id
theorem SmF.w' {ys : List FV} (h : SmF (fls ys)) : ∀ (i : Nat) (y : FV), ys[i]? = some y → y.1.ws.length ≤ 1000 := fun i y hy => h.w _ (List.mem_of_getElem? (fls_at hy))
theorem SmF.sm {ys : List FV} (h : SmF (fls ys)) {n : Nat} (hn : ys.length = n) : Sm n ys := ⟨by have := h.n; simp [fls] at this; omega, h.w', fun i y hy => h.k _ (List.mem_of_getElem? (fls_at hy))⟩
abbrev ptrv (b o : Nat) : Value := .pointer (some ⟨b, o, none⟩)
/-- three stores -/
abbrev st3 (w : World) (b : Nat) (r x V : Value) : World := ((w.setCell ⟨b, 0, none⟩ r).setCell ⟨b, 1, none⟩ x).setCell ⟨b, 2, none⟩ V
theorem st3_box {w : World} {b : Nat} {a0 a1 a2 r x V : Value} {T : TypeId} (h : w.heap[b]? = some (.cells #[a0, a1, a2] T (0, 0))) : (st3 w b r x V).heap[b]? = some (.cells #[r, x, V] T (0, 0)) := by
  unfold st3
  rw [heap_set (heap_set (heap_set h _) _)]
  rfl
theorem st3_other {w : World} {b k : Nat} {r x V : Value} (h : k ≠ b) : (st3 w b r x V).heap[k]? = w.heap[k]? := by
  unfold st3
  rw [Below.heap_setCell _ _ _ _ h, Below.heap_setCell _ _ _ _ h, Below.heap_setCell _ _ _ _ h]
theorem st3_below {w0 w : World} {B b : Nat} {r x V : Value} (h : Below B w0 w) (hb : B ≤ b) : Below B w0 (st3 w b r x V) := ((h.setCell hb _).setCell hb _).setCell hb _
theorem st3_own {w : World} {base b : Nat} {V' : Value} {ys : List FV} {cs : Array Value} {r x V : Value} (h : OwF w base V' ys) (hb : w.heap[b]? = some (.cells cs 26 (0, 0))) : OwF (st3 w b r x V) base V' ys :=
  OwF.far (OwF.far (OwF.far h hb (by decide) (by decide) _ _) (heap_set hb _) (by decide) (by decide) _ _) (heap_set (heap_set hb _) _) (by decide) (by decide) _ _
theorem OwF.at_ {w : World} {base : Nat} {A : Option Addr} {n c : Nat} {ys : List FV} (h : OwF w base (.slice A n c) ys) {i : Nat} {y : FV} (hy : ys[i]? = some y) : ∃ b off, A = some ⟨b, off, none⟩ ∧ base ≤ b ∧ FlAt w b (off + i * 8) y := by
  obtain ⟨b, off, hA, hF⟩ := h.rd.at_ hy
  subst hA
  exact ⟨b, off, rfl, h.o.lo b rfl, hF⟩
theorem fls_get {zs : List FV} {fs : List Fl} (h : fls zs = fs) {k : Nat} {x : Fl} (hx : fs[k]? = some x) : ∃ S, zs[k]? = some (x, S) := by
  subst h
  simp only [fls, List.getElem?_map, Option.map_eq_some_iff] at hx
  obtain ⟨⟨x', S⟩, hz, rfl⟩ := hx
  exact ⟨S, hz⟩
theorem fls_len {zs : List FV} {fs : List Fl} (h : fls zs = fs) : zs.length = fs.length := by rw [← h]; simp [fls]

def OfPost (w : World) (room next : Int) (fs : List Fl) (id : Int) (e : Ending) (w' : World) : Prop :=
  ∃ A n c zs, fls zs = fs ∧ OwF w' w.heap.size (.slice A n c) zs ∧ Below w.heap.size w w' ∧
    ((rightS room next fs = false ∧ e = .returned (.tuple #[fv room next (.slice A n c), .agg #[.pointer none], .int .i64 1])) ∨
     (rightS room next fs = true ∧ findG (fun x => x.id == id) fs < 0 ∧ e = .returned (.tuple #[fv room next (.slice A n c), .agg #[.pointer none], .int .i64 5])) ∨
     (rightS room next fs = true ∧ ∃ (b off k : Nat) (x : Fl), A = some ⟨b, off, none⟩ ∧ findG (fun x => x.id == id) fs = (k : Int) ∧ fs[k]? = some x ∧ x.id = id ∧ e = .returned (.tuple #[fv room next (.slice A n c), ptr b (off + k * 8), .int .i64 0])))

set_option maxRecDepth 100000 in
set_option maxHeartbeats 8000000 in
theorem of_any (w : World) (room next : Int) (A : Option Addr) (n c : Nat) (ys : List FV) (id : Int) (hr : RdF w (.slice A n c) ys) (hs : SmF (fls ys)) :
    Calls Try.prog 26 #[fv room next (.slice A n c), .int .i64 id] w (OfPost w room next (fls ys) id) := by
  have hl : ys.length = n := hr.len
  have hal1 : Below w.heap.size w (w.alloc (.cells #[.int .i64 room, .int .i64 next, .slice A n c] 26)) := (Below.refl _ _).alloc (Nat.le_refl _) _
  have hal2 : Below w.heap.size w ((w.alloc (.cells #[.int .i64 room, .int .i64 next, .slice A n c] 26)).alloc (.cells #[.int .i64 0, .int .i64 0, .slice none 0 0] 26)) := hal1.alloc (by simp) _
  have hal3 : Below w.heap.size w (((w.alloc (.cells #[.int .i64 room, .int .i64 next, .slice A n c] 26)).alloc (.cells #[.int .i64 0, .int .i64 0, .slice none 0 0] 26)).alloc (.cells #[.pointer none] 61)) := hal2.alloc (by simp; omega) _
  have x1 : (((w.alloc (.cells #[.int .i64 room, .int .i64 next, .slice A n c] 26)).alloc (.cells #[.int .i64 0, .int .i64 0, .slice none 0 0] 26)).alloc (.cells #[.pointer none] 61)).heap[w.heap.size]? = some (.cells #[.int .i64 room, .int .i64 next, .slice A n c] 26 (0, 0)) := keep ((Below.refl _ _).alloc (Nat.le_refl _) _) (keep ((Below.refl _ _).alloc (Nat.le_refl _) _) (heap_alloc_new w _))
  have x2 : (((w.alloc (.cells #[.int .i64 room, .int .i64 next, .slice A n c] 26)).alloc (.cells #[.int .i64 0, .int .i64 0, .slice none 0 0] 26)).alloc (.cells #[.pointer none] 61)).heap[w.heap.size + 1]? = some (.cells #[.int .i64 0, .int .i64 0, .slice none 0 0] 26 (0, 0)) := by
    have := keep ((Below.refl _ _).alloc (Nat.le_refl _) (.cells #[.pointer none] 61)) (heap_alloc_new (w.alloc (.cells #[.int .i64 room, .int .i64 next, .slice A n c] 26)) (.cells #[.int .i64 0, .int .i64 0, .slice none 0 0] 26))
    rwa [show (w.alloc (.cells #[.int .i64 room, .int .i64 next, .slice A n c] 26)).heap.size = w.heap.size + 1 by simp] at this
  have x3 : (((w.alloc (.cells #[.int .i64 room, .int .i64 next, .slice A n c] 26)).alloc (.cells #[.int .i64 0, .int .i64 0, .slice none 0 0] 26)).alloc (.cells #[.pointer none] 61)).heap[w.heap.size + 1 + 1]? = some (.cells #[.pointer none] 61 (0, 0)) := by
    have := heap_alloc_new ((w.alloc (.cells #[.int .i64 room, .int .i64 next, .slice A n c] 26)).alloc (.cells #[.int .i64 0, .int .i64 0, .slice none 0 0] 26)) (.cells #[.pointer none] 61)
    rwa [show ((w.alloc (.cells #[.int .i64 room, .int .i64 next, .slice A n c] 26)).alloc (.cells #[.int .i64 0, .int .i64 0, .slice none 0 0] 26)).heap.size = w.heap.size + 1 + 1 by simp] at this
  have HR := Lib.hid (hr.below hal3)
  have HS := Lib.hid hs
  clear hal1 hal2 hr hs
  go_enter Try.func26, Try.ntmps26
  go_upto_region 1 with fail
  generalize ((w.alloc (.cells #[.int .i64 room, .int .i64 next, .slice A n c] 26)).alloc (.cells #[.int .i64 0, .int .i64 0, .slice none 0 0] 26)).alloc (.cells #[.pointer none] 61) = U at *
  have HX1 := Lib.hid x1
  have HX2 := Lib.hid x2
  have HX3 := Lib.hid x3
  have HAL := Lib.hid hal3
  clear x1 x2 x3 hal3
  have z0 : U.cell? ⟨w.heap.size, 0, none⟩ = some (.int .i64 room) := box_at HX1.out 0 _ rfl
  have z1 : U.cell? ⟨w.heap.size, 1, none⟩ = some (.int .i64 next) := box_at HX1.out 1 _ rfl
  have z2 : U.cell? ⟨w.heap.size, 2, none⟩ = some (.slice A n c) := box_at HX1.out 2 _ rfl
  go_upto_region 2 with (go_at_call 22; refine (own_any U room next A n c ys HR.out (by have := HS.out.n; rw [← hl]; simpa [fls] using this) HS.out.w').mono ?_; rintro e w2 ⟨A2, n2, c2, zs, rfl, hfz, hO2, hb2⟩; have y0 : w2.cell? ⟨w.heap.size, 0, none⟩ = some (.int .i64 room) := box_at (keep hb2 HX1.out) 0 _ rfl; have y1 : w2.cell? ⟨w.heap.size, 1, none⟩ = some (.int .i64 next) := box_at (keep hb2 HX1.out) 1 _ rfl; have y2 : w2.cell? ⟨w.heap.size, 2, none⟩ = some (.slice A n c) := box_at (keep hb2 HX1.out) 2 _ rfl; have yf := box_free (keep hb2 HX1.out); have HFZ := Lib.hid hfz; have HO2 := Lib.hid hO2; have HB2 := Lib.hid hb2; clear hfz hO2 hb2)
  have hO3 := st3_own (r := .int .i64 room) (x := .int .i64 next) (V := .slice A2 n2 c2) HO2.out (keep HB2.out HX1.out)
  have hx1 := st3_box (r := .int .i64 room) (x := .int .i64 next) (V := .slice A2 n2 c2) (keep HB2.out HX1.out)
  have hx2 : (st3 w2 w.heap.size (.int .i64 room) (.int .i64 next) (.slice A2 n2 c2)).heap[w.heap.size + 1]? = _ := (st3_other (by omega)).trans (keep HB2.out HX2.out)
  have hx3 : (st3 w2 w.heap.size (.int .i64 room) (.int .i64 next) (.slice A2 n2 c2)).heap[w.heap.size + 1 + 1]? = _ := (st3_other (by omega)).trans (keep HB2.out HX3.out)
  have hb3 := st3_below (r := .int .i64 room) (x := .int .i64 next) (V := .slice A2 n2 c2) (HAL.out.trans (HB2.out.mono HAL.out.size)) (Nat.le_refl w.heap.size)
  unfold st3 at hO3 hx1 hx2 hx3 hb3
  generalize ((w2.setCell ⟨w.heap.size, 0, none⟩ (.int .i64 room)).setCell ⟨w.heap.size, 1, none⟩ (.int .i64 next)).setCell ⟨w.heap.size, 2, none⟩ (.slice A2 n2 c2) = W3 at *
  have hsF : SmF (fls zs) := by rw [HFZ.out]; exact HS.out
  have hl2 : zs.length = n2 := hO3.rd.len
  have HO := Lib.hid (hO3.lower HAL.out.size)
  have HSZ := Lib.hid hsF
  have HY1 := Lib.hid hx1
  have HY2 := Lib.hid hx2
  have HY3 := Lib.hid hx3
  have HB3 := Lib.hid hb3
  clear z0 z1 z2 y0 y1 y2 yf hO3 hx1 hx2 hx3 hb3 hsF HX1 HX2 HX3 HO2 HB2 HAL HR
  have q0 : W3.cell? ⟨w.heap.size, 0, none⟩ = some (.int .i64 room) := box_at HY1.out 0 _ rfl
  have q1 : W3.cell? ⟨w.heap.size, 1, none⟩ = some (.int .i64 next) := box_at HY1.out 1 _ rfl
  have q2 : W3.cell? ⟨w.heap.size, 2, none⟩ = some (.slice A2 n2 c2) := box_at HY1.out 2 _ rfl
  have c13 := right_any W3 room next A2 n2 c2 zs HO.out.rd (HSZ.out.sm hl2)
  rw [HFZ.out] at c13
  have C13 := Lib.hid c13
  clear c13
  have fin : ∀ (W : World) (p : Value), OwF W w.heap.size (.slice A2 n2 c2) zs → Below w.heap.size w W → W.heap[w.heap.size + 1]? = some (.cells #[.int .i64 0, .int .i64 0, .slice none 0 0] 26 (0, 0)) → W.heap[w.heap.size + 1 + 1]? = some (.cells #[.pointer none] 61 (0, 0)) →
      OwF ((st3 W (w.heap.size + 1) (.int .i64 room) (.int .i64 next) (.slice A2 n2 c2)).setCell ⟨w.heap.size + 1 + 1, 0, none⟩ p) w.heap.size (.slice A2 n2 c2) zs ∧ Below w.heap.size w ((st3 W (w.heap.size + 1) (.int .i64 room) (.int .i64 next) (.slice A2 n2 c2)).setCell ⟨w.heap.size + 1 + 1, 0, none⟩ p) := fun W p h1 h2 h3 h4 =>
    ⟨OwF.far (st3_own h1 h3) ((st3_other (by omega)).trans h4) (by decide) (by decide) _ _, (st3_below h2 (by omega)).setCell (by simp; omega) _⟩
  have FIN := Lib.hid fin
  clear fin
  cases hq : rightS room next (fls ys) with
  | false =>
    have HQ := Lib.hid hq; clear hq
    go_wp2_with (go_at_call 13; refine C13.out.mono ?_; rw [HQ.out]; rintro e w4 ⟨rfl, hb4⟩; have r0 : w4.cell? ⟨w.heap.size, 0, none⟩ = some (.int .i64 room) := box_at (keep hb4 HY1.out) 0 _ rfl; have r1 : w4.cell? ⟨w.heap.size, 1, none⟩ = some (.int .i64 next) := box_at (keep hb4 HY1.out) 1 _ rfl; have r2 : w4.cell? ⟨w.heap.size, 2, none⟩ = some (.slice A2 n2 c2) := box_at (keep hb4 HY1.out) 2 _ rfl; have s0 := box_at (keep hb4 HY2.out) 0 _ rfl; have s1 := box_at (keep hb4 HY2.out) 1 _ rfl; have s2 := box_at (keep hb4 HY2.out) 2 _ rfl; have sf := box_free (keep hb4 HY2.out); have p0 := box_at (keep hb4 HY3.out) 0 _ rfl; have pf := box_free (keep hb4 HY3.out))
    have hfin := FIN.out w4 (.pointer none) (HO.out.below hb4) (HB3.out.trans (hb4.mono HB3.out.size)) (keep hb4 HY2.out) (keep hb4 HY3.out)
    refine bodyPost_ret (v := .tuple #[fv room next (.slice A2 n2 c2), .agg #[.pointer none], .int .i64 1]) (by simp [results, Try.results26, go_sem, s0, s1, s2, p0]) rfl ?_
    exact ⟨A2, n2, c2, zs, HFZ.out, hfin.1, hfin.2, .inl ⟨HQ.out, rfl⟩⟩
  | true =>
    have HQ := Lib.hid hq; clear hq
    go_upto_region 4 with (go_at_call 13; refine C13.out.mono ?_; rw [HQ.out]; rintro e w4 ⟨rfl, hb4⟩; have HB4 := Lib.hid (HB3.out.trans (hb4.mono HB3.out.size)); have HO4 := Lib.hid (HO.out.below hb4); have HZ1 := Lib.hid (keep hb4 HY1.out); have HZ2 := Lib.hid (keep hb4 HY2.out); have HZ3 := Lib.hid (keep hb4 HY3.out); clear hb4)
    clear q0 q1 q2 HO HB3 HY1 HY2 HY3 C13
    have r0 : w4.cell? ⟨w.heap.size, 0, none⟩ = some (.int .i64 room) := box_at HZ1.out 0 _ rfl
    have r1 : w4.cell? ⟨w.heap.size, 1, none⟩ = some (.int .i64 next) := box_at HZ1.out 1 _ rfl
    have r2 : w4.cell? ⟨w.heap.size, 2, none⟩ = some (.slice A2 n2 c2) := box_at HZ1.out 2 _ rfl
    have c41 := find_any w4 room next A2 n2 c2 zs id HO4.out.rd
    rw [HFZ.out] at c41
    have C41 := Lib.hid c41
    clear c41
    by_cases hf : findG (fun x => x.id == id) (fls ys) < 0
    · have HFN := Lib.hid hf
      go_upto_region 6 with (go_at_call 41; refine C41.out.mono ?_; rintro e w5 ⟨rfl, hb5⟩; have HB5 := Lib.hid (HB4.out.trans (hb5.mono HB4.out.size)); have HO5 := Lib.hid (HO4.out.below hb5); have HZ5 := Lib.hid (keep hb5 HZ2.out); have HZ6 := Lib.hid (keep hb5 HZ3.out); have t0 : w5.cell? ⟨w.heap.size, 0, none⟩ = some (.int .i64 room) := box_at (keep hb5 HZ1.out) 0 _ rfl; have t1 : w5.cell? ⟨w.heap.size, 1, none⟩ = some (.int .i64 next) := box_at (keep hb5 HZ1.out) 1 _ rfl; have t2 : w5.cell? ⟨w.heap.size, 2, none⟩ = some (.slice A2 n2 c2) := box_at (keep hb5 HZ1.out) 2 _ rfl; clear hb5)
      clear r0 r1 r2
      have s0 := box_at HZ5.out 0 _ rfl
      have s1 := box_at HZ5.out 1 _ rfl
      have s2 := box_at HZ5.out 2 _ rfl
      have sf := box_free HZ5.out
      have p0 := box_at HZ6.out 0 _ rfl
      have pf := box_free HZ6.out
      go_wp2_with fail
      have hfin := FIN.out w5 (.pointer none) HO5.out HB5.out HZ5.out HZ6.out
      refine bodyPost_ret (v := .tuple #[fv room next (.slice A2 n2 c2), .agg #[.pointer none], .int .i64 5]) (by simp [results, Try.results26, go_sem, s0, s1, s2, p0]) rfl ?_
      exact ⟨A2, n2, c2, zs, HFZ.out, hfin.1, hfin.2, .inr (.inl ⟨HQ.out, HFN.out, rfl⟩)⟩
    · obtain ⟨k, x, hk, hx, hp⟩ := findG_at hf
      have hp' : x.id = id := by simpa using hp
      obtain ⟨S, hzk⟩ := fls_get HFZ.out hx
      obtain ⟨b, off, hA2, _, _⟩ := HO4.out.at_ hzk
      subst hA2
      have hkn : k < n2 := by have := (List.getElem?_eq_some_iff.1 hzk).1; omega
      have HKK := Lib.hid hk
      rw [hk] at C41
      have HXX := Lib.hid hx
      have HPI := Lib.hid hp'
      have hk0 : ¬ (k : Int) < 0 := by omega
      have hk1 : (k : Int) < (n2 : Int) := by omega
      clear hf hk hx hp hp' hzk
      go_upto_region 7 with (go_at_call 41; refine C41.out.mono ?_; rintro e w5 ⟨rfl, hb5⟩; have HB5 := Lib.hid (HB4.out.trans (hb5.mono HB4.out.size)); have HO5 := Lib.hid (HO4.out.below hb5); have HZ5 := Lib.hid (keep hb5 HZ2.out); have HZ6 := Lib.hid (keep hb5 HZ3.out); have HZ7 := Lib.hid (keep hb5 HZ1.out); clear hb5)
      clear r0 r1 r2
      have s0 : w5.cell? ⟨w.heap.size + 1, 0, none⟩ = some (.int .i64 0) := box_at HZ5.out 0 _ rfl
      have s1 : w5.cell? ⟨w.heap.size + 1, 1, none⟩ = some (.int .i64 0) := box_at HZ5.out 1 _ rfl
      have s2 : w5.cell? ⟨w.heap.size + 1, 2, none⟩ = some (.slice none 0 0) := box_at HZ5.out 2 _ rfl
      have sf : ∀ j, w5.frozen? ⟨w.heap.size + 1, j, none⟩ = false := box_free HZ5.out
      have p0 : w5.cell? ⟨w.heap.size + 1 + 1, 0, none⟩ = some (.pointer none) := box_at HZ6.out 0 _ rfl
      have pf : ∀ j, w5.frozen? ⟨w.heap.size + 1 + 1, j, none⟩ = false := box_free HZ6.out
      have hb9 : Below w.heap.size w w5.drew := below_drew HB5.out
      have hO9 : OwF w5.drew w.heap.size (.slice (some ⟨b, off, none⟩) n2 c2) zs := HO5.out.below (below_drew (Below.refl _ _))
      have hfin := Lib.hid (FIN.out w5.drew (ptrv b (off + k * 8)) hO9 hb9 HZ5.out HZ6.out)
      refine wp_region_held_drew (S := fun W' => W'.cell? ⟨w.heap.size, 0, none⟩ = some (.int .i64 room) ∧ W'.cell? ⟨w.heap.size, 1, none⟩ = some (.int .i64 next) ∧ W'.cell? ⟨w.heap.size, 2, none⟩ = some (.slice (some ⟨b, off, none⟩) n2 c2)) (by kernel_rfl) (⟨box_at HZ7.out 0 _ rfl, box_at HZ7.out 1 _ rfl, box_at HZ7.out 2 _ rfl⟩) (fun hHeld => ?_)
      refine wpAnyH_take (i := 0) (oi := _) (v := ?v0a) rfl (by kernel_rfl) (by kernel_rfl) (by kernel_rfl) (fun _ _ _ h => h) (Or.inl ⟨by kernel_rfl, ?y0a⟩) (by assumption) ?r0a
      case y0a => (intro w hSw; (try dsimp only at hSw); go_simp; try (with_reducible rfl))
      case r0a =>
        simp only [List.getElem_toArray, List.getElem_cons_succ, List.getElem_cons_zero, Act.put, List.setIfInBounds_toArray, List.set_cons_zero, List.set_cons_succ]
        refine wpAnyH_take (i := 1) (oi := _) (v := ?v1a) rfl (by kernel_rfl) (by kernel_rfl) (by kernel_rfl) (fun _ _ _ h => h) (Or.inl ⟨by kernel_rfl, ?y1a⟩) (by assumption) ?r1a
        case y1a => (intro w hSw; (try dsimp only at hSw); go_simp; try (with_reducible rfl))
        case r1a =>
          simp only [List.getElem_toArray, List.getElem_cons_succ, List.getElem_cons_zero, Act.put, List.setIfInBounds_toArray, List.set_cons_zero, List.set_cons_succ]
          refine wpAnyH_take (i := 2) (oi := _) (v := ?v2a) rfl (by kernel_rfl) (by kernel_rfl) (by kernel_rfl) (fun _ _ _ h => h) (Or.inl ⟨by kernel_rfl, ?y2a⟩) (by assumption) ?r2a
          case y2a => (intro w hSw; (try dsimp only at hSw); go_simp; try (with_reducible rfl))
          case r2a =>
            simp only [List.getElem_toArray, List.getElem_cons_succ, List.getElem_cons_zero, Act.put, List.setIfInBounds_toArray, List.set_cons_zero, List.set_cons_succ]
            refine wpAnyH_take (i := 3) (oi := _) (v := ?v3a) rfl (by kernel_rfl) (by kernel_rfl) (by kernel_rfl) (fun _ _ _ h => h) (Or.inl ⟨by kernel_rfl, ?y3a⟩) (by assumption) ?r3a
            case y3a => (intro w hSw; (try dsimp only at hSw); go_simp; try (with_reducible rfl))
            case r3a =>
              simp only [List.getElem_toArray, List.getElem_cons_succ, List.getElem_cons_zero, Act.put, List.setIfInBounds_toArray, List.set_cons_zero, List.set_cons_succ]
              refine wpAnyH_take (i := 4) (oi := _) (v := ?v4a) rfl (by kernel_rfl) (by kernel_rfl) (by kernel_rfl) (fun _ _ _ h => h) (Or.inl ⟨by kernel_rfl, ?y4a⟩) (by assumption) ?r4a
              case y4a => (intro w hSw; (try dsimp only at hSw); go_simp; try (with_reducible rfl))
              case r4a =>
                simp only [List.getElem_toArray, List.getElem_cons_succ, List.getElem_cons_zero, Act.put, List.setIfInBounds_toArray, List.set_cons_zero, List.set_cons_succ]
                refine wpAnyH_take (i := 5) (oi := _) (v := ?v5a) rfl (by kernel_rfl) (by kernel_rfl) (by kernel_rfl) (fun _ _ _ h => h) (Or.inl ⟨by kernel_rfl, ?y5a⟩) (by assumption) ?r5a
                case y5a => (intro w hSw; (try dsimp only at hSw); go_simp; try (with_reducible rfl))
                case r5a =>
                  simp only [List.getElem_toArray, List.getElem_cons_succ, List.getElem_cons_zero, Act.put, List.setIfInBounds_toArray, List.set_cons_zero, List.set_cons_succ]
                  refine wpAnyH_ready (rs := [6]) (by kernel_rfl) (by simp) ?_
                  refine AllReadyH.cons (o := _) rfl (fun K hK => ?_) AllReadyH.nil
                  go_simp
                  skip
                  go_wp2_with fail
                  refine hK.out _ _ (by have ne9 : ¬ w.heap.size = w.heap.size + 1 + 1 := (by omega); simpa [cell_far, ne9] using hHeld) (fun hHeld => ?_)
                  clear hK K
                  try simp only [List.getElem_toArray, List.getElem_cons_succ, List.getElem_cons_zero, Act.put, List.setIfInBounds_toArray, List.set_cons_zero, List.set_cons_succ]
                  refine wpAnyH_ready (rs := [7]) (by kernel_rfl) (by simp) ?_
                  refine AllReadyH.cons (o := _) rfl (fun K hK => ?_) AllReadyH.nil
                  go_simp
                  skip
                  go_wp2_with fail
                  refine hK.out _ _ (by have ne9 : ¬ w.heap.size = w.heap.size + 1 + 1 := (by omega); simpa [cell_far, ne9] using hHeld) (fun hHeld => ?_)
                  clear hK K
                  try simp only [List.getElem_toArray, List.getElem_cons_succ, List.getElem_cons_zero, Act.put, List.setIfInBounds_toArray, List.set_cons_zero, List.set_cons_succ]
                  refine wpAnyH_take (i := 8) (oi := _) (v := ?v8a) rfl (by kernel_rfl) (by kernel_rfl) (by kernel_rfl) (fun _ _ _ h => h) (Or.inl ⟨by kernel_rfl, ?y8a⟩) (by assumption) ?r8a
                  case y8a => (intro w hSw; (try dsimp only at hSw); go_simp; try (with_reducible rfl))
                  case r8a =>
                    simp only [List.getElem_toArray, List.getElem_cons_succ, List.getElem_cons_zero, Act.put, List.setIfInBounds_toArray, List.set_cons_zero, List.set_cons_succ]
                    refine wpAnyH_done (by kernel_rfl) ?_ _
                    clear hHeld
                    go_wp2_with fail
                    refine bodyPost_ret (v := .tuple #[fv room next (.slice (some ⟨b, off, none⟩) n2 c2), ptr b (off + k * 8), .int .i64 0]) (by simp [results, Try.results26, go_sem, s0, s1, s2, p0]) rfl ?_
                    exact ⟨_, n2, c2, zs, HFZ.out, hfin.out.1, hfin.out.2, .inr (.inr ⟨HQ.out, b, off, k, x, rfl, HKK.out, HXX.out, HPI.out, rfl⟩)⟩
      
end Go.Proofs.Ytipjhokhflokmaa
