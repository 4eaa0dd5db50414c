/- flight.End, lockageref18.End. -/
import Derived.Test.YtipjhokhflokmaaR
set_option linter.unusedVariables false
set_option linter.unusedSimpArgs false
namespace Go.Proofs.Ytipjhokhflokmaa
open Go.RowKit Go.Maps
open Go.Proofs.YtipjhokhflokmaaW.PrintWords

theorem OwF.cell {w : World} {base b off n c : Nat} {zs : List FV} (h : OwF w base (.slice (some ⟨b, off, none⟩) n c) zs) {k : Nat} {y : FV} (hz : zs[k]? = some y) {j : Nat} {v : Value} (hv : (fenc y)[j]? = some v) :
    w.cell? ⟨b, off + k * 8 + j, none⟩ = some v ∧ w.frozen? ⟨b, off + k * 8 + j, none⟩ = false := by
  have hl := h.o.rd.len
  have hk := (List.getElem?_eq_some_iff.1 hz).1
  obtain ⟨b', off', hA, _, _, _, hc, hf⟩ := h.o.form (by omega)
  injection hA with hA
  injection hA with h1 h2
  subst h1; subst h2
  exact ⟨hc k j y _ hz hv, hf _⟩
/-- a field is stored into -/
theorem OwF.put1 {w : World} {base b off n c : Nat} {zs : List FV} (h : OwF w base (.slice (some ⟨b, off, none⟩) n c) zs) {k : Nat} {x x' : Fl} {S : Sl} (hz : zs[k]? = some (x, S)) (j : Nat) (hj : j < 8) {v : Value} (hx : fenc (x', S) = (fenc (x, S)).set j v) (hw : x'.ws = x.ws) :
    OwF (w.setCell ⟨b, off + k * 8 + j, none⟩ v) base (.slice (some ⟨b, off, none⟩) n c) (zs.set k (x', S)) := by
  have hk := (List.getElem?_eq_some_iff.1 hz).1
  obtain ⟨cur, hcur⟩ := h.o.typed b rfl
  have far : ∀ {V : Value} {es : List Tm}, OwE tenc 2 47 w base V es → OwE tenc 2 47 (w.setCell ⟨b, off + k * 8 + j, none⟩ v) base V es := fun hv => ts_far hv hcur (by decide) _ _
  have at2 : ∀ {i : Nat} {y : FV}, (zs.set k (x', S))[i]? = some y → ∃ y0 : FV, zs[i]? = some y0 ∧ y0.2 = y.2 ∧ y0.1.ws = y.1.ws := by
    intro i y hy
    by_cases hik : i = k
    · subst hik
      rw [List.getElem?_set_self hk] at hy
      injection hy with hy
      subst hy
      exact ⟨_, hz, rfl, hw.symm⟩
    · rw [List.getElem?_set_ne (Ne.symm hik)] at hy
      exact ⟨y, hy, rfl, rfl⟩
  refine ⟨h.o.set hz hj hx, fun i y hy => ?_, fun i j2 y z hij hy hz2 k2 hk2 => ?_⟩
  · obtain ⟨y0, h0, h1, h2⟩ := at2 hy
    have := far (h.r i y0 h0)
    rwa [h1, h2] at this
  · obtain ⟨y0, h0, h1, _⟩ := at2 hy
    obtain ⟨z0, g0, g1, _⟩ := at2 hz2
    rw [← h1] at hk2
    rw [← g1]
    exact h.ne i j2 y0 z0 hij h0 g0 k2 hk2
/-- who waits is stored anew -/
theorem OwF.put7 {w : World} {base b off n c : Nat} {zs : List FV} (h : OwF w base (.slice (some ⟨b, off, none⟩) n c) zs) {k : Nat} {x x' : Fl} {S S' : Sl} (hz : zs[k]? = some (x, S)) (hx : fenc (x', S') = (fenc (x, S)).set 7 S'.v) (hO : OwE tenc 2 47 w base S'.v x'.ws)
    (hne : ∀ (i : Nat) (y : FV), i ≠ k → zs[i]? = some y → ∀ q, y.2.v.ownBlock = some q → S'.v.ownBlock ≠ some q) :
    OwF (w.setCell ⟨b, off + k * 8 + 7, none⟩ S'.v) base (.slice (some ⟨b, off, none⟩) n c) (zs.set k (x', S')) := by
  have hk := (List.getElem?_eq_some_iff.1 hz).1
  obtain ⟨cur, hcur⟩ := h.o.typed b rfl
  have far : ∀ {V : Value} {es : List Tm}, OwE tenc 2 47 w base V es → OwE tenc 2 47 (w.setCell ⟨b, off + k * 8 + 7, none⟩ S'.v) base V es := fun hv => ts_far hv hcur (by decide) _ _
  refine ⟨h.o.set hz (by decide) hx, fun i y hy => ?_, fun i j2 y z hij hy hz2 k2 hk2 => ?_⟩
  · by_cases hik : i = k
    · subst hik
      rw [List.getElem?_set_self hk] at hy
      injection hy with hy
      subst hy
      exact far hO
    · rw [List.getElem?_set_ne (Ne.symm hik)] at hy
      exact far (h.r i y hy)
  · by_cases hik : i = k
    · subst hik
      rw [List.getElem?_set_self hk] at hy
      injection hy with hy
      subst hy
      rw [List.getElem?_set_ne hij] at hz2
      intro hz3
      exact hne j2 z (Ne.symm hij) hz2 k2 hz3 hk2
    · rw [List.getElem?_set_ne (Ne.symm hik)] at hy
      by_cases hjk : j2 = k
      · subst hjk
        rw [List.getElem?_set_self hk] at hz2
        injection hz2 with hz2
        subst hz2
        exact hne i y hik hy k2 hk2
      · rw [List.getElem?_set_ne (Ne.symm hjk)] at hz2
        exact h.ne i j2 y z hij hy hz2 k2 hk2
theorem fls_set {zs : List FV} {fs : List Fl} (h : fls zs = fs) (k : Nat) (x : Fl) (S : Sl) : fls (zs.set k (x, S)) = fs.set k x := by
  subst h
  simp [fls, List.map_set]
/-- of's answer, in one form -/
def OfCase (room next : Int) (fs : List Fl) (id : Int) (A : Option Addr) (pa : Option Addr) (er : Int) : Prop :=
  (rightS room next fs = false ∧ pa = none ∧ er = 1) ∨ (rightS room next fs = true ∧ findG (fun x => x.id == id) fs < 0 ∧ pa = none ∧ er = 5) ∨
  (rightS room next fs = true ∧ ∃ (b off k : Nat) (x : Fl), A = some ⟨b, off, none⟩ ∧ findG (fun x => x.id == id) fs = (k : Int) ∧ fs[k]? = some x ∧ x.id = id ∧ pa = some ⟨b, off + k * 8, none⟩ ∧ er = 0)
theorem of_any2 (w : World) (room next : Int) (A : Option Addr) (n c : Nat) (ys : List FV) (id : Int) (hr : RdF w (.slice A n c) ys) (hs : SmF (fls ys)) :
    Calls Try.prog 26 #[fv room next (.slice A n c), .int .i64 id] w fun e w' => ∃ (A2 : Option Addr) (n2 c2 : Nat) (zs : List FV) (pa : Option Addr) (er : Int), e = .returned (.tuple #[fv room next (.slice A2 n2 c2), .agg #[.pointer pa], .int .i64 er]) ∧ fls zs = fls ys ∧ OwF w' w.heap.size (.slice A2 n2 c2) zs ∧ Below w.heap.size w w' ∧ OfCase room next (fls ys) id A2 pa er := by
  refine (of_any w room next A n c ys id hr hs).mono ?_
  rintro e w' ⟨A2, n2, c2, zs, h1, h2, h3, (⟨hq, rfl⟩ | ⟨hq, hf, rfl⟩ | ⟨hq, b, off, k, x, hA, hf, hx, hpi, rfl⟩)⟩
  · exact ⟨A2, n2, c2, zs, none, 1, rfl, h1, h2, h3, .inl ⟨hq, rfl, rfl⟩⟩
  · exact ⟨A2, n2, c2, zs, none, 5, rfl, h1, h2, h3, .inr (.inl ⟨hq, hf, rfl, rfl⟩)⟩
  · exact ⟨A2, n2, c2, zs, some ⟨b, off + k * 8, none⟩, 0, rfl, h1, h2, h3, .inr (.inr ⟨hq, b, off, k, x, hA, hf, hx, hpi, rfl, rfl⟩)⟩
/-- what an operation leaves -/
def OpPost (w : World) (room next : Int) (fs : List Fl) (ex : List Value) (e : Ending) (w' : World) : Prop :=
  ∃ A n c zs, e = .returned (.tuple (fv room next (.slice A n c) :: ex).toArray) ∧ fls zs = fs ∧ OwF w' w.heap.size (.slice A n c) zs ∧ Below w.heap.size w w'
def updAt (fs : List Fl) (k : Nat) (f : Fl → Fl) : List Fl := match fs[k]? with | some x => fs.set k (f x) | none => fs
theorem updAt_some {fs : List Fl} {k : Nat} {x : Fl} (h : fs[k]? = some x) (f : Fl → Fl) : updAt fs k f = fs.set k (f x) := by unfold updAt; rw [h]
abbrev findF (fs : List Fl) (id : Int) : Int := findG (fun x => x.id == id) fs
/-- a flight is ended -/
def endOp (room next : Int) (fs : List Fl) (id : Int) : List Fl × Int :=
  if rightS room next fs = false then (fs, 1) else if findF fs id < 0 then (fs, 5) else (updAt fs (findF fs id).toNat (fun x => { x with done := true }), 0)
theorem endOp1 {room next : Int} {fs : List Fl} (h : rightS room next fs = false) (id : Int) : endOp room next fs id = (fs, 1) := if_pos h
theorem endOp5 {room next : Int} {fs : List Fl} (h : rightS room next fs = true) {id : Int} (hf : findF fs id < 0) : endOp room next fs id = (fs, 5) := by unfold endOp; rw [if_neg (by rw [h]; decide), if_pos hf]
theorem endOp0 {room next : Int} {fs : List Fl} (h : rightS room next fs = true) {id : Int} {k : Nat} {x : Fl} (hf : findF fs id = (k : Int)) (hx : fs[k]? = some x) : endOp room next fs id = (fs.set k { x with done := true }, 0) := by
  unfold endOp
  rw [if_neg (by rw [h]; decide), hf, if_neg (by omega), Int.toNat_natCast, updAt_some hx]
/-- the result's box is filled, and returned -/
theorem ret_own {w0 W : World} {b : Nat} {room next : Int} {A : Option Addr} {n c : Nat} {zs : List FV} (h : OwF W w0.heap.size (.slice A n c) zs) (hb : Below w0.heap.size w0 W) (hx : W.heap[b]? = some (.cells #[.int .i64 0, .int .i64 0, .slice none 0 0] 26 (0, 0))) (hle : w0.heap.size ≤ b) :
    OwF (st3 W b (.int .i64 room) (.int .i64 next) (.slice A n c)) w0.heap.size (.slice A n c) zs ∧ Below w0.heap.size w0 (st3 W b (.int .i64 room) (.int .i64 next) (.slice A n c)) := ⟨st3_own h hx, st3_below hb hle⟩

/-- behind 'f, x, e := of(f, id)' -/
structure OfS (w W : World) (t6 : Nat) (room next : Int) (V : Value) (zs : List FV) (pa : Option Addr) : Prop where
  bx : W.heap[w.heap.size]? = some (.cells #[.int .i64 room, .int .i64 next, V] 26 (0, 0))
  bz : W.heap[w.heap.size + 1]? = some (.cells #[.int .i64 0, .int .i64 0, .slice none 0 0] 26 (0, 0))
  tp : W.heap[t6]? = some (.cells #[.pointer pa] 61 (0, 0))
  ow : OwF W w.heap.size V zs
  bw : Below w.heap.size w W
  t6 : w.heap.size + 1 < t6
theorem of_setup {w U w2 : World} {room next : Int} {V V0 : Value} {zs : List FV} (pa : Option Addr) (hal : Below w.heap.size w U) (x1 : U.heap[w.heap.size]? = some (.cells #[.int .i64 room, .int .i64 next, V0] 26 (0, 0))) (x2 : U.heap[w.heap.size + 1]? = some (.cells #[.int .i64 0, .int .i64 0, .slice none 0 0] 26 (0, 0)))
    (hO : OwF w2 U.heap.size V zs) (hb : Below U.heap.size U w2) :
    OfS w ((st3 (w2.alloc (.cells #[.pointer none] 61)) w.heap.size (.int .i64 room) (.int .i64 next) V).setCell ⟨w2.heap.size, 0, none⟩ (.pointer pa)) w2.heap.size room next V zs pa := by
  have hb2 : Below U.heap.size U (w2.alloc (.cells #[.pointer none] 61)) := hb.alloc hb.size _
  have h1 := (Array.getElem?_eq_some_iff.1 x1).1
  have h2 := (Array.getElem?_eq_some_iff.1 x2).1
  have hs := hb.size
  have h6 : (st3 (w2.alloc (.cells #[.pointer none] 61)) w.heap.size (.int .i64 room) (.int .i64 next) V).heap[w2.heap.size]? = some (.cells #[.pointer none] 61 (0, 0)) := (st3_other (by omega)).trans (heap_alloc_new w2 _)
  refine ⟨?_, ?_, ?_, ?_, ?_, by omega⟩
  · rw [Below.heap_setCell _ _ _ _ (by simp; omega)]
    exact st3_box (keep hb2 x1)
  · rw [Below.heap_setCell _ _ _ _ (by simp; omega)]
    exact (st3_other (by omega)).trans (keep hb2 x2)
  · rw [heap_set h6]
    rfl
  · exact OwF.far (st3_own ((hO.below ((Below.refl _ _).alloc (Nat.le_refl _) _)).lower hal.size) (keep hb2 x1)) h6 (by decide) (by decide) _ _
  · exact (st3_below (hal.trans (hb2.mono hal.size)) (Nat.le_refl _)).setCell (by simp; omega) _

set_option maxRecDepth 100000 in
set_option maxHeartbeats 8000000 in
theorem endf_any (w : World) (room next : Int) (A : Option Addr) (n c : Nat) (ys : List FV) (id : Int) (hr : RdF w (.slice A n c) ys) (hs : SmF (fls ys)) :
    Calls Try.prog 18 #[fv room next (.slice A n c), .int .i64 id] w (OpPost w room next (endOp room next (fls ys) id).1 [.int .i64 (endOp room next (fls ys) id).2]) := by
  have hal1 : Below w.heap.size w (w.alloc (.cells #[.int .i64 room, .int .i64 next, .slice A n c] 26)) := (Below.refl _ _).alloc (Nat.le_refl _) _
  have hal2 : Below w.heap.size w ((w.alloc (.cells #[.int .i64 room, .int .i64 next, .slice A n c] 26)).alloc (.cells #[.int .i64 0, .int .i64 0, .slice none 0 0] 26)) := hal1.alloc (by simp) _
  have x1 : ((w.alloc (.cells #[.int .i64 room, .int .i64 next, .slice A n c] 26)).alloc (.cells #[.int .i64 0, .int .i64 0, .slice none 0 0] 26)).heap[w.heap.size]? = some (.cells #[.int .i64 room, .int .i64 next, .slice A n c] 26 (0, 0)) := keep ((Below.refl _ _).alloc (Nat.le_refl _) _) (heap_alloc_new w _)
  have x2 : ((w.alloc (.cells #[.int .i64 room, .int .i64 next, .slice A n c] 26)).alloc (.cells #[.int .i64 0, .int .i64 0, .slice none 0 0] 26)).heap[w.heap.size + 1]? = some (.cells #[.int .i64 0, .int .i64 0, .slice none 0 0] 26 (0, 0)) := by
    have := heap_alloc_new (w.alloc (.cells #[.int .i64 room, .int .i64 next, .slice A n c] 26)) (.cells #[.int .i64 0, .int .i64 0, .slice none 0 0] 26)
    rwa [show (w.alloc (.cells #[.int .i64 room, .int .i64 next, .slice A n c] 26)).heap.size = w.heap.size + 1 by simp] at this
  have HR := Lib.hid (hr.below hal2)
  have HS := Lib.hid hs
  clear hal1 hr hs
  go_enter Try.func18, Try.ntmps18
  go_upto_region 1 with fail
  generalize (w.alloc (.cells #[.int .i64 room, .int .i64 next, .slice A n c] 26)).alloc (.cells #[.int .i64 0, .int .i64 0, .slice none 0 0] 26) = U at *
  have HX1 := Lib.hid x1
  have HX2 := Lib.hid x2
  have HAL := Lib.hid hal2
  clear x1 x2 hal2
  have z0 : U.cell? ⟨w.heap.size, 0, none⟩ = some (.int .i64 room) := box_at HX1.out 0 _ rfl
  have z1 : U.cell? ⟨w.heap.size, 1, none⟩ = some (.int .i64 next) := box_at HX1.out 1 _ rfl
  have z2 : U.cell? ⟨w.heap.size, 2, none⟩ = some (.slice A n c) := box_at HX1.out 2 _ rfl
  have c26 := Lib.hid (of_any2 U room next A n c ys id HR.out HS.out)
  go_upto_region 2 with (go_at_call 26; refine c26.out.mono ?_; rintro e w2 ⟨A2, n2, c2, zs, pa, er, rfl, hfz, hO2, hb2, hcase⟩; have hb2a : Below U.heap.size U (w2.alloc (.cells #[.pointer none] 61)) := hb2.alloc hb2.size _; have hO2a := hO2.below (((Below.refl _ _).alloc (Nat.le_refl _) (.cells #[.pointer none] 61))); have y0 : (w2.alloc (.cells #[.pointer none] 61)).cell? ⟨w.heap.size, 0, none⟩ = some (.int .i64 room) := box_at (keep hb2a HX1.out) 0 _ rfl; have y1 : (w2.alloc (.cells #[.pointer none] 61)).cell? ⟨w.heap.size, 1, none⟩ = some (.int .i64 next) := box_at (keep hb2a HX1.out) 1 _ rfl; have y2 : (w2.alloc (.cells #[.pointer none] 61)).cell? ⟨w.heap.size, 2, none⟩ = some (.slice A n c) := box_at (keep hb2a HX1.out) 2 _ rfl; have yf : ∀ j, (w2.alloc (.cells #[.pointer none] 61)).frozen? ⟨w.heap.size, j, none⟩ = false := box_free (keep hb2a HX1.out); have hx6 := heap_alloc_new w2 (.cells #[.pointer none] 61); have hs2 := hb2.size; have ne6 : ¬ w2.heap.size = w.heap.size := (by have := HAL.out.size; have := (Array.getElem?_eq_some_iff.1 HX2.out).1; omega))
  have hS := of_setup pa HAL.out HX1.out HX2.out hO2 hb2
  clear y0 y1 y2 yf z0 z1 z2 hO2 hb2 hb2a hO2a hx6 hs2 ne6 HX1 HX2 HAL HR c26
  unfold st3 at hS
  generalize ((((w2.alloc (.cells #[.pointer none] 61)).setCell ⟨w.heap.size, 0, none⟩ (.int .i64 room)).setCell ⟨w.heap.size, 1, none⟩ (.int .i64 next)).setCell ⟨w.heap.size, 2, none⟩ (.slice A2 n2 c2)).setCell ⟨w2.heap.size, 0, none⟩ (.pointer pa) = W3 at *
  generalize w2.heap.size = t6 at *
  have HSS := Lib.hid hS
  have HFZ := Lib.hid hfz
  clear hS hfz
  have y0 : W3.cell? ⟨w.heap.size, 0, none⟩ = some (.int .i64 room) := box_at HSS.out.bx 0 _ rfl
  have y1 : W3.cell? ⟨w.heap.size, 1, none⟩ = some (.int .i64 next) := box_at HSS.out.bx 1 _ rfl
  have y2 : W3.cell? ⟨w.heap.size, 2, none⟩ = some (.slice A2 n2 c2) := box_at HSS.out.bx 2 _ rfl
  have s0 : W3.cell? ⟨w.heap.size + 1, 0, none⟩ = some (.int .i64 0) := box_at HSS.out.bz 0 _ rfl
  have s1 : W3.cell? ⟨w.heap.size + 1, 1, none⟩ = some (.int .i64 0) := box_at HSS.out.bz 1 _ rfl
  have s2 : W3.cell? ⟨w.heap.size + 1, 2, none⟩ = some (.slice none 0 0) := box_at HSS.out.bz 2 _ rfl
  have sf := box_free HSS.out.bz
  have p0 : W3.cell? ⟨t6, 0, none⟩ = some (.pointer pa) := box_at HSS.out.tp 0 _ rfl
  rcases hcase with ⟨hq, rfl, rfl⟩ | ⟨hq, hf, rfl, rfl⟩ | ⟨hq, b, off, k, x, rfl, hf, hx, hpi, rfl, rfl⟩
  · have HE := Lib.hid (endOp1 hq id)
    go_wp2_with fail
    have hfin := ret_own (room := room) (next := next) HSS.out.ow HSS.out.bw HSS.out.bz (Nat.le_succ _)
    refine bodyPost_ret (v := .tuple #[fv room next (.slice A2 n2 c2), .int .i64 1]) (by simp [results, Try.results18, go_sem, s0, s1, s2]) rfl ?_
    rw [HE.out]
    exact ⟨A2, n2, c2, zs, rfl, HFZ.out, hfin.1, hfin.2⟩
  · have HE := Lib.hid (endOp5 hq hf)
    clear hf
    go_wp2_with fail
    have hfin := ret_own (room := room) (next := next) HSS.out.ow HSS.out.bw HSS.out.bz (Nat.le_succ _)
    refine bodyPost_ret (v := .tuple #[fv room next (.slice A2 n2 c2), .int .i64 5]) (by simp [results, Try.results18, go_sem, s0, s1, s2]) rfl ?_
    rw [HE.out]
    exact ⟨A2, n2, c2, zs, rfl, HFZ.out, hfin.1, hfin.2⟩
  · have HE := Lib.hid (endOp0 hq hf hx)
    obtain ⟨S, hzk⟩ := fls_get HFZ.out hx
    have hc6 := HSS.out.ow.cell hzk (j := 6) (v := .bool x.done) rfl
    have hf6 := hc6.2
    replace hc6 := hc6.1
    have hput := HSS.out.ow.put1 (x' := { x with done := true }) hzk 6 (by decide) (v := .bool true) rfl rfl
    have hfs := fls_set HFZ.out k { x with done := true } S
    obtain ⟨cb, hcb⟩ := HSS.out.ow.o.typed b rfl
    have nb0 : w.heap.size ≠ b := blocks_ne (show (26 : TypeId) ≠ 45 by decide) HSS.out.bx hcb
    have nb1 : w.heap.size + 1 ≠ b := blocks_ne (show (26 : TypeId) ≠ 45 by decide) HSS.out.bz hcb
    have hbz : (W3.setCell ⟨b, off + k * 8 + 6, none⟩ (.bool true)).heap[w.heap.size + 1]? = _ := (Below.heap_setCell _ _ _ _ nb1).trans HSS.out.bz
    have hfin := ret_own (room := room) (next := next) hput (HSS.out.bw.setCell (HSS.out.ow.o.lo b rfl) _) hbz (Nat.le_succ _)
    have t0 : (W3.setCell ⟨b, off + k * 8 + 6, none⟩ (.bool true)).cell? ⟨w.heap.size, 0, none⟩ = some (.int .i64 room) := (cell_far nb0 _).trans y0
    have t1 : (W3.setCell ⟨b, off + k * 8 + 6, none⟩ (.bool true)).cell? ⟨w.heap.size, 1, none⟩ = some (.int .i64 next) := (cell_far nb0 _).trans y1
    have t2 : (W3.setCell ⟨b, off + k * 8 + 6, none⟩ (.bool true)).cell? ⟨w.heap.size, 2, none⟩ = some (.slice (some ⟨b, off, none⟩) n2 c2) := (cell_far nb0 _).trans y2
    have r0 : (W3.setCell ⟨b, off + k * 8 + 6, none⟩ (.bool true)).cell? ⟨w.heap.size + 1, 0, none⟩ = some (.int .i64 0) := (cell_far nb1 _).trans s0
    have r1 : (W3.setCell ⟨b, off + k * 8 + 6, none⟩ (.bool true)).cell? ⟨w.heap.size + 1, 1, none⟩ = some (.int .i64 0) := (cell_far nb1 _).trans s1
    have r2 : (W3.setCell ⟨b, off + k * 8 + 6, none⟩ (.bool true)).cell? ⟨w.heap.size + 1, 2, none⟩ = some (.slice none 0 0) := (cell_far nb1 _).trans s2
    have rf : ∀ j, (W3.setCell ⟨b, off + k * 8 + 6, none⟩ (.bool true)).frozen? ⟨w.heap.size + 1, j, none⟩ = false := box_free hbz
    have HFIN := Lib.hid hfin
    have HFS := Lib.hid hfs
    clear hput hfs hcb cb hbz hfin hzk hf hx hpi hq
    go_wp2_with fail
    refine bodyPost_ret (v := .tuple #[fv room next (.slice (some ⟨b, off, none⟩) n2 c2), .int .i64 0]) (by simp [results, Try.results18, go_sem, r0, r1, r2]) rfl ?_
    rw [HE.out]
    exact ⟨_, n2, c2, _, rfl, HFS.out, HFIN.out.1, HFIN.out.2⟩
end Go.Proofs.Ytipjhokhflokmaa
