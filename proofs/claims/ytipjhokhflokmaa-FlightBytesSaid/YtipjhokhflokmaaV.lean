/- Take, both sides (printed by mkV.py). -/
import Derived.Test.YtipjhokhflokmaaU
set_option linter.unusedVariables false
set_option linter.unusedSimpArgs false
namespace Go.Proofs.Ytipjhokhflokmaa
open Go.RowKit Go.Maps
open Go.Proofs.YtipjhokhflokmaaW.PrintWords

/-- behind 'f = own(f)' -/
structure IpS (w W : World) (room next : Int) (V : Value) (zs : List FV) : Prop where
  bx : W.heap[w.heap.size]? = some (.cells #[.int .i64 room, .int .i64 next, V] 26 (0, 0))
  bz : W.heap[w.heap.size + 1]? = some (.cells #[.int .i64 0, .int .i64 0, .slice none 0 0] 26 (0, 0))
  ow : OwF W w.heap.size V zs
  bw : Below w.heap.size w W
theorem IpS.below {w W W1 : World} {room next : Int} {V : Value} {zs : List FV} (h : IpS w W room next V zs) (hb : Below W.heap.size W W1) : IpS w W1 room next V zs :=
  ⟨keep hb h.bx, keep hb h.bz, h.ow.below hb, h.bw.trans (hb.mono h.bw.size)⟩
theorem ip_setup {w U w2 : World} {room next : Int} {V V0 : Value} {zs : List FV} (hal : Below w.heap.size w U) (x1 : U.heap[w.heap.size]? = some (.cells #[.int .i64 room, .int .i64 next, V0] 26 (0, 0))) (x2 : U.heap[w.heap.size + 1]? = some (.cells #[.int .i64 0, .int .i64 0, .slice none 0 0] 26 (0, 0)))
    (hO : OwF w2 U.heap.size V zs) (hb : Below U.heap.size U w2) :
    IpS w (st3 w2 w.heap.size (.int .i64 room) (.int .i64 next) V) room next V zs :=
  ⟨st3_box (keep hb x1), (st3_other (by omega)).trans (keep hb x2), st3_own (hO.lower hal.size) (keep hb x1), st3_below (hal.trans (hb.mono hal.size)) (Nat.le_refl _)⟩
/-- a store into the call's own flights -/
theorem IpS.put {w W W1 : World} {b n c : Nat} {A : Option Addr} {room next : Int} {T : TypeId} {cs : Array Value} {zs zs' : List FV} (h : IpS w W room next (.slice A n c) zs) {j : Nat} {v : Value} (hW : W1 = W.setCell ⟨b, j, none⟩ v) (hb : W.heap[b]? = some (.cells cs T (0, 0))) (hT : T ≠ 26) (hlo : w.heap.size ≤ b) (ho : OwF W1 w.heap.size (.slice A n c) zs') : IpS w W1 room next (.slice A n c) zs' := by
  subst hW
  have nb : ∀ {k : Nat} {cs : Array Value}, W.heap[k]? = some (.cells cs 26 (0, 0)) → (W.setCell ⟨b, j, none⟩ v).heap[k]? = some (.cells cs 26 (0, 0)) := fun hk => by
    rw [Below.heap_setCell _ _ _ _ (blocks_ne (Ne.symm hT) hk hb)]
    exact hk
  exact ⟨nb h.bx, nb h.bz, ho, h.bw.setCell hlo _⟩
theorem RfS.put2 {w W W1 : World} {b n c t6 : Nat} {A : Option Addr} {room next : Int} {V0 : Value} {T : TypeId} {cs : Array Value} {zs zs' : List FV} (h : RfS w W t6 room next V0 (.slice A n c) zs) {j : Nat} {v : Value} (hW : W1 = W.setCell ⟨b, j, none⟩ v) (hb : W.heap[b]? = some (.cells cs T (0, 0))) (hT : T ≠ 26) (hlo : w.heap.size ≤ b) (ho : OwF W1 w.heap.size (.slice A n c) zs') : RfS w W1 t6 room next V0 (.slice A n c) zs' := by
  subst hW
  have nb : ∀ {k : Nat} {cs : Array Value}, W.heap[k]? = some (.cells cs 26 (0, 0)) → (W.setCell ⟨b, j, none⟩ v).heap[k]? = some (.cells cs 26 (0, 0)) := fun hk => by
    rw [Below.heap_setCell _ _ _ _ (blocks_ne (Ne.symm hT) hk hb)]
    exact hk
  exact ⟨nb h.bx, nb h.bz, nb h.tp, ho, h.bw.setCell hlo _, h.t6⟩
theorem fm_same {zs : List FV} {i : Nat} {y y' : FV} (hz : zs[i]? = some y) (he : fenc y' = fenc y) : (zs.set i y').flatMap fenc = zs.flatMap fenc := by
  induction zs generalizing i with
  | nil => rfl
  | cons a r ih =>
    cases i with
    | zero =>
      simp only [List.getElem?_cons_zero, Option.some.injEq] at hz
      subst hz
      simp [he]
    | succ i =>
      rw [List.set_cons_succ, List.flatMap_cons, List.flatMap_cons, ih (by simpa using hz)]
theorem OwE.same {w : World} {base : Nat} {V : Value} {zs : List FV} (h : OwE fenc 8 45 w base V zs) {i : Nat} {y y' : FV} (hz : zs[i]? = some y) (he : fenc y' = fenc y) : OwE fenc 8 45 w base V (zs.set i y') := by
  obtain ⟨h1, h2⟩ := h
  refine ⟨h1, ?_⟩
  rw [fm_same hz he, List.length_set]
  exact h2
/-- a waiter's field is stored into -/
theorem OwF.putW {w : World} {base : Nat} {V : Value} {zs : List FV} (h : OwF w base V zs) {i : Nat} {x : Fl} {b2 o2 m d : Nat} (hz : zs[i]? = some (x, ⟨some ⟨b2, o2, none⟩, m, d⟩)) {k : Nat} {t t' : Tm} (ht : x.ws[k]? = some t) (j : Nat) (hj : j < 2) {v : Value} (hx : tenc t' = (tenc t).set j v) :
    OwF (w.setCell ⟨b2, o2 + k * 2 + j, none⟩ v) base V (zs.set i ({ x with ws := x.ws.set k t' }, ⟨some ⟨b2, o2, none⟩, m, d⟩)) := by
  have hi := (List.getElem?_eq_some_iff.1 hz).1
  have hO := h.r i _ hz
  obtain ⟨cur, hcur⟩ := hO.typed b2 rfl
  refine ⟨fs_far (h.o.same (y' := ({ x with ws := x.ws.set k t' }, ⟨some ⟨b2, o2, none⟩, m, d⟩)) hz rfl) hcur (by decide) _ _, fun i2 y hy => ?_, fun i2 j2 y z hij hy hz2 k2 hk2 => ?_⟩
  · by_cases hik : i2 = i
    · subst hik
      rw [List.getElem?_set_self hi] at hy
      injection hy with hy
      subst hy
      exact OwE.set hO ht hj hx
    · rw [List.getElem?_set_ne (Ne.symm hik)] at hy
      refine (h.r i2 y hy).far (fun k3 hk3 he => ?_) _
      exact h.ne i2 i y _ hik hy hz k3 hk3 (by rw [he]; rfl)
  · by_cases hik : i2 = i
    · subst hik
      rw [List.getElem?_set_self hi] at hy
      injection hy with hy
      subst hy
      rw [List.getElem?_set_ne hij] at hz2
      exact h.ne i2 j2 _ z hij hz hz2 k2 hk2
    · rw [List.getElem?_set_ne (Ne.symm hik)] at hy
      by_cases hjk : j2 = i
      · subst hjk
        rw [List.getElem?_set_self hi] at hz2
        injection hz2 with hz2
        subst hz2
        exact h.ne i2 j2 y _ hij hy hz k2 hk2
      · rw [List.getElem?_set_ne (Ne.symm hjk)] at hz2
        exact h.ne i2 j2 y z hij hy hz2 k2 hk2
theorem OwF.cellW {w : World} {base : Nat} {V : Value} {zs : List FV} (h : OwF w base V zs) {i : Nat} {x : Fl} {b2 o2 m d : Nat} (hz : zs[i]? = some (x, ⟨some ⟨b2, o2, none⟩, m, d⟩)) {k : Nat} {t : Tm} (ht : x.ws[k]? = some t) :
    w.cell? ⟨b2, o2 + k * 2 + 1, none⟩ = some (.int .i64 t.at') ∧ w.frozen? ⟨b2, o2 + k * 2 + 1, none⟩ = false := by
  have hO : OwE tenc 2 47 w base (.slice (some ⟨b2, o2, none⟩) m d) x.ws := h.r i _ hz
  have hl : x.ws.length = m := hO.rd.len
  have hk := (List.getElem?_eq_some_iff.1 ht).1
  obtain ⟨b', off', hA, _, _, _, hc, hf⟩ := hO.form (by omega)
  injection hA with hA
  injection hA with h1 h2
  subst h1; subst h2
  exact ⟨hc k 1 t _ ht rfl, hf _⟩
/-- where one waits -/
theorem waitsS_at {fs : List Fl} {id : Int} (h : ¬ (waitsS fs id).1 < 0) : ∃ (i k : Nat) (x : Fl) (t : Tm), waitsS fs id = ((i : Int), (k : Int)) ∧ fs[i]? = some x ∧ x.ws[k]? = some t ∧ t.id = id := by
  obtain ⟨i, x, hi, hx, hp⟩ := findG_at h
  have hp0 : ¬ idxW id x < 0 := by
    have := of_decide_eq_true hp
    omega
  obtain ⟨k, t, hk, ht, hq⟩ := findG_at hp0
  refine ⟨i, k, x, t, ?_, hx, ht, by simpa using hq⟩
  unfold waitsS
  rw [hi, if_neg (by omega), Int.toNat_natCast, hx]
  simp only
  rw [show idxW id x = (k : Int) from hk]
theorem ext_drop (l : List UInt8) (i n : Nat) (hn : n = l.length) : (⟨l.toArray⟩ : ByteArray).extract i n = ⟨(l.drop i).toArray⟩ := by
  subst hn
  apply ByteArray.ext
  rw [ByteArray.data_extract]
  apply Array.ext'
  rw [Array.toList_extract]
  simp [List.take_of_length_le]
theorem ext_take (l : List UInt8) (m : Nat) : (⟨l.toArray⟩ : ByteArray).extract 0 m = ⟨(l.take m).toArray⟩ := by
  apply ByteArray.ext
  rw [ByteArray.data_extract]
  apply Array.ext'
  rw [Array.toList_extract]
  simp
/-- the bytes that one is given -/
def takeX (x : Fl) (t : Tm) (n : Int) : List UInt8 := (x.data.drop (t.at' - x.base).toNat).take (min n ((x.data.drop (t.at' - x.base).toNat).length : Int)).toNat
def takeOp (room next : Int) (fs : List Fl) (wt n : Int) : List Fl × List UInt8 × Bool × Int :=
  if rightS room next fs = false ∨ n < 0 then (fs, [], false, 1) else if (waitsS fs wt).1 < 0 then (fs, [], false, 5) else
  match fs[(waitsS fs wt).1.toNat]? with
  | none => (fs, [], false, 5)
  | some x => match x.ws[(waitsS fs wt).2.toNat]? with
    | none => (fs, [], false, 5)
    | some t => (fs.set (waitsS fs wt).1.toNat { x with ws := x.ws.set (waitsS fs wt).2.toNat { t with at' := t.at' + (takeX x t n).length } }, takeX x t n, x.done && decide (t.at' + (takeX x t n).length = endS x), 0)
theorem takeOp1 {room next : Int} {fs : List Fl} {n : Int} (h : rightS room next fs = false ∨ n < 0) (wt : Int) : takeOp room next fs wt n = (fs, [], false, 1) := if_pos h
theorem takeOp5 {room next : Int} {fs : List Fl} {n : Int} (h : ¬ (rightS room next fs = false ∨ n < 0)) {wt : Int} (hw : (waitsS fs wt).1 < 0) : takeOp room next fs wt n = (fs, [], false, 5) := by unfold takeOp; rw [if_neg h, if_pos hw]
theorem takeOp0 {room next : Int} {fs : List Fl} {n : Int} (h : ¬ (rightS room next fs = false ∨ n < 0)) {wt : Int} {i k : Nat} {x : Fl} {t : Tm} (hw : waitsS fs wt = ((i : Int), (k : Int))) (hx : fs[i]? = some x) (ht : x.ws[k]? = some t) :
    takeOp room next fs wt n = (fs.set i { x with ws := x.ws.set k { t with at' := t.at' + (takeX x t n).length } }, takeX x t n, x.done && decide (t.at' + (takeX x t n).length = endS x), 0) := by
  unfold takeOp
  rw [if_neg h, hw]
  simp only
  rw [if_neg (by omega), Int.toNat_natCast, Int.toNat_natCast, hx]
  simp only
  rw [ht]
theorem right_x {room next : Int} {fs : List Fl} (h : rightS room next fs = true) {i : Nat} {x : Fl} (hx : fs[i]? = some x) : rightF room next x = true := by
  unfold rightS at h
  rw [Bool.and_eq_true, Bool.and_eq_true] at h
  exact List.all_eq_true.1 h.2.1 x (List.mem_of_getElem? hx)
theorem right_n {room next : Int} {fs : List Fl} (h : rightS room next fs = true) : ¬ badR room next fs.length := fun hb => by rw [rightS_bad hb] at h; cases h
theorem right_t {room next : Int} {x : Fl} (h : rightF room next x = true) {k : Nat} {t : Tm} (ht : x.ws[k]? = some t) : 0 ≤ t.id ∧ x.base ≤ t.at' ∧ t.at' ≤ endS x := by
  rw [rightF_ok (rightF_num h), Bool.not_eq_true'] at h
  have := List.any_eq_false.1 h t (List.mem_of_getElem? ht)
  unfold oddB at this
  simp at this
  omega
theorem right_ok {room next : Int} {fs : List Fl} (h : rightS room next fs = true) {x : Fl} (hx : rightF room next x = true) : okN x := by
  have h1 := rightF_num hx
  have h2 := right_n h
  unfold badF at h1
  unfold badR at h2
  exact ⟨by omega, by omega, by omega⟩

set_option maxRecDepth 100000 in
set_option maxHeartbeats 8000000 in
theorem take_any (w : World) (room next : Int) (A : Option Addr) (n c : Nat) (ys : List FV) (wt cnt : Int) (hr : RdF w (.slice A n c) ys) (hs : SmF (fls ys)) :
    Calls Try.prog 11 #[fv room next (.slice A n c), .int .i64 wt, .int .i64 cnt] w (OpPost w room next (takeOp room next (fls ys) wt cnt).1 [str (takeOp room next (fls ys) wt cnt).2.1, .bool (takeOp room next (fls ys) wt cnt).2.2.1, .int .i64 (takeOp room next (fls ys) wt cnt).2.2.2]) := by
  have hl : ys.length = n := hr.len
  have hn : n ≤ 1000 := by have := hs.n; rw [← hl]; simpa [fls] using this
  have hal1 : Below w.heap.size w (w.alloc (.cells #[.int .i64 room, .int .i64 next, .slice A n c] 26)) := (Below.refl _ _).alloc (Nat.le_refl _) _
  have hal2 : Below w.heap.size w ((w.alloc (.cells #[.int .i64 room, .int .i64 next, .slice A n c] 26)).alloc (.cells #[.int .i64 0, .int .i64 0, .slice none 0 0] 26)) := hal1.alloc (by simp) _
  have x1 : ((w.alloc (.cells #[.int .i64 room, .int .i64 next, .slice A n c] 26)).alloc (.cells #[.int .i64 0, .int .i64 0, .slice none 0 0] 26)).heap[w.heap.size]? = some (.cells #[.int .i64 room, .int .i64 next, .slice A n c] 26 (0, 0)) := keep ((Below.refl _ _).alloc (Nat.le_refl _) _) (heap_alloc_new w _)
  have x2 : ((w.alloc (.cells #[.int .i64 room, .int .i64 next, .slice A n c] 26)).alloc (.cells #[.int .i64 0, .int .i64 0, .slice none 0 0] 26)).heap[w.heap.size + 1]? = some (.cells #[.int .i64 0, .int .i64 0, .slice none 0 0] 26 (0, 0)) := by
    have := heap_alloc_new (w.alloc (.cells #[.int .i64 room, .int .i64 next, .slice A n c] 26)) (.cells #[.int .i64 0, .int .i64 0, .slice none 0 0] 26)
    rwa [show (w.alloc (.cells #[.int .i64 room, .int .i64 next, .slice A n c] 26)).heap.size = w.heap.size + 1 by simp] at this
  have HR0 := Lib.hid hr
  have HR := Lib.hid (hr.below hal2)
  have HS := Lib.hid hs
  clear hal1 hr hs
  go_enter Try.func11, Try.ntmps11
  go_upto_region 1 with fail
  generalize (w.alloc (.cells #[.int .i64 room, .int .i64 next, .slice A n c] 26)).alloc (.cells #[.int .i64 0, .int .i64 0, .slice none 0 0] 26) = U at *
  have HX1 := Lib.hid x1
  have HX2 := Lib.hid x2
  have HAL := Lib.hid hal2
  clear x1 x2 hal2
  have z0 : U.cell? ⟨w.heap.size, 0, none⟩ = some (.int .i64 room) := box_at HX1.out 0 _ rfl
  have z1 : U.cell? ⟨w.heap.size, 1, none⟩ = some (.int .i64 next) := box_at HX1.out 1 _ rfl
  have z2 : U.cell? ⟨w.heap.size, 2, none⟩ = some (.slice A n c) := box_at HX1.out 2 _ rfl
  have c22 := Lib.hid (own_any U room next A n c ys HR.out hn HS.out.w')
  go_upto_region 2 with (go_at_call 22; refine c22.out.mono ?_; rintro e w2 ⟨A2, n2, c2, zs, rfl, hfz, hO2, hb2⟩; have y0 : w2.cell? ⟨w.heap.size, 0, none⟩ = some (.int .i64 room) := box_at (keep hb2 HX1.out) 0 _ rfl; have y1 : w2.cell? ⟨w.heap.size, 1, none⟩ = some (.int .i64 next) := box_at (keep hb2 HX1.out) 1 _ rfl; have y2 : w2.cell? ⟨w.heap.size, 2, none⟩ = some (.slice A n c) := box_at (keep hb2 HX1.out) 2 _ rfl; have yf := box_free (keep hb2 HX1.out))
  have hS := ip_setup HAL.out HX1.out HX2.out hO2 hb2
  clear y0 y1 y2 yf z0 z1 z2 hO2 hb2 HX1 HX2 HAL HR c22
  unfold st3 at hS
  generalize ((w2.setCell ⟨w.heap.size, 0, none⟩ (.int .i64 room)).setCell ⟨w.heap.size, 1, none⟩ (.int .i64 next)).setCell ⟨w.heap.size, 2, none⟩ (.slice A2 n2 c2) = W3 at *
  have hsF : SmF (fls zs) := by rw [hfz]; exact HS.out
  have hl2 : zs.length = n2 := hS.ow.rd.len
  have c13 := right_any W3 room next A2 n2 c2 zs hS.ow.rd (hsF.sm hl2)
  rw [hfz] at c13
  have C13 := Lib.hid c13
  have HSS := Lib.hid hS
  have HFZ := Lib.hid hfz
  have HSZ := Lib.hid hsF
  clear hS hfz c13 hsF
  have y0 : W3.cell? ⟨w.heap.size, 0, none⟩ = some (.int .i64 room) := box_at HSS.out.bx 0 _ rfl
  have y1 : W3.cell? ⟨w.heap.size, 1, none⟩ = some (.int .i64 next) := box_at HSS.out.bx 1 _ rfl
  have y2 : W3.cell? ⟨w.heap.size, 2, none⟩ = some (.slice A2 n2 c2) := box_at HSS.out.bx 2 _ rfl
  by_cases hbad : rightS room next (fls ys) = false ∨ cnt < 0
  · have HE := Lib.hid (takeOp1 hbad wt)
    cases hq : rightS room next (fls ys) with
    | false =>
      have HQ := Lib.hid hq; clear hq hbad
      go_upto_region 3 with (go_at_call 13; refine C13.out.mono ?_; rw [HQ.out]; rintro e w4 ⟨rfl, hb4⟩; have HS4 := Lib.hid (HSS.out.below hb4); clear hb4)
      clear y0 y1 y2 C13
      have y0 : w4.cell? ⟨w.heap.size, 0, none⟩ = some (.int .i64 room) := box_at HS4.out.bx 0 _ rfl
      have y1 : w4.cell? ⟨w.heap.size, 1, none⟩ = some (.int .i64 next) := box_at HS4.out.bx 1 _ rfl
      have y2 : w4.cell? ⟨w.heap.size, 2, none⟩ = some (.slice A2 n2 c2) := box_at HS4.out.bx 2 _ rfl
      have s0 : w4.cell? ⟨w.heap.size + 1, 0, none⟩ = some (.int .i64 0) := box_at HS4.out.bz 0 _ rfl
      have s1 : w4.cell? ⟨w.heap.size + 1, 1, none⟩ = some (.int .i64 0) := box_at HS4.out.bz 1 _ rfl
      have s2 : w4.cell? ⟨w.heap.size + 1, 2, none⟩ = some (.slice none 0 0) := box_at HS4.out.bz 2 _ rfl
      have sf := box_free HS4.out.bz
      go_wp2_with fail
      have hfin := ret_own (room := room) (next := next) HS4.out.ow HS4.out.bw HS4.out.bz (Nat.le_succ _)
      refine bodyPost_ret (v := .tuple #[fv room next (.slice A2 n2 c2), str [], .bool false, .int .i64 1]) (by simp [results, Try.results11, go_sem, s0, s1, s2]) rfl ?_
      rw [HE.out]
      exact ⟨A2, n2, c2, zs, rfl, HFZ.out, hfin.1, hfin.2⟩
    | true =>
      have HQ := Lib.hid hq
      have hc0 : cnt < 0 := by
        rcases hbad with h | h
        · rw [h] at hq; cases hq
        · exact h
      clear hq hbad
      go_upto_region 3 with (go_at_call 13; refine C13.out.mono ?_; rw [HQ.out]; rintro e w4 ⟨rfl, hb4⟩; have HS4 := Lib.hid (HSS.out.below hb4); clear hb4)
      clear y0 y1 y2 C13
      have y0 : w4.cell? ⟨w.heap.size, 0, none⟩ = some (.int .i64 room) := box_at HS4.out.bx 0 _ rfl
      have y1 : w4.cell? ⟨w.heap.size, 1, none⟩ = some (.int .i64 next) := box_at HS4.out.bx 1 _ rfl
      have y2 : w4.cell? ⟨w.heap.size, 2, none⟩ = some (.slice A2 n2 c2) := box_at HS4.out.bx 2 _ rfl
      have s0 : w4.cell? ⟨w.heap.size + 1, 0, none⟩ = some (.int .i64 0) := box_at HS4.out.bz 0 _ rfl
      have s1 : w4.cell? ⟨w.heap.size + 1, 1, none⟩ = some (.int .i64 0) := box_at HS4.out.bz 1 _ rfl
      have s2 : w4.cell? ⟨w.heap.size + 1, 2, none⟩ = some (.slice none 0 0) := box_at HS4.out.bz 2 _ rfl
      have sf := box_free HS4.out.bz
      go_wp2_with fail
      have hfin := ret_own (room := room) (next := next) HS4.out.ow HS4.out.bw HS4.out.bz (Nat.le_succ _)
      refine bodyPost_ret (v := .tuple #[fv room next (.slice A2 n2 c2), str [], .bool false, .int .i64 1]) (by simp [results, Try.results11, go_sem, s0, s1, s2]) rfl ?_
      rw [HE.out]
      exact ⟨A2, n2, c2, zs, rfl, HFZ.out, hfin.1, hfin.2⟩
  · have hq : rightS room next (fls ys) = true := by
      cases h : rightS room next (fls ys) with
      | false => exact absurd (.inl h) hbad
      | true => rfl
    have hc0 : ¬ cnt < 0 := fun h => hbad (.inr h)
    have HQ := Lib.hid hq
    have C23 := Lib.hid (fun W (hO : OwF W w.heap.size (.slice A2 n2 c2) zs) => waits_any W room next A2 n2 c2 zs wt hO.rd (by have := HSZ.out.n; rw [← hl2]; simpa [fls] using this) HSZ.out.w')
    have HBAD := Lib.hid hbad
    clear hq hbad
    go_upto_region 4 with (go_at_call 13; refine C13.out.mono ?_; rw [HQ.out]; rintro e w4 ⟨rfl, hb4⟩; have HS4 := Lib.hid (HSS.out.below hb4); clear hb4)
    clear y0 y1 y2 C13
    have y0 : w4.cell? ⟨w.heap.size, 0, none⟩ = some (.int .i64 room) := box_at HS4.out.bx 0 _ rfl
    have y1 : w4.cell? ⟨w.heap.size, 1, none⟩ = some (.int .i64 next) := box_at HS4.out.bx 1 _ rfl
    have y2 : w4.cell? ⟨w.heap.size, 2, none⟩ = some (.slice A2 n2 c2) := box_at HS4.out.bx 2 _ rfl
    by_cases hwt : (waitsS (fls ys) wt).1 < 0
    · have HE := Lib.hid (takeOp5 HBAD.out hwt)
      obtain ⟨i1, hi1⟩ : ∃ i1, (waitsS (fls ys) wt).1 = i1 := ⟨_, rfl⟩
      rw [hi1] at hwt
      have HI1 := Lib.hid hi1
      clear hi1
      go_upto_region 6 with (go_at_call 23; refine (C23.out w4 HS4.out.ow).mono ?_; rw [HFZ.out, HI1.out]; rintro e w5 ⟨rfl, hb5⟩; have HS5 := Lib.hid (HS4.out.below hb5); clear hb5)
      clear y0 y1 y2 C23
      have y0 : w5.cell? ⟨w.heap.size, 0, none⟩ = some (.int .i64 room) := box_at HS5.out.bx 0 _ rfl
      have y1 : w5.cell? ⟨w.heap.size, 1, none⟩ = some (.int .i64 next) := box_at HS5.out.bx 1 _ rfl
      have y2 : w5.cell? ⟨w.heap.size, 2, none⟩ = some (.slice A2 n2 c2) := box_at HS5.out.bx 2 _ rfl
      have s0 : w5.cell? ⟨w.heap.size + 1, 0, none⟩ = some (.int .i64 0) := box_at HS5.out.bz 0 _ rfl
      have s1 : w5.cell? ⟨w.heap.size + 1, 1, none⟩ = some (.int .i64 0) := box_at HS5.out.bz 1 _ rfl
      have s2 : w5.cell? ⟨w.heap.size + 1, 2, none⟩ = some (.slice none 0 0) := box_at HS5.out.bz 2 _ rfl
      have sf := box_free HS5.out.bz
      go_wp2_with fail
      have hfin := ret_own (room := room) (next := next) HS5.out.ow HS5.out.bw HS5.out.bz (Nat.le_succ _)
      refine bodyPost_ret (v := .tuple #[fv room next (.slice A2 n2 c2), str [], .bool false, .int .i64 5]) (by simp [results, Try.results11, go_sem, s0, s1, s2]) rfl ?_
      rw [HE.out]
      exact ⟨A2, n2, c2, zs, rfl, HFZ.out, hfin.1, hfin.2⟩
    · obtain ⟨i, k, x, t, hw1, hx, ht, hti⟩ := waitsS_at hwt
      have HE := Lib.hid (takeOp0 HBAD.out hw1 hx ht)
      have hrx := right_x HQ.out hx
      obtain ⟨_, g1, g2⟩ := right_t hrx ht
      have hok := right_ok HQ.out hrx
      have HW1 := Lib.hid hw1
      have HX := Lib.hid hx
      have HT := Lib.hid ht
      have HOK := Lib.hid hok
      clear hwt hw1 hx ht hti hrx
      go_upto_region 5 with (go_at_call 23; refine (C23.out w4 HS4.out.ow).mono ?_; rw [HFZ.out, HW1.out]; rintro e w5 ⟨rfl, hb5⟩; have HS5 := Lib.hid (HS4.out.below hb5); clear hb5)
      clear y0 y1 y2 C23 HS4 HSS
      obtain ⟨S, hzk⟩ := fls_get HFZ.out HX.out
      obtain ⟨b, off, hA2, hlob, hF⟩ := HS5.out.ow.at_ hzk
      subst hA2
      obtain ⟨B, m, d⟩ := S
      have hzl : zs.length = n2 := HS5.out.ow.rd.len
      have hin : i < n2 := by have := (List.getElem?_eq_some_iff.1 hzk).1; omega
      have hwl : x.ws.length = m := hF.r.len
      have hkm : k < m := by have := (List.getElem?_eq_some_iff.1 HT.out).1; omega
      obtain ⟨b2, o2, hB, _, _, _⟩ := hF.r.tm HT.out
      subst hB
      have hO2 : OwE tenc 2 47 w5 w.heap.size (.slice (some ⟨b2, o2, none⟩) m d) x.ws := HS5.out.ow.r i _ hzk
      have hlo2 := hO2.lo b2 rfl
      obtain ⟨cu2, hcu2⟩ := hO2.typed b2 rfl
      obtain ⟨cu1, hcu1⟩ := HS5.out.ow.o.typed b rfl
      have hi0 : ¬ (i : Int) < 0 := by omega
      have hi1 : (i : Int) < (n2 : Int) := by omega
      have hk1 : (k : Int) < (m : Int) := by omega
      obtain ⟨dd, hdd⟩ := Int.eq_ofNat_of_zero_le (show 0 ≤ t.at' - x.base by omega)
      obtain ⟨hok0, hok1, hok2⟩ := hok
      have hge : endS x = x.base + x.data.length := rfl
      have hddl : dd ≤ x.data.length := by omega
      have hwd : wrap64 (t.at' - x.base) = (dd : Int) := by rw [hdd]; exact w64 (by omega) (by omega)
      have hd0 : (0 : Int) ≤ (dd : Int) := by omega
      have hddi : (dd : Int) ≤ (x.data.length : Int) := by omega
      have hex1 := ext_drop x.data dd x.data.length rfl
      obtain ⟨r, hr⟩ : ∃ r, x.data.drop dd = r := ⟨_, rfl⟩
      have hrl : r.length ≤ x.data.length := by rw [← hr, List.length_drop]; omega
      have hrl2 : r.length + dd = x.data.length := by rw [← hr, List.length_drop]; omega
      rw [hr] at hex1
      have hex2 : (⟨x.data.toArray⟩ : ByteArray).extract (t.at' - x.base).toNat x.data.length = ⟨r.toArray⟩ := by rw [hdd, Int.toNat_natCast]; exact hex1
      have htx : ∀ mm : Nat, min cnt (r.length : Int) = (mm : Int) → takeX x t cnt = r.take mm := fun mm hm => by
        unfold takeX
        rw [hdd, Int.toNat_natCast, hr, hm, Int.toNat_natCast]
      have HTX := Lib.hid htx
      have HZK := Lib.hid hzk
      have HF5 := Lib.hid hF
      have HCU1 := Lib.hid hcu1
      have HCU2 := Lib.hid hcu2
      obtain ⟨cn, hcn⟩ := Int.eq_ofNat_of_zero_le (show 0 ≤ cnt by omega)
      subst hcn
      have hge1 : endS x ≤ x.base + x.data.length := by omega
      have hge2 : x.base + x.data.length ≤ endS x := by omega
      clear hzk hF hO2 hcu1 hcu2 hdd hr htx hge
      have y2 : w5.cell? ⟨w.heap.size, 2, none⟩ = some (.slice (some ⟨b, off, none⟩) n2 c2) := box_at HS5.out.bx 2 _ rfl
      go_upto_region 8 with fail
      have hal6 : Below w5.heap.size w5 (w5.alloc (.cells #[.pointer (some ⟨b, off + i * 8, none⟩)] 61)) := (Below.refl _ _).alloc (Nat.le_refl _) _
      have x6 := heap_alloc_new w5 (.cells #[.pointer (some ⟨b, off + i * 8, none⟩)] 61)
      have HS6 := Lib.hid (HS5.out.below hal6)
      have HF6 := Lib.hid (HF5.out.below hal6)
      have HX6 := Lib.hid x6
      have HV1 := Lib.hid (keep hal6 HCU1.out)
      have HV2 := Lib.hid (keep hal6 HCU2.out)
      have nT1 : ¬ w5.heap.size = w.heap.size + 1 := by have := (Array.getElem?_eq_some_iff.1 HS5.out.bz).1; omega
      have nb1 : ¬ b = w.heap.size + 1 := blocks_ne (show (45 : TypeId) ≠ 26 by decide) HCU1.out HS5.out.bz
      have nb2 : ¬ b2 = w.heap.size + 1 := blocks_ne (show (47 : TypeId) ≠ 26 by decide) HCU2.out HS5.out.bz
      have nTb : ¬ w5.heap.size = b2 := by have := (Array.getElem?_eq_some_iff.1 HCU2.out).1; omega
      have nbb : ¬ b = b2 := blocks_ne (show (45 : TypeId) ≠ 47 by decide) HCU1.out HCU2.out
      clear hal6 x6 y2 HCU1 HCU2 HF5 HS5
      generalize w5.alloc (.cells #[.pointer (some ⟨b, off + i * 8, none⟩)] 61) = W6 at *
      generalize w5.heap.size = T6 at *
      have p0 : W6.cell? ⟨T6, 0, none⟩ = some (.pointer (some ⟨b, off + i * 8, none⟩)) := box_at HX6.out 0 _ rfl
      have k3 : W6.cell? ⟨b, off + i * 8 + 3, none⟩ = some (.int .i64 x.base) := HF6.out.c3
      have k4 : W6.cell? ⟨b, off + i * 8 + 4, none⟩ = some (str x.data) := HF6.out.c4
      have k7 : W6.cell? ⟨b, off + i * 8 + 7, none⟩ = some (.slice (some ⟨b2, o2, none⟩) m d) := HF6.out.c7
      have hcw := HS6.out.ow.cellW HZK.out HT.out
      have j1 := hcw.1
      have jf := hcw.2
      clear hcw
      go_upto_region 9 with fail
      clear k7
      go_quiet (fail)
      have hb67 : Below W6.heap.size W6 (W6.drewN nq) := pw_below_drewN (Below.refl _ _) nq
      have HS7 := Lib.hid (HS6.out.below hb67)
      have HX7 := Lib.hid (keep hb67 HX6.out)
      have hv2 := keep hb67 HV2.out
      replace HV2 := Lib.hid hv2
      clear hb67 HS6 HX6 HF6 HV1 p0 k3 k4 j1 jf hv2 hwd hd0 hddi hex1
      skip
      generalize W6.drewN nq = W7 at *
      have p0 : W7.cell? ⟨T6, 0, none⟩ = some (.pointer (some ⟨b, off + i * 8, none⟩)) := box_at HX7.out 0 _ rfl
      clear hex2
      by_cases hm : (cn : Int) ≤ (r.length : Int)
      · have hm2 : cn ≤ r.length := by omega
        obtain ⟨q, hq⟩ : ∃ q, r.take (cn) = q := ⟨_, rfl⟩
        have hqq : takeX x t (cn : Int) = q := by rw [← hq]; exact HTX.out _ (by omega)
        have hext : (⟨r.toArray⟩ : ByteArray).extract 0 (cn) = ⟨q.toArray⟩ := by rw [ext_take, hq]
        have hql : q.length ≤ r.length := by rw [← hq, List.length_take]; omega
        have HQQ := Lib.hid hqq
        clear hqq hq
        go_upto_region 11 with fail
        have hwa : wrap64 (t.at' + (q.length : Int)) = t.at' + (q.length : Int) := w64 (by omega) (by omega)
        have hcw := HS7.out.ow.cellW HZK.out HT.out
        have j1 := hcw.1
        have jf := hcw.2
        clear hcw
        go_upto_region 12 with fail
        have hput := HS7.out.ow.putW HZK.out HT.out (t' := { t with at' := t.at' + (q.length : Int) }) 1 (by decide) (v := .int .i64 (t.at' + (q.length : Int))) rfl
        have HS8 := Lib.hid (HS7.out.put rfl HV2.out (by decide) hlo2 hput)
        have HFS := Lib.hid (fls_set HFZ.out i { x with ws := x.ws.set k { t with at' := t.at' + (q.length : Int) } } ⟨some ⟨b2, o2, none⟩, m, d⟩)
        have hzk8 : (zs.set i ({ x with ws := x.ws.set k { t with at' := t.at' + (q.length : Int) } }, (⟨some ⟨b2, o2, none⟩, m, d⟩ : Sl)))[i]? = some ({ x with ws := x.ws.set k { t with at' := t.at' + (q.length : Int) } }, (⟨some ⟨b2, o2, none⟩, m, d⟩ : Sl)) := List.getElem?_set_self (by omega)
        obtain ⟨b', off', hA8, _, hF8⟩ := HS8.out.ow.at_ hzk8
        injection hA8 with hA8
        injection hA8 with hA8 hA9
        subst hA8; subst hA9
        have hd8 : (W7.setCell ⟨b2, o2 + k * 2 + 1, none⟩ (.int .i64 (t.at' + (q.length : Int)))).cell? ⟨b, off + i * 8 + 6, none⟩ = some (.bool x.done) := hF8.c6
        have hp8 : (W7.setCell ⟨b2, o2 + k * 2 + 1, none⟩ (.int .i64 (t.at' + (q.length : Int)))).cell? ⟨T6, 0, none⟩ = some (.pointer (some ⟨b, off + i * 8, none⟩)) := (cell_far nTb _).trans (box_at HX7.out 0 _ rfl)
        have ht8 : (x.ws.set k { t with at' := t.at' + (q.length : Int) })[k]? = some { t with at' := t.at' + (q.length : Int) } := List.getElem?_set_self (by omega)
        have hj8 := (HS8.out.ow.cellW hzk8 ht8).1
        have HF8 := Lib.hid hF8
        have HD8 := Lib.hid hd8
        have HP8 := Lib.hid hp8
        have HJ8 := Lib.hid hj8
        clear hput hzk8 hF8 hd8 hp8 ht8 hj8 j1 jf p0
        generalize W7.setCell ⟨b2, o2 + k * 2 + 1, none⟩ (.int .i64 (t.at' + (q.length : Int))) = W8 at *
        have HS8d := Lib.hid (HS8.out.below (below_drew (Below.refl _ _)))
        cases hdn : x.done with
        | false =>
          have HDN := Lib.hid hdn
          rw [hdn] at HD8
          clear hdn
          have s0 : W8.cell? ⟨w.heap.size + 1, 0, none⟩ = some (.int .i64 0) := box_at HS8.out.bz 0 _ rfl
          have s1 : W8.cell? ⟨w.heap.size + 1, 1, none⟩ = some (.int .i64 0) := box_at HS8.out.bz 1 _ rfl
          have s2 : W8.cell? ⟨w.heap.size + 1, 2, none⟩ = some (.slice none 0 0) := box_at HS8.out.bz 2 _ rfl
          have sf := box_free HS8.out.bz
          refine wp_region_held_drew (S := fun W' => W'.cell? ⟨w.heap.size, 0, none⟩ = some (.int .i64 room) ∧ W'.cell? ⟨w.heap.size, 1, none⟩ = some (.int .i64 next) ∧ W'.cell? ⟨w.heap.size, 2, none⟩ = some (.slice (some ⟨b, off, none⟩) n2 c2) ∧ W'.cell? ⟨T6, 0, none⟩ = some (.pointer (some ⟨b, off + i * 8, none⟩)) ∧ W'.cell? ⟨b, off + i * 8 + 6, none⟩ = some (.bool false) ∧ W'.cell? ⟨b2, o2 + k * 2 + 1, none⟩ = some (.int .i64 (t.at' + (q.length : Int)))) (by kernel_rfl) (⟨box_at HS8.out.bx 0 _ rfl, box_at HS8.out.bx 1 _ rfl, box_at HS8.out.bx 2 _ rfl, HP8.out, HD8.out, HJ8.out⟩) (fun hHeld => ?_)
          refine wpAnyH_take (i := 0) (oi := _) (v := ?v0f) rfl (by kernel_rfl) (by kernel_rfl) (by kernel_rfl) (fun _ _ _ h => h) (Or.inl ⟨by kernel_rfl, ?y0f⟩) (by assumption) ?r0f
          case y0f => (intro w hSw; (try dsimp only at hSw); go_simp; try (with_reducible rfl))
          case r0f =>
            simp only [List.getElem_toArray, List.getElem_cons_succ, List.getElem_cons_zero, Act.put, List.setIfInBounds_toArray, List.set_cons_zero, List.set_cons_succ]
            refine wpAnyH_take (i := 1) (oi := _) (v := ?v1f) rfl (by kernel_rfl) (by kernel_rfl) (by kernel_rfl) (fun _ _ _ h => h) (Or.inl ⟨by kernel_rfl, ?y1f⟩) (by assumption) ?r1f
            case y1f => (intro w hSw; (try dsimp only at hSw); go_simp; try (with_reducible rfl))
            case r1f =>
              simp only [List.getElem_toArray, List.getElem_cons_succ, List.getElem_cons_zero, Act.put, List.setIfInBounds_toArray, List.set_cons_zero, List.set_cons_succ]
              refine wpAnyH_take (i := 2) (oi := _) (v := ?v2f) rfl (by kernel_rfl) (by kernel_rfl) (by kernel_rfl) (fun _ _ _ h => h) (Or.inl ⟨by kernel_rfl, ?y2f⟩) (by assumption) ?r2f
              case y2f => (intro w hSw; (try dsimp only at hSw); go_simp; try (with_reducible rfl))
              case r2f =>
                simp only [List.getElem_toArray, List.getElem_cons_succ, List.getElem_cons_zero, Act.put, List.setIfInBounds_toArray, List.set_cons_zero, List.set_cons_succ]
                refine wpAnyH_take (i := 3) (oi := _) (v := ?v3f) rfl (by kernel_rfl) (by kernel_rfl) (by kernel_rfl) (fun _ _ _ h => h) (Or.inl ⟨by kernel_rfl, ?y3f⟩) (by assumption) ?r3f
                case y3f => (intro w hSw; (try dsimp only at hSw); go_simp; try (with_reducible rfl))
                case r3f =>
                  simp only [List.getElem_toArray, List.getElem_cons_succ, List.getElem_cons_zero, Act.put, List.setIfInBounds_toArray, List.set_cons_zero, List.set_cons_succ]
                  refine wpAnyH_take (i := 4) (oi := _) (v := ?v4f) rfl (by kernel_rfl) (by kernel_rfl) (by kernel_rfl) (fun _ _ _ h => h) (Or.inl ⟨by kernel_rfl, ?y4f⟩) (by assumption) ?r4f
                  case y4f => (intro w hSw; (try dsimp only at hSw); go_simp; try (with_reducible rfl))
                  case r4f =>
                    simp only [List.getElem_toArray, List.getElem_cons_succ, List.getElem_cons_zero, Act.put, List.setIfInBounds_toArray, List.set_cons_zero, List.set_cons_succ]
                    refine wpAnyH_take (i := 5) (oi := _) (v := ?v5f) rfl (by kernel_rfl) (by kernel_rfl) (by kernel_rfl) (fun _ _ _ h => h) (Or.inl ⟨by kernel_rfl, ?y5f⟩) (by assumption) ?r5f
                    case y5f => (intro w hSw; (try dsimp only at hSw); go_simp; try (with_reducible rfl))
                    case r5f =>
                      simp only [List.getElem_toArray, List.getElem_cons_succ, List.getElem_cons_zero, Act.put, List.setIfInBounds_toArray, List.set_cons_zero, List.set_cons_succ]
                      refine wpAnyH_take (i := 6) (oi := _) (v := ?v6f) rfl (by kernel_rfl) (by kernel_rfl) (by kernel_rfl) (fun _ _ _ h => h) (Or.inl ⟨by kernel_rfl, ?y6f⟩) (by assumption) ?r6f
                      case y6f => (intro w hSw; (try dsimp only at hSw); go_simp; try (with_reducible rfl))
                      case r6f =>
                        simp only [List.getElem_toArray, List.getElem_cons_succ, List.getElem_cons_zero, Act.put, List.setIfInBounds_toArray, List.set_cons_zero, List.set_cons_succ]
                        refine wpAnyH_take (i := 7) (oi := _) (v := ?v7f) rfl (by kernel_rfl) (by kernel_rfl) (by kernel_rfl) (fun _ _ _ h => h) (Or.inl ⟨by kernel_rfl, ?y7f⟩) (by assumption) ?r7f
                        case y7f => (intro w hSw; (try dsimp only at hSw); go_simp; try (with_reducible rfl))
                        case r7f =>
                          simp only [List.getElem_toArray, List.getElem_cons_succ, List.getElem_cons_zero, Act.put, List.setIfInBounds_toArray, List.set_cons_zero, List.set_cons_succ]
                          refine wpAnyH_take (i := 8) (oi := _) (v := undef) rfl (by kernel_rfl) (by kernel_rfl) (by kernel_rfl) (fun _ _ _ h => h) (Or.inr ⟨by kernel_rfl, rfl⟩) (by assumption) ?_
                          simp only [List.getElem_toArray, List.getElem_cons_succ, List.getElem_cons_zero, Act.put, List.setIfInBounds_toArray, List.set_cons_zero, List.set_cons_succ]
                          refine wpAnyH_take (i := 9) (oi := _) (v := undef) rfl (by kernel_rfl) (by kernel_rfl) (by kernel_rfl) (fun _ _ _ h => h) (Or.inr ⟨by kernel_rfl, rfl⟩) (by assumption) ?_
                          simp only [List.getElem_toArray, List.getElem_cons_succ, List.getElem_cons_zero, Act.put, List.setIfInBounds_toArray, List.set_cons_zero, List.set_cons_succ]
                          refine wpAnyH_take (i := 10) (oi := _) (v := undef) rfl (by kernel_rfl) (by kernel_rfl) (by kernel_rfl) (fun _ _ _ h => h) (Or.inr ⟨by kernel_rfl, rfl⟩) (by assumption) ?_
                          simp only [List.getElem_toArray, List.getElem_cons_succ, List.getElem_cons_zero, Act.put, List.setIfInBounds_toArray, List.set_cons_zero, List.set_cons_succ]
                          refine wpAnyH_take (i := 11) (oi := _) (v := undef) rfl (by kernel_rfl) (by kernel_rfl) (by kernel_rfl) (fun _ _ _ h => h) (Or.inr ⟨by kernel_rfl, rfl⟩) (by assumption) ?_
                          simp only [List.getElem_toArray, List.getElem_cons_succ, List.getElem_cons_zero, Act.put, List.setIfInBounds_toArray, List.set_cons_zero, List.set_cons_succ]
                          refine wpAnyH_take (i := 12) (oi := _) (v := undef) rfl (by kernel_rfl) (by kernel_rfl) (by kernel_rfl) (fun _ _ _ h => h) (Or.inr ⟨by kernel_rfl, rfl⟩) (by assumption) ?_
                          simp only [List.getElem_toArray, List.getElem_cons_succ, List.getElem_cons_zero, Act.put, List.setIfInBounds_toArray, List.set_cons_zero, List.set_cons_succ]
                          refine wpAnyH_take (i := 13) (oi := _) (v := undef) rfl (by kernel_rfl) (by kernel_rfl) (by kernel_rfl) (fun _ _ _ h => h) (Or.inr ⟨by kernel_rfl, rfl⟩) (by assumption) ?_
                          simp only [List.getElem_toArray, List.getElem_cons_succ, List.getElem_cons_zero, Act.put, List.setIfInBounds_toArray, List.set_cons_zero, List.set_cons_succ]
                          refine wpAnyH_take (i := 14) (oi := _) (v := undef) rfl (by kernel_rfl) (by kernel_rfl) (by kernel_rfl) (fun _ _ _ h => h) (Or.inr ⟨by kernel_rfl, rfl⟩) (by assumption) ?_
                          simp only [List.getElem_toArray, List.getElem_cons_succ, List.getElem_cons_zero, Act.put, List.setIfInBounds_toArray, List.set_cons_zero, List.set_cons_succ]
                          refine wpAnyH_take (i := 15) (oi := _) (v := ?v15f) rfl (by kernel_rfl) (by kernel_rfl) (by kernel_rfl) (fun _ _ _ h => h) (Or.inl ⟨by kernel_rfl, ?y15f⟩) (by assumption) ?r15f
                          case y15f => (intro w hSw; (try dsimp only at hSw); go_simp; try (with_reducible rfl))
                          case r15f =>
                            simp only [List.getElem_toArray, List.getElem_cons_succ, List.getElem_cons_zero, Act.put, List.setIfInBounds_toArray, List.set_cons_zero, List.set_cons_succ]
                            refine wpAnyH_ready (rs := [16]) (by kernel_rfl) (by simp) ?_
                            refine AllReadyH.cons (o := _) rfl (fun K hK => ?_) AllReadyH.nil
                            go_simp
                            skip
                            go_wp2_with fail
                            refine hK.out _ _ (by first | exact ⟨pw_cell_below HB9.out hHeld.1, pw_cell_below HB9.out hHeld.2.1, pw_cell_below HB9.out hHeld.2.2.1, pw_cell_below HB9.out hHeld.2.2.2.1, pw_cell_below HB9.out hHeld.2.2.2.2.1, pw_cell_below HB9.out hHeld.2.2.2.2.2⟩ | simpa [cell_far, nb1, nb2, nT1] using hHeld) (fun hHeld => ?_)
                            clear hK K
                            try simp only [List.getElem_toArray, List.getElem_cons_succ, List.getElem_cons_zero, Act.put, List.setIfInBounds_toArray, List.set_cons_zero, List.set_cons_succ]
                            refine wpAnyH_take (i := 17) (oi := _) (v := ?v17f) rfl (by kernel_rfl) (by kernel_rfl) (by kernel_rfl) (fun _ _ _ h => h) (Or.inl ⟨by kernel_rfl, ?y17f⟩) (by assumption) ?r17f
                            case y17f => (intro w hSw; (try dsimp only at hSw); go_simp; try (with_reducible rfl))
                            case r17f =>
                              simp only [List.getElem_toArray, List.getElem_cons_succ, List.getElem_cons_zero, Act.put, List.setIfInBounds_toArray, List.set_cons_zero, List.set_cons_succ]
                              refine wpAnyH_take (i := 18) (oi := _) (v := ?v18f) rfl (by kernel_rfl) (by kernel_rfl) (by kernel_rfl) (fun _ _ _ h => h) (Or.inl ⟨by kernel_rfl, ?y18f⟩) (by assumption) ?r18f
                              case y18f => (intro w hSw; (try dsimp only at hSw); go_simp; try (with_reducible rfl))
                              case r18f =>
                                simp only [List.getElem_toArray, List.getElem_cons_succ, List.getElem_cons_zero, Act.put, List.setIfInBounds_toArray, List.set_cons_zero, List.set_cons_succ]
                                refine wpAnyH_take (i := 19) (oi := _) (v := ?v19f) rfl (by kernel_rfl) (by kernel_rfl) (by kernel_rfl) (fun _ _ _ h => h) (Or.inl ⟨by kernel_rfl, ?y19f⟩) (by assumption) ?r19f
                                case y19f => (intro w hSw; (try dsimp only at hSw); go_simp; try (with_reducible rfl))
                                case r19f =>
                                  simp only [List.getElem_toArray, List.getElem_cons_succ, List.getElem_cons_zero, Act.put, List.setIfInBounds_toArray, List.set_cons_zero, List.set_cons_succ]
                                  refine wpAnyH_done (by kernel_rfl) ?_ _
                                  clear hHeld
                                  go_wp2_with fail
                                  have hfin := ret_own (room := room) (next := next) HS8d.out.ow HS8d.out.bw HS8d.out.bz (Nat.le_succ _)
                                  refine bodyPost_ret (v := .tuple #[fv room next (.slice (some ⟨b, off, none⟩) n2 c2), str q, .bool (false), .int .i64 0]) (by simp [results, Try.results11, go_sem, s0, s1, s2]) rfl ?_
                                  rw [HE.out, HQQ.out]
                                  exact ⟨_, n2, c2, _, by rw [HDN.out]; rfl, HFS.out, hfin.1, hfin.2⟩
          
        | true =>
          have HDN := Lib.hid hdn
          rw [hdn] at HD8
          clear hdn
          have C25 := Lib.hid (show Calls Try.prog 25 #[ptr b (off + i * 8)] W8.drew fun e w' => e = .returned (.int .i64 (endS x)) ∧ Below W8.drew.heap.size W8.drew w' from end_any W8.drew b (off + i * 8) _ (HF8.out.below (below_drew (Below.refl _ _))) HOK.out)
          by_cases hee : t.at' + (q.length : Int) = endS x
          · have HDE := Lib.hid (show decide (t.at' + (q.length : Int) = endS x) = true from decide_eq_true hee)
            have hbe : ((t.at' + (q.length : Int)) == endS x) = true := by simpa using hee
            clear hee
            refine wp_region_held_drew (S := fun W' => W'.cell? ⟨w.heap.size, 0, none⟩ = some (.int .i64 room) ∧ W'.cell? ⟨w.heap.size, 1, none⟩ = some (.int .i64 next) ∧ W'.cell? ⟨w.heap.size, 2, none⟩ = some (.slice (some ⟨b, off, none⟩) n2 c2) ∧ W'.cell? ⟨T6, 0, none⟩ = some (.pointer (some ⟨b, off + i * 8, none⟩)) ∧ W'.cell? ⟨b, off + i * 8 + 6, none⟩ = some (.bool true) ∧ W'.cell? ⟨b2, o2 + k * 2 + 1, none⟩ = some (.int .i64 (t.at' + (q.length : Int)))) (by kernel_rfl) (⟨box_at HS8.out.bx 0 _ rfl, box_at HS8.out.bx 1 _ rfl, box_at HS8.out.bx 2 _ rfl, HP8.out, HD8.out, HJ8.out⟩) (fun hHeld => ?_)
            refine wpAnyH_take (i := 0) (oi := _) (v := ?v0e) rfl (by kernel_rfl) (by kernel_rfl) (by kernel_rfl) (fun _ _ _ h => h) (Or.inl ⟨by kernel_rfl, ?y0e⟩) (by assumption) ?r0e
            case y0e => (intro w hSw; (try dsimp only at hSw); go_simp; try (with_reducible rfl))
            case r0e =>
              simp only [List.getElem_toArray, List.getElem_cons_succ, List.getElem_cons_zero, Act.put, List.setIfInBounds_toArray, List.set_cons_zero, List.set_cons_succ]
              refine wpAnyH_take (i := 1) (oi := _) (v := ?v1e) rfl (by kernel_rfl) (by kernel_rfl) (by kernel_rfl) (fun _ _ _ h => h) (Or.inl ⟨by kernel_rfl, ?y1e⟩) (by assumption) ?r1e
              case y1e => (intro w hSw; (try dsimp only at hSw); go_simp; try (with_reducible rfl))
              case r1e =>
                simp only [List.getElem_toArray, List.getElem_cons_succ, List.getElem_cons_zero, Act.put, List.setIfInBounds_toArray, List.set_cons_zero, List.set_cons_succ]
                refine wpAnyH_take (i := 2) (oi := _) (v := ?v2e) rfl (by kernel_rfl) (by kernel_rfl) (by kernel_rfl) (fun _ _ _ h => h) (Or.inl ⟨by kernel_rfl, ?y2e⟩) (by assumption) ?r2e
                case y2e => (intro w hSw; (try dsimp only at hSw); go_simp; try (with_reducible rfl))
                case r2e =>
                  simp only [List.getElem_toArray, List.getElem_cons_succ, List.getElem_cons_zero, Act.put, List.setIfInBounds_toArray, List.set_cons_zero, List.set_cons_succ]
                  refine wpAnyH_take (i := 3) (oi := _) (v := ?v3e) rfl (by kernel_rfl) (by kernel_rfl) (by kernel_rfl) (fun _ _ _ h => h) (Or.inl ⟨by kernel_rfl, ?y3e⟩) (by assumption) ?r3e
                  case y3e => (intro w hSw; (try dsimp only at hSw); go_simp; try (with_reducible rfl))
                  case r3e =>
                    simp only [List.getElem_toArray, List.getElem_cons_succ, List.getElem_cons_zero, Act.put, List.setIfInBounds_toArray, List.set_cons_zero, List.set_cons_succ]
                    refine wpAnyH_take (i := 4) (oi := _) (v := ?v4e) rfl (by kernel_rfl) (by kernel_rfl) (by kernel_rfl) (fun _ _ _ h => h) (Or.inl ⟨by kernel_rfl, ?y4e⟩) (by assumption) ?r4e
                    case y4e => (intro w hSw; (try dsimp only at hSw); go_simp; try (with_reducible rfl))
                    case r4e =>
                      simp only [List.getElem_toArray, List.getElem_cons_succ, List.getElem_cons_zero, Act.put, List.setIfInBounds_toArray, List.set_cons_zero, List.set_cons_succ]
                      refine wpAnyH_take (i := 5) (oi := _) (v := ?v5e) rfl (by kernel_rfl) (by kernel_rfl) (by kernel_rfl) (fun _ _ _ h => h) (Or.inl ⟨by kernel_rfl, ?y5e⟩) (by assumption) ?r5e
                      case y5e => (intro w hSw; (try dsimp only at hSw); go_simp; try (with_reducible rfl))
                      case r5e =>
                        simp only [List.getElem_toArray, List.getElem_cons_succ, List.getElem_cons_zero, Act.put, List.setIfInBounds_toArray, List.set_cons_zero, List.set_cons_succ]
                        refine wpAnyH_take (i := 6) (oi := _) (v := ?v6e) rfl (by kernel_rfl) (by kernel_rfl) (by kernel_rfl) (fun _ _ _ h => h) (Or.inl ⟨by kernel_rfl, ?y6e⟩) (by assumption) ?r6e
                        case y6e => (intro w hSw; (try dsimp only at hSw); go_simp; try (with_reducible rfl))
                        case r6e =>
                          simp only [List.getElem_toArray, List.getElem_cons_succ, List.getElem_cons_zero, Act.put, List.setIfInBounds_toArray, List.set_cons_zero, List.set_cons_succ]
                          refine wpAnyH_take (i := 7) (oi := _) (v := ?v7e) rfl (by kernel_rfl) (by kernel_rfl) (by kernel_rfl) (fun _ _ _ h => h) (Or.inl ⟨by kernel_rfl, ?y7e⟩) (by assumption) ?r7e
                          case y7e => (intro w hSw; (try dsimp only at hSw); go_simp; try (with_reducible rfl))
                          case r7e =>
                            simp only [List.getElem_toArray, List.getElem_cons_succ, List.getElem_cons_zero, Act.put, List.setIfInBounds_toArray, List.set_cons_zero, List.set_cons_succ]
                            refine wpAnyH_take (i := 8) (oi := _) (v := ?v8e) rfl (by kernel_rfl) (by kernel_rfl) (by kernel_rfl) (fun _ _ _ h => h) (Or.inl ⟨by kernel_rfl, ?y8e⟩) (by assumption) ?r8e
                            case y8e => (intro w hSw; (try dsimp only at hSw); go_simp; try (with_reducible rfl))
                            case r8e =>
                              simp only [List.getElem_toArray, List.getElem_cons_succ, List.getElem_cons_zero, Act.put, List.setIfInBounds_toArray, List.set_cons_zero, List.set_cons_succ]
                              refine wpAnyH_take (i := 9) (oi := _) (v := ?v9e) rfl (by kernel_rfl) (by kernel_rfl) (by kernel_rfl) (fun _ _ _ h => h) (Or.inl ⟨by kernel_rfl, ?y9e⟩) (by assumption) ?r9e
                              case y9e => (intro w hSw; (try dsimp only at hSw); go_simp; try (with_reducible rfl))
                              case r9e =>
                                simp only [List.getElem_toArray, List.getElem_cons_succ, List.getElem_cons_zero, Act.put, List.setIfInBounds_toArray, List.set_cons_zero, List.set_cons_succ]
                                refine wpAnyH_take (i := 10) (oi := _) (v := ?v10e) rfl (by kernel_rfl) (by kernel_rfl) (by kernel_rfl) (fun _ _ _ h => h) (Or.inl ⟨by kernel_rfl, ?y10e⟩) (by assumption) ?r10e
                                case y10e => (intro w hSw; (try dsimp only at hSw); go_simp; try (with_reducible rfl))
                                case r10e =>
                                  simp only [List.getElem_toArray, List.getElem_cons_succ, List.getElem_cons_zero, Act.put, List.setIfInBounds_toArray, List.set_cons_zero, List.set_cons_succ]
                                  refine wpAnyH_take (i := 11) (oi := _) (v := ?v11e) rfl (by kernel_rfl) (by kernel_rfl) (by kernel_rfl) (fun _ _ _ h => h) (Or.inl ⟨by kernel_rfl, ?y11e⟩) (by assumption) ?r11e
                                  case y11e => (intro w hSw; (try dsimp only at hSw); go_simp; try (with_reducible rfl))
                                  case r11e =>
                                    simp only [List.getElem_toArray, List.getElem_cons_succ, List.getElem_cons_zero, Act.put, List.setIfInBounds_toArray, List.set_cons_zero, List.set_cons_succ]
                                    refine wpAnyH_take (i := 12) (oi := _) (v := ?v12e) rfl (by kernel_rfl) (by kernel_rfl) (by kernel_rfl) (fun _ _ _ h => h) (Or.inl ⟨by kernel_rfl, ?y12e⟩) (by assumption) ?r12e
                                    case y12e => (intro w hSw; (try dsimp only at hSw); go_simp; try (with_reducible rfl))
                                    case r12e =>
                                      simp only [List.getElem_toArray, List.getElem_cons_succ, List.getElem_cons_zero, Act.put, List.setIfInBounds_toArray, List.set_cons_zero, List.set_cons_succ]
                                      refine wpAnyH_ready (rs := [13]) (by kernel_rfl) (by simp) ?_
                                      refine AllReadyH.cons (o := _) rfl (fun K hK => ?_) AllReadyH.nil
                                      go_simp
                                      (go_at_call 25; refine C25.out.mono ?_; rintro e w9 ⟨rfl, hb9⟩; have HB9 := Lib.hid hb9; have HS9 := Lib.hid (HS8d.out.below hb9); clear hb9; have s0 : w9.cell? ⟨w.heap.size + 1, 0, none⟩ = some (.int .i64 0) := box_at HS9.out.bz 0 _ rfl; have s1 : w9.cell? ⟨w.heap.size + 1, 1, none⟩ = some (.int .i64 0) := box_at HS9.out.bz 1 _ rfl; have s2 : w9.cell? ⟨w.heap.size + 1, 2, none⟩ = some (.slice none 0 0) := box_at HS9.out.bz 2 _ rfl; have sf := box_free HS9.out.bz)
                                      go_wp2_with fail
                                      refine hK.out _ _ (by first | exact ⟨pw_cell_below HB9.out hHeld.1, pw_cell_below HB9.out hHeld.2.1, pw_cell_below HB9.out hHeld.2.2.1, pw_cell_below HB9.out hHeld.2.2.2.1, pw_cell_below HB9.out hHeld.2.2.2.2.1, pw_cell_below HB9.out hHeld.2.2.2.2.2⟩ | simpa [cell_far, nb1, nb2, nT1] using hHeld) (fun hHeld => ?_)
                                      clear hK K
                                      try simp only [List.getElem_toArray, List.getElem_cons_succ, List.getElem_cons_zero, Act.put, List.setIfInBounds_toArray, List.set_cons_zero, List.set_cons_succ]
                                      refine wpAnyH_take (i := 14) (oi := _) (v := ?v14e) rfl (by kernel_rfl) (by kernel_rfl) (by kernel_rfl) (fun _ _ _ h => h) (Or.inl ⟨by kernel_rfl, ?y14e⟩) (by assumption) ?r14e
                                      case y14e => (intro w hSw; (try dsimp only at hSw); go_simp; try (with_reducible rfl))
                                      case r14e =>
                                        simp only [List.getElem_toArray, List.getElem_cons_succ, List.getElem_cons_zero, Act.put, List.setIfInBounds_toArray, List.set_cons_zero, List.set_cons_succ]
                                        refine wpAnyH_take (i := 15) (oi := _) (v := ?v15e) rfl (by kernel_rfl) (by kernel_rfl) (by kernel_rfl) (fun _ _ _ h => h) (Or.inl ⟨by kernel_rfl, ?y15e⟩) (by assumption) ?r15e
                                        case y15e => (intro w hSw; (try dsimp only at hSw); go_simp; try (with_reducible rfl))
                                        case r15e =>
                                          simp only [List.getElem_toArray, List.getElem_cons_succ, List.getElem_cons_zero, Act.put, List.setIfInBounds_toArray, List.set_cons_zero, List.set_cons_succ]
                                          refine wpAnyH_ready (rs := [16]) (by kernel_rfl) (by simp) ?_
                                          refine AllReadyH.cons (o := _) rfl (fun K hK => ?_) AllReadyH.nil
                                          go_simp
                                          skip
                                          go_wp2_with fail
                                          refine hK.out _ _ (by first | exact ⟨pw_cell_below HB9.out hHeld.1, pw_cell_below HB9.out hHeld.2.1, pw_cell_below HB9.out hHeld.2.2.1, pw_cell_below HB9.out hHeld.2.2.2.1, pw_cell_below HB9.out hHeld.2.2.2.2.1, pw_cell_below HB9.out hHeld.2.2.2.2.2⟩ | simpa [cell_far, nb1, nb2, nT1] using hHeld) (fun hHeld => ?_)
                                          clear hK K
                                          try simp only [List.getElem_toArray, List.getElem_cons_succ, List.getElem_cons_zero, Act.put, List.setIfInBounds_toArray, List.set_cons_zero, List.set_cons_succ]
                                          refine wpAnyH_take (i := 17) (oi := _) (v := ?v17e) rfl (by kernel_rfl) (by kernel_rfl) (by kernel_rfl) (fun _ _ _ h => h) (Or.inl ⟨by kernel_rfl, ?y17e⟩) (by assumption) ?r17e
                                          case y17e => (intro w hSw; (try dsimp only at hSw); go_simp; try (with_reducible rfl))
                                          case r17e =>
                                            simp only [List.getElem_toArray, List.getElem_cons_succ, List.getElem_cons_zero, Act.put, List.setIfInBounds_toArray, List.set_cons_zero, List.set_cons_succ]
                                            refine wpAnyH_take (i := 18) (oi := _) (v := ?v18e) rfl (by kernel_rfl) (by kernel_rfl) (by kernel_rfl) (fun _ _ _ h => h) (Or.inl ⟨by kernel_rfl, ?y18e⟩) (by assumption) ?r18e
                                            case y18e => (intro w hSw; (try dsimp only at hSw); go_simp; try (with_reducible rfl))
                                            case r18e =>
                                              simp only [List.getElem_toArray, List.getElem_cons_succ, List.getElem_cons_zero, Act.put, List.setIfInBounds_toArray, List.set_cons_zero, List.set_cons_succ]
                                              refine wpAnyH_take (i := 19) (oi := _) (v := ?v19e) rfl (by kernel_rfl) (by kernel_rfl) (by kernel_rfl) (fun _ _ _ h => h) (Or.inl ⟨by kernel_rfl, ?y19e⟩) (by assumption) ?r19e
                                              case y19e => (intro w hSw; (try dsimp only at hSw); go_simp; try (with_reducible rfl))
                                              case r19e =>
                                                simp only [List.getElem_toArray, List.getElem_cons_succ, List.getElem_cons_zero, Act.put, List.setIfInBounds_toArray, List.set_cons_zero, List.set_cons_succ]
                                                refine wpAnyH_done (by kernel_rfl) ?_ _
                                                clear hHeld
                                                go_wp2_with fail
                                                have hfin := ret_own (room := room) (next := next) HS9.out.ow HS9.out.bw HS9.out.bz (Nat.le_succ _)
                                                refine bodyPost_ret (v := .tuple #[fv room next (.slice (some ⟨b, off, none⟩) n2 c2), str q, .bool (true), .int .i64 0]) (by simp [results, Try.results11, go_sem, s0, s1, s2]) rfl ?_
                                                rw [HE.out, HQQ.out]
                                                exact ⟨_, n2, c2, _, by rw [HDN.out, HDE.out]; rfl, HFS.out, hfin.1, hfin.2⟩
            
          · have HDE := Lib.hid (show decide (t.at' + (q.length : Int) = endS x) = false from decide_eq_false hee)
            have hbe : ((t.at' + (q.length : Int)) == endS x) = false := by simpa using hee
            clear hee
            refine wp_region_held_drew (S := fun W' => W'.cell? ⟨w.heap.size, 0, none⟩ = some (.int .i64 room) ∧ W'.cell? ⟨w.heap.size, 1, none⟩ = some (.int .i64 next) ∧ W'.cell? ⟨w.heap.size, 2, none⟩ = some (.slice (some ⟨b, off, none⟩) n2 c2) ∧ W'.cell? ⟨T6, 0, none⟩ = some (.pointer (some ⟨b, off + i * 8, none⟩)) ∧ W'.cell? ⟨b, off + i * 8 + 6, none⟩ = some (.bool true) ∧ W'.cell? ⟨b2, o2 + k * 2 + 1, none⟩ = some (.int .i64 (t.at' + (q.length : Int)))) (by kernel_rfl) (⟨box_at HS8.out.bx 0 _ rfl, box_at HS8.out.bx 1 _ rfl, box_at HS8.out.bx 2 _ rfl, HP8.out, HD8.out, HJ8.out⟩) (fun hHeld => ?_)
            refine wpAnyH_take (i := 0) (oi := _) (v := ?v0d) rfl (by kernel_rfl) (by kernel_rfl) (by kernel_rfl) (fun _ _ _ h => h) (Or.inl ⟨by kernel_rfl, ?y0d⟩) (by assumption) ?r0d
            case y0d => (intro w hSw; (try dsimp only at hSw); go_simp; try (with_reducible rfl))
            case r0d =>
              simp only [List.getElem_toArray, List.getElem_cons_succ, List.getElem_cons_zero, Act.put, List.setIfInBounds_toArray, List.set_cons_zero, List.set_cons_succ]
              refine wpAnyH_take (i := 1) (oi := _) (v := ?v1d) rfl (by kernel_rfl) (by kernel_rfl) (by kernel_rfl) (fun _ _ _ h => h) (Or.inl ⟨by kernel_rfl, ?y1d⟩) (by assumption) ?r1d
              case y1d => (intro w hSw; (try dsimp only at hSw); go_simp; try (with_reducible rfl))
              case r1d =>
                simp only [List.getElem_toArray, List.getElem_cons_succ, List.getElem_cons_zero, Act.put, List.setIfInBounds_toArray, List.set_cons_zero, List.set_cons_succ]
                refine wpAnyH_take (i := 2) (oi := _) (v := ?v2d) rfl (by kernel_rfl) (by kernel_rfl) (by kernel_rfl) (fun _ _ _ h => h) (Or.inl ⟨by kernel_rfl, ?y2d⟩) (by assumption) ?r2d
                case y2d => (intro w hSw; (try dsimp only at hSw); go_simp; try (with_reducible rfl))
                case r2d =>
                  simp only [List.getElem_toArray, List.getElem_cons_succ, List.getElem_cons_zero, Act.put, List.setIfInBounds_toArray, List.set_cons_zero, List.set_cons_succ]
                  refine wpAnyH_take (i := 3) (oi := _) (v := ?v3d) rfl (by kernel_rfl) (by kernel_rfl) (by kernel_rfl) (fun _ _ _ h => h) (Or.inl ⟨by kernel_rfl, ?y3d⟩) (by assumption) ?r3d
                  case y3d => (intro w hSw; (try dsimp only at hSw); go_simp; try (with_reducible rfl))
                  case r3d =>
                    simp only [List.getElem_toArray, List.getElem_cons_succ, List.getElem_cons_zero, Act.put, List.setIfInBounds_toArray, List.set_cons_zero, List.set_cons_succ]
                    refine wpAnyH_take (i := 4) (oi := _) (v := ?v4d) rfl (by kernel_rfl) (by kernel_rfl) (by kernel_rfl) (fun _ _ _ h => h) (Or.inl ⟨by kernel_rfl, ?y4d⟩) (by assumption) ?r4d
                    case y4d => (intro w hSw; (try dsimp only at hSw); go_simp; try (with_reducible rfl))
                    case r4d =>
                      simp only [List.getElem_toArray, List.getElem_cons_succ, List.getElem_cons_zero, Act.put, List.setIfInBounds_toArray, List.set_cons_zero, List.set_cons_succ]
                      refine wpAnyH_take (i := 5) (oi := _) (v := ?v5d) rfl (by kernel_rfl) (by kernel_rfl) (by kernel_rfl) (fun _ _ _ h => h) (Or.inl ⟨by kernel_rfl, ?y5d⟩) (by assumption) ?r5d
                      case y5d => (intro w hSw; (try dsimp only at hSw); go_simp; try (with_reducible rfl))
                      case r5d =>
                        simp only [List.getElem_toArray, List.getElem_cons_succ, List.getElem_cons_zero, Act.put, List.setIfInBounds_toArray, List.set_cons_zero, List.set_cons_succ]
                        refine wpAnyH_take (i := 6) (oi := _) (v := ?v6d) rfl (by kernel_rfl) (by kernel_rfl) (by kernel_rfl) (fun _ _ _ h => h) (Or.inl ⟨by kernel_rfl, ?y6d⟩) (by assumption) ?r6d
                        case y6d => (intro w hSw; (try dsimp only at hSw); go_simp; try (with_reducible rfl))
                        case r6d =>
                          simp only [List.getElem_toArray, List.getElem_cons_succ, List.getElem_cons_zero, Act.put, List.setIfInBounds_toArray, List.set_cons_zero, List.set_cons_succ]
                          refine wpAnyH_take (i := 7) (oi := _) (v := ?v7d) rfl (by kernel_rfl) (by kernel_rfl) (by kernel_rfl) (fun _ _ _ h => h) (Or.inl ⟨by kernel_rfl, ?y7d⟩) (by assumption) ?r7d
                          case y7d => (intro w hSw; (try dsimp only at hSw); go_simp; try (with_reducible rfl))
                          case r7d =>
                            simp only [List.getElem_toArray, List.getElem_cons_succ, List.getElem_cons_zero, Act.put, List.setIfInBounds_toArray, List.set_cons_zero, List.set_cons_succ]
                            refine wpAnyH_take (i := 8) (oi := _) (v := ?v8d) rfl (by kernel_rfl) (by kernel_rfl) (by kernel_rfl) (fun _ _ _ h => h) (Or.inl ⟨by kernel_rfl, ?y8d⟩) (by assumption) ?r8d
                            case y8d => (intro w hSw; (try dsimp only at hSw); go_simp; try (with_reducible rfl))
                            case r8d =>
                              simp only [List.getElem_toArray, List.getElem_cons_succ, List.getElem_cons_zero, Act.put, List.setIfInBounds_toArray, List.set_cons_zero, List.set_cons_succ]
                              refine wpAnyH_take (i := 9) (oi := _) (v := ?v9d) rfl (by kernel_rfl) (by kernel_rfl) (by kernel_rfl) (fun _ _ _ h => h) (Or.inl ⟨by kernel_rfl, ?y9d⟩) (by assumption) ?r9d
                              case y9d => (intro w hSw; (try dsimp only at hSw); go_simp; try (with_reducible rfl))
                              case r9d =>
                                simp only [List.getElem_toArray, List.getElem_cons_succ, List.getElem_cons_zero, Act.put, List.setIfInBounds_toArray, List.set_cons_zero, List.set_cons_succ]
                                refine wpAnyH_take (i := 10) (oi := _) (v := ?v10d) rfl (by kernel_rfl) (by kernel_rfl) (by kernel_rfl) (fun _ _ _ h => h) (Or.inl ⟨by kernel_rfl, ?y10d⟩) (by assumption) ?r10d
                                case y10d => (intro w hSw; (try dsimp only at hSw); go_simp; try (with_reducible rfl))
                                case r10d =>
                                  simp only [List.getElem_toArray, List.getElem_cons_succ, List.getElem_cons_zero, Act.put, List.setIfInBounds_toArray, List.set_cons_zero, List.set_cons_succ]
                                  refine wpAnyH_take (i := 11) (oi := _) (v := ?v11d) rfl (by kernel_rfl) (by kernel_rfl) (by kernel_rfl) (fun _ _ _ h => h) (Or.inl ⟨by kernel_rfl, ?y11d⟩) (by assumption) ?r11d
                                  case y11d => (intro w hSw; (try dsimp only at hSw); go_simp; try (with_reducible rfl))
                                  case r11d =>
                                    simp only [List.getElem_toArray, List.getElem_cons_succ, List.getElem_cons_zero, Act.put, List.setIfInBounds_toArray, List.set_cons_zero, List.set_cons_succ]
                                    refine wpAnyH_take (i := 12) (oi := _) (v := ?v12d) rfl (by kernel_rfl) (by kernel_rfl) (by kernel_rfl) (fun _ _ _ h => h) (Or.inl ⟨by kernel_rfl, ?y12d⟩) (by assumption) ?r12d
                                    case y12d => (intro w hSw; (try dsimp only at hSw); go_simp; try (with_reducible rfl))
                                    case r12d =>
                                      simp only [List.getElem_toArray, List.getElem_cons_succ, List.getElem_cons_zero, Act.put, List.setIfInBounds_toArray, List.set_cons_zero, List.set_cons_succ]
                                      refine wpAnyH_ready (rs := [13]) (by kernel_rfl) (by simp) ?_
                                      refine AllReadyH.cons (o := _) rfl (fun K hK => ?_) AllReadyH.nil
                                      go_simp
                                      (go_at_call 25; refine C25.out.mono ?_; rintro e w9 ⟨rfl, hb9⟩; have HB9 := Lib.hid hb9; have HS9 := Lib.hid (HS8d.out.below hb9); clear hb9; have s0 : w9.cell? ⟨w.heap.size + 1, 0, none⟩ = some (.int .i64 0) := box_at HS9.out.bz 0 _ rfl; have s1 : w9.cell? ⟨w.heap.size + 1, 1, none⟩ = some (.int .i64 0) := box_at HS9.out.bz 1 _ rfl; have s2 : w9.cell? ⟨w.heap.size + 1, 2, none⟩ = some (.slice none 0 0) := box_at HS9.out.bz 2 _ rfl; have sf := box_free HS9.out.bz)
                                      go_wp2_with fail
                                      refine hK.out _ _ (by first | exact ⟨pw_cell_below HB9.out hHeld.1, pw_cell_below HB9.out hHeld.2.1, pw_cell_below HB9.out hHeld.2.2.1, pw_cell_below HB9.out hHeld.2.2.2.1, pw_cell_below HB9.out hHeld.2.2.2.2.1, pw_cell_below HB9.out hHeld.2.2.2.2.2⟩ | simpa [cell_far, nb1, nb2, nT1] using hHeld) (fun hHeld => ?_)
                                      clear hK K
                                      try simp only [List.getElem_toArray, List.getElem_cons_succ, List.getElem_cons_zero, Act.put, List.setIfInBounds_toArray, List.set_cons_zero, List.set_cons_succ]
                                      refine wpAnyH_take (i := 14) (oi := _) (v := ?v14d) rfl (by kernel_rfl) (by kernel_rfl) (by kernel_rfl) (fun _ _ _ h => h) (Or.inl ⟨by kernel_rfl, ?y14d⟩) (by assumption) ?r14d
                                      case y14d => (intro w hSw; (try dsimp only at hSw); go_simp; try (with_reducible rfl))
                                      case r14d =>
                                        simp only [List.getElem_toArray, List.getElem_cons_succ, List.getElem_cons_zero, Act.put, List.setIfInBounds_toArray, List.set_cons_zero, List.set_cons_succ]
                                        refine wpAnyH_take (i := 15) (oi := _) (v := ?v15d) rfl (by kernel_rfl) (by kernel_rfl) (by kernel_rfl) (fun _ _ _ h => h) (Or.inl ⟨by kernel_rfl, ?y15d⟩) (by assumption) ?r15d
                                        case y15d => (intro w hSw; (try dsimp only at hSw); go_simp; try (with_reducible rfl))
                                        case r15d =>
                                          simp only [List.getElem_toArray, List.getElem_cons_succ, List.getElem_cons_zero, Act.put, List.setIfInBounds_toArray, List.set_cons_zero, List.set_cons_succ]
                                          refine wpAnyH_ready (rs := [16]) (by kernel_rfl) (by simp) ?_
                                          refine AllReadyH.cons (o := _) rfl (fun K hK => ?_) AllReadyH.nil
                                          go_simp
                                          skip
                                          go_wp2_with fail
                                          refine hK.out _ _ (by first | exact ⟨pw_cell_below HB9.out hHeld.1, pw_cell_below HB9.out hHeld.2.1, pw_cell_below HB9.out hHeld.2.2.1, pw_cell_below HB9.out hHeld.2.2.2.1, pw_cell_below HB9.out hHeld.2.2.2.2.1, pw_cell_below HB9.out hHeld.2.2.2.2.2⟩ | simpa [cell_far, nb1, nb2, nT1] using hHeld) (fun hHeld => ?_)
                                          clear hK K
                                          try simp only [List.getElem_toArray, List.getElem_cons_succ, List.getElem_cons_zero, Act.put, List.setIfInBounds_toArray, List.set_cons_zero, List.set_cons_succ]
                                          refine wpAnyH_take (i := 17) (oi := _) (v := ?v17d) rfl (by kernel_rfl) (by kernel_rfl) (by kernel_rfl) (fun _ _ _ h => h) (Or.inl ⟨by kernel_rfl, ?y17d⟩) (by assumption) ?r17d
                                          case y17d => (intro w hSw; (try dsimp only at hSw); go_simp; try (with_reducible rfl))
                                          case r17d =>
                                            simp only [List.getElem_toArray, List.getElem_cons_succ, List.getElem_cons_zero, Act.put, List.setIfInBounds_toArray, List.set_cons_zero, List.set_cons_succ]
                                            refine wpAnyH_take (i := 18) (oi := _) (v := ?v18d) rfl (by kernel_rfl) (by kernel_rfl) (by kernel_rfl) (fun _ _ _ h => h) (Or.inl ⟨by kernel_rfl, ?y18d⟩) (by assumption) ?r18d
                                            case y18d => (intro w hSw; (try dsimp only at hSw); go_simp; try (with_reducible rfl))
                                            case r18d =>
                                              simp only [List.getElem_toArray, List.getElem_cons_succ, List.getElem_cons_zero, Act.put, List.setIfInBounds_toArray, List.set_cons_zero, List.set_cons_succ]
                                              refine wpAnyH_take (i := 19) (oi := _) (v := ?v19d) rfl (by kernel_rfl) (by kernel_rfl) (by kernel_rfl) (fun _ _ _ h => h) (Or.inl ⟨by kernel_rfl, ?y19d⟩) (by assumption) ?r19d
                                              case y19d => (intro w hSw; (try dsimp only at hSw); go_simp; try (with_reducible rfl))
                                              case r19d =>
                                                simp only [List.getElem_toArray, List.getElem_cons_succ, List.getElem_cons_zero, Act.put, List.setIfInBounds_toArray, List.set_cons_zero, List.set_cons_succ]
                                                refine wpAnyH_done (by kernel_rfl) ?_ _
                                                clear hHeld
                                                go_wp2_with fail
                                                have hfin := ret_own (room := room) (next := next) HS9.out.ow HS9.out.bw HS9.out.bz (Nat.le_succ _)
                                                refine bodyPost_ret (v := .tuple #[fv room next (.slice (some ⟨b, off, none⟩) n2 c2), str q, .bool (false), .int .i64 0]) (by simp [results, Try.results11, go_sem, s0, s1, s2]) rfl ?_
                                                rw [HE.out, HQQ.out]
                                                exact ⟨_, n2, c2, _, by rw [HDN.out, HDE.out]; rfl, HFS.out, hfin.1, hfin.2⟩
            
      · have hm2 : ¬ cn ≤ r.length := by omega
        obtain ⟨q, hq⟩ : ∃ q, r.take (r.length) = q := ⟨_, rfl⟩
        have hqq : takeX x t (cn : Int) = q := by rw [← hq]; exact HTX.out _ (by omega)
        have hext : (⟨r.toArray⟩ : ByteArray).extract 0 (r.length) = ⟨q.toArray⟩ := by rw [ext_take, hq]
        have hql : q.length ≤ r.length := by rw [← hq, List.length_take]; omega
        have HQQ := Lib.hid hqq
        clear hqq hq
        go_upto_region 11 with fail
        have hwa : wrap64 (t.at' + (q.length : Int)) = t.at' + (q.length : Int) := w64 (by omega) (by omega)
        have hcw := HS7.out.ow.cellW HZK.out HT.out
        have j1 := hcw.1
        have jf := hcw.2
        clear hcw
        go_upto_region 12 with fail
        have hput := HS7.out.ow.putW HZK.out HT.out (t' := { t with at' := t.at' + (q.length : Int) }) 1 (by decide) (v := .int .i64 (t.at' + (q.length : Int))) rfl
        have HS8 := Lib.hid (HS7.out.put rfl HV2.out (by decide) hlo2 hput)
        have HFS := Lib.hid (fls_set HFZ.out i { x with ws := x.ws.set k { t with at' := t.at' + (q.length : Int) } } ⟨some ⟨b2, o2, none⟩, m, d⟩)
        have hzk8 : (zs.set i ({ x with ws := x.ws.set k { t with at' := t.at' + (q.length : Int) } }, (⟨some ⟨b2, o2, none⟩, m, d⟩ : Sl)))[i]? = some ({ x with ws := x.ws.set k { t with at' := t.at' + (q.length : Int) } }, (⟨some ⟨b2, o2, none⟩, m, d⟩ : Sl)) := List.getElem?_set_self (by omega)
        obtain ⟨b', off', hA8, _, hF8⟩ := HS8.out.ow.at_ hzk8
        injection hA8 with hA8
        injection hA8 with hA8 hA9
        subst hA8; subst hA9
        have hd8 : (W7.setCell ⟨b2, o2 + k * 2 + 1, none⟩ (.int .i64 (t.at' + (q.length : Int)))).cell? ⟨b, off + i * 8 + 6, none⟩ = some (.bool x.done) := hF8.c6
        have hp8 : (W7.setCell ⟨b2, o2 + k * 2 + 1, none⟩ (.int .i64 (t.at' + (q.length : Int)))).cell? ⟨T6, 0, none⟩ = some (.pointer (some ⟨b, off + i * 8, none⟩)) := (cell_far nTb _).trans (box_at HX7.out 0 _ rfl)
        have ht8 : (x.ws.set k { t with at' := t.at' + (q.length : Int) })[k]? = some { t with at' := t.at' + (q.length : Int) } := List.getElem?_set_self (by omega)
        have hj8 := (HS8.out.ow.cellW hzk8 ht8).1
        have HF8 := Lib.hid hF8
        have HD8 := Lib.hid hd8
        have HP8 := Lib.hid hp8
        have HJ8 := Lib.hid hj8
        clear hput hzk8 hF8 hd8 hp8 ht8 hj8 j1 jf p0
        generalize W7.setCell ⟨b2, o2 + k * 2 + 1, none⟩ (.int .i64 (t.at' + (q.length : Int))) = W8 at *
        have HS8d := Lib.hid (HS8.out.below (below_drew (Below.refl _ _)))
        cases hdn : x.done with
        | false =>
          have HDN := Lib.hid hdn
          rw [hdn] at HD8
          clear hdn
          have s0 : W8.cell? ⟨w.heap.size + 1, 0, none⟩ = some (.int .i64 0) := box_at HS8.out.bz 0 _ rfl
          have s1 : W8.cell? ⟨w.heap.size + 1, 1, none⟩ = some (.int .i64 0) := box_at HS8.out.bz 1 _ rfl
          have s2 : W8.cell? ⟨w.heap.size + 1, 2, none⟩ = some (.slice none 0 0) := box_at HS8.out.bz 2 _ rfl
          have sf := box_free HS8.out.bz
          refine wp_region_held_drew (S := fun W' => W'.cell? ⟨w.heap.size, 0, none⟩ = some (.int .i64 room) ∧ W'.cell? ⟨w.heap.size, 1, none⟩ = some (.int .i64 next) ∧ W'.cell? ⟨w.heap.size, 2, none⟩ = some (.slice (some ⟨b, off, none⟩) n2 c2) ∧ W'.cell? ⟨T6, 0, none⟩ = some (.pointer (some ⟨b, off + i * 8, none⟩)) ∧ W'.cell? ⟨b, off + i * 8 + 6, none⟩ = some (.bool false) ∧ W'.cell? ⟨b2, o2 + k * 2 + 1, none⟩ = some (.int .i64 (t.at' + (q.length : Int)))) (by kernel_rfl) (⟨box_at HS8.out.bx 0 _ rfl, box_at HS8.out.bx 1 _ rfl, box_at HS8.out.bx 2 _ rfl, HP8.out, HD8.out, HJ8.out⟩) (fun hHeld => ?_)
          refine wpAnyH_take (i := 0) (oi := _) (v := ?v0c) rfl (by kernel_rfl) (by kernel_rfl) (by kernel_rfl) (fun _ _ _ h => h) (Or.inl ⟨by kernel_rfl, ?y0c⟩) (by assumption) ?r0c
          case y0c => (intro w hSw; (try dsimp only at hSw); go_simp; try (with_reducible rfl))
          case r0c =>
            simp only [List.getElem_toArray, List.getElem_cons_succ, List.getElem_cons_zero, Act.put, List.setIfInBounds_toArray, List.set_cons_zero, List.set_cons_succ]
            refine wpAnyH_take (i := 1) (oi := _) (v := ?v1c) rfl (by kernel_rfl) (by kernel_rfl) (by kernel_rfl) (fun _ _ _ h => h) (Or.inl ⟨by kernel_rfl, ?y1c⟩) (by assumption) ?r1c
            case y1c => (intro w hSw; (try dsimp only at hSw); go_simp; try (with_reducible rfl))
            case r1c =>
              simp only [List.getElem_toArray, List.getElem_cons_succ, List.getElem_cons_zero, Act.put, List.setIfInBounds_toArray, List.set_cons_zero, List.set_cons_succ]
              refine wpAnyH_take (i := 2) (oi := _) (v := ?v2c) rfl (by kernel_rfl) (by kernel_rfl) (by kernel_rfl) (fun _ _ _ h => h) (Or.inl ⟨by kernel_rfl, ?y2c⟩) (by assumption) ?r2c
              case y2c => (intro w hSw; (try dsimp only at hSw); go_simp; try (with_reducible rfl))
              case r2c =>
                simp only [List.getElem_toArray, List.getElem_cons_succ, List.getElem_cons_zero, Act.put, List.setIfInBounds_toArray, List.set_cons_zero, List.set_cons_succ]
                refine wpAnyH_take (i := 3) (oi := _) (v := ?v3c) rfl (by kernel_rfl) (by kernel_rfl) (by kernel_rfl) (fun _ _ _ h => h) (Or.inl ⟨by kernel_rfl, ?y3c⟩) (by assumption) ?r3c
                case y3c => (intro w hSw; (try dsimp only at hSw); go_simp; try (with_reducible rfl))
                case r3c =>
                  simp only [List.getElem_toArray, List.getElem_cons_succ, List.getElem_cons_zero, Act.put, List.setIfInBounds_toArray, List.set_cons_zero, List.set_cons_succ]
                  refine wpAnyH_take (i := 4) (oi := _) (v := ?v4c) rfl (by kernel_rfl) (by kernel_rfl) (by kernel_rfl) (fun _ _ _ h => h) (Or.inl ⟨by kernel_rfl, ?y4c⟩) (by assumption) ?r4c
                  case y4c => (intro w hSw; (try dsimp only at hSw); go_simp; try (with_reducible rfl))
                  case r4c =>
                    simp only [List.getElem_toArray, List.getElem_cons_succ, List.getElem_cons_zero, Act.put, List.setIfInBounds_toArray, List.set_cons_zero, List.set_cons_succ]
                    refine wpAnyH_take (i := 5) (oi := _) (v := ?v5c) rfl (by kernel_rfl) (by kernel_rfl) (by kernel_rfl) (fun _ _ _ h => h) (Or.inl ⟨by kernel_rfl, ?y5c⟩) (by assumption) ?r5c
                    case y5c => (intro w hSw; (try dsimp only at hSw); go_simp; try (with_reducible rfl))
                    case r5c =>
                      simp only [List.getElem_toArray, List.getElem_cons_succ, List.getElem_cons_zero, Act.put, List.setIfInBounds_toArray, List.set_cons_zero, List.set_cons_succ]
                      refine wpAnyH_take (i := 6) (oi := _) (v := ?v6c) rfl (by kernel_rfl) (by kernel_rfl) (by kernel_rfl) (fun _ _ _ h => h) (Or.inl ⟨by kernel_rfl, ?y6c⟩) (by assumption) ?r6c
                      case y6c => (intro w hSw; (try dsimp only at hSw); go_simp; try (with_reducible rfl))
                      case r6c =>
                        simp only [List.getElem_toArray, List.getElem_cons_succ, List.getElem_cons_zero, Act.put, List.setIfInBounds_toArray, List.set_cons_zero, List.set_cons_succ]
                        refine wpAnyH_take (i := 7) (oi := _) (v := ?v7c) rfl (by kernel_rfl) (by kernel_rfl) (by kernel_rfl) (fun _ _ _ h => h) (Or.inl ⟨by kernel_rfl, ?y7c⟩) (by assumption) ?r7c
                        case y7c => (intro w hSw; (try dsimp only at hSw); go_simp; try (with_reducible rfl))
                        case r7c =>
                          simp only [List.getElem_toArray, List.getElem_cons_succ, List.getElem_cons_zero, Act.put, List.setIfInBounds_toArray, List.set_cons_zero, List.set_cons_succ]
                          refine wpAnyH_take (i := 8) (oi := _) (v := undef) rfl (by kernel_rfl) (by kernel_rfl) (by kernel_rfl) (fun _ _ _ h => h) (Or.inr ⟨by kernel_rfl, rfl⟩) (by assumption) ?_
                          simp only [List.getElem_toArray, List.getElem_cons_succ, List.getElem_cons_zero, Act.put, List.setIfInBounds_toArray, List.set_cons_zero, List.set_cons_succ]
                          refine wpAnyH_take (i := 9) (oi := _) (v := undef) rfl (by kernel_rfl) (by kernel_rfl) (by kernel_rfl) (fun _ _ _ h => h) (Or.inr ⟨by kernel_rfl, rfl⟩) (by assumption) ?_
                          simp only [List.getElem_toArray, List.getElem_cons_succ, List.getElem_cons_zero, Act.put, List.setIfInBounds_toArray, List.set_cons_zero, List.set_cons_succ]
                          refine wpAnyH_take (i := 10) (oi := _) (v := undef) rfl (by kernel_rfl) (by kernel_rfl) (by kernel_rfl) (fun _ _ _ h => h) (Or.inr ⟨by kernel_rfl, rfl⟩) (by assumption) ?_
                          simp only [List.getElem_toArray, List.getElem_cons_succ, List.getElem_cons_zero, Act.put, List.setIfInBounds_toArray, List.set_cons_zero, List.set_cons_succ]
                          refine wpAnyH_take (i := 11) (oi := _) (v := undef) rfl (by kernel_rfl) (by kernel_rfl) (by kernel_rfl) (fun _ _ _ h => h) (Or.inr ⟨by kernel_rfl, rfl⟩) (by assumption) ?_
                          simp only [List.getElem_toArray, List.getElem_cons_succ, List.getElem_cons_zero, Act.put, List.setIfInBounds_toArray, List.set_cons_zero, List.set_cons_succ]
                          refine wpAnyH_take (i := 12) (oi := _) (v := undef) rfl (by kernel_rfl) (by kernel_rfl) (by kernel_rfl) (fun _ _ _ h => h) (Or.inr ⟨by kernel_rfl, rfl⟩) (by assumption) ?_
                          simp only [List.getElem_toArray, List.getElem_cons_succ, List.getElem_cons_zero, Act.put, List.setIfInBounds_toArray, List.set_cons_zero, List.set_cons_succ]
                          refine wpAnyH_take (i := 13) (oi := _) (v := undef) rfl (by kernel_rfl) (by kernel_rfl) (by kernel_rfl) (fun _ _ _ h => h) (Or.inr ⟨by kernel_rfl, rfl⟩) (by assumption) ?_
                          simp only [List.getElem_toArray, List.getElem_cons_succ, List.getElem_cons_zero, Act.put, List.setIfInBounds_toArray, List.set_cons_zero, List.set_cons_succ]
                          refine wpAnyH_take (i := 14) (oi := _) (v := undef) rfl (by kernel_rfl) (by kernel_rfl) (by kernel_rfl) (fun _ _ _ h => h) (Or.inr ⟨by kernel_rfl, rfl⟩) (by assumption) ?_
                          simp only [List.getElem_toArray, List.getElem_cons_succ, List.getElem_cons_zero, Act.put, List.setIfInBounds_toArray, List.set_cons_zero, List.set_cons_succ]
                          refine wpAnyH_take (i := 15) (oi := _) (v := ?v15c) rfl (by kernel_rfl) (by kernel_rfl) (by kernel_rfl) (fun _ _ _ h => h) (Or.inl ⟨by kernel_rfl, ?y15c⟩) (by assumption) ?r15c
                          case y15c => (intro w hSw; (try dsimp only at hSw); go_simp; try (with_reducible rfl))
                          case r15c =>
                            simp only [List.getElem_toArray, List.getElem_cons_succ, List.getElem_cons_zero, Act.put, List.setIfInBounds_toArray, List.set_cons_zero, List.set_cons_succ]
                            refine wpAnyH_ready (rs := [16]) (by kernel_rfl) (by simp) ?_
                            refine AllReadyH.cons (o := _) rfl (fun K hK => ?_) AllReadyH.nil
                            go_simp
                            skip
                            go_wp2_with fail
                            refine hK.out _ _ (by first | exact ⟨pw_cell_below HB9.out hHeld.1, pw_cell_below HB9.out hHeld.2.1, pw_cell_below HB9.out hHeld.2.2.1, pw_cell_below HB9.out hHeld.2.2.2.1, pw_cell_below HB9.out hHeld.2.2.2.2.1, pw_cell_below HB9.out hHeld.2.2.2.2.2⟩ | simpa [cell_far, nb1, nb2, nT1] using hHeld) (fun hHeld => ?_)
                            clear hK K
                            try simp only [List.getElem_toArray, List.getElem_cons_succ, List.getElem_cons_zero, Act.put, List.setIfInBounds_toArray, List.set_cons_zero, List.set_cons_succ]
                            refine wpAnyH_take (i := 17) (oi := _) (v := ?v17c) rfl (by kernel_rfl) (by kernel_rfl) (by kernel_rfl) (fun _ _ _ h => h) (Or.inl ⟨by kernel_rfl, ?y17c⟩) (by assumption) ?r17c
                            case y17c => (intro w hSw; (try dsimp only at hSw); go_simp; try (with_reducible rfl))
                            case r17c =>
                              simp only [List.getElem_toArray, List.getElem_cons_succ, List.getElem_cons_zero, Act.put, List.setIfInBounds_toArray, List.set_cons_zero, List.set_cons_succ]
                              refine wpAnyH_take (i := 18) (oi := _) (v := ?v18c) rfl (by kernel_rfl) (by kernel_rfl) (by kernel_rfl) (fun _ _ _ h => h) (Or.inl ⟨by kernel_rfl, ?y18c⟩) (by assumption) ?r18c
                              case y18c => (intro w hSw; (try dsimp only at hSw); go_simp; try (with_reducible rfl))
                              case r18c =>
                                simp only [List.getElem_toArray, List.getElem_cons_succ, List.getElem_cons_zero, Act.put, List.setIfInBounds_toArray, List.set_cons_zero, List.set_cons_succ]
                                refine wpAnyH_take (i := 19) (oi := _) (v := ?v19c) rfl (by kernel_rfl) (by kernel_rfl) (by kernel_rfl) (fun _ _ _ h => h) (Or.inl ⟨by kernel_rfl, ?y19c⟩) (by assumption) ?r19c
                                case y19c => (intro w hSw; (try dsimp only at hSw); go_simp; try (with_reducible rfl))
                                case r19c =>
                                  simp only [List.getElem_toArray, List.getElem_cons_succ, List.getElem_cons_zero, Act.put, List.setIfInBounds_toArray, List.set_cons_zero, List.set_cons_succ]
                                  refine wpAnyH_done (by kernel_rfl) ?_ _
                                  clear hHeld
                                  go_wp2_with fail
                                  have hfin := ret_own (room := room) (next := next) HS8d.out.ow HS8d.out.bw HS8d.out.bz (Nat.le_succ _)
                                  refine bodyPost_ret (v := .tuple #[fv room next (.slice (some ⟨b, off, none⟩) n2 c2), str q, .bool (false), .int .i64 0]) (by simp [results, Try.results11, go_sem, s0, s1, s2]) rfl ?_
                                  rw [HE.out, HQQ.out]
                                  exact ⟨_, n2, c2, _, by rw [HDN.out]; rfl, HFS.out, hfin.1, hfin.2⟩
          
        | true =>
          have HDN := Lib.hid hdn
          rw [hdn] at HD8
          clear hdn
          have C25 := Lib.hid (show Calls Try.prog 25 #[ptr b (off + i * 8)] W8.drew fun e w' => e = .returned (.int .i64 (endS x)) ∧ Below W8.drew.heap.size W8.drew w' from end_any W8.drew b (off + i * 8) _ (HF8.out.below (below_drew (Below.refl _ _))) HOK.out)
          by_cases hee : t.at' + (q.length : Int) = endS x
          · have HDE := Lib.hid (show decide (t.at' + (q.length : Int) = endS x) = true from decide_eq_true hee)
            have hbe : ((t.at' + (q.length : Int)) == endS x) = true := by simpa using hee
            clear hee
            refine wp_region_held_drew (S := fun W' => W'.cell? ⟨w.heap.size, 0, none⟩ = some (.int .i64 room) ∧ W'.cell? ⟨w.heap.size, 1, none⟩ = some (.int .i64 next) ∧ W'.cell? ⟨w.heap.size, 2, none⟩ = some (.slice (some ⟨b, off, none⟩) n2 c2) ∧ W'.cell? ⟨T6, 0, none⟩ = some (.pointer (some ⟨b, off + i * 8, none⟩)) ∧ W'.cell? ⟨b, off + i * 8 + 6, none⟩ = some (.bool true) ∧ W'.cell? ⟨b2, o2 + k * 2 + 1, none⟩ = some (.int .i64 (t.at' + (q.length : Int)))) (by kernel_rfl) (⟨box_at HS8.out.bx 0 _ rfl, box_at HS8.out.bx 1 _ rfl, box_at HS8.out.bx 2 _ rfl, HP8.out, HD8.out, HJ8.out⟩) (fun hHeld => ?_)
            refine wpAnyH_take (i := 0) (oi := _) (v := ?v0b) rfl (by kernel_rfl) (by kernel_rfl) (by kernel_rfl) (fun _ _ _ h => h) (Or.inl ⟨by kernel_rfl, ?y0b⟩) (by assumption) ?r0b
            case y0b => (intro w hSw; (try dsimp only at hSw); go_simp; try (with_reducible rfl))
            case r0b =>
              simp only [List.getElem_toArray, List.getElem_cons_succ, List.getElem_cons_zero, Act.put, List.setIfInBounds_toArray, List.set_cons_zero, List.set_cons_succ]
              refine wpAnyH_take (i := 1) (oi := _) (v := ?v1b) rfl (by kernel_rfl) (by kernel_rfl) (by kernel_rfl) (fun _ _ _ h => h) (Or.inl ⟨by kernel_rfl, ?y1b⟩) (by assumption) ?r1b
              case y1b => (intro w hSw; (try dsimp only at hSw); go_simp; try (with_reducible rfl))
              case r1b =>
                simp only [List.getElem_toArray, List.getElem_cons_succ, List.getElem_cons_zero, Act.put, List.setIfInBounds_toArray, List.set_cons_zero, List.set_cons_succ]
                refine wpAnyH_take (i := 2) (oi := _) (v := ?v2b) rfl (by kernel_rfl) (by kernel_rfl) (by kernel_rfl) (fun _ _ _ h => h) (Or.inl ⟨by kernel_rfl, ?y2b⟩) (by assumption) ?r2b
                case y2b => (intro w hSw; (try dsimp only at hSw); go_simp; try (with_reducible rfl))
                case r2b =>
                  simp only [List.getElem_toArray, List.getElem_cons_succ, List.getElem_cons_zero, Act.put, List.setIfInBounds_toArray, List.set_cons_zero, List.set_cons_succ]
                  refine wpAnyH_take (i := 3) (oi := _) (v := ?v3b) rfl (by kernel_rfl) (by kernel_rfl) (by kernel_rfl) (fun _ _ _ h => h) (Or.inl ⟨by kernel_rfl, ?y3b⟩) (by assumption) ?r3b
                  case y3b => (intro w hSw; (try dsimp only at hSw); go_simp; try (with_reducible rfl))
                  case r3b =>
                    simp only [List.getElem_toArray, List.getElem_cons_succ, List.getElem_cons_zero, Act.put, List.setIfInBounds_toArray, List.set_cons_zero, List.set_cons_succ]
                    refine wpAnyH_take (i := 4) (oi := _) (v := ?v4b) rfl (by kernel_rfl) (by kernel_rfl) (by kernel_rfl) (fun _ _ _ h => h) (Or.inl ⟨by kernel_rfl, ?y4b⟩) (by assumption) ?r4b
                    case y4b => (intro w hSw; (try dsimp only at hSw); go_simp; try (with_reducible rfl))
                    case r4b =>
                      simp only [List.getElem_toArray, List.getElem_cons_succ, List.getElem_cons_zero, Act.put, List.setIfInBounds_toArray, List.set_cons_zero, List.set_cons_succ]
                      refine wpAnyH_take (i := 5) (oi := _) (v := ?v5b) rfl (by kernel_rfl) (by kernel_rfl) (by kernel_rfl) (fun _ _ _ h => h) (Or.inl ⟨by kernel_rfl, ?y5b⟩) (by assumption) ?r5b
                      case y5b => (intro w hSw; (try dsimp only at hSw); go_simp; try (with_reducible rfl))
                      case r5b =>
                        simp only [List.getElem_toArray, List.getElem_cons_succ, List.getElem_cons_zero, Act.put, List.setIfInBounds_toArray, List.set_cons_zero, List.set_cons_succ]
                        refine wpAnyH_take (i := 6) (oi := _) (v := ?v6b) rfl (by kernel_rfl) (by kernel_rfl) (by kernel_rfl) (fun _ _ _ h => h) (Or.inl ⟨by kernel_rfl, ?y6b⟩) (by assumption) ?r6b
                        case y6b => (intro w hSw; (try dsimp only at hSw); go_simp; try (with_reducible rfl))
                        case r6b =>
                          simp only [List.getElem_toArray, List.getElem_cons_succ, List.getElem_cons_zero, Act.put, List.setIfInBounds_toArray, List.set_cons_zero, List.set_cons_succ]
                          refine wpAnyH_take (i := 7) (oi := _) (v := ?v7b) rfl (by kernel_rfl) (by kernel_rfl) (by kernel_rfl) (fun _ _ _ h => h) (Or.inl ⟨by kernel_rfl, ?y7b⟩) (by assumption) ?r7b
                          case y7b => (intro w hSw; (try dsimp only at hSw); go_simp; try (with_reducible rfl))
                          case r7b =>
                            simp only [List.getElem_toArray, List.getElem_cons_succ, List.getElem_cons_zero, Act.put, List.setIfInBounds_toArray, List.set_cons_zero, List.set_cons_succ]
                            refine wpAnyH_take (i := 8) (oi := _) (v := ?v8b) rfl (by kernel_rfl) (by kernel_rfl) (by kernel_rfl) (fun _ _ _ h => h) (Or.inl ⟨by kernel_rfl, ?y8b⟩) (by assumption) ?r8b
                            case y8b => (intro w hSw; (try dsimp only at hSw); go_simp; try (with_reducible rfl))
                            case r8b =>
                              simp only [List.getElem_toArray, List.getElem_cons_succ, List.getElem_cons_zero, Act.put, List.setIfInBounds_toArray, List.set_cons_zero, List.set_cons_succ]
                              refine wpAnyH_take (i := 9) (oi := _) (v := ?v9b) rfl (by kernel_rfl) (by kernel_rfl) (by kernel_rfl) (fun _ _ _ h => h) (Or.inl ⟨by kernel_rfl, ?y9b⟩) (by assumption) ?r9b
                              case y9b => (intro w hSw; (try dsimp only at hSw); go_simp; try (with_reducible rfl))
                              case r9b =>
                                simp only [List.getElem_toArray, List.getElem_cons_succ, List.getElem_cons_zero, Act.put, List.setIfInBounds_toArray, List.set_cons_zero, List.set_cons_succ]
                                refine wpAnyH_take (i := 10) (oi := _) (v := ?v10b) rfl (by kernel_rfl) (by kernel_rfl) (by kernel_rfl) (fun _ _ _ h => h) (Or.inl ⟨by kernel_rfl, ?y10b⟩) (by assumption) ?r10b
                                case y10b => (intro w hSw; (try dsimp only at hSw); go_simp; try (with_reducible rfl))
                                case r10b =>
                                  simp only [List.getElem_toArray, List.getElem_cons_succ, List.getElem_cons_zero, Act.put, List.setIfInBounds_toArray, List.set_cons_zero, List.set_cons_succ]
                                  refine wpAnyH_take (i := 11) (oi := _) (v := ?v11b) rfl (by kernel_rfl) (by kernel_rfl) (by kernel_rfl) (fun _ _ _ h => h) (Or.inl ⟨by kernel_rfl, ?y11b⟩) (by assumption) ?r11b
                                  case y11b => (intro w hSw; (try dsimp only at hSw); go_simp; try (with_reducible rfl))
                                  case r11b =>
                                    simp only [List.getElem_toArray, List.getElem_cons_succ, List.getElem_cons_zero, Act.put, List.setIfInBounds_toArray, List.set_cons_zero, List.set_cons_succ]
                                    refine wpAnyH_take (i := 12) (oi := _) (v := ?v12b) rfl (by kernel_rfl) (by kernel_rfl) (by kernel_rfl) (fun _ _ _ h => h) (Or.inl ⟨by kernel_rfl, ?y12b⟩) (by assumption) ?r12b
                                    case y12b => (intro w hSw; (try dsimp only at hSw); go_simp; try (with_reducible rfl))
                                    case r12b =>
                                      simp only [List.getElem_toArray, List.getElem_cons_succ, List.getElem_cons_zero, Act.put, List.setIfInBounds_toArray, List.set_cons_zero, List.set_cons_succ]
                                      refine wpAnyH_ready (rs := [13]) (by kernel_rfl) (by simp) ?_
                                      refine AllReadyH.cons (o := _) rfl (fun K hK => ?_) AllReadyH.nil
                                      go_simp
                                      (go_at_call 25; refine C25.out.mono ?_; rintro e w9 ⟨rfl, hb9⟩; have HB9 := Lib.hid hb9; have HS9 := Lib.hid (HS8d.out.below hb9); clear hb9; have s0 : w9.cell? ⟨w.heap.size + 1, 0, none⟩ = some (.int .i64 0) := box_at HS9.out.bz 0 _ rfl; have s1 : w9.cell? ⟨w.heap.size + 1, 1, none⟩ = some (.int .i64 0) := box_at HS9.out.bz 1 _ rfl; have s2 : w9.cell? ⟨w.heap.size + 1, 2, none⟩ = some (.slice none 0 0) := box_at HS9.out.bz 2 _ rfl; have sf := box_free HS9.out.bz)
                                      go_wp2_with fail
                                      refine hK.out _ _ (by first | exact ⟨pw_cell_below HB9.out hHeld.1, pw_cell_below HB9.out hHeld.2.1, pw_cell_below HB9.out hHeld.2.2.1, pw_cell_below HB9.out hHeld.2.2.2.1, pw_cell_below HB9.out hHeld.2.2.2.2.1, pw_cell_below HB9.out hHeld.2.2.2.2.2⟩ | simpa [cell_far, nb1, nb2, nT1] using hHeld) (fun hHeld => ?_)
                                      clear hK K
                                      try simp only [List.getElem_toArray, List.getElem_cons_succ, List.getElem_cons_zero, Act.put, List.setIfInBounds_toArray, List.set_cons_zero, List.set_cons_succ]
                                      refine wpAnyH_take (i := 14) (oi := _) (v := ?v14b) rfl (by kernel_rfl) (by kernel_rfl) (by kernel_rfl) (fun _ _ _ h => h) (Or.inl ⟨by kernel_rfl, ?y14b⟩) (by assumption) ?r14b
                                      case y14b => (intro w hSw; (try dsimp only at hSw); go_simp; try (with_reducible rfl))
                                      case r14b =>
                                        simp only [List.getElem_toArray, List.getElem_cons_succ, List.getElem_cons_zero, Act.put, List.setIfInBounds_toArray, List.set_cons_zero, List.set_cons_succ]
                                        refine wpAnyH_take (i := 15) (oi := _) (v := ?v15b) rfl (by kernel_rfl) (by kernel_rfl) (by kernel_rfl) (fun _ _ _ h => h) (Or.inl ⟨by kernel_rfl, ?y15b⟩) (by assumption) ?r15b
                                        case y15b => (intro w hSw; (try dsimp only at hSw); go_simp; try (with_reducible rfl))
                                        case r15b =>
                                          simp only [List.getElem_toArray, List.getElem_cons_succ, List.getElem_cons_zero, Act.put, List.setIfInBounds_toArray, List.set_cons_zero, List.set_cons_succ]
                                          refine wpAnyH_ready (rs := [16]) (by kernel_rfl) (by simp) ?_
                                          refine AllReadyH.cons (o := _) rfl (fun K hK => ?_) AllReadyH.nil
                                          go_simp
                                          skip
                                          go_wp2_with fail
                                          refine hK.out _ _ (by first | exact ⟨pw_cell_below HB9.out hHeld.1, pw_cell_below HB9.out hHeld.2.1, pw_cell_below HB9.out hHeld.2.2.1, pw_cell_below HB9.out hHeld.2.2.2.1, pw_cell_below HB9.out hHeld.2.2.2.2.1, pw_cell_below HB9.out hHeld.2.2.2.2.2⟩ | simpa [cell_far, nb1, nb2, nT1] using hHeld) (fun hHeld => ?_)
                                          clear hK K
                                          try simp only [List.getElem_toArray, List.getElem_cons_succ, List.getElem_cons_zero, Act.put, List.setIfInBounds_toArray, List.set_cons_zero, List.set_cons_succ]
                                          refine wpAnyH_take (i := 17) (oi := _) (v := ?v17b) rfl (by kernel_rfl) (by kernel_rfl) (by kernel_rfl) (fun _ _ _ h => h) (Or.inl ⟨by kernel_rfl, ?y17b⟩) (by assumption) ?r17b
                                          case y17b => (intro w hSw; (try dsimp only at hSw); go_simp; try (with_reducible rfl))
                                          case r17b =>
                                            simp only [List.getElem_toArray, List.getElem_cons_succ, List.getElem_cons_zero, Act.put, List.setIfInBounds_toArray, List.set_cons_zero, List.set_cons_succ]
                                            refine wpAnyH_take (i := 18) (oi := _) (v := ?v18b) rfl (by kernel_rfl) (by kernel_rfl) (by kernel_rfl) (fun _ _ _ h => h) (Or.inl ⟨by kernel_rfl, ?y18b⟩) (by assumption) ?r18b
                                            case y18b => (intro w hSw; (try dsimp only at hSw); go_simp; try (with_reducible rfl))
                                            case r18b =>
                                              simp only [List.getElem_toArray, List.getElem_cons_succ, List.getElem_cons_zero, Act.put, List.setIfInBounds_toArray, List.set_cons_zero, List.set_cons_succ]
                                              refine wpAnyH_take (i := 19) (oi := _) (v := ?v19b) rfl (by kernel_rfl) (by kernel_rfl) (by kernel_rfl) (fun _ _ _ h => h) (Or.inl ⟨by kernel_rfl, ?y19b⟩) (by assumption) ?r19b
                                              case y19b => (intro w hSw; (try dsimp only at hSw); go_simp; try (with_reducible rfl))
                                              case r19b =>
                                                simp only [List.getElem_toArray, List.getElem_cons_succ, List.getElem_cons_zero, Act.put, List.setIfInBounds_toArray, List.set_cons_zero, List.set_cons_succ]
                                                refine wpAnyH_done (by kernel_rfl) ?_ _
                                                clear hHeld
                                                go_wp2_with fail
                                                have hfin := ret_own (room := room) (next := next) HS9.out.ow HS9.out.bw HS9.out.bz (Nat.le_succ _)
                                                refine bodyPost_ret (v := .tuple #[fv room next (.slice (some ⟨b, off, none⟩) n2 c2), str q, .bool (true), .int .i64 0]) (by simp [results, Try.results11, go_sem, s0, s1, s2]) rfl ?_
                                                rw [HE.out, HQQ.out]
                                                exact ⟨_, n2, c2, _, by rw [HDN.out, HDE.out]; rfl, HFS.out, hfin.1, hfin.2⟩
            
          · have HDE := Lib.hid (show decide (t.at' + (q.length : Int) = endS x) = false from decide_eq_false hee)
            have hbe : ((t.at' + (q.length : Int)) == endS x) = false := by simpa using hee
            clear hee
            refine wp_region_held_drew (S := fun W' => W'.cell? ⟨w.heap.size, 0, none⟩ = some (.int .i64 room) ∧ W'.cell? ⟨w.heap.size, 1, none⟩ = some (.int .i64 next) ∧ W'.cell? ⟨w.heap.size, 2, none⟩ = some (.slice (some ⟨b, off, none⟩) n2 c2) ∧ W'.cell? ⟨T6, 0, none⟩ = some (.pointer (some ⟨b, off + i * 8, none⟩)) ∧ W'.cell? ⟨b, off + i * 8 + 6, none⟩ = some (.bool true) ∧ W'.cell? ⟨b2, o2 + k * 2 + 1, none⟩ = some (.int .i64 (t.at' + (q.length : Int)))) (by kernel_rfl) (⟨box_at HS8.out.bx 0 _ rfl, box_at HS8.out.bx 1 _ rfl, box_at HS8.out.bx 2 _ rfl, HP8.out, HD8.out, HJ8.out⟩) (fun hHeld => ?_)
            refine wpAnyH_take (i := 0) (oi := _) (v := ?v0a) rfl (by kernel_rfl) (by kernel_rfl) (by kernel_rfl) (fun _ _ _ h => h) (Or.inl ⟨by kernel_rfl, ?y0a⟩) (by assumption) ?r0a
            case y0a => (intro w hSw; (try dsimp only at hSw); go_simp; try (with_reducible rfl))
            case r0a =>
              simp only [List.getElem_toArray, List.getElem_cons_succ, List.getElem_cons_zero, Act.put, List.setIfInBounds_toArray, List.set_cons_zero, List.set_cons_succ]
              refine wpAnyH_take (i := 1) (oi := _) (v := ?v1a) rfl (by kernel_rfl) (by kernel_rfl) (by kernel_rfl) (fun _ _ _ h => h) (Or.inl ⟨by kernel_rfl, ?y1a⟩) (by assumption) ?r1a
              case y1a => (intro w hSw; (try dsimp only at hSw); go_simp; try (with_reducible rfl))
              case r1a =>
                simp only [List.getElem_toArray, List.getElem_cons_succ, List.getElem_cons_zero, Act.put, List.setIfInBounds_toArray, List.set_cons_zero, List.set_cons_succ]
                refine wpAnyH_take (i := 2) (oi := _) (v := ?v2a) rfl (by kernel_rfl) (by kernel_rfl) (by kernel_rfl) (fun _ _ _ h => h) (Or.inl ⟨by kernel_rfl, ?y2a⟩) (by assumption) ?r2a
                case y2a => (intro w hSw; (try dsimp only at hSw); go_simp; try (with_reducible rfl))
                case r2a =>
                  simp only [List.getElem_toArray, List.getElem_cons_succ, List.getElem_cons_zero, Act.put, List.setIfInBounds_toArray, List.set_cons_zero, List.set_cons_succ]
                  refine wpAnyH_take (i := 3) (oi := _) (v := ?v3a) rfl (by kernel_rfl) (by kernel_rfl) (by kernel_rfl) (fun _ _ _ h => h) (Or.inl ⟨by kernel_rfl, ?y3a⟩) (by assumption) ?r3a
                  case y3a => (intro w hSw; (try dsimp only at hSw); go_simp; try (with_reducible rfl))
                  case r3a =>
                    simp only [List.getElem_toArray, List.getElem_cons_succ, List.getElem_cons_zero, Act.put, List.setIfInBounds_toArray, List.set_cons_zero, List.set_cons_succ]
                    refine wpAnyH_take (i := 4) (oi := _) (v := ?v4a) rfl (by kernel_rfl) (by kernel_rfl) (by kernel_rfl) (fun _ _ _ h => h) (Or.inl ⟨by kernel_rfl, ?y4a⟩) (by assumption) ?r4a
                    case y4a => (intro w hSw; (try dsimp only at hSw); go_simp; try (with_reducible rfl))
                    case r4a =>
                      simp only [List.getElem_toArray, List.getElem_cons_succ, List.getElem_cons_zero, Act.put, List.setIfInBounds_toArray, List.set_cons_zero, List.set_cons_succ]
                      refine wpAnyH_take (i := 5) (oi := _) (v := ?v5a) rfl (by kernel_rfl) (by kernel_rfl) (by kernel_rfl) (fun _ _ _ h => h) (Or.inl ⟨by kernel_rfl, ?y5a⟩) (by assumption) ?r5a
                      case y5a => (intro w hSw; (try dsimp only at hSw); go_simp; try (with_reducible rfl))
                      case r5a =>
                        simp only [List.getElem_toArray, List.getElem_cons_succ, List.getElem_cons_zero, Act.put, List.setIfInBounds_toArray, List.set_cons_zero, List.set_cons_succ]
                        refine wpAnyH_take (i := 6) (oi := _) (v := ?v6a) rfl (by kernel_rfl) (by kernel_rfl) (by kernel_rfl) (fun _ _ _ h => h) (Or.inl ⟨by kernel_rfl, ?y6a⟩) (by assumption) ?r6a
                        case y6a => (intro w hSw; (try dsimp only at hSw); go_simp; try (with_reducible rfl))
                        case r6a =>
                          simp only [List.getElem_toArray, List.getElem_cons_succ, List.getElem_cons_zero, Act.put, List.setIfInBounds_toArray, List.set_cons_zero, List.set_cons_succ]
                          refine wpAnyH_take (i := 7) (oi := _) (v := ?v7a) rfl (by kernel_rfl) (by kernel_rfl) (by kernel_rfl) (fun _ _ _ h => h) (Or.inl ⟨by kernel_rfl, ?y7a⟩) (by assumption) ?r7a
                          case y7a => (intro w hSw; (try dsimp only at hSw); go_simp; try (with_reducible rfl))
                          case r7a =>
                            simp only [List.getElem_toArray, List.getElem_cons_succ, List.getElem_cons_zero, Act.put, List.setIfInBounds_toArray, List.set_cons_zero, List.set_cons_succ]
                            refine wpAnyH_take (i := 8) (oi := _) (v := ?v8a) rfl (by kernel_rfl) (by kernel_rfl) (by kernel_rfl) (fun _ _ _ h => h) (Or.inl ⟨by kernel_rfl, ?y8a⟩) (by assumption) ?r8a
                            case y8a => (intro w hSw; (try dsimp only at hSw); go_simp; try (with_reducible rfl))
                            case r8a =>
                              simp only [List.getElem_toArray, List.getElem_cons_succ, List.getElem_cons_zero, Act.put, List.setIfInBounds_toArray, List.set_cons_zero, List.set_cons_succ]
                              refine wpAnyH_take (i := 9) (oi := _) (v := ?v9a) rfl (by kernel_rfl) (by kernel_rfl) (by kernel_rfl) (fun _ _ _ h => h) (Or.inl ⟨by kernel_rfl, ?y9a⟩) (by assumption) ?r9a
                              case y9a => (intro w hSw; (try dsimp only at hSw); go_simp; try (with_reducible rfl))
                              case r9a =>
                                simp only [List.getElem_toArray, List.getElem_cons_succ, List.getElem_cons_zero, Act.put, List.setIfInBounds_toArray, List.set_cons_zero, List.set_cons_succ]
                                refine wpAnyH_take (i := 10) (oi := _) (v := ?v10a) rfl (by kernel_rfl) (by kernel_rfl) (by kernel_rfl) (fun _ _ _ h => h) (Or.inl ⟨by kernel_rfl, ?y10a⟩) (by assumption) ?r10a
                                case y10a => (intro w hSw; (try dsimp only at hSw); go_simp; try (with_reducible rfl))
                                case r10a =>
                                  simp only [List.getElem_toArray, List.getElem_cons_succ, List.getElem_cons_zero, Act.put, List.setIfInBounds_toArray, List.set_cons_zero, List.set_cons_succ]
                                  refine wpAnyH_take (i := 11) (oi := _) (v := ?v11a) rfl (by kernel_rfl) (by kernel_rfl) (by kernel_rfl) (fun _ _ _ h => h) (Or.inl ⟨by kernel_rfl, ?y11a⟩) (by assumption) ?r11a
                                  case y11a => (intro w hSw; (try dsimp only at hSw); go_simp; try (with_reducible rfl))
                                  case r11a =>
                                    simp only [List.getElem_toArray, List.getElem_cons_succ, List.getElem_cons_zero, Act.put, List.setIfInBounds_toArray, List.set_cons_zero, List.set_cons_succ]
                                    refine wpAnyH_take (i := 12) (oi := _) (v := ?v12a) rfl (by kernel_rfl) (by kernel_rfl) (by kernel_rfl) (fun _ _ _ h => h) (Or.inl ⟨by kernel_rfl, ?y12a⟩) (by assumption) ?r12a
                                    case y12a => (intro w hSw; (try dsimp only at hSw); go_simp; try (with_reducible rfl))
                                    case r12a =>
                                      simp only [List.getElem_toArray, List.getElem_cons_succ, List.getElem_cons_zero, Act.put, List.setIfInBounds_toArray, List.set_cons_zero, List.set_cons_succ]
                                      refine wpAnyH_ready (rs := [13]) (by kernel_rfl) (by simp) ?_
                                      refine AllReadyH.cons (o := _) rfl (fun K hK => ?_) AllReadyH.nil
                                      go_simp
                                      (go_at_call 25; refine C25.out.mono ?_; rintro e w9 ⟨rfl, hb9⟩; have HB9 := Lib.hid hb9; have HS9 := Lib.hid (HS8d.out.below hb9); clear hb9; have s0 : w9.cell? ⟨w.heap.size + 1, 0, none⟩ = some (.int .i64 0) := box_at HS9.out.bz 0 _ rfl; have s1 : w9.cell? ⟨w.heap.size + 1, 1, none⟩ = some (.int .i64 0) := box_at HS9.out.bz 1 _ rfl; have s2 : w9.cell? ⟨w.heap.size + 1, 2, none⟩ = some (.slice none 0 0) := box_at HS9.out.bz 2 _ rfl; have sf := box_free HS9.out.bz)
                                      go_wp2_with fail
                                      refine hK.out _ _ (by first | exact ⟨pw_cell_below HB9.out hHeld.1, pw_cell_below HB9.out hHeld.2.1, pw_cell_below HB9.out hHeld.2.2.1, pw_cell_below HB9.out hHeld.2.2.2.1, pw_cell_below HB9.out hHeld.2.2.2.2.1, pw_cell_below HB9.out hHeld.2.2.2.2.2⟩ | simpa [cell_far, nb1, nb2, nT1] using hHeld) (fun hHeld => ?_)
                                      clear hK K
                                      try simp only [List.getElem_toArray, List.getElem_cons_succ, List.getElem_cons_zero, Act.put, List.setIfInBounds_toArray, List.set_cons_zero, List.set_cons_succ]
                                      refine wpAnyH_take (i := 14) (oi := _) (v := ?v14a) rfl (by kernel_rfl) (by kernel_rfl) (by kernel_rfl) (fun _ _ _ h => h) (Or.inl ⟨by kernel_rfl, ?y14a⟩) (by assumption) ?r14a
                                      case y14a => (intro w hSw; (try dsimp only at hSw); go_simp; try (with_reducible rfl))
                                      case r14a =>
                                        simp only [List.getElem_toArray, List.getElem_cons_succ, List.getElem_cons_zero, Act.put, List.setIfInBounds_toArray, List.set_cons_zero, List.set_cons_succ]
                                        refine wpAnyH_take (i := 15) (oi := _) (v := ?v15a) rfl (by kernel_rfl) (by kernel_rfl) (by kernel_rfl) (fun _ _ _ h => h) (Or.inl ⟨by kernel_rfl, ?y15a⟩) (by assumption) ?r15a
                                        case y15a => (intro w hSw; (try dsimp only at hSw); go_simp; try (with_reducible rfl))
                                        case r15a =>
                                          simp only [List.getElem_toArray, List.getElem_cons_succ, List.getElem_cons_zero, Act.put, List.setIfInBounds_toArray, List.set_cons_zero, List.set_cons_succ]
                                          refine wpAnyH_ready (rs := [16]) (by kernel_rfl) (by simp) ?_
                                          refine AllReadyH.cons (o := _) rfl (fun K hK => ?_) AllReadyH.nil
                                          go_simp
                                          skip
                                          go_wp2_with fail
                                          refine hK.out _ _ (by first | exact ⟨pw_cell_below HB9.out hHeld.1, pw_cell_below HB9.out hHeld.2.1, pw_cell_below HB9.out hHeld.2.2.1, pw_cell_below HB9.out hHeld.2.2.2.1, pw_cell_below HB9.out hHeld.2.2.2.2.1, pw_cell_below HB9.out hHeld.2.2.2.2.2⟩ | simpa [cell_far, nb1, nb2, nT1] using hHeld) (fun hHeld => ?_)
                                          clear hK K
                                          try simp only [List.getElem_toArray, List.getElem_cons_succ, List.getElem_cons_zero, Act.put, List.setIfInBounds_toArray, List.set_cons_zero, List.set_cons_succ]
                                          refine wpAnyH_take (i := 17) (oi := _) (v := ?v17a) rfl (by kernel_rfl) (by kernel_rfl) (by kernel_rfl) (fun _ _ _ h => h) (Or.inl ⟨by kernel_rfl, ?y17a⟩) (by assumption) ?r17a
                                          case y17a => (intro w hSw; (try dsimp only at hSw); go_simp; try (with_reducible rfl))
                                          case r17a =>
                                            simp only [List.getElem_toArray, List.getElem_cons_succ, List.getElem_cons_zero, Act.put, List.setIfInBounds_toArray, List.set_cons_zero, List.set_cons_succ]
                                            refine wpAnyH_take (i := 18) (oi := _) (v := ?v18a) rfl (by kernel_rfl) (by kernel_rfl) (by kernel_rfl) (fun _ _ _ h => h) (Or.inl ⟨by kernel_rfl, ?y18a⟩) (by assumption) ?r18a
                                            case y18a => (intro w hSw; (try dsimp only at hSw); go_simp; try (with_reducible rfl))
                                            case r18a =>
                                              simp only [List.getElem_toArray, List.getElem_cons_succ, List.getElem_cons_zero, Act.put, List.setIfInBounds_toArray, List.set_cons_zero, List.set_cons_succ]
                                              refine wpAnyH_take (i := 19) (oi := _) (v := ?v19a) rfl (by kernel_rfl) (by kernel_rfl) (by kernel_rfl) (fun _ _ _ h => h) (Or.inl ⟨by kernel_rfl, ?y19a⟩) (by assumption) ?r19a
                                              case y19a => (intro w hSw; (try dsimp only at hSw); go_simp; try (with_reducible rfl))
                                              case r19a =>
                                                simp only [List.getElem_toArray, List.getElem_cons_succ, List.getElem_cons_zero, Act.put, List.setIfInBounds_toArray, List.set_cons_zero, List.set_cons_succ]
                                                refine wpAnyH_done (by kernel_rfl) ?_ _
                                                clear hHeld
                                                go_wp2_with fail
                                                have hfin := ret_own (room := room) (next := next) HS9.out.ow HS9.out.bw HS9.out.bz (Nat.le_succ _)
                                                refine bodyPost_ret (v := .tuple #[fv room next (.slice (some ⟨b, off, none⟩) n2 c2), str q, .bool (false), .int .i64 0]) (by simp [results, Try.results11, go_sem, s0, s1, s2]) rfl ?_
                                                rw [HE.out, HQQ.out]
                                                exact ⟨_, n2, c2, _, by rw [HDN.out, HDE.out]; rfl, HFS.out, hfin.1, hfin.2⟩
            
end Go.Proofs.Ytipjhokhflokmaa
