/- ring.New, Pop, Push. -/
import Derived.Test.YtkajmoiehabnmaaD
import Derived.StillTailTactics
import Derived.Lib.SlBuf
set_option linter.unusedVariables false
set_option linter.unusedSimpArgs false
namespace Go.Proofs.Ytkajmoiehabnmaa
open Go.RowKit Go.Lib
open Go.Proofs.YtkajmoiehabnmaaW.PrintWords

/-- the memory of Push and Pop -/
structure RM (w W : World) (v : Value) (f m : Int) (buf : List UInt8) : Prop where
  x : BoxR W w.heap.size v f m
  y : BoxR W (w.heap.size + 1) (.slice none 0 0) 0 0
  o : Ow 5 W w.heap.size v (byteCells buf)
  bw : Below w.heap.size w W
theorem RM.below {w W W1 : World} {v : Value} {f m : Int} {buf : List UInt8} (h : RM w W v f m buf) (hb : Below W.heap.size W W1) : RM w W1 v f m buf :=
  ⟨keep hb h.x, keep hb h.y, h.o.below hb, h.bw.trans (hb.mono h.bw.size)⟩
theorem RM.start {w W : World} {u v : Value} {f m f' m' : Int} {buf : List UInt8} (hx : BoxR W w.heap.size u f m) (hy : BoxR W (w.heap.size + 1) (.slice none 0 0) 0 0) (ho : Ow 5 W w.heap.size v (byteCells buf)) (hb : Below w.heap.size w W) :
    RM w (((W.setCell ⟨w.heap.size, 0, none⟩ v).setCell ⟨w.heap.size, 1, none⟩ (.int .i64 f')).setCell ⟨w.heap.size, 2, none⟩ (.int .i64 m')) v f' m' buf := by
  have ne := hx.ne ho
  exact ⟨((hx.set0 v).set1 f').set2 m', ((hy.far (by simp) _).far (by simp) _).far (by simp) _, ((ho.far ne _).far ne _).far ne _, ((hb.setCell (by simp) _).setCell (by simp) _).setCell (by simp) _⟩
theorem RM.set1 {w W : World} {v : Value} {f m : Int} {buf : List UInt8} (h : RM w W v f m buf) (x : Int) : RM w (W.setCell ⟨w.heap.size, 1, none⟩ (.int .i64 x)) v x m buf :=
  ⟨h.x.set1 x, h.y.far (by simp) _, h.o.far (h.x.ne h.o) _, h.bw.setCell (by simp) _⟩
theorem RM.set2 {w W : World} {v : Value} {f m : Int} {buf : List UInt8} (h : RM w W v f m buf) (x : Int) : RM w (W.setCell ⟨w.heap.size, 2, none⟩ (.int .i64 x)) v f x buf :=
  ⟨h.x.set2 x, h.y.far (by simp) _, h.o.far (h.x.ne h.o) _, h.bw.setCell (by simp) _⟩
theorem RM.fin {w W : World} {v : Value} {f m : Int} {buf : List UInt8} (h : RM w W v f m buf) :
    Ow 5 (((W.setCell ⟨w.heap.size + 1, 0, none⟩ v).setCell ⟨w.heap.size + 1, 1, none⟩ (.int .i64 f)).setCell ⟨w.heap.size + 1, 2, none⟩ (.int .i64 m)) w.heap.size v (byteCells buf) ∧ Below w.heap.size w (((W.setCell ⟨w.heap.size + 1, 0, none⟩ v).setCell ⟨w.heap.size + 1, 1, none⟩ (.int .i64 f)).setCell ⟨w.heap.size + 1, 2, none⟩ (.int .i64 m)) := by
  have ne := h.y.ne h.o
  exact ⟨((h.o.far ne _).far ne _).far ne _, ((h.bw.setCell (by simp) _).setCell (by simp) _).setCell (by simp) _⟩
def RingT (w : World) (x : Value) (f m : Int) (n : Nat) (buf : List UInt8) (e : Ending) (w' : World) : Prop :=
  ∃ A c, e = .returned (.tuple #[.agg #[.slice A n c, .int .i64 f, .int .i64 m], x]) ∧ Ow 5 w' w.heap.size (.slice A n c) (byteCells buf) ∧ Below w.heap.size w w'

theorem RM.copied {w W W1 : World} {v : Value} {f m : Int} {buf buf' : List UInt8} {g : Nat} (h : RM w W v f m buf) (hv : v.ownBlock = some g) (hO : Ow 5 W1 w.heap.size v (byteCells buf')) (hg : W.grownBy W1 (some g)) : RM w W1 v f m buf' := by
  have n1 := h.x.ne h.o g hv
  have n2 := h.y.ne h.o g hv
  refine ⟨?_, ?_, hO, h.bw.grown hg h.bw.size (fun k hk => by cases hk; exact h.o.base g hv)⟩
  · exact (hg.block _ (Array.getElem?_eq_some_iff.1 h.x).1 (by simpa using Ne.symm n1)).trans h.x
  · exact (hg.block _ (Array.getElem?_eq_some_iff.1 h.y).1 (by simpa using Ne.symm n2)).trans h.y
theorem ext_bytes (l : List UInt8) (i j : Nat) : (⟨l.toArray⟩ : ByteArray).extract i j = ⟨((l.drop i).take (j - i)).toArray⟩ := by
  apply ByteArray.ext
  simp [ByteArray.extract, ByteArray.copySlice]
theorem dataOf_length {buf : List UInt8} {f m : Nat} (hf : f < buf.length) (hm : m ≤ buf.length) : (dataOf buf f m).length = m := by
  unfold dataOf
  split
  · simp; omega
  · simp; omega

set_option maxHeartbeats 4000000 in
theorem pop_any (w : World) (A0 : Option Addr) (n c0 f m k q r t : Nat) (hq : min k m = q) (hr1 : (f + q) % n = r) (ht : q + t = m) (buf : List UInt8) (hr : Rd w (.slice A0 n c0) (byteCells buf)) (hn : 0 < n) (hn4 : n ≤ 4096) (hf : f < n) (hm : m ≤ n) (hk : k ≤ 1000000) :
    Calls Try.prog 6 #[.agg #[.slice A0 n c0, .int .i64 f, .int .i64 m], .int .i64 k] w (RingT w (.string ⟨((dataOf buf f m).take k).toArray⟩) (r : Int) (t : Int) n buf) := by
  have hbl : buf.length = n := by have := hr.len; rwa [byteCells_length] at this
  have hal1 : Below w.heap.size w (w.alloc (.cells #[.slice A0 n c0, .int .i64 f, .int .i64 m] 25)) := (Below.refl _ _).alloc (Nat.le_refl _) _
  have hal2 : Below w.heap.size w ((w.alloc (.cells #[.slice A0 n c0, .int .i64 f, .int .i64 m] 25)).alloc (.cells #[.slice none 0 0, .int .i64 0, .int .i64 0] 25)) := hal1.alloc (by simp) _
  have HX := Lib.hid (show BoxR ((w.alloc (.cells #[.slice A0 n c0, .int .i64 f, .int .i64 m] 25)).alloc (.cells #[.slice none 0 0, .int .i64 0, .int .i64 0] 25)) w.heap.size (.slice A0 n c0) f m from
    (Below.heap_alloc _ _ _ (by simp)).trans (heap_alloc_new _ _))
  have HY := Lib.hid (show BoxR ((w.alloc (.cells #[.slice A0 n c0, .int .i64 f, .int .i64 m] 25)).alloc (.cells #[.slice none 0 0, .int .i64 0, .int .i64 0] 25)) (w.heap.size + 1) (.slice none 0 0) 0 0 from by
    have := heap_alloc_new (w.alloc (.cells #[.slice A0 n c0, .int .i64 f, .int .i64 m] 25)) (.cells #[.slice none 0 0, .int .i64 0, .int .i64 0] 25)
    rwa [World.size_alloc] at this)
  have HW := Lib.hid hal2
  have HR := Lib.hid (hr.below hal2)
  have hs2 : ((w.alloc (.cells #[.slice A0 n c0, .int .i64 f, .int .i64 m] 25)).alloc (.cells #[.slice none 0 0, .int .i64 0, .int .i64 0] 25)).heap.size = w.heap.size + 2 := by simp
  have HS := Lib.hid hs2
  clear hal1 hal2 hr hs2
  go_enter Try.func6, Try.ntmps6
  go_upto_region 1 with fail
  generalize ((w.alloc (.cells #[.slice A0 n c0, .int .i64 f, .int .i64 m] 25)).alloc (.cells #[.slice none 0 0, .int .i64 0, .int .i64 0] 25)) = V at *
  have z0 := box_at HX.out 0 _ rfl
  have z1 := box_at HX.out 1 _ rfl
  have z2 := box_at HX.out 2 _ rfl
  go_upto_region 2 with (go_at_call 11; refine (own_any V A0 n c0 f m buf HR.out (by omega)).mono ?_; rintro e w2 ⟨B, d, rfl, hO, hb⟩; have HX2 := Lib.hid (show BoxR _ _ _ _ _ from keep hb HX.out); have HY2 := Lib.hid (show BoxR _ _ _ _ _ from keep hb HY.out); have HO := Lib.hid hO; have HB := Lib.hid hb; clear hO hb z0 z1 z2; have z0 := box_at HX2.out 0 _ rfl; have z1 := box_at HX2.out 1 _ rfl; have z2 := box_at HX2.out 2 _ rfl; have zf := box_free HX2.out; have y0 := box_at HY2.out 0 _ rfl; have y1 := box_at HY2.out 1 _ rfl; have y2 := box_at HY2.out 2 _ rfl; have yf := box_free HY2.out)
  have HM := Lib.hid (RM.start (f' := f) (m' := m) HX2.out HY2.out (HO.out.lower HW.out.size) (HW.out.trans (HB.out.mono HW.out.size)))
  clear HX HY HR HX2 HY2 HO HB z0 z1 z2 zf y0 y1 y2 yf
  generalize (((w2.setCell ⟨w.heap.size, 0, none⟩ (.slice B n d)).setCell ⟨w.heap.size, 1, none⟩ (.int .i64 f)).setCell ⟨w.heap.size, 2, none⟩ (.int .i64 m)) = W at *
  have z0 := box_at HM.out.x 0 _ rfl
  have z1 := box_at HM.out.x 1 _ rfl
  have z2 := box_at HM.out.x 2 _ rfl
  have zf := box_free HM.out.x
  go_upto_region 4 with (first
    | (go_at_call 8; refine (right_yes _ _ n d f m hn hn4 hf hm).mono ?_; rintro e w3 ⟨rfl, hb3⟩; have HM3 := Lib.hid (HM.out.below hb3); clear hb3 z0 z1 z2 zf; have z0 := box_at HM3.out.x 0 _ rfl; have z1 := box_at HM3.out.x 1 _ rfl; have z2 := box_at HM3.out.x 2 _ rfl; have zf := box_free HM3.out.x))
  go_upto_region 5 with (go_at_call 9; refine (data_any _ _ n d f m buf HM3.out.o.rd hn hn4 hf hm).mono ?_; rintro e w4 ⟨rfl, hb4⟩; have HM4 := Lib.hid (HM3.out.below hb4); clear hb4 z0 z1 z2 zf)
  have hdl := dataOf_length (buf := buf) (f := f) (m := m) (by omega) (by omega)
  generalize dataOf buf f m = ds at *
  have hsz : (⟨ds.toArray⟩ : ByteArray).size = m := by simp [ByteArray.size, hdl]
  have hqm : (q : Int) ≤ (m : Int) := by omega
  have hq0 : (0 : Int) ≤ (q : Int) := by omega
  have hmin : min (k : Int) (m : Int) = (q : Int) := by omega
  go_upto_region 6 with fail
  have hxe : (⟨ds.toArray⟩ : ByteArray).extract 0 q = ⟨(ds.take k).toArray⟩ := by
    rw [ext_bytes]
    rw [List.drop_zero, ← hq]
    congr 2
    by_cases h : k ≤ m
    · rw [Nat.min_eq_left h]; simp
    · rw [Nat.min_eq_right (by omega), List.take_of_length_le (by omega), List.take_of_length_le (by omega)]
  rw [hxe]
  have hsz2 : (⟨(ds.take k).toArray⟩ : ByteArray).size = q := by simp [ByteArray.size, hdl, hq]
  have hqn : q ≤ n := by omega
  have hn0 : ¬ n = 0 := by omega
  have hrm : ((f : Int) + (q : Int)).tmod (n : Int) = (r : Int) := by rw [← Int.natCast_add, Int.tmod_eq_emod_of_nonneg (by omega), ← Int.natCast_emod, hr1]
  have hrm2 : ((f : Int) + (q : Int)) % (n : Int) = (r : Int) := by rw [← Int.natCast_add, ← Int.natCast_emod, hr1]
  have w1' : IntKind.i64.wrap ((f : Int) + (q : Int)) = (f : Int) + (q : Int) := by rw [IntKind.wrap_i64]; omega
  have hrn : r < n := by rw [← hr1]; exact Nat.mod_lt _ hn
  have w2' : IntKind.i64.wrap (r : Int) = (r : Int) := by rw [IntKind.wrap_i64]; omega
  have w3' : IntKind.i64.wrap ((m : Int) - (q : Int)) = (t : Int) := by rw [IntKind.wrap_i64]; omega
  clear hxe hr1
  have z0 := box_at HM4.out.x 0 _ rfl
  have z1 := box_at HM4.out.x 1 _ rfl
  have z2 := box_at HM4.out.x 2 _ rfl
  have zf := box_free HM4.out.x
  go_region
  have HM5 := Lib.hid ((((HM4.out.set1 (r : Int)).set2 (t : Int)).below (below_drew (Below.refl _ _))))
  clear z0 z1 z2 zf
  generalize ((w4.setCell ⟨w.heap.size, 1, none⟩ (.int .i64 (r : Int))).setCell ⟨w.heap.size, 2, none⟩ (.int .i64 (t : Int))).drew = W5 at *
  have z0 := box_at HM5.out.x 0 _ rfl
  have z1 := box_at HM5.out.x 1 _ rfl
  have z2 := box_at HM5.out.x 2 _ rfl
  have y0 := box_at HM5.out.y 0 _ rfl
  have y1 := box_at HM5.out.y 1 _ rfl
  have y2 := box_at HM5.out.y 2 _ rfl
  have yf := box_free HM5.out.y
  go_wp2_with fail
  refine bodyPost_ret (v := .tuple #[.agg #[.slice B n d, .int .i64 r, .int .i64 t], .string ⟨(ds.take k).toArray⟩]) (by simp [results, Try.results6, go_sem, z0, z1, z2, y0, y1, y2]) rfl ?_
  exact ⟨B, d, rfl, HM5.out.fin⟩

set_option maxHeartbeats 4000000 in
theorem push_any (w : World) (A0 : Option Addr) (n c0 f m q a t k1 : Nat) (s : List UInt8) (hs : s.length ≤ 1000000000000) (hq : min s.length (n - m) = q) (ha1 : (f + m) % n = a) (ht : m + q = t) (hk : min q (n - a) = k1) (buf : List UInt8) (hr : Rd w (.slice A0 n c0) (byteCells buf)) (hn : 0 < n) (hn4 : n ≤ 4096) (hf : f < n) (hm : m ≤ n) :
    Calls Try.prog 7 #[.agg #[.slice A0 n c0, .int .i64 f, .int .i64 m], .string ⟨s.toArray⟩] w (RingT w (.int .i64 q) f t n (put (put buf a ((s.take q).take k1)) 0 ((s.take q).drop k1))) := by
  have hbl : buf.length = n := by have := hr.len; rwa [byteCells_length] at this
  have hal1 : Below w.heap.size w (w.alloc (.cells #[.slice A0 n c0, .int .i64 f, .int .i64 m] 25)) := (Below.refl _ _).alloc (Nat.le_refl _) _
  have hal2 : Below w.heap.size w ((w.alloc (.cells #[.slice A0 n c0, .int .i64 f, .int .i64 m] 25)).alloc (.cells #[.slice none 0 0, .int .i64 0, .int .i64 0] 25)) := hal1.alloc (by simp) _
  have HX := Lib.hid (show BoxR ((w.alloc (.cells #[.slice A0 n c0, .int .i64 f, .int .i64 m] 25)).alloc (.cells #[.slice none 0 0, .int .i64 0, .int .i64 0] 25)) w.heap.size (.slice A0 n c0) f m from
    (Below.heap_alloc _ _ _ (by simp)).trans (heap_alloc_new _ _))
  have HY := Lib.hid (show BoxR ((w.alloc (.cells #[.slice A0 n c0, .int .i64 f, .int .i64 m] 25)).alloc (.cells #[.slice none 0 0, .int .i64 0, .int .i64 0] 25)) (w.heap.size + 1) (.slice none 0 0) 0 0 from by
    have := heap_alloc_new (w.alloc (.cells #[.slice A0 n c0, .int .i64 f, .int .i64 m] 25)) (.cells #[.slice none 0 0, .int .i64 0, .int .i64 0] 25)
    rwa [World.size_alloc] at this)
  have HW := Lib.hid hal2
  have HR := Lib.hid (hr.below hal2)
  have hs2 : ((w.alloc (.cells #[.slice A0 n c0, .int .i64 f, .int .i64 m] 25)).alloc (.cells #[.slice none 0 0, .int .i64 0, .int .i64 0] 25)).heap.size = w.heap.size + 2 := by simp
  have HS := Lib.hid hs2
  clear hal1 hal2 hr hs2
  go_enter Try.func7, Try.ntmps7
  go_upto_region 1 with fail
  generalize ((w.alloc (.cells #[.slice A0 n c0, .int .i64 f, .int .i64 m] 25)).alloc (.cells #[.slice none 0 0, .int .i64 0, .int .i64 0] 25)) = V at *
  have z0 := box_at HX.out 0 _ rfl
  have z1 := box_at HX.out 1 _ rfl
  have z2 := box_at HX.out 2 _ rfl
  go_upto_region 2 with (go_at_call 11; refine (own_any V A0 n c0 f m buf HR.out (by omega)).mono ?_; rintro e w2 ⟨B, d, rfl, hO, hb⟩; have HX2 := Lib.hid (show BoxR _ _ _ _ _ from keep hb HX.out); have HY2 := Lib.hid (show BoxR _ _ _ _ _ from keep hb HY.out); have HO := Lib.hid hO; have HB := Lib.hid hb; clear hO hb z0 z1 z2; have z0 := box_at HX2.out 0 _ rfl; have z1 := box_at HX2.out 1 _ rfl; have z2 := box_at HX2.out 2 _ rfl; have zf := box_free HX2.out; have y0 := box_at HY2.out 0 _ rfl; have y1 := box_at HY2.out 1 _ rfl; have y2 := box_at HY2.out 2 _ rfl; have yf := box_free HY2.out)
  have HM := Lib.hid (RM.start (f' := f) (m' := m) HX2.out HY2.out (HO.out.lower HW.out.size) (HW.out.trans (HB.out.mono HW.out.size)))
  clear HX HY HR HX2 HY2 HO HB z0 z1 z2 zf y0 y1 y2 yf
  generalize (((w2.setCell ⟨w.heap.size, 0, none⟩ (.slice B n d)).setCell ⟨w.heap.size, 1, none⟩ (.int .i64 f)).setCell ⟨w.heap.size, 2, none⟩ (.int .i64 m)) = W at *
  have z0 := box_at HM.out.x 0 _ rfl
  have z1 := box_at HM.out.x 1 _ rfl
  have z2 := box_at HM.out.x 2 _ rfl
  have zf := box_free HM.out.x
  go_upto_region 4 with (first
    | (go_at_call 8; refine (right_yes _ _ n d f m hn hn4 hf hm).mono ?_; rintro e w3 ⟨rfl, hb3⟩; have HM3 := Lib.hid (HM.out.below hb3); clear hb3 z0 z1 z2 zf; have z0 := box_at HM3.out.x 0 _ rfl; have z1 := box_at HM3.out.x 1 _ rfl; have z2 := box_at HM3.out.x 2 _ rfl; have zf := box_free HM3.out.x))
  have hsz : (⟨s.toArray⟩ : ByteArray).size = s.length := by simp [ByteArray.size]
  have hqs : (q : Int) ≤ (s.length : Int) := by omega
  have hq0 : (0 : Int) ≤ (q : Int) := by omega
  have w1' : IntKind.i64.wrap ((n : Int) - (m : Int)) = (n : Int) - (m : Int) := by rw [IntKind.wrap_i64]; omega
  have hmin : min (s.length : Int) ((n : Int) - (m : Int)) = (q : Int) := by omega
  go_upto_region 6 with fail
  rw [ext_bytes, List.drop_zero, Nat.sub_zero]
  have hpl : (s.take q).length = q := by rw [List.length_take]; omega
  generalize s.take q = ps at *
  have hps : (⟨ps.toArray⟩ : ByteArray).size = q := by simp [ByteArray.size, hpl]
  have hn0 : ¬ n = 0 := by omega
  have hfm : ((f : Int) + (m : Int)).tmod (n : Int) = (a : Int) := by rw [← Int.natCast_add, Int.tmod_eq_emod_of_nonneg (by omega), ← Int.natCast_emod, ha1]
  have hfm2 : ((f : Int) + (m : Int)) % (n : Int) = (a : Int) := by rw [← Int.natCast_add, ← Int.natCast_emod, ha1]
  have han : a < n := by rw [← ha1]; exact Nat.mod_lt _ hn
  have w2' : IntKind.i64.wrap ((f : Int) + (m : Int)) = (f : Int) + (m : Int) := by rw [IntKind.wrap_i64]; omega
  have w3' : IntKind.i64.wrap (a : Int) = (a : Int) := by rw [IntKind.wrap_i64]; omega
  have w4' : IntKind.i64.wrap ((m : Int) + (q : Int)) = (t : Int) := by rw [IntKind.wrap_i64]; omega
  have ha0 : (0 : Int) ≤ (a : Int) := by omega
  have han1 : (a : Int) ≤ (n : Int) := by omega
  clear ha1
  obtain ⟨g, off, rfl, hg0, _, hnd, _, _⟩ := HM3.out.o.form' hn
  have hnd1 : (n : Int) ≤ (d : Int) := by omega
  have had : ¬ d = a := by omega
  obtain ⟨w5, hr5, hO5, hg5⟩ := run_copyS HM3.out.o hn a (by omega) (dc := d - a) ⟨ps.toArray⟩
  have hmin2 : Nat.min (⟨ps.toArray⟩ : ByteArray).size (n - a) = k1 := by rw [hps]; exact hk
  rw [hmin2] at hr5 hO5
  have HM5 := Lib.hid (HM3.out.copied rfl hO5 hg5)
  clear hO5 hg5
  go_upto_region 8 with (at_builtin; refine wpList_copy_run _ rfl _ _ 22 9 rfl _ _ rfl rfl hr5 ?_)
  clear hr5 z0 z1 z2 zf hmin2 HM3
  have z0 := box_at HM5.out.x 0 _ rfl
  have z1 := box_at HM5.out.x 1 _ rfl
  have z2 := box_at HM5.out.x 2 _ rfl
  have zf := box_free HM5.out.x
  have hk1q : k1 ≤ q := by omega
  obtain ⟨S2, hS2⟩ : ∃ S2, (⟨ps.toArray⟩ : ByteArray).extract k1 q = S2 := ⟨_, rfl⟩
  have hS3 : S2 = ⟨(ps.drop k1).toArray⟩ := by rw [← hS2, ext_bytes, List.take_of_length_le (by rw [List.length_drop]; omega)]
  have hS4 : S2.size = q - k1 := by rw [hS3]; simp [ByteArray.size, hpl]
  have hS5 : S2.data.toList = ps.drop k1 := by rw [hS3]
  clear hS3
  have HM5d := Lib.hid (HM5.out.below (below_drew (Below.refl w5.heap.size w5)))
  obtain ⟨w6, hr6, hO6, hg6⟩ := run_copyS HM5d.out.o hn 0 (by omega) (dc := d) S2
  have hmin2 : Nat.min S2.size (n - 0) = q - k1 := by rw [hS4]; exact Nat.min_eq_left (by omega)
  rw [hmin2] at hr6 hO6
  rw [Nat.add_zero, Nat.sub_zero] at hr6
  rw [hS5, List.take_of_length_le (l := ps.drop k1) (by rw [List.length_drop]; omega)] at hO6
  replace hO6 : Ow 5 w6 w.heap.size (.slice (some ⟨g, off, none⟩) n d) (byteCells (put (put buf a (ps.take k1)) 0 (ps.drop k1))) := by simpa using hO6
  have HM6 := Lib.hid (HM5d.out.copied rfl hO6 hg6)
  have j1 : (k1 : Int) ≤ (q : Int) := by omega
  have j0 : (0 : Int) ≤ (k1 : Int) := by omega
  clear hO6 hg6 hmin2 hS5 hS4
  go_still_tail 5, (by kernel_rfl)
  change wpList _ _ _ _ _ w5.drew
  clear z0 z1 z2 zf
  have z0 := box_at HM6.out.x 0 _ rfl
  have z1 := box_at HM6.out.x 1 _ rfl
  have z2 := box_at HM6.out.x 2 _ rfl
  have zf := box_free HM6.out.x
  refine wpList_copy_run _ rfl _ _ 22 9 rfl _ _ rfl rfl hr6 ?_
  clear hr6
  go_upto_region 10 with fail
  have HM7 := Lib.hid (HM6.out.set2 (t : Int))
  clear z0 z1 z2 zf
  generalize w6.setCell ⟨w.heap.size, 2, none⟩ (.int .i64 (t : Int)) = W7 at *
  have z0 := box_at HM7.out.x 0 _ rfl
  have z1 := box_at HM7.out.x 1 _ rfl
  have z2 := box_at HM7.out.x 2 _ rfl
  have y0 := box_at HM7.out.y 0 _ rfl
  have y1 := box_at HM7.out.y 1 _ rfl
  have y2 := box_at HM7.out.y 2 _ rfl
  have yf := box_free HM7.out.y
  go_wp2_with fail
  refine bodyPost_ret (v := .tuple #[.agg #[.slice (some ⟨g, off, none⟩) n d, .int .i64 f, .int .i64 t], .int .i64 q]) (by simp [results, Try.results7, go_sem, z0, z1, z2, y0, y1, y2]) rfl ?_
  exact ⟨some ⟨g, off, none⟩, d, rfl, HM7.out.fin⟩

theorem madeCells_list (z : Value) (n : Nat) : (madeCells #[z] n).toList = List.replicate n z := by
  apply List.ext_getElem
  · simp [madeCells]
  · intro i h1 h2
    simp [madeCells, Nat.mod_one]
theorem ow_made {W : World} {b base n : Nat} {e : TypeId} {z : Value} (hb : base ≤ b) (hh : W.heap[b]? = some (.cells (madeCells #[z] n) e (0, 0))) (hn : n ≤ 5000) : Ow e W base (.slice (some ⟨b, 0, none⟩) n n) (List.replicate n z) := by
  have := Ow.mk (xs := List.replicate n z) (off := 0) (c := n) hb hh (by simp) (by omega) (by simp [madeCells]) (by rw [madeCells_list]; simp)
  rwa [List.length_replicate] at this
theorem bytes_rep (n : Nat) : byteCells (List.replicate n 0) = List.replicate n (.int .u8 0) := by simp [byteCells]

set_option maxHeartbeats 1000000 in
theorem new_zero (w : World) : Calls Try.prog 5 #[.int .i64 0] w fun e w' => e = .returned (.agg #[.slice none 0 0, .int .i64 0, .int .i64 0]) ∧ Below w.heap.size w w' := by
  go_enter Try.func5, Try.ntmps5
  go_wp2_with fail
  refine bodyPost_ret (v := .agg #[.slice none 0 0, .int .i64 0, .int .i64 0]) (by simp [results, Try.results5, go_sem]) rfl ?_
  exact ⟨rfl, (Below.refl _ _).alloc (Nat.le_refl _) _⟩
set_option maxHeartbeats 2000000 in
theorem new_any (w : World) (n : Nat) (hn : 0 < n) (hn4 : n ≤ 4096) : Calls Try.prog 5 #[.int .i64 n] w (OwnR w 0 0 n (List.replicate n 0)) := by
  have h1 : ¬ (n : Int) < 1 := by omega
  have h2 : ¬ (4096 : Int) < (n : Int) := by omega
  have hm1 := run_make_row' (P := Try.prog) 22 5 (.int .u8 0) 1 Try.underlying22 Try.info5 rfl .i64 .i64 n (by omega) (by omega)
  go_enter Try.func5, Try.ntmps5
  go_wp2_with fail
  refine bodyPost_ret (v := .agg #[.slice (some ⟨w.heap.size + 1, 0, none⟩) n n, .int .i64 0, .int .i64 0]) (by simp [results, Try.results5, go_sem]) rfl ?_
  have hx := heap_alloc_new (w.alloc (.cells #[.slice (some ⟨w.heap.size + 1, 0, none⟩) n n, .int .i64 0, .int .i64 0] 25)) (.cells (madeCells #[.int .u8 0] n) 5)
  rw [World.size_alloc] at hx
  refine ⟨_, _, rfl, ?_, ((Below.refl _ _).alloc (Nat.le_refl _) _).alloc (by simp) _⟩
  rw [bytes_rep]
  exact ow_made (by omega) hx (by omega)
end Go.Proofs.Ytkajmoiehabnmaa
