/- ring.own, New, Pop. -/
import Derived.Test.YtkajmoiehabnmaaC
set_option linter.unusedVariables false
set_option linter.unusedSimpArgs false
namespace Go.Proofs.Ytkajmoiehabnmaa
open Go.RowKit Go.Lib
open Go.Proofs.YtkajmoiehabnmaaW.PrintWords

/-- a box that holds a ring -/
def BoxR (W : World) (bx : Nat) (v : Value) (f m : Int) : Prop := W.heap[bx]? = some (.cells #[v, .int .i64 f, .int .i64 m] 25 (0, 0))
theorem BoxR.set0 {W : World} {bx : Nat} {v : Value} {f m : Int} (h : BoxR W bx v f m) (u : Value) : BoxR (W.setCell ⟨bx, 0, none⟩ u) bx u f m := heap_set h u
theorem BoxR.set1 {W : World} {bx : Nat} {v : Value} {f m : Int} (h : BoxR W bx v f m) (x : Int) : BoxR (W.setCell ⟨bx, 1, none⟩ (.int .i64 x)) bx v x m := heap_set h _
theorem BoxR.set2 {W : World} {bx : Nat} {v : Value} {f m : Int} (h : BoxR W bx v f m) (x : Int) : BoxR (W.setCell ⟨bx, 2, none⟩ (.int .i64 x)) bx v f x := heap_set h _
theorem BoxR.far {W : World} {bx : Nat} {v : Value} {f m : Int} (h : BoxR W bx v f m) {p : Addr} (hp : bx ≠ p.block) (u : Value) : BoxR (W.setCell p u) bx v f m := by
  unfold BoxR
  rw [Below.heap_setCell _ _ _ _ hp]
  exact h
theorem BoxR.ne {W : World} {bx base : Nat} {u v : Value} {f m : Int} {xs : List Value} (h : BoxR W bx u f m) (hv : Ow 5 W base v xs) : ∀ k, v.ownBlock = some k → k ≠ bx := by
  intro k hk he
  subst he
  obtain ⟨cs, hcs⟩ := hv.typed k hk
  unfold BoxR at h
  rw [h] at hcs
  injection hcs with hcs
  injection hcs with _ h2
  cases h2
/-- a ring told that the call owns -/
def OwnR (w : World) (f m : Int) (n : Nat) (buf : List UInt8) (e : Ending) (w' : World) : Prop :=
  ∃ A c, e = .returned (.agg #[.slice A n c, .int .i64 f, .int .i64 m]) ∧ Ow 5 w' w.heap.size (.slice A n c) (byteCells buf) ∧ Below w.heap.size w w'

set_option maxHeartbeats 2000000 in
theorem own_any (w : World) (A0 : Option Addr) (n c0 : Nat) (f m : Int) (buf : List UInt8) (hr : Rd w (.slice A0 n c0) (byteCells buf)) (hn : n ≤ 5000) :
    Calls Try.prog 11 #[.agg #[.slice A0 n c0, .int .i64 f, .int .i64 m]] w (OwnR w f m n buf) := by
  have hal1 : Below w.heap.size w (w.alloc (.cells #[.slice A0 n c0, .int .i64 f, .int .i64 m] 25)) := (Below.refl _ _).alloc (Nat.le_refl _) _
  have hal2 : Below w.heap.size w ((w.alloc (.cells #[.slice A0 n c0, .int .i64 f, .int .i64 m] 25)).alloc (.cells #[.slice none 0 0, .int .i64 0, .int .i64 0] 25)) := hal1.alloc (by simp) _
  have HX := Lib.hid (show BoxR ((w.alloc (.cells #[.slice A0 n c0, .int .i64 f, .int .i64 m] 25)).alloc (.cells #[.slice none 0 0, .int .i64 0, .int .i64 0] 25)) w.heap.size (.slice A0 n c0) f m from
    (Below.heap_alloc _ _ _ (by simp)).trans (heap_alloc_new _ _))
  have HY := Lib.hid (show BoxR ((w.alloc (.cells #[.slice A0 n c0, .int .i64 f, .int .i64 m] 25)).alloc (.cells #[.slice none 0 0, .int .i64 0, .int .i64 0] 25)) (w.heap.size + 1) (.slice none 0 0) 0 0 from by
    have := heap_alloc_new (w.alloc (.cells #[.slice A0 n c0, .int .i64 f, .int .i64 m] 25)) (.cells #[.slice none 0 0, .int .i64 0, .int .i64 0] 25)
    rwa [World.size_alloc] at this)
  have HW := Lib.hid hal2
  have HR := Lib.hid (hr.below hal2)
  have hs2 : ((w.alloc (.cells #[.slice A0 n c0, .int .i64 f, .int .i64 m] 25)).alloc (.cells #[.slice none 0 0, .int .i64 0, .int .i64 0] 25)).heap.size = w.heap.size + 2 := by simp
  have HS := Lib.hid hs2
  clear hal1 hal2 hr hs2
  go_enter Try.func11, Try.ntmps11
  go_upto_region 1 with fail
  generalize ((w.alloc (.cells #[.slice A0 n c0, .int .i64 f, .int .i64 m] 25)).alloc (.cells #[.slice none 0 0, .int .i64 0, .int .i64 0] 25)) = V at *
  have z0 := box_at HX.out 0 _ rfl
  go_wp2_with (go_at_call 16; refine (clone_any V A0 n c0 (byteCells buf) (byteCells_one _) HR.out hn).mono ?_; rintro e w2 ⟨B, n', d, rfl, hO, hb⟩; have hln := hO.rd.len; have HX2 := Lib.hid (keep hb HX.out); have HY2 := Lib.hid (keep hb HY.out); have HO := Lib.hid hO; have HB := Lib.hid hb; clear hO hb z0; have z0 := box_at HX2.out 0 _ rfl; have z1 := box_at HX2.out 1 _ rfl; have z2 := box_at HX2.out 2 _ rfl; have zf := box_free HX2.out; have y0 := box_at HY2.out 0 _ rfl; have y1 := box_at HY2.out 1 _ rfl; have y2 := box_at HY2.out 2 _ rfl; have yf := box_free HY2.out)
  have hn' : n' = n := by
    have h1 := HR.out.len
    omega
  subst hn'
  refine bodyPost_ret (v := .agg #[.slice B n' d, .int .i64 f, .int .i64 m]) (by simp [results, Try.results11, go_sem, z0, z1, z2, y0, y1, y2]) rfl ?_
  refine ⟨B, d, rfl, ?_, ?_⟩
  · have ne1 := BoxR.ne HX2.out HO.out
    have ne2 := BoxR.ne HY2.out HO.out
    exact ((((HO.out.lower HW.out.size).far ne1 _).far ne2 _).far ne2 _).far ne2 _
  · exact ((((HW.out.trans (HB.out.mono HW.out.size)).setCell (by simp) _).setCell (by simp) _).setCell (by simp) _).setCell (by simp) _

/-- ys put over buf from place at' on -/
def put (buf : List UInt8) (at' : Nat) (ys : List UInt8) : List UInt8 := buf.take at' ++ ys ++ buf.drop (at' + ys.length)
theorem put_len {buf ys : List UInt8} {at' : Nat} (h : at' + ys.length ≤ buf.length) : (put buf at' ys).length = buf.length := by
  simp [put]
  omega
theorem put_nil {buf : List UInt8} {at' : Nat} : put buf at' [] = buf := by simp [put]

theorem put_list {α : Type} {L ys : List α} {off at' n k : Nat} (hy : ys.length = k) (ha : at' + k ≤ n) (hL : off + n ≤ L.length) :
    ((L.take (off + at') ++ ys ++ L.drop (off + at' + k)).drop off).take n = ((L.drop off).take n).take at' ++ ys ++ ((L.drop off).take n).drop (at' + k) := by
  apply List.ext_getElem?
  intro i
  simp only [List.getElem?_take, List.getElem?_drop, List.getElem?_append, List.length_append, List.length_take, List.length_drop, hy]
  by_cases h1 : i < at'
  · rw [if_pos (by omega), if_pos (by omega), if_pos (by omega), if_pos (by omega), if_pos (by omega), if_pos (by omega), if_pos (by omega), if_pos (by omega)]
  · by_cases h2 : i < at' + k
    · rw [if_pos (by omega), if_pos (by omega), if_neg (by omega), if_pos (by omega), if_neg (by omega)]
      congr 1
      omega
    · by_cases h3 : i < n
      · rw [if_pos (by omega), if_neg (by omega), if_neg (by omega), if_pos (by omega)]
        congr 1
        omega
      · rw [if_neg (by omega), if_neg (by omega), if_neg (by omega)]
theorem run_copyS {w : World} {base g off n c dc : Nat} {buf : List UInt8} (h : Ow 5 w base (.slice (some ⟨g, off, none⟩) n c) (byteCells buf)) (hn : 0 < n) (at' : Nat) (hat : at' ≤ n) (s : ByteArray) :
    ∃ w', (Builtin.copy_ #[22, 9] 3 #[.slice (some ⟨g, off + at', none⟩) (n - at') dc, .string s]).run Try.prog w = .ok (goInt (Nat.min s.size (n - at') : Nat)) w' ∧
      Ow 5 w' base (.slice (some ⟨g, off, none⟩) n c) (byteCells (put buf at' (s.data.toList.take (Nat.min s.size (n - at'))))) ∧ w.grownBy w' (some g) := by
  have hbl : buf.length = n := by have := h.rd.len; rwa [byteCells_length] at this
  obtain ⟨k, hk⟩ : ∃ k, Nat.min s.size (n - at') = k := ⟨_, rfl⟩
  have hk1 : k ≤ s.size := by rw [← hk]; exact Nat.min_le_left _ _
  have hk2 : k ≤ n - at' := by rw [← hk]; exact Nat.min_le_right _ _
  rw [hk]
  obtain ⟨g', off', c', cur, he, hb, hg, hnc, hm, hcs, ht⟩ := h.form (by rw [byteCells_length]; omega)
  injection he with h1 h2 h3
  injection h1 with h1
  injection h1 with h1 h4
  subst h1; subst h4; subst h3
  rw [byteCells_length] at ht hnc h2
  have hs1 : s.data.toList.length = s.size := by rw [← size_eq]
  have hys : (s.data.toList.take k).length = k := by rw [List.length_take]; omega
  have hlen : (byteCells (s.data.toList.take k)).length = k := by rw [byteCells_length, hys]
  have hst := run_storeCells_at Try.prog g (off + at') 5 (byteCells (s.data.toList.take k)) 0 cur w hg (by rw [hlen]; omega) (byteCells_one _)
  have htk : List.take k (List.map (fun b : UInt8 => Value.int IntKind.u8 (b.toNat : Int)) s.data.toList) = byteCells (s.data.toList.take k) := by
    rw [byteCells, List.map_take]
  rw [hlen] at hst
  simp only [Nat.add_zero] at hst
  refine ⟨w.setRow g (cur.toList.take (off + at') ++ byteCells (s.data.toList.take k) ++ cur.toList.drop (off + at' + k)).toArray, ?_, ?_, ?_⟩
  · have hs := Try.info5
    cases hq : Try.prog.info? 5 with
    | none => rw [hq] at hs; simp at hs
    | some i =>
      rw [hq] at hs
      simp at hs
      simp [Builtin.copy_, run_underlying Try.underlying22, Builtin.lenOf, Builtin.firstCells, sizeOf, typeInfo, hq, hs, hk]
      rw [htk, hst]
      simp [Result.andThen]
  · have hput : (put buf at' (s.data.toList.take k)).length = buf.length := put_len (by rw [hys]; omega)
    have hmk := Ow.mk (e := 5) (w := w.setRow g (cur.toList.take (off + at') ++ byteCells (s.data.toList.take k) ++ cur.toList.drop (off + at' + k)).toArray) (base := base) (b := g) (off := off) (c := c) (xs := byteCells (put buf at' (s.data.toList.take k))) hb (setRow_heap _ _ _ _ _ _ hg) (by rw [byteCells_length, hput]; omega) hm (by
      simp [hlen]
      omega) (by
      rw [byteCells_length, hput]
      have hbc : byteCells buf = (cur.toList.drop off).take buf.length := ht.symm
      unfold put
      rw [byteCells_append, byteCells_append, hys, show byteCells (buf.take at') = (byteCells buf).take at' from (byteCells_take _ _).symm, show byteCells (buf.drop (at' + k)) = (byteCells buf).drop (at' + k) from (byteCells_drop _ _).symm, hbc]
      simp only [List.toList_toArray]
      have hcl : cur.toList.length = off + c := by simpa using hcs
      exact put_list (L := cur.toList) (off := off) (at' := at') (n := buf.length) (k := k) hlen (by omega) (by omega))
    rw [byteCells_length, hput, hbl] at hmk
    exact hmk
  · exact ⟨rfl, rfl, rfl, by simp, fun k' _ hk' => setRow_other _ _ _ _ (fun e => hk' (by rw [e]))⟩
end Go.Proofs.Ytkajmoiehabnmaa
