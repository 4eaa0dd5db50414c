/- flight.Leave (printed by mkZ.py). -/
import Derived.Test.YtipjhokhflokmaaY
set_option linter.unusedVariables false
set_option linter.unusedSimpArgs false
namespace Go.Proofs.Ytipjhokhflokmaa
open Go.RowKit Go.Maps
open Go.Proofs.YtipjhokhflokmaaW.PrintWords

/-- who waits is stored anew; the flight's elder row may have gone -/
theorem OwF.put7' {w : World} {base b off n c : Nat} {zs : List FV} {k : Nat} {x x' : Fl} {S S' : Sl} (ho : OwE fenc 8 45 w base (.slice (some ⟨b, off, none⟩) n c) zs)
    (hr : ∀ (i : Nat) (y : FV), i ≠ k → zs[i]? = some y → OwE tenc 2 47 w base y.2.v y.1.ws)
    (hn : ∀ (i j : Nat) (y z : FV), i ≠ k → j ≠ k → i ≠ j → zs[i]? = some y → zs[j]? = some z → ∀ q, y.2.v.ownBlock = some q → z.2.v.ownBlock ≠ some q)
    (hz : zs[k]? = some (x, S)) (hx : fenc (x', S') = (fenc (x, S)).set 7 S'.v) (hO : OwE tenc 2 47 w base S'.v x'.ws)
    (hne : ∀ (i : Nat) (y : FV), i ≠ k → zs[i]? = some y → ∀ q, y.2.v.ownBlock = some q → S'.v.ownBlock ≠ some q) :
    OwF (w.setCell ⟨b, off + k * 8 + 7, none⟩ S'.v) base (.slice (some ⟨b, off, none⟩) n c) (zs.set k (x', S')) := by
  have hk := (List.getElem?_eq_some_iff.1 hz).1
  obtain ⟨cur, hcur⟩ := ho.typed b rfl
  have far : ∀ {V : Value} {es : List Tm}, OwE tenc 2 47 w base V es → OwE tenc 2 47 (w.setCell ⟨b, off + k * 8 + 7, none⟩ S'.v) base V es := fun hv => ts_far hv hcur (by decide) _ _
  refine ⟨ho.set hz (by decide) hx, fun i y hy => ?_, fun i j2 y z hij hy hz2 k2 hk2 => ?_⟩
  · by_cases hik : i = k
    · subst hik
      rw [List.getElem?_set_self hk] at hy
      injection hy with hy
      subst hy
      exact far hO
    · rw [List.getElem?_set_ne (Ne.symm hik)] at hy
      exact far (hr i y hik hy)
  · by_cases hik : i = k
    · subst hik
      rw [List.getElem?_set_self hk] at hy
      injection hy with hy
      subst hy
      rw [List.getElem?_set_ne hij] at hz2
      intro hz3
      exact hne j2 z (Ne.symm hij) hz2 k2 hz3 hk2
    · rw [List.getElem?_set_ne (Ne.symm hik)] at hy
      by_cases hjk : j2 = k
      · subst hjk
        rw [List.getElem?_set_self hk] at hz2
        injection hz2 with hz2
        subst hz2
        exact hne i y hik hy k2 hk2
      · rw [List.getElem?_set_ne (Ne.symm hjk)] at hz2
        exact hn i j2 y z hik hjk hij hy hz2 k2 hk2
/-- one waiter is struck out, and the slice stored -/
theorem OwF.delW {w w1 : World} {base b off n c : Nat} {zs : List FV} (h : OwF w base (.slice (some ⟨b, off, none⟩) n c) zs) {k : Nat} {x : Fl} {b2 o2 m d m' : Nat} (hz : zs[k]? = some (x, ⟨some ⟨b2, o2, none⟩, m, d⟩)) {ws' : List Tm} (hO : OwE tenc 2 47 w1 base (.slice (some ⟨b2, o2, none⟩) m' d) ws') (hg : w.grownBy w1 (some b2)) :
    OwF (w1.setCell ⟨b, off + k * 8 + 7, none⟩ (.slice (some ⟨b2, o2, none⟩) m' d)) base (.slice (some ⟨b, off, none⟩) n c) (zs.set k ({ x with ws := ws' }, ⟨some ⟨b2, o2, none⟩, m', d⟩)) := by
  obtain ⟨cur, hcur⟩ := h.o.typed b rfl
  obtain ⟨cur2, hcur2⟩ := (h.r k _ hz).typed b2 rfl
  have nb : b ≠ b2 := blocks_ne (show (45 : TypeId) ≠ 47 by decide) hcur hcur2
  refine OwF.put7' (S' := ⟨some ⟨b2, o2, none⟩, m', d⟩) (h.o.grown hg (fun q hq he => ?_)) (fun i y hik hy => (h.r i y hy).grown hg (fun q hq he => ?_)) (fun i j y z _ _ hij hy hz2 q hq => h.ne i j y z hij hy hz2 q hq) hz rfl hO (fun i y hik hy q hq => ?_)
  · have : b = q := by simpa [Value.ownBlock] using hq
    injection he with he
    omega
  · injection he with he
    subst he
    exact h.ne i k y _ hik hy hz q hq rfl
  · have := h.ne i k y _ hik hy hz q hq
    exact this
/-- a flight is struck out -/
theorem OwF.del {w w1 : World} {base b off n c n' : Nat} {zs : List FV} (h : OwF w base (.slice (some ⟨b, off, none⟩) n c) zs) (i : Nat) (hO : OwE fenc 8 45 w1 base (.slice (some ⟨b, off, none⟩) n' c) (zs.take i ++ zs.drop (i + 1))) (hg : w.grownBy w1 (some b)) :
    OwF w1 base (.slice (some ⟨b, off, none⟩) n' c) (zs.take i ++ zs.drop (i + 1)) := by
  obtain ⟨cur, hcur⟩ := h.o.typed b rfl
  have at2 : ∀ {j : Nat} {y : FV}, (zs.take i ++ zs.drop (i + 1))[j]? = some y → zs[if j < i then j else j + 1]? = some y := by
    intro j y hy
    by_cases hi : i ≤ zs.length
    · rw [List.getElem?_append, List.length_take, Nat.min_eq_left hi] at hy
      split at hy
      · rename_i hj
        rw [if_pos hj]
        rw [List.getElem?_take, if_pos hj] at hy
        exact hy
      · rename_i hj
        rw [if_neg hj]
        rw [List.getElem?_drop] at hy
        rw [show j + 1 = i + 1 + (j - i) by omega]
        exact hy
    · rw [List.take_of_length_le (by omega), List.drop_of_length_le (by omega), List.append_nil] at hy
      have := (List.getElem?_eq_some_iff.1 hy).1
      rw [if_pos (by omega)]
      exact hy
  refine ⟨hO, fun j y hy => (h.r _ y (at2 hy)).grown hg (fun q hq he => ?_), fun j1 j2 y z hij hy hz q hq => h.ne _ _ y z (fun he => hij ?_) (at2 hy) (at2 hz) q hq⟩
  · injection he with he
    subst he
    obtain ⟨cs, hcs⟩ := (h.r _ y (at2 hy)).typed q hq
    exact blocks_ne (show (47 : TypeId) ≠ 45 by decide) hcs hcur rfl
  · split at he <;> split at he <;> omega
theorem OwF.cell7 {w w1 : World} {base b off n c : Nat} {zs : List FV} (h : OwF w base (.slice (some ⟨b, off, none⟩) n c) zs) {k : Nat} {x : Fl} {b2 o2 m d : Nat} (hz : zs[k]? = some (x, ⟨some ⟨b2, o2, none⟩, m, d⟩)) (hg : w.grownBy w1 (some b2)) :
    w1.cell? ⟨b, off + k * 8 + 7, none⟩ = some (.slice (some ⟨b2, o2, none⟩) m d) ∧ w1.frozen? ⟨b, off + k * 8 + 7, none⟩ = false := by
  obtain ⟨cur, hcur⟩ := h.o.typed b rfl
  obtain ⟨cur2, hcur2⟩ := (h.r k _ hz).typed b2 rfl
  have nb : b ≠ b2 := blocks_ne (show (45 : TypeId) ≠ 47 by decide) hcur hcur2
  have hb : w1.heap[b]? = w.heap[b]? := hg.block b (Array.getElem?_eq_some_iff.1 hcur).1 (by simpa using nb)
  have hc := h.cell hz (j := 7) (v := .slice (some ⟨b2, o2, none⟩) m d) rfl
  refine ⟨(World.cell?_of_block (w := w) (w' := w1) hb).trans hc.1, ?_⟩
  have h2 := hcur
  rw [← hb] at h2
  simp [World.frozen?, h2]
def cutAt {α : Type} (xs : List α) (k : Nat) : List α := xs.take k ++ xs.drop (k + 1)
theorem cutAt_len {α : Type} {xs : List α} {k : Nat} (h : k < xs.length) : (cutAt xs k).length + 1 = xs.length := by
  unfold cutAt
  rw [List.length_append, List.length_take, List.length_drop]
  omega
theorem cutAt_map {α β : Type} (f : α → β) (xs : List α) (k : Nat) : (cutAt xs k).map f = cutAt (xs.map f) k := by simp [cutAt, List.map_take, List.map_drop]
theorem cutAt_set {α : Type} (xs : List α) (k : Nat) (a : α) : cutAt (xs.set k a) k = cutAt xs k := by
  unfold cutAt
  rw [List.take_set, List.drop_set_of_lt (by omega), List.set_eq_of_length_le (by rw [List.length_take]; omega)]
def leaveOp (room next : Int) (fs : List Fl) (wt : Int) : List Fl × Int × Bool × Int :=
  if rightS room next fs = false then (fs, 0, false, 1) else if (waitsS fs wt).1 < 0 then (fs, 0, false, 5) else
  match fs[(waitsS fs wt).1.toNat]? with
  | none => (fs, 0, false, 5)
  | some x => if (cutAt x.ws (waitsS fs wt).2.toNat).length = 0 then (cutAt fs (waitsS fs wt).1.toNat, x.id, true, 0) else (fs.set (waitsS fs wt).1.toNat { x with ws := cutAt x.ws (waitsS fs wt).2.toNat }, x.id, false, 0)
theorem leaveOp1 {room next : Int} {fs : List Fl} (h : rightS room next fs = false) (wt : Int) : leaveOp room next fs wt = (fs, 0, false, 1) := if_pos h
theorem leaveOp5 {room next : Int} {fs : List Fl} (h : rightS room next fs = true) {wt : Int} (hw : (waitsS fs wt).1 < 0) : leaveOp room next fs wt = (fs, 0, false, 5) := by unfold leaveOp; rw [if_neg (by rw [h]; decide), if_pos hw]
theorem leaveOp0 {room next : Int} {fs : List Fl} (h : rightS room next fs = true) {wt : Int} {i k : Nat} {x : Fl} (hw : waitsS fs wt = ((i : Int), (k : Int))) (hx : fs[i]? = some x) :
    leaveOp room next fs wt = if (cutAt x.ws k).length = 0 then (cutAt fs i, x.id, true, 0) else (fs.set i { x with ws := cutAt x.ws k }, x.id, false, 0) := by
  unfold leaveOp
  rw [if_neg (by rw [h]; decide), hw]
  simp only
  rw [if_neg (by omega), Int.toNat_natCast, Int.toNat_natCast, hx]

set_option maxRecDepth 100000 in
set_option maxHeartbeats 8000000 in
theorem leave_any (w : World) (room next : Int) (A : Option Addr) (n c : Nat) (ys : List FV) (wt : Int) (hr : RdF w (.slice A n c) ys) (hs : SmF (fls ys)) :
    Calls Try.prog 20 #[fv room next (.slice A n c), .int .i64 wt] w (OpPost w room next (leaveOp room next (fls ys) wt).1 [.int .i64 (leaveOp room next (fls ys) wt).2.1, .bool (leaveOp room next (fls ys) wt).2.2.1, .int .i64 (leaveOp room next (fls ys) wt).2.2.2]) := by
  have hl : ys.length = n := hr.len
  have hn : n ≤ 1000 := by have := hs.n; rw [← hl]; simpa [fls] using this
  have hal1 : Below w.heap.size w (w.alloc (.cells #[.int .i64 room, .int .i64 next, .slice A n c] 26)) := (Below.refl _ _).alloc (Nat.le_refl _) _
  have hal2 : Below w.heap.size w ((w.alloc (.cells #[.int .i64 room, .int .i64 next, .slice A n c] 26)).alloc (.cells #[.int .i64 0, .int .i64 0, .slice none 0 0] 26)) := hal1.alloc (by simp) _
  have x1 : ((w.alloc (.cells #[.int .i64 room, .int .i64 next, .slice A n c] 26)).alloc (.cells #[.int .i64 0, .int .i64 0, .slice none 0 0] 26)).heap[w.heap.size]? = some (.cells #[.int .i64 room, .int .i64 next, .slice A n c] 26 (0, 0)) := keep ((Below.refl _ _).alloc (Nat.le_refl _) _) (heap_alloc_new w _)
  have x2 : ((w.alloc (.cells #[.int .i64 room, .int .i64 next, .slice A n c] 26)).alloc (.cells #[.int .i64 0, .int .i64 0, .slice none 0 0] 26)).heap[w.heap.size + 1]? = some (.cells #[.int .i64 0, .int .i64 0, .slice none 0 0] 26 (0, 0)) := by
    have := heap_alloc_new (w.alloc (.cells #[.int .i64 room, .int .i64 next, .slice A n c] 26)) (.cells #[.int .i64 0, .int .i64 0, .slice none 0 0] 26)
    rwa [show (w.alloc (.cells #[.int .i64 room, .int .i64 next, .slice A n c] 26)).heap.size = w.heap.size + 1 by simp] at this
  have HR0 := Lib.hid hr
  have HR := Lib.hid (hr.below hal2)
  have HS := Lib.hid hs
  clear hal1 hr hs
  go_enter Try.func20, Try.ntmps20
  go_upto_region 1 with fail
  generalize (w.alloc (.cells #[.int .i64 room, .int .i64 next, .slice A n c] 26)).alloc (.cells #[.int .i64 0, .int .i64 0, .slice none 0 0] 26) = U at *
  have HX1 := Lib.hid x1
  have HX2 := Lib.hid x2
  have HAL := Lib.hid hal2
  clear x1 x2 hal2
  have z0 : U.cell? ⟨w.heap.size, 0, none⟩ = some (.int .i64 room) := box_at HX1.out 0 _ rfl
  have z1 : U.cell? ⟨w.heap.size, 1, none⟩ = some (.int .i64 next) := box_at HX1.out 1 _ rfl
  have z2 : U.cell? ⟨w.heap.size, 2, none⟩ = some (.slice A n c) := box_at HX1.out 2 _ rfl
  have c22 := Lib.hid (own_any U room next A n c ys HR.out hn HS.out.w')
  go_upto_region 2 with (go_at_call 22; refine c22.out.mono ?_; rintro e w2 ⟨A2, n2, c2, zs, rfl, hfz, hO2, hb2⟩; have y0 : w2.cell? ⟨w.heap.size, 0, none⟩ = some (.int .i64 room) := box_at (keep hb2 HX1.out) 0 _ rfl; have y1 : w2.cell? ⟨w.heap.size, 1, none⟩ = some (.int .i64 next) := box_at (keep hb2 HX1.out) 1 _ rfl; have y2 : w2.cell? ⟨w.heap.size, 2, none⟩ = some (.slice A n c) := box_at (keep hb2 HX1.out) 2 _ rfl; have yf := box_free (keep hb2 HX1.out))
  have hS := ip_setup HAL.out HX1.out HX2.out hO2 hb2
  clear y0 y1 y2 yf z0 z1 z2 hO2 hb2 HX1 HX2 HAL HR c22
  unfold st3 at hS
  generalize ((w2.setCell ⟨w.heap.size, 0, none⟩ (.int .i64 room)).setCell ⟨w.heap.size, 1, none⟩ (.int .i64 next)).setCell ⟨w.heap.size, 2, none⟩ (.slice A2 n2 c2) = W3 at *
  have hsF : SmF (fls zs) := by rw [hfz]; exact HS.out
  have hl2 : zs.length = n2 := hS.ow.rd.len
  have c13 := right_any W3 room next A2 n2 c2 zs hS.ow.rd (hsF.sm hl2)
  rw [hfz] at c13
  have C13 := Lib.hid c13
  have HSS := Lib.hid hS
  have HFZ := Lib.hid hfz
  have HSZ := Lib.hid hsF
  clear hS hfz c13 hsF
  have y0 : W3.cell? ⟨w.heap.size, 0, none⟩ = some (.int .i64 room) := box_at HSS.out.bx 0 _ rfl
  have y1 : W3.cell? ⟨w.heap.size, 1, none⟩ = some (.int .i64 next) := box_at HSS.out.bx 1 _ rfl
  have y2 : W3.cell? ⟨w.heap.size, 2, none⟩ = some (.slice A2 n2 c2) := box_at HSS.out.bx 2 _ rfl
  cases hq : rightS room next (fls ys) with
  | false =>
    have HE := Lib.hid (leaveOp1 hq wt)
    have HQ := Lib.hid hq; clear hq
    go_upto_region 3 with (go_at_call 13; refine C13.out.mono ?_; rw [HQ.out]; rintro e w4 ⟨rfl, hb4⟩; have HS4 := Lib.hid (HSS.out.below hb4); clear hb4)
    clear y0 y1 y2 C13
    have y0 : w4.cell? ⟨w.heap.size, 0, none⟩ = some (.int .i64 room) := box_at HS4.out.bx 0 _ rfl
    have y1 : w4.cell? ⟨w.heap.size, 1, none⟩ = some (.int .i64 next) := box_at HS4.out.bx 1 _ rfl
    have y2 : w4.cell? ⟨w.heap.size, 2, none⟩ = some (.slice A2 n2 c2) := box_at HS4.out.bx 2 _ rfl
    have s0 : w4.cell? ⟨w.heap.size + 1, 0, none⟩ = some (.int .i64 0) := box_at HS4.out.bz 0 _ rfl
    have s1 : w4.cell? ⟨w.heap.size + 1, 1, none⟩ = some (.int .i64 0) := box_at HS4.out.bz 1 _ rfl
    have s2 : w4.cell? ⟨w.heap.size + 1, 2, none⟩ = some (.slice none 0 0) := box_at HS4.out.bz 2 _ rfl
    have sf := box_free HS4.out.bz
    go_wp2_with fail
    have hfin := ret_own (room := room) (next := next) HS4.out.ow HS4.out.bw HS4.out.bz (Nat.le_succ _)
    refine bodyPost_ret (v := .tuple #[fv room next (.slice A2 n2 c2), .int .i64 0, .bool false, .int .i64 1]) (by simp [results, Try.results20, go_sem, s0, s1, s2]) rfl ?_
    rw [HE.out]
    exact ⟨A2, n2, c2, zs, rfl, HFZ.out, hfin.1, hfin.2⟩
  | true =>
    have HQ := Lib.hid hq
    have C23 := Lib.hid (fun W (hO : OwF W w.heap.size (.slice A2 n2 c2) zs) => waits_any W room next A2 n2 c2 zs wt hO.rd (by have := HSZ.out.n; rw [← hl2]; simpa [fls] using this) HSZ.out.w')
    go_upto_region 4 with (go_at_call 13; refine C13.out.mono ?_; rw [HQ.out]; rintro e w4 ⟨rfl, hb4⟩; have HS4 := Lib.hid (HSS.out.below hb4); clear hb4)
    clear y0 y1 y2 C13
    have y0 : w4.cell? ⟨w.heap.size, 0, none⟩ = some (.int .i64 room) := box_at HS4.out.bx 0 _ rfl
    have y1 : w4.cell? ⟨w.heap.size, 1, none⟩ = some (.int .i64 next) := box_at HS4.out.bx 1 _ rfl
    have y2 : w4.cell? ⟨w.heap.size, 2, none⟩ = some (.slice A2 n2 c2) := box_at HS4.out.bx 2 _ rfl
    by_cases hwt : (waitsS (fls ys) wt).1 < 0
    · have HE := Lib.hid (leaveOp5 hq hwt)
      obtain ⟨i1, hi1⟩ : ∃ i1, (waitsS (fls ys) wt).1 = i1 := ⟨_, rfl⟩
      rw [hi1] at hwt
      have HI1 := Lib.hid hi1
      clear hi1 hq
      go_upto_region 6 with (go_at_call 23; refine (C23.out w4 HS4.out.ow).mono ?_; rw [HFZ.out, HI1.out]; rintro e w5 ⟨rfl, hb5⟩; have HS5 := Lib.hid (HS4.out.below hb5); clear hb5)
      clear y0 y1 y2 C23
      have y0 : w5.cell? ⟨w.heap.size, 0, none⟩ = some (.int .i64 room) := box_at HS5.out.bx 0 _ rfl
      have y1 : w5.cell? ⟨w.heap.size, 1, none⟩ = some (.int .i64 next) := box_at HS5.out.bx 1 _ rfl
      have y2 : w5.cell? ⟨w.heap.size, 2, none⟩ = some (.slice A2 n2 c2) := box_at HS5.out.bx 2 _ rfl
      have s0 : w5.cell? ⟨w.heap.size + 1, 0, none⟩ = some (.int .i64 0) := box_at HS5.out.bz 0 _ rfl
      have s1 : w5.cell? ⟨w.heap.size + 1, 1, none⟩ = some (.int .i64 0) := box_at HS5.out.bz 1 _ rfl
      have s2 : w5.cell? ⟨w.heap.size + 1, 2, none⟩ = some (.slice none 0 0) := box_at HS5.out.bz 2 _ rfl
      have sf := box_free HS5.out.bz
      go_wp2_with fail
      have hfin := ret_own (room := room) (next := next) HS5.out.ow HS5.out.bw HS5.out.bz (Nat.le_succ _)
      refine bodyPost_ret (v := .tuple #[fv room next (.slice A2 n2 c2), .int .i64 0, .bool false, .int .i64 5]) (by simp [results, Try.results20, go_sem, s0, s1, s2]) rfl ?_
      rw [HE.out]
      exact ⟨A2, n2, c2, zs, rfl, HFZ.out, hfin.1, hfin.2⟩
    · obtain ⟨i, k, x, t, hw1, hx, ht, hti⟩ := waitsS_at hwt
      have HE := Lib.hid (leaveOp0 hq hw1 hx)
      have HW1 := Lib.hid hw1
      have HX := Lib.hid hx
      have HT := Lib.hid ht
      have hxw : x.ws.length ≤ 1000 := HS.out.w x (List.mem_of_getElem? hx)
      clear hwt hw1 hx ht hti hq
      go_upto_region 5 with (go_at_call 23; refine (C23.out w4 HS4.out.ow).mono ?_; rw [HFZ.out, HW1.out]; rintro e w5 ⟨rfl, hb5⟩; have HS5 := Lib.hid (HS4.out.below hb5); clear hb5)
      clear y0 y1 y2 C23 HS4 HSS
      obtain ⟨S, hzk⟩ := fls_get HFZ.out HX.out
      obtain ⟨b, off, hA2, hlob, hF⟩ := HS5.out.ow.at_ hzk
      subst hA2
      obtain ⟨B, m, d⟩ := S
      have hin : i < n2 := by have := (List.getElem?_eq_some_iff.1 hzk).1; omega
      have hwl : x.ws.length = m := hF.r.len
      have hkm : k < m := by have := (List.getElem?_eq_some_iff.1 HT.out).1; omega
      obtain ⟨b2, o2, hB, _, _, _⟩ := hF.r.tm HT.out
      subst hB
      have hO2 : OwE tenc 2 47 w5 w.heap.size (.slice (some ⟨b2, o2, none⟩) m d) x.ws := HS5.out.ow.r i _ hzk
      have hlo2 := hO2.lo b2 rfl
      obtain ⟨cu2, hcu2⟩ := hO2.typed b2 rfl
      obtain ⟨cu1, hcu1⟩ := HS5.out.ow.o.typed b rfl
      have hi0 : ¬ (i : Int) < 0 := by omega
      have hi1 : (i : Int) < (n2 : Int) := by omega
      have hk1 : (k : Int) < (m : Int) := by omega
      have hn2 : n2 ≤ 1000 := by have := HSZ.out.n; rw [← hl2]; simpa [fls] using this
      have hk9 : (k : Int) + 1 ≤ 1000 := by omega
      have hi9 : (i : Int) + 1 ≤ 1000 := by omega
      have nb0 : ¬ w.heap.size = b := blocks_ne (show (26 : TypeId) ≠ 45 by decide) HS5.out.bx hcu1
      have nb1 : ¬ w.heap.size + 1 = b := blocks_ne (show (26 : TypeId) ≠ 45 by decide) HS5.out.bz hcu1
      have nc0 : ¬ w.heap.size = b2 := blocks_ne (show (26 : TypeId) ≠ 47 by decide) HS5.out.bx hcu2
      have nc1 : ¬ w.heap.size + 1 = b2 := blocks_ne (show (26 : TypeId) ≠ 47 by decide) HS5.out.bz hcu2
      have NB0 := Lib.hid nb0
      have NB1 := Lib.hid nb1
      have NC0 := Lib.hid nc0
      have NC1 := Lib.hid nc1
      have HLO2 := Lib.hid hlo2
      have HLOB := Lib.hid hlob
      clear nb0 nb1 nc0 nc1 hlo2 hlob
      have y2 : w5.cell? ⟨w.heap.size, 2, none⟩ = some (.slice (some ⟨b, off, none⟩) n2 c2) := box_at HS5.out.bx 2 _ rfl
      have k2 : w5.cell? ⟨b, off + i * 8 + 2, none⟩ = some (.int .i64 x.id) := hF.c2
      have k7 : w5.cell? ⟨b, off + i * 8 + 7, none⟩ = some (.slice (some ⟨b2, o2, none⟩) m d) := hF.c7
      have HZK := Lib.hid hzk
      have C43 := Lib.hid (deleteW_any w5 w.heap.size b2 o2 m d x.ws k hO2 hkm (by omega))
      clear hzk hF hO2 hcu1 hcu2
      go_upto_region 10 with (go_at_call 43; refine C43.out.mono ?_; rintro e w6 ⟨rfl, hO6, hg6⟩; have hc7 := (OwF.cell7 HS5.out.ow HZK.out hg6); have hf7 := hc7.2; have hc7 := hc7.1; have HO6 := Lib.hid hO6; have HG6 := Lib.hid hg6; clear hO6 hg6)
      have hown := HS5.out.ow.delW HZK.out HO6.out HG6.out
      have hS6 : IpS w (w6.setCell ⟨b, off + i * 8 + 7, none⟩ (.slice (some ⟨b2, o2, none⟩) (m - 1) d)) room next (.slice (some ⟨b, off, none⟩) n2 c2) (zs.set i ({ x with ws := cutAt x.ws k }, ⟨some ⟨b2, o2, none⟩, m - 1, d⟩)) := by
        have nh : ∀ {j : Nat}, j ≠ b2 → j ≠ b → j < w5.heap.size → (w6.setCell ⟨b, off + i * 8 + 7, none⟩ (.slice (some ⟨b2, o2, none⟩) (m - 1) d)).heap[j]? = w5.heap[j]? := fun h1 h2 h3 => by
          rw [Below.heap_setCell _ _ _ _ h2]
          exact HG6.out.block _ h3 (by simpa using h1)
        refine ⟨(nh NC0.out NB0.out (Array.getElem?_eq_some_iff.1 HS5.out.bx).1).trans HS5.out.bx, (nh NC1.out NB1.out (Array.getElem?_eq_some_iff.1 HS5.out.bz).1).trans HS5.out.bz, hown, ?_⟩
        exact (HS5.out.bw.grown HG6.out HS5.out.bw.size (fun q hq => by cases hq; exact HLO2.out)).setCell HLOB.out _
      have HS6 := Lib.hid hS6
      have HFS := Lib.hid (fls_set HFZ.out i { x with ws := cutAt x.ws k } ⟨some ⟨b2, o2, none⟩, m - 1, d⟩)
      clear hc7 hf7 hown hS6 y2 k2 k7 C43
      generalize w6.setCell ⟨b, off + i * 8 + 7, none⟩ (.slice (some ⟨b2, o2, none⟩) (m - 1) d) = W7 at *
      have hzl : i < (zs.set i ({ x with ws := cutAt x.ws k }, (⟨some ⟨b2, o2, none⟩, m - 1, d⟩ : Sl))).length := by rw [List.length_set]; omega
      have hzk7 : (zs.set i ({ x with ws := cutAt x.ws k }, (⟨some ⟨b2, o2, none⟩, m - 1, d⟩ : Sl)))[i]? = some ({ x with ws := cutAt x.ws k }, (⟨some ⟨b2, o2, none⟩, m - 1, d⟩ : Sl)) := List.getElem?_set_self (by simpa using hzl)
      have k7 : W7.cell? ⟨b, off + i * 8 + 7, none⟩ = some (.slice (some ⟨b2, o2, none⟩) (m - 1) d) := (HS6.out.ow.cell hzk7 (j := 7) rfl).1
      have hcl := cutAt_len (xs := x.ws) (k := k) (hwl.symm ▸ hkm)
      have HZ7 := Lib.hid hzk7
      clear hzk7
      by_cases hm1 : m = 1
      · have HE2 := Lib.hid (HE.out.trans (if_pos (by omega)))
        have hme : m - 1 = 0 := by omega
        have hmz : (((m - 1 : Nat) : Int) == 0) = true := by rw [hme]; rfl
        have C42 := Lib.hid (deleteF_any W7 w.heap.size b off n2 c2 _ i HS6.out.ow.o hin hn2)
        have y2 : W7.cell? ⟨w.heap.size, 2, none⟩ = some (.slice (some ⟨b, off, none⟩) n2 c2) := box_at HS6.out.bx 2 _ rfl
        clear hm1 hme
        go_upto_region 13 with (go_at_call 42; refine C42.out.mono ?_; rintro e w8 ⟨rfl, hO8, hg8⟩; have hx8 : w8.heap[w.heap.size]? = some (.cells #[.int .i64 room, .int .i64 next, .slice (some ⟨b, off, none⟩) n2 c2] 26 (0, 0)) := (hg8.block _ (Array.getElem?_eq_some_iff.1 HS6.out.bx).1 (fun he => NB0.out (Option.some.inj he))).trans HS6.out.bx; have z8 : w8.cell? ⟨w.heap.size, 2, none⟩ = some (.slice (some ⟨b, off, none⟩) n2 c2) := box_at hx8 2 _ rfl; have zf8 := box_free hx8; have HO8 := Lib.hid hO8; have HG8 := Lib.hid hg8; have HX8 := Lib.hid hx8; clear hO8 hg8 hx8)
        have hown := HS6.out.ow.del i HO8.out HG8.out
        have hbz8 : w8.heap[w.heap.size + 1]? = _ := (HG8.out.block _ (Array.getElem?_eq_some_iff.1 HS6.out.bz).1 (fun he => NB1.out (Option.some.inj he))).trans HS6.out.bz
        have hS9 : IpS w (w8.setCell ⟨w.heap.size, 2, none⟩ (.slice (some ⟨b, off, none⟩) (n2 - 1) c2)) room next (.slice (some ⟨b, off, none⟩) (n2 - 1) c2) _ :=
          ⟨bx_set HX8.out, (Below.heap_setCell _ _ _ _ (by simp)).trans hbz8, OwF.far hown HX8.out (by decide) (by decide) _ _, (HS6.out.bw.grown HG8.out HS6.out.bw.size (fun q hq => by cases hq; exact HLOB.out)).setCell (Nat.le_refl _) _⟩
        have HS9 := Lib.hid hS9
        have hfz9 : fls (cutAt (zs.set i ({ x with ws := cutAt x.ws k }, (⟨some ⟨b2, o2, none⟩, m - 1, d⟩ : Sl))) i) = cutAt (fls ys) i := by
          unfold fls
          rw [cutAt_map]
          have := HFS.out
          unfold fls at this
          rw [this, cutAt_set]
        have HF9 := Lib.hid hfz9
        clear hown hbz8 hS9 z8 zf8 y2 k7 C42 hfz9
        generalize w8.setCell ⟨w.heap.size, 2, none⟩ (.slice (some ⟨b, off, none⟩) (n2 - 1) c2) = W9 at *
        have y0 : W9.cell? ⟨w.heap.size, 0, none⟩ = some (.int .i64 room) := box_at HS9.out.bx 0 _ rfl
        have y1 : W9.cell? ⟨w.heap.size, 1, none⟩ = some (.int .i64 next) := box_at HS9.out.bx 1 _ rfl
        have y2 : W9.cell? ⟨w.heap.size, 2, none⟩ = some (.slice (some ⟨b, off, none⟩) (n2 - 1) c2) := box_at HS9.out.bx 2 _ rfl
        have s0 : W9.cell? ⟨w.heap.size + 1, 0, none⟩ = some (.int .i64 0) := box_at HS9.out.bz 0 _ rfl
        have s1 : W9.cell? ⟨w.heap.size + 1, 1, none⟩ = some (.int .i64 0) := box_at HS9.out.bz 1 _ rfl
        have s2 : W9.cell? ⟨w.heap.size + 1, 2, none⟩ = some (.slice none 0 0) := box_at HS9.out.bz 2 _ rfl
        have sf := box_free HS9.out.bz
        go_wp2_with fail
        have hfin := ret_own (room := room) (next := next) HS9.out.ow HS9.out.bw HS9.out.bz (Nat.le_succ _)
        refine bodyPost_ret (v := .tuple #[fv room next (.slice (some ⟨b, off, none⟩) (n2 - 1) c2), .int .i64 x.id, .bool true, .int .i64 0]) (by simp [results, Try.results20, go_sem, s0, s1, s2]) rfl ?_
        rw [HE2.out]
        exact ⟨_, n2 - 1, c2, _, rfl, HF9.out, hfin.1, hfin.2⟩
      · have HE2 := Lib.hid (HE.out.trans (if_neg (by omega)))
        have hmz : (((m - 1 : Nat) : Int) == 0) = false := by rw [beq_eq_false_iff_ne]; omega
        have y0 : W7.cell? ⟨w.heap.size, 0, none⟩ = some (.int .i64 room) := box_at HS6.out.bx 0 _ rfl
        have y1 : W7.cell? ⟨w.heap.size, 1, none⟩ = some (.int .i64 next) := box_at HS6.out.bx 1 _ rfl
        have y2 : W7.cell? ⟨w.heap.size, 2, none⟩ = some (.slice (some ⟨b, off, none⟩) n2 c2) := box_at HS6.out.bx 2 _ rfl
        have s0 : W7.cell? ⟨w.heap.size + 1, 0, none⟩ = some (.int .i64 0) := box_at HS6.out.bz 0 _ rfl
        have s1 : W7.cell? ⟨w.heap.size + 1, 1, none⟩ = some (.int .i64 0) := box_at HS6.out.bz 1 _ rfl
        have s2 : W7.cell? ⟨w.heap.size + 1, 2, none⟩ = some (.slice none 0 0) := box_at HS6.out.bz 2 _ rfl
        have sf := box_free HS6.out.bz
        go_wp2_with fail
        have hfin := ret_own (room := room) (next := next) HS6.out.ow HS6.out.bw HS6.out.bz (Nat.le_succ _)
        refine bodyPost_ret (v := .tuple #[fv room next (.slice (some ⟨b, off, none⟩) n2 c2), .int .i64 x.id, .bool false, .int .i64 0]) (by simp [results, Try.results20, go_sem, s0, s1, s2]) rfl ?_
        rw [HE2.out]
        exact ⟨_, n2, c2, _, rfl, HFS.out, hfin.1, hfin.2⟩
end Go.Proofs.Ytipjhokhflokmaa
