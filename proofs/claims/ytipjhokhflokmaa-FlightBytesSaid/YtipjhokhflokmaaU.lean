/- lockageref18.End. -/
import Derived.Test.YtipjhokhflokmaaT
set_option linter.unusedVariables false
set_option linter.unusedSimpArgs false
namespace Go.Proofs.Ytipjhokhflokmaa
open Go.RowKit Go.Maps
open Go.Proofs.YtipjhokhflokmaaW.PrintWords

/-- behind 'a := own(f)' -/
structure RfS (w W : World) (t6 : Nat) (room next : Int) (V0 V : Value) (zs : List FV) : Prop where
  bx : W.heap[w.heap.size]? = some (.cells #[.int .i64 room, .int .i64 next, V0] 26 (0, 0))
  bz : W.heap[w.heap.size + 1]? = some (.cells #[.int .i64 0, .int .i64 0, .slice none 0 0] 26 (0, 0))
  tp : W.heap[t6]? = some (.cells #[.int .i64 room, .int .i64 next, V] 26 (0, 0))
  ow : OwF W w.heap.size V zs
  bw : Below w.heap.size w W
  t6 : w.heap.size + 1 < t6
theorem RfS.below {w W W1 : World} {t6 : Nat} {room next : Int} {V0 V : Value} {zs : List FV} (h : RfS w W t6 room next V0 V zs) (hb : Below W.heap.size W W1) : RfS w W1 t6 room next V0 V zs :=
  ⟨keep hb h.bx, keep hb h.bz, keep hb h.tp, h.ow.below hb, h.bw.trans (hb.mono h.bw.size), h.t6⟩
theorem rf_setup {w U w2 : World} {room next : Int} {V V0 : Value} {zs : List FV} (hal : Below w.heap.size w U) (x1 : U.heap[w.heap.size]? = some (.cells #[.int .i64 room, .int .i64 next, V0] 26 (0, 0))) (x2 : U.heap[w.heap.size + 1]? = some (.cells #[.int .i64 0, .int .i64 0, .slice none 0 0] 26 (0, 0)))
    (hO : OwF w2 U.heap.size V zs) (hb : Below U.heap.size U w2) :
    RfS w (w2.alloc (.cells #[.int .i64 room, .int .i64 next, V] 26)) w2.heap.size room next V0 V zs := by
  have hb2 : Below U.heap.size U (w2.alloc (.cells #[.int .i64 room, .int .i64 next, V] 26)) := hb.alloc hb.size _
  have h2 := (Array.getElem?_eq_some_iff.1 x2).1
  have hs := hb.size
  exact ⟨keep hb2 x1, keep hb2 x2, heap_alloc_new w2 _, (hO.below ((Below.refl _ _).alloc (Nat.le_refl _) _)).lower hal.size, hal.trans (hb2.mono hal.size), by omega⟩
/-- a store into a flight's own memory -/
theorem RfS.put {w W W1 : World} {t6 b off n c : Nat} {room next : Int} {V0 : Value} {zs zs' : List FV} (h : RfS w W t6 room next V0 (.slice (some ⟨b, off, none⟩) n c) zs) {j : Nat} {v : Value} (hW : W1 = W.setCell ⟨b, j, none⟩ v) (ho : OwF W1 w.heap.size (.slice (some ⟨b, off, none⟩) n c) zs') : RfS w W1 t6 room next V0 (.slice (some ⟨b, off, none⟩) n c) zs' := by
  subst hW
  obtain ⟨cb, hcb⟩ := h.ow.o.typed b rfl
  have nb : ∀ {k : Nat} {cs : Array Value}, W.heap[k]? = some (.cells cs 26 (0, 0)) → (W.setCell ⟨b, j, none⟩ v).heap[k]? = some (.cells cs 26 (0, 0)) := fun hk => by
    rw [Below.heap_setCell _ _ _ _ (blocks_ne (show (26 : TypeId) ≠ 45 by decide) hk hcb)]
    exact hk
  exact ⟨nb h.bx, nb h.bz, nb h.tp, ho, h.bw.setCell (h.ow.o.lo b rfl) _, h.t6⟩

set_option maxRecDepth 100000 in
set_option maxHeartbeats 8000000 in
theorem rend_any (w : World) (room next : Int) (A : Option Addr) (n c : Nat) (ys : List FV) (id : Int) (hr : RdF w (.slice A n c) ys) (hs : SmF (fls ys)) :
    Calls Try.prog 33 #[fv room next (.slice A n c), .int .i64 id] w (OpPost w room next (endOp room next (fls ys) id).1 [.int .i64 (endOp room next (fls ys) id).2]) := by
  have hl : ys.length = n := hr.len
  have hn : n ≤ 1000 := by have := hs.n; rw [← hl]; simpa [fls] using this
  have hal1 : Below w.heap.size w (w.alloc (.cells #[.int .i64 room, .int .i64 next, .slice A n c] 26)) := (Below.refl _ _).alloc (Nat.le_refl _) _
  have hal2 : Below w.heap.size w ((w.alloc (.cells #[.int .i64 room, .int .i64 next, .slice A n c] 26)).alloc (.cells #[.int .i64 0, .int .i64 0, .slice none 0 0] 26)) := hal1.alloc (by simp) _
  have x1 : ((w.alloc (.cells #[.int .i64 room, .int .i64 next, .slice A n c] 26)).alloc (.cells #[.int .i64 0, .int .i64 0, .slice none 0 0] 26)).heap[w.heap.size]? = some (.cells #[.int .i64 room, .int .i64 next, .slice A n c] 26 (0, 0)) := keep ((Below.refl _ _).alloc (Nat.le_refl _) _) (heap_alloc_new w _)
  have x2 : ((w.alloc (.cells #[.int .i64 room, .int .i64 next, .slice A n c] 26)).alloc (.cells #[.int .i64 0, .int .i64 0, .slice none 0 0] 26)).heap[w.heap.size + 1]? = some (.cells #[.int .i64 0, .int .i64 0, .slice none 0 0] 26 (0, 0)) := by
    have := heap_alloc_new (w.alloc (.cells #[.int .i64 room, .int .i64 next, .slice A n c] 26)) (.cells #[.int .i64 0, .int .i64 0, .slice none 0 0] 26)
    rwa [show (w.alloc (.cells #[.int .i64 room, .int .i64 next, .slice A n c] 26)).heap.size = w.heap.size + 1 by simp] at this
  have HR0 := Lib.hid hr
  have HR := Lib.hid (hr.below hal2)
  have HS := Lib.hid hs
  clear hal1 hr hs
  go_enter Try.func33, Try.ntmps33
  go_upto_region 1 with fail
  generalize (w.alloc (.cells #[.int .i64 room, .int .i64 next, .slice A n c] 26)).alloc (.cells #[.int .i64 0, .int .i64 0, .slice none 0 0] 26) = U at *
  have HX1 := Lib.hid x1
  have HX2 := Lib.hid x2
  have HAL := Lib.hid hal2
  clear x1 x2 hal2
  have z0 : U.cell? ⟨w.heap.size, 0, none⟩ = some (.int .i64 room) := box_at HX1.out 0 _ rfl
  have z1 : U.cell? ⟨w.heap.size, 1, none⟩ = some (.int .i64 next) := box_at HX1.out 1 _ rfl
  have z2 : U.cell? ⟨w.heap.size, 2, none⟩ = some (.slice A n c) := box_at HX1.out 2 _ rfl
  have c37 := Lib.hid (rown_any U room next A n c ys HR.out hn HS.out.w')
  go_upto_region 2 with (go_at_call 37; refine c37.out.mono ?_; rintro e w2 ⟨A2, n2, c2, zs, rfl, hfz, hO2, hb2⟩)
  have hS := rf_setup HAL.out HX1.out HX2.out hO2 hb2
  clear z0 z1 z2 hO2 hb2 HX1 HX2 HAL HR c37
  generalize w2.alloc (.cells #[.int .i64 room, .int .i64 next, .slice A2 n2 c2] 26) = W3 at *
  generalize w2.heap.size = t6 at *
  have HSS := Lib.hid hS
  have HFZ := Lib.hid hfz
  clear hS hfz
  have y0 : W3.cell? ⟨w.heap.size, 0, none⟩ = some (.int .i64 room) := box_at HSS.out.bx 0 _ rfl
  have y1 : W3.cell? ⟨w.heap.size, 1, none⟩ = some (.int .i64 next) := box_at HSS.out.bx 1 _ rfl
  have y2 : W3.cell? ⟨w.heap.size, 2, none⟩ = some (.slice A n c) := box_at HSS.out.bx 2 _ rfl
  have C36 := Lib.hid (rright_any W3 room next A n c ys (HR0.out.below HSS.out.bw) hn)
  cases hq : rightS room next (fls ys) with
  | false =>
    have HE := Lib.hid (endOp1 hq id)
    have HQ := Lib.hid hq; clear hq
    go_upto_region 3 with (go_at_call 36; refine C36.out.mono ?_; rw [HQ.out]; rintro e w4 ⟨rfl, hb4⟩; have HS4 := Lib.hid (HSS.out.below hb4); clear hb4)
    clear y0 y1 y2 C36
    have y0 : w4.cell? ⟨t6, 0, none⟩ = some (.int .i64 room) := box_at HS4.out.tp 0 _ rfl
    have y1 : w4.cell? ⟨t6, 1, none⟩ = some (.int .i64 next) := box_at HS4.out.tp 1 _ rfl
    have y2 : w4.cell? ⟨t6, 2, none⟩ = some (.slice A2 n2 c2) := box_at HS4.out.tp 2 _ rfl
    have s0 : w4.cell? ⟨w.heap.size + 1, 0, none⟩ = some (.int .i64 0) := box_at HS4.out.bz 0 _ rfl
    have s1 : w4.cell? ⟨w.heap.size + 1, 1, none⟩ = some (.int .i64 0) := box_at HS4.out.bz 1 _ rfl
    have s2 : w4.cell? ⟨w.heap.size + 1, 2, none⟩ = some (.slice none 0 0) := box_at HS4.out.bz 2 _ rfl
    have sf := box_free HS4.out.bz
    go_wp2_with fail
    have hfin := ret_own (room := room) (next := next) HS4.out.ow HS4.out.bw HS4.out.bz (Nat.le_succ _)
    refine bodyPost_ret (v := .tuple #[fv room next (.slice A2 n2 c2), .int .i64 1]) (by simp [results, Try.results33, go_sem, s0, s1, s2]) rfl ?_
    rw [HE.out]
    exact ⟨A2, n2, c2, zs, rfl, HFZ.out, hfin.1, hfin.2⟩
  | true =>
    have HQ := Lib.hid hq
    have C52 := Lib.hid (fun W (hb : Below w.heap.size w W) => rfind_any W room next A n c ys id (HR0.out.below hb) (by omega))
    go_upto_region 4 with (go_at_call 36; refine C36.out.mono ?_; rw [HQ.out]; rintro e w4 ⟨rfl, hb4⟩; have HS4 := Lib.hid (HSS.out.below hb4); clear hb4)
    clear y0 y1 y2 C36
    have y0 : w4.cell? ⟨w.heap.size, 0, none⟩ = some (.int .i64 room) := box_at HS4.out.bx 0 _ rfl
    have y1 : w4.cell? ⟨w.heap.size, 1, none⟩ = some (.int .i64 next) := box_at HS4.out.bx 1 _ rfl
    have y2 : w4.cell? ⟨w.heap.size, 2, none⟩ = some (.slice A n c) := box_at HS4.out.bx 2 _ rfl
    by_cases hf : findF (fls ys) id < 0
    · have HE := Lib.hid (endOp5 hq hf)
      have hf' : findG (fun x => x.id == id) (fls ys) < 0 := hf
      clear hq
      go_upto_region 6 with (go_at_call 52; refine (C52.out w4 HS4.out.bw).mono ?_; rintro e w5 ⟨rfl, hb5⟩; have HS5 := Lib.hid (HS4.out.below hb5); clear hb5)
      clear y0 y1 y2 C52
      have y0 : w5.cell? ⟨t6, 0, none⟩ = some (.int .i64 room) := box_at HS5.out.tp 0 _ rfl
      have y1 : w5.cell? ⟨t6, 1, none⟩ = some (.int .i64 next) := box_at HS5.out.tp 1 _ rfl
      have y2 : w5.cell? ⟨t6, 2, none⟩ = some (.slice A2 n2 c2) := box_at HS5.out.tp 2 _ rfl
      have s0 : w5.cell? ⟨w.heap.size + 1, 0, none⟩ = some (.int .i64 0) := box_at HS5.out.bz 0 _ rfl
      have s1 : w5.cell? ⟨w.heap.size + 1, 1, none⟩ = some (.int .i64 0) := box_at HS5.out.bz 1 _ rfl
      have s2 : w5.cell? ⟨w.heap.size + 1, 2, none⟩ = some (.slice none 0 0) := box_at HS5.out.bz 2 _ rfl
      have sf := box_free HS5.out.bz
      go_wp2_with fail
      have hfin := ret_own (room := room) (next := next) HS5.out.ow HS5.out.bw HS5.out.bz (Nat.le_succ _)
      refine bodyPost_ret (v := .tuple #[fv room next (.slice A2 n2 c2), .int .i64 5]) (by simp [results, Try.results33, go_sem, s0, s1, s2]) rfl ?_
      rw [HE.out]
      exact ⟨A2, n2, c2, zs, rfl, HFZ.out, hfin.1, hfin.2⟩
    · obtain ⟨k, x, hk, hx, hp⟩ := findG_at hf
      have HE := Lib.hid (endOp0 hq hk hx)
      obtain ⟨S, hzk⟩ := fls_get HFZ.out hx
      obtain ⟨b, off, hA2, _, _⟩ := HS4.out.ow.at_ hzk
      subst hA2
      have hzl : zs.length = n2 := HS4.out.ow.rd.len
      have hkn : k < n2 := by have := (List.getElem?_eq_some_iff.1 hzk).1; omega
      have HZK := Lib.hid hzk
      have hk0 : ¬ (k : Int) < 0 := by omega
      have hk1 : (k : Int) < (n2 : Int) := by omega
      have hk' : findG (fun x => x.id == id) (fls ys) = (k : Int) := hk
      have HK' := Lib.hid hk'
      clear hf hx hp hzk hq hk hk'
      go_upto_region 7 with (go_at_call 52; refine (C52.out w4 HS4.out.bw).mono ?_; rw [HK'.out]; rintro e w5 ⟨rfl, hb5⟩; have HS5 := Lib.hid (HS4.out.below hb5); clear hb5)
      clear y0 y1 y2 C52
      have t2 : w5.cell? ⟨t6, 2, none⟩ = some (.slice (some ⟨b, off, none⟩) n2 c2) := box_at HS5.out.tp 2 _ rfl
      have hc6 := HS5.out.ow.cell HZK.out (j := 6) (v := .bool x.done) rfl
      have hf6 := hc6.2
      replace hc6 := hc6.1
      go_upto_region 8 with fail
      have hput := HS5.out.ow.put1 (x' := { x with done := true }) HZK.out 6 (by decide) (v := .bool true) rfl rfl
      have HS6 := Lib.hid (HS5.out.put rfl hput)
      have HFS := Lib.hid (fls_set HFZ.out k { x with done := true } S)
      clear hput t2 hc6 hf6
      generalize w5.setCell ⟨b, off + k * 8 + 6, none⟩ (.bool true) = W6 at *
      have y0 : W6.cell? ⟨t6, 0, none⟩ = some (.int .i64 room) := box_at HS6.out.tp 0 _ rfl
      have y1 : W6.cell? ⟨t6, 1, none⟩ = some (.int .i64 next) := box_at HS6.out.tp 1 _ rfl
      have y2 : W6.cell? ⟨t6, 2, none⟩ = some (.slice (some ⟨b, off, none⟩) n2 c2) := box_at HS6.out.tp 2 _ rfl
      have s0 : W6.cell? ⟨w.heap.size + 1, 0, none⟩ = some (.int .i64 0) := box_at HS6.out.bz 0 _ rfl
      have s1 : W6.cell? ⟨w.heap.size + 1, 1, none⟩ = some (.int .i64 0) := box_at HS6.out.bz 1 _ rfl
      have s2 : W6.cell? ⟨w.heap.size + 1, 2, none⟩ = some (.slice none 0 0) := box_at HS6.out.bz 2 _ rfl
      have sf := box_free HS6.out.bz
      go_wp2_with fail
      have hfin := ret_own (room := room) (next := next) HS6.out.ow HS6.out.bw HS6.out.bz (Nat.le_succ _)
      refine bodyPost_ret (v := .tuple #[fv room next (.slice (some ⟨b, off, none⟩) n2 c2), .int .i64 0]) (by simp [results, Try.results33, go_sem, s0, s1, s2]) rfl ?_
      rw [HE.out]
      exact ⟨_, n2, c2, _, rfl, HFS.out, hfin.1, hfin.2⟩
end Go.Proofs.Ytipjhokhflokmaa
