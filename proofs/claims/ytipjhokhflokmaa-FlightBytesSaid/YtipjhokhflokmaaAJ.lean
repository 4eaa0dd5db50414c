/- lockageref18.Feed (printed by mkAJ.py). -/
import Derived.Test.YtipjhokhflokmaaAI
set_option linter.unusedVariables false
set_option linter.unusedSimpArgs false
namespace Go.Proofs.Ytipjhokhflokmaa
open Go.RowKit Go.Maps
open Go.Proofs.YtipjhokhflokmaaW.PrintWords

theorem cell_dr {w : World} {p : Addr} {v : Value} (h : w.cell? p = some v) : w.drew.cell? p = some v := pw_cell_below (below_drew (Below.refl w.heap.size w)) h
theorem ext_one {l : List UInt8} {i : Nat} {c : UInt8} (h : l[i]? = some c) : (⟨l.toArray⟩ : ByteArray).extract i (i + 1) = ⟨[c].toArray⟩ := by
  apply ByteArray.ext
  rw [ByteArray.data_extract]
  apply Array.ext'
  rw [Array.toList_extract]
  obtain ⟨hi, rfl⟩ := List.getElem?_eq_some_iff.1 h
  rw [List.extract_eq_take_drop, show i + 1 - i = 1 by omega, List.drop_eq_getElem_cons hi]
  rfl
theorem cat_bytes (a b : List UInt8) : (⟨a.toArray⟩ : ByteArray) ++ (⟨b.toArray⟩ : ByteArray) = ⟨(a ++ b).toArray⟩ := by
  apply ByteArray.ext
  simp [ByteArray.append, ByteArray.data_append]

set_option maxRecDepth 100000 in
set_option maxHeartbeats 8000000 in
theorem rfeed_any (w : World) (room next : Int) (A : Option Addr) (n c : Nat) (ys : List FV) (id : Int) (s : List UInt8) (hr : RdF w (.slice A n c) ys) (hs : SmF (fls ys)) (hsl : s.length ≤ 1000) :
    Calls Try.prog 31 #[fv room next (.slice A n c), .int .i64 id, str s] w (FeedPost w room next (feedOp room next (fls ys) id s)) := by
  have hl : ys.length = n := hr.len
  have hn : n ≤ 1000 := by have := hs.n; rw [← hl]; simpa [fls] using this
  have hal1 : Below w.heap.size w (w.alloc (.cells #[.int .i64 room, .int .i64 next, .slice A n c] 26)) := (Below.refl _ _).alloc (Nat.le_refl _) _
  have hal2 : Below w.heap.size w ((w.alloc (.cells #[.int .i64 room, .int .i64 next, .slice A n c] 26)).alloc (.cells #[.int .i64 0, .int .i64 0, .slice none 0 0] 26)) := hal1.alloc (by simp) _
  have x1 : ((w.alloc (.cells #[.int .i64 room, .int .i64 next, .slice A n c] 26)).alloc (.cells #[.int .i64 0, .int .i64 0, .slice none 0 0] 26)).heap[w.heap.size]? = some (.cells #[.int .i64 room, .int .i64 next, .slice A n c] 26 (0, 0)) := keep ((Below.refl _ _).alloc (Nat.le_refl _) _) (heap_alloc_new w _)
  have x2 : ((w.alloc (.cells #[.int .i64 room, .int .i64 next, .slice A n c] 26)).alloc (.cells #[.int .i64 0, .int .i64 0, .slice none 0 0] 26)).heap[w.heap.size + 1]? = some (.cells #[.int .i64 0, .int .i64 0, .slice none 0 0] 26 (0, 0)) := by
    have := heap_alloc_new (w.alloc (.cells #[.int .i64 room, .int .i64 next, .slice A n c] 26)) (.cells #[.int .i64 0, .int .i64 0, .slice none 0 0] 26)
    rwa [show (w.alloc (.cells #[.int .i64 room, .int .i64 next, .slice A n c] 26)).heap.size = w.heap.size + 1 by simp] at this
  have HR0 := Lib.hid hr
  have HR := Lib.hid (hr.below hal2)
  have HS := Lib.hid hs
  clear hal1 hr hs
  go_enter Try.func31, Try.ntmps31
  go_upto_region 1 with fail
  generalize (w.alloc (.cells #[.int .i64 room, .int .i64 next, .slice A n c] 26)).alloc (.cells #[.int .i64 0, .int .i64 0, .slice none 0 0] 26) = U at *
  have HX1 := Lib.hid x1
  have HX2 := Lib.hid x2
  have HAL := Lib.hid hal2
  clear x1 x2 hal2
  have z0 : U.cell? ⟨w.heap.size, 0, none⟩ = some (.int .i64 room) := box_at HX1.out 0 _ rfl
  have z1 : U.cell? ⟨w.heap.size, 1, none⟩ = some (.int .i64 next) := box_at HX1.out 1 _ rfl
  have z2 : U.cell? ⟨w.heap.size, 2, none⟩ = some (.slice A n c) := box_at HX1.out 2 _ rfl
  have c37 := Lib.hid (rown_any U room next A n c ys HR.out hn HS.out.w')
  go_upto_region 2 with (go_at_call 37; refine c37.out.mono ?_; rintro e w2 ⟨A2, n2, c2, zs, rfl, hfz, hO2, hb2⟩)
  have hS := rf_setup HAL.out HX1.out HX2.out hO2 hb2
  clear z0 z1 z2 hO2 hb2 HX1 HX2 HAL HR c37
  generalize w2.alloc (.cells #[.int .i64 room, .int .i64 next, .slice A2 n2 c2] 26) = W3 at *
  generalize w2.heap.size = t6 at *
  have HSS := Lib.hid hS
  have HFZ := Lib.hid hfz
  clear hS hfz
  have y0 : W3.cell? ⟨w.heap.size, 0, none⟩ = some (.int .i64 room) := box_at HSS.out.bx 0 _ rfl
  have y1 : W3.cell? ⟨w.heap.size, 1, none⟩ = some (.int .i64 next) := box_at HSS.out.bx 1 _ rfl
  have y2 : W3.cell? ⟨w.heap.size, 2, none⟩ = some (.slice A n c) := box_at HSS.out.bx 2 _ rfl
  have C36 := Lib.hid (rright_any W3 room next A n c ys (HR0.out.below HSS.out.bw) hn)
  cases hq : rightS room next (fls ys) with
  | false =>
    have HE := Lib.hid (feedOp1 hq id s)
    have HQ := Lib.hid hq; clear hq
    go_upto_region 3 with (go_at_call 36; refine C36.out.mono ?_; rw [HQ.out]; rintro e w4 ⟨rfl, hb4⟩; have HS4 := Lib.hid (HSS.out.below hb4); clear hb4)
    clear y0 y1 y2 C36
    have y0 : w4.cell? ⟨t6, 0, none⟩ = some (.int .i64 room) := box_at HS4.out.tp 0 _ rfl
    have y1 : w4.cell? ⟨t6, 1, none⟩ = some (.int .i64 next) := box_at HS4.out.tp 1 _ rfl
    have y2 : w4.cell? ⟨t6, 2, none⟩ = some (.slice A2 n2 c2) := box_at HS4.out.tp 2 _ rfl
    have s0 : w4.cell? ⟨w.heap.size + 1, 0, none⟩ = some (.int .i64 0) := box_at HS4.out.bz 0 _ rfl
    have s1 : w4.cell? ⟨w.heap.size + 1, 1, none⟩ = some (.int .i64 0) := box_at HS4.out.bz 1 _ rfl
    have s2 : w4.cell? ⟨w.heap.size + 1, 2, none⟩ = some (.slice none 0 0) := box_at HS4.out.bz 2 _ rfl
    have sf := box_free HS4.out.bz
    go_wp2_with fail
    have hfin := ret_own (room := room) (next := next) HS4.out.ow HS4.out.bw HS4.out.bz (Nat.le_succ _)
    refine bodyPost_ret (v := .tuple #[fv room next (.slice A2 n2 c2), .int .i64 0, .slice none 0 0, .int .i64 1]) (by simp [results, Try.results31, go_sem, s0, s1, s2]) rfl ?_
    rw [HE.out]
    exact ⟨A2, n2, c2, zs, none, 0, 0, rfl, HFZ.out, hfin.1, OwE.nil iencL _ _ _, hfin.2⟩
  | true =>
    have HQ := Lib.hid hq
    have C52 := Lib.hid (fun W (hb : Below w.heap.size w W) => rfind_any W room next A n c ys id (HR0.out.below hb) (by omega))
    go_upto_region 4 with (go_at_call 36; refine C36.out.mono ?_; rw [HQ.out]; rintro e w4 ⟨rfl, hb4⟩; have HS4 := Lib.hid (HSS.out.below hb4); clear hb4)
    clear y0 y1 y2 C36
    have y0 : w4.cell? ⟨w.heap.size, 0, none⟩ = some (.int .i64 room) := box_at HS4.out.bx 0 _ rfl
    have y1 : w4.cell? ⟨w.heap.size, 1, none⟩ = some (.int .i64 next) := box_at HS4.out.bx 1 _ rfl
    have y2 : w4.cell? ⟨w.heap.size, 2, none⟩ = some (.slice A n c) := box_at HS4.out.bx 2 _ rfl
    by_cases hf : findF (fls ys) id < 0
    · have HE := Lib.hid (feedOp5 hq hf s)
      have hf' : findG (fun x => x.id == id) (fls ys) < 0 := hf
      clear hq
      go_upto_region 6 with (go_at_call 52; refine (C52.out w4 HS4.out.bw).mono ?_; rintro e w5 ⟨rfl, hb5⟩; have HS5 := Lib.hid (HS4.out.below hb5); clear hb5)
      clear y0 y1 y2 C52
      have y0 : w5.cell? ⟨t6, 0, none⟩ = some (.int .i64 room) := box_at HS5.out.tp 0 _ rfl
      have y1 : w5.cell? ⟨t6, 1, none⟩ = some (.int .i64 next) := box_at HS5.out.tp 1 _ rfl
      have y2 : w5.cell? ⟨t6, 2, none⟩ = some (.slice A2 n2 c2) := box_at HS5.out.tp 2 _ rfl
      have s0 : w5.cell? ⟨w.heap.size + 1, 0, none⟩ = some (.int .i64 0) := box_at HS5.out.bz 0 _ rfl
      have s1 : w5.cell? ⟨w.heap.size + 1, 1, none⟩ = some (.int .i64 0) := box_at HS5.out.bz 1 _ rfl
      have s2 : w5.cell? ⟨w.heap.size + 1, 2, none⟩ = some (.slice none 0 0) := box_at HS5.out.bz 2 _ rfl
      have sf := box_free HS5.out.bz
      go_wp2_with fail
      have hfin := ret_own (room := room) (next := next) HS5.out.ow HS5.out.bw HS5.out.bz (Nat.le_succ _)
      refine bodyPost_ret (v := .tuple #[fv room next (.slice A2 n2 c2), .int .i64 0, .slice none 0 0, .int .i64 5]) (by simp [results, Try.results31, go_sem, s0, s1, s2]) rfl ?_
      rw [HE.out]
      exact ⟨A2, n2, c2, zs, none, 0, 0, rfl, HFZ.out, hfin.1, OwE.nil iencL _ _ _, hfin.2⟩
    · obtain ⟨k, x, hk, hx, hp⟩ := findG_at hf
      have HFE := Lib.hid (fun (hd : x.done = true ∨ 9007199254740992 - (s.length : Int) < endS x) => feedOpE hq hk hx hd)
      have HF0 := Lib.hid (fun (hd : ¬ (x.done = true ∨ 9007199254740992 - (s.length : Int) < endS x)) (e : FS) (g : Goes room s ⟨x, 0, []⟩ e) (he : stepF room s e = none) => feedOp0 hq hk hx hd g he)
      have hrx := right_x hq hx
      have HFI := Lib.hid (fun (he : ¬ 9007199254740992 - (s.length : Int) < endS x) => FI.start (right_n hq) hrx he)
      have hok := right_ok hq hrx
      have hxw : x.ws.length ≤ 1000 := HS.out.w x (List.mem_of_getElem? hx)
      have hk' : findG (fun x => x.id == id) (fls ys) = (k : Int) := hk
      have HK' := Lib.hid hk'
      have hk0 : ¬ (k : Int) < 0 := by omega
      have HX := Lib.hid hx
      clear hf hp hq hk hk' hrx hx
      go_upto_region 5 with (go_at_call 52; refine (C52.out w4 HS4.out.bw).mono ?_; rw [HK'.out]; rintro e w5 ⟨rfl, hb5⟩; have HS5 := Lib.hid (HS4.out.below hb5); clear hb5)
      clear y0 y1 y2 C52 HS4 HSS
      obtain ⟨S, hzk⟩ := fls_get HFZ.out HX.out
      obtain ⟨b, off, hA2, hlob, hF⟩ := HS5.out.ow.at_ hzk
      subst hA2
      obtain ⟨B, m, d⟩ := S
      obtain ⟨fk, fs, fi, fb, fd, ft, fo, ws⟩ := x
      obtain ⟨q0, q1, q2⟩ := hok
      simp only at q0 q1 q2 hxw
      have hzl0 : zs.length = n2 := HS5.out.ow.rd.len
      have hkn : k < n2 := by have := (List.getElem?_eq_some_iff.1 hzk).1; omega
      have hn2 : n2 ≤ 1000 := by have := HS.out.n; have h2 := fls_len HFZ.out; omega
      have hwl : ws.length = m := hF.r.len
      have hk1 : (k : Int) < (n2 : Int) := by omega
      have HLOB := Lib.hid hlob
      have HZK := Lib.hid hzk
      have HF5 := Lib.hid hF
      have y2 : w5.cell? ⟨t6, 2, none⟩ = some (.slice (some ⟨b, off, none⟩) n2 c2) := box_at HS5.out.tp 2 _ rfl
      have k0 : w5.cell? ⟨b, off + k * 8, none⟩ = some (str fk) := hF.c0
      have k1 : w5.cell? ⟨b, off + k * 8 + 1, none⟩ = some (.bool fs) := hF.c1
      have k2 : w5.cell? ⟨b, off + k * 8 + 2, none⟩ = some (.int .i64 fi) := hF.c2
      have k3 : w5.cell? ⟨b, off + k * 8 + 3, none⟩ = some (.int .i64 fb) := hF.c3
      have k4 : w5.cell? ⟨b, off + k * 8 + 4, none⟩ = some (str fd) := hF.c4
      have k5 : w5.cell? ⟨b, off + k * 8 + 5, none⟩ = some (.int .i64 ft) := hF.c5
      have k6 : w5.cell? ⟨b, off + k * 8 + 6, none⟩ = some (.bool fo) := hF.c6
      have k7 : w5.cell? ⟨b, off + k * 8 + 7, none⟩ = some (.slice B m d) := hF.c7
      clear hzk hF hlob
      have hal : Below w5.heap.size w5 (w5.alloc (.cells #[str fk, .bool fs, .int .i64 fi, .int .i64 fb, str fd, .int .i64 ft, .bool fo, .slice B m d] 45)) := (Below.refl _ _).alloc (Nat.le_refl _) _
      have hx6 := heap_alloc_new w5 (.cells #[str fk, .bool fs, .int .i64 fi, .int .i64 fb, str fd, .int .i64 ft, .bool fo, .slice B m d] 45)
      have HAL := Lib.hid hal
      have HX6 := Lib.hid hx6
      clear hal hx6
      go_upto_region 7 with fail
      go_upto_region 8 with fail
      clear k0 k1 k2 k3 k4 k5 k6 k7 y2
      generalize w5.alloc (.cells #[str fk, .bool fs, .int .i64 fi, .int .i64 fb, str fd, .int .i64 ft, .bool fo, .slice B m d] 45) = U6 at *
      have HS6 := Lib.hid (HS5.out.below HAL.out)
      have hsl1 : (s.length : Int) ≤ 1000 := by omega
      have hend : endS ⟨fk, fs, fi, fb, fd, ft, fo, ws⟩ = fb + fd.length := rfl
      rw [hend] at HFE HF0 HFI
      clear hend
      have c3 : U6.cell? ⟨w5.heap.size, 3, none⟩ = some (.int .i64 fb) := box_at HX6.out 3 _ rfl
      have c4 : U6.cell? ⟨w5.heap.size, 4, none⟩ = some (str fd) := box_at HX6.out 4 _ rfl
      have c6 : U6.cell? ⟨w5.heap.size, 6, none⟩ = some (.bool fo) := box_at HX6.out 6 _ rfl
      have fin : ∀ (hE : feedOp room next (fls ys) id s = (fls ys, 0, [], 1)), True := fun _ => trivial
      cases fo with
      | true =>
        have HE := Lib.hid (HFE.out (.inl rfl))
        clear HFE HF0 HFI fin
        go_upto_region 9 with fail
        clear c3 c4 c6
        have y0 : U6.cell? ⟨t6, 0, none⟩ = some (.int .i64 room) := box_at HS6.out.tp 0 _ rfl
        have y1 : U6.cell? ⟨t6, 1, none⟩ = some (.int .i64 next) := box_at HS6.out.tp 1 _ rfl
        have y2 : U6.cell? ⟨t6, 2, none⟩ = some (.slice (some ⟨b, off, none⟩) n2 c2) := box_at HS6.out.tp 2 _ rfl
        have s0 : U6.cell? ⟨w.heap.size + 1, 0, none⟩ = some (.int .i64 0) := box_at HS6.out.bz 0 _ rfl
        have s1 : U6.cell? ⟨w.heap.size + 1, 1, none⟩ = some (.int .i64 0) := box_at HS6.out.bz 1 _ rfl
        have s2 : U6.cell? ⟨w.heap.size + 1, 2, none⟩ = some (.slice none 0 0) := box_at HS6.out.bz 2 _ rfl
        have sf := box_free HS6.out.bz
        go_wp2_with fail
        have hfin := ret_own (room := room) (next := next) HS6.out.ow HS6.out.bw HS6.out.bz (Nat.le_succ _)
        refine bodyPost_ret (v := .tuple #[fv room next (.slice (some ⟨b, off, none⟩) n2 c2), .int .i64 0, .slice none 0 0, .int .i64 1]) (by simp [results, Try.results31, go_sem, s0, s1, s2]) rfl ?_
        rw [HE.out]
        exact ⟨some ⟨b, off, none⟩, n2, c2, zs, none, 0, 0, rfl, HFZ.out, hfin.1, OwE.nil iencL _ _ _, hfin.2⟩
      | false =>
        by_cases hb : 9007199254740992 - (s.length : Int) < fb + fd.length
        · have HE := Lib.hid (HFE.out (.inr hb))
          have hb1 : 9007199254740992 - (fd.length : Int) - (s.length : Int) < fb := by omega
          clear HFE HF0 HFI fin hb
          go_upto_region 9 with fail
          clear c3 c4 c6
          have y0 : U6.cell? ⟨t6, 0, none⟩ = some (.int .i64 room) := box_at HS6.out.tp 0 _ rfl
          have y1 : U6.cell? ⟨t6, 1, none⟩ = some (.int .i64 next) := box_at HS6.out.tp 1 _ rfl
          have y2 : U6.cell? ⟨t6, 2, none⟩ = some (.slice (some ⟨b, off, none⟩) n2 c2) := box_at HS6.out.tp 2 _ rfl
          have s0 : U6.cell? ⟨w.heap.size + 1, 0, none⟩ = some (.int .i64 0) := box_at HS6.out.bz 0 _ rfl
          have s1 : U6.cell? ⟨w.heap.size + 1, 1, none⟩ = some (.int .i64 0) := box_at HS6.out.bz 1 _ rfl
          have s2 : U6.cell? ⟨w.heap.size + 1, 2, none⟩ = some (.slice none 0 0) := box_at HS6.out.bz 2 _ rfl
          have sf := box_free HS6.out.bz
          go_wp2_with fail
          have hfin := ret_own (room := room) (next := next) HS6.out.ow HS6.out.bw HS6.out.bz (Nat.le_succ _)
          refine bodyPost_ret (v := .tuple #[fv room next (.slice (some ⟨b, off, none⟩) n2 c2), .int .i64 0, .slice none 0 0, .int .i64 1]) (by simp [results, Try.results31, go_sem, s0, s1, s2]) rfl ?_
          rw [HE.out]
          exact ⟨some ⟨b, off, none⟩, n2, c2, zs, none, 0, 0, rfl, HFZ.out, hfin.1, OwE.nil iencL _ _ _, hfin.2⟩
        · have HI0 := Lib.hid (HFI.out (by omega))
          have hb1 : ¬ 9007199254740992 - (fd.length : Int) - (s.length : Int) < fb := by omega
          have HF1 := Lib.hid (HF0.out (by rintro (h | h); cases h; omega))
          clear HFE HF0 HFI fin hb
          go_upto_region 10 with fail
          clear c3 c4 c6
          go_wp2_with fail
          have hst : FdI w w5 U6 ⟨B, m, d⟩ ⟨B, m, d⟩ ⟨fk, fs, fi, fb, fd, ft, false, ws⟩ (.slice none 0 0) [] := ⟨HAL.out, HX6.out, (HS6.out.ow.r k _ HZK.out), .inl rfl, OwE.nil iencL _ _ _⟩
          have HST := Lib.hid hst
          clear hst
          go_loopg [13, 14] (measF room s ⟨⟨fk, fs, fi, fb, fd, ft, false, ws⟩, 0, []⟩) (fun gg s13 s14 wr => ∃ (t : FS) (S : Sl) (L : Option Addr) (l dl : Nat), s13 = .slice L l dl ∧ s14 = .int .i64 (t.n : Int) ∧ Aside (Goes room s ⟨⟨fk, fs, fi, fb, fd, ft, false, ws⟩, 0, []⟩ t ∧ FI room s t ∧ measF room s t ≤ gg ∧ FdI w w5 wr ⟨B, m, d⟩ S t.x (.slice L l dl) t.out))
          case atStart => exact ⟨⟨⟨fk, fs, fi, fb, fd, ft, false, ws⟩, 0, []⟩, ⟨B, m, d⟩, none, 0, 0, rfl, rfl, (show Aside _ from ⟨.refl _, HI0.out, Nat.le_refl _, HST.out⟩)⟩
          case round =>
            obtain ⟨t, S, L, l, dl, rfl, rfl, HA⟩ := hrel
            obtain ⟨hG, hI, hM, hD⟩ := HA.out
            have HG := Lib.hid hG
            have HI := Lib.hid hI
            have HM := Lib.hid hM
            have HD := Lib.hid hD
            have HSr := Lib.hid (HS5.out.below hD.bw)
            obtain ⟨⟨xk, xs, xi, xb, xd, xt, xo, xw⟩, tn, out⟩ := t
            obtain ⟨E, em, ed⟩ := S
            have i1 := hI.n
            have i2 := hI.r2
            have i3 := hI.d
            have i4 := hI.b
            have i5 := hI.e
            simp only at i1 i3 i4 i5
            have hbx := hD.bx
            clear hG hI hM hD HA

            have e0 : wr.cell? ⟨w5.heap.size, 0, none⟩ = some (str xk) := box_at hbx 0 _ rfl
            have e1 : wr.cell? ⟨w5.heap.size, 1, none⟩ = some (.bool xs) := box_at hbx 1 _ rfl
            have e2 : wr.cell? ⟨w5.heap.size, 2, none⟩ = some (.int .i64 xi) := box_at hbx 2 _ rfl
            have e3 : wr.cell? ⟨w5.heap.size, 3, none⟩ = some (.int .i64 xb) := box_at hbx 3 _ rfl
            have e4 : wr.cell? ⟨w5.heap.size, 4, none⟩ = some (str xd) := box_at hbx 4 _ rfl
            have e5 : wr.cell? ⟨w5.heap.size, 5, none⟩ = some (.int .i64 xt) := box_at hbx 5 _ rfl
            have e6 : wr.cell? ⟨w5.heap.size, 6, none⟩ = some (.bool xo) := box_at hbx 6 _ rfl
            have e7 : wr.cell? ⟨w5.heap.size, 7, none⟩ = some (.slice E em ed) := box_at hbx 7 _ rfl
            have ef := box_free hbx
            have y0 : wr.cell? ⟨w.heap.size, 0, none⟩ = some (.int .i64 room) := box_at HSr.out.bx 0 _ rfl
            clear hbx
            by_cases hlt : tn < s.length
            · have hltz : (tn : Int) < (s.length : Int) := by omega
              by_cases hfu : (xd.length : Int) < room
              · obtain ⟨ch, hch⟩ : ∃ ch, s[tn]? = some ch := ⟨_, List.getElem?_eq_getElem hlt⟩
                have hex1 : (⟨s.toArray⟩ : ByteArray).extract tn (tn + 1) = ⟨[ch].toArray⟩ := ext_one hch
                have h10 : 0 ≤ (tn : Int) + 1 := by omega
                have h12 : ¬ 9223372036854775807 < xd.length + 1 := by omega
                have h11 : (tn : Int) ≤ (tn : Int) + 1 := by omega
                have hcat : (⟨xd.toArray⟩ : ByteArray) ++ (⟨[ch].toArray⟩ : ByteArray) = ⟨(xd ++ [ch]).toArray⟩ := cat_bytes xd [ch]
                have hgl : xd.length ≤ 4096 := by omega
                have htn1 : (tn : Int) + 1 ≤ (s.length : Int) := by omega
                have hwt : IntKind.i64.wrap ((tn : Int) + 1) = (tn : Int) + 1 := by rw [IntKind.wrap_i64]; omega
                go_upto_region 14 with fail
                --<<
                go_cut [] from 61 to 69 (fun wx => Aside (FdI w w5 wx ⟨B, m, d⟩ ⟨E, em, ed⟩ ⟨xk, xs, xi, xb, xd ++ [ch], xt, xo, xw⟩ (.slice L l dl) out))
                case first =>
                  go_region_law (fail)
                  all_goals go_wp2_with fail
                  all_goals go_meet
                  all_goals
                    show Aside (FdI w w5 _ ⟨B, m, d⟩ ⟨E, em, ed⟩ ⟨xk, xs, xi, xb, xd ++ [ch], xt, xo, xw⟩ (.slice L l dl) out)
                    exact (show FdI w w5 _ ⟨B, m, d⟩ ⟨E, em, ed⟩ ⟨xk, xs, xi, xb, xd ++ [ch], xt, xo, xw⟩ (.slice L l dl) out from (HD.out.below (below_drew (Below.refl _ _))).put rfl rfl)
                case rest =>
                  have HD2 := Lib.hid hcut.out
                  have hm2 := measF_bytes (s := s) (t := ⟨⟨xk, xs, xi, xb, xd, xt, xo, xw⟩, tn, out⟩) (m := 1) hlt (by decide) hfu
                  have hi2 := HI.out.bytes 1 hlt (show (xd.length : Int) + 1 ≤ room by omega)
                  have hg2 := HG.out.bytes 1 hlt (show (xd.length : Int) + 1 ≤ room by omega)
                  have he1 : (s.drop tn).take 1 = [ch] := by
                    obtain ⟨hi, rfl⟩ := List.getElem?_eq_some_iff.1 hch
                    rw [List.drop_eq_getElem_cons hi]
                    rfl
                  simp only [he1] at hm2 hi2 hg2
                  have hmm := HM.out
                  have HM2 := Lib.hid hm2
                  have HI2 := Lib.hid hi2
                  have HG2 := Lib.hid hg2
                  clear hcut e0 e1 e2 e3 e4 e5 e6 e7 ef y0 hm2 hi2 hg2 he1 hex1 hcat hch h10 h11 h12 hgl hwt hmm
                  go_wp2_with fail
                  go_roundg (measF room s ⟨⟨xk, xs, xi, xb, xd ++ [ch], xt, xo, xw⟩, tn + 1, out⟩)
                  case measure => exact Nat.lt_of_lt_of_le HM2.out HM.out
                  case rel => exact ⟨⟨⟨xk, xs, xi, xb, xd ++ [ch], xt, xo, xw⟩, tn + 1, out⟩, ⟨E, em, ed⟩, L, l, dl, rfl, by go_num, (show Aside _ from ⟨HG2.out, HI2.out, Nat.le_refl _, HD2.out⟩)⟩
                -->>
              · have hro := HI.out.room hfu
                have hwl1 : 1 ≤ xw.length := HI.out.w1
                have hwl8 : xw.length ≤ 8 := by have := HI.out.w2; simp only at this; omega
                have hwr : RdE tenc 2 wr (.slice E em ed) xw := HD.out.ow.rd
                have hem : xw.length = em := hwr.len
                have hst := stepF_room (s := s) (t := ⟨⟨xk, xs, xi, xb, xd, xt, xo, xw⟩, tn, out⟩) hlt hfu
                have hms := measF_room HI.out hfu
                have HRO := Lib.hid hro
                have HST2 := Lib.hid hst
                have HMS := Lib.hid hms
                have C53 := Lib.hid (rleast_any wr.drew (⟨xk, xs, xi, xb, xd, xt, xo, xw⟩, ⟨E, em, ed⟩) (hwr.below (below_drew (Below.refl _ _))) hwl1 (by simp only; omega) (fun t ht => (HI.out.w t ht).2.2))
                have C54 := Lib.hid (fun (W : World) (hb : Below wr.heap.size wr W) => trim_any W (⟨xk, xs, xi, xb, xd, xt, xo, xw⟩, ⟨E, em, ed⟩) (hwr.below hb) hwl1 (by simp only; omega) (fun t ht => (HI.out.w t ht).2) HI.out.ok)
                have hrs : roomS ⟨xk, xs, xi, xb, xd, xt, xo, xw⟩ = if xb < leastS ⟨xk, xs, xi, xb, xd, xt, xo, xw⟩ then (trimS ⟨xk, xs, xi, xb, xd, xt, xo, xw⟩, [], true) else if fastS ⟨xk, xs, xi, xb, xd, xt, xo, xw⟩ = [] then (⟨xk, xs, xi, xb, xd, xt, xo, xw⟩, [], false) else (⟨xk, xs, xi, xb, xd, xt, xo, fastS ⟨xk, xs, xi, xb, xd, xt, xo, xw⟩⟩, (slowS ⟨xk, xs, xi, xb, xd, xt, xo, xw⟩).map Tm.id, true) := rfl
                obtain ⟨lm, hlm⟩ : ∃ lm, leastS ⟨xk, xs, xi, xb, xd, xt, xo, xw⟩ = lm := ⟨_, rfl⟩
                rw [hlm] at hrs
                simp only [hlm] at C53
                have HRS := Lib.hid hrs
                have HWR := Lib.hid hwr
                clear hro hst hms hwr hrs hlm
                go_upto_region 16 with fail
                by_cases hgt : xb < lm
                · refine wp_region_held_drew (S := fun W' => W'.cell? ⟨w5.heap.size, 0, none⟩ = some (str xk) ∧ W'.cell? ⟨w5.heap.size, 1, none⟩ = some (.bool xs) ∧ W'.cell? ⟨w5.heap.size, 2, none⟩ = some (.int .i64 xi) ∧ W'.cell? ⟨w5.heap.size, 3, none⟩ = some (.int .i64 xb) ∧ W'.cell? ⟨w5.heap.size, 4, none⟩ = some (str xd) ∧ W'.cell? ⟨w5.heap.size, 5, none⟩ = some (.int .i64 xt) ∧ W'.cell? ⟨w5.heap.size, 6, none⟩ = some (.bool xo) ∧ W'.cell? ⟨w5.heap.size, 7, none⟩ = some (.slice E em ed)) (by kernel_rfl) (⟨cell_dr e0, cell_dr e1, cell_dr e2, cell_dr e3, cell_dr e4, cell_dr e5, cell_dr e6, cell_dr e7⟩) (fun hHeld => ?_)
                  refine wpAnyH_take (i := 0) (oi := _) (v := ?v0a) rfl (by kernel_rfl) (by kernel_rfl) (by kernel_rfl) (fun _ _ _ h => h) (Or.inl ⟨by kernel_rfl, ?y0a⟩) (by assumption) ?r0a
                  case y0a => (intro w hSw; (try dsimp only at hSw); go_simp; try (with_reducible rfl))
                  case r0a =>
                    simp only [List.getElem_toArray, List.getElem_cons_succ, List.getElem_cons_zero, Act.put, List.setIfInBounds_toArray, List.set_cons_zero, List.set_cons_succ]
                    refine wpAnyH_take (i := 2) (oi := _) (v := ?v2a) rfl (by kernel_rfl) (by kernel_rfl) (by kernel_rfl) (fun _ _ _ h => h) (Or.inl ⟨by kernel_rfl, ?y2a⟩) (by assumption) ?r2a
                    case y2a => (intro w hSw; (try dsimp only at hSw); go_simp; try (with_reducible rfl))
                    case r2a =>
                      simp only [List.getElem_toArray, List.getElem_cons_succ, List.getElem_cons_zero, Act.put, List.setIfInBounds_toArray, List.set_cons_zero, List.set_cons_succ]
                      refine wpAnyH_take (i := 3) (oi := _) (v := ?v3a) rfl (by kernel_rfl) (by kernel_rfl) (by kernel_rfl) (fun _ _ _ h => h) (Or.inl ⟨by kernel_rfl, ?y3a⟩) (by assumption) ?r3a
                      case y3a => (intro w hSw; (try dsimp only at hSw); go_simp; try (with_reducible rfl))
                      case r3a =>
                        simp only [List.getElem_toArray, List.getElem_cons_succ, List.getElem_cons_zero, Act.put, List.setIfInBounds_toArray, List.set_cons_zero, List.set_cons_succ]
                        refine wpAnyH_ready (rs := [1]) (by kernel_rfl) (by simp) ?_
                        refine AllReadyH.cons (o := _) rfl (fun K hK => ?_) AllReadyH.nil
                        go_simp
                        (go_at_call 53; refine C53.out.mono ?_; rintro e w6 ⟨rfl, hb6⟩; have HB6 := Lib.hid hb6)
                        go_wp2_with fail
                        refine hK.out _ _ (⟨pw_cell_below hb6 hHeld.1, pw_cell_below hb6 hHeld.2.1, pw_cell_below hb6 hHeld.2.2.1, pw_cell_below hb6 hHeld.2.2.2.1, pw_cell_below hb6 hHeld.2.2.2.2.1, pw_cell_below hb6 hHeld.2.2.2.2.2.1, pw_cell_below hb6 hHeld.2.2.2.2.2.2.1, pw_cell_below hb6 hHeld.2.2.2.2.2.2.2⟩) (fun hHeld => ?_)
                        clear hK K
                        try simp only [List.getElem_toArray, List.getElem_cons_succ, List.getElem_cons_zero, Act.put, List.setIfInBounds_toArray, List.set_cons_zero, List.set_cons_succ]
                        refine wpAnyH_take (i := 4) (oi := _) (v := ?v4a) rfl (by kernel_rfl) (by kernel_rfl) (by kernel_rfl) (fun _ _ _ h => h) (Or.inl ⟨by kernel_rfl, ?y4a⟩) (by assumption) ?r4a
                        case y4a => (intro w hSw; (try dsimp only at hSw); go_simp; try (with_reducible rfl))
                        case r4a =>
                          simp only [List.getElem_toArray, List.getElem_cons_succ, List.getElem_cons_zero, Act.put, List.setIfInBounds_toArray, List.set_cons_zero, List.set_cons_succ]
                          refine wpAnyH_done (by kernel_rfl) ?_ _
                          --<<
                          clear hHeld e0 e1 e2 e3 e4 e5 e6 e7 ef y0
                          have HB := Lib.hid ((below_drew (Below.refl _ _)).trans (HB6.out.mono (below_drew (Below.refl wr.heap.size wr)).size))
                          have HD6 := Lib.hid (HD.out.below HB.out)
                          have hbx := HD6.out.bx
                          have e0 : w6.cell? ⟨w5.heap.size, 0, none⟩ = some (str xk) := box_at hbx 0 _ rfl
                          have e1 : w6.cell? ⟨w5.heap.size, 1, none⟩ = some (.bool xs) := box_at hbx 1 _ rfl
                          have e2 : w6.cell? ⟨w5.heap.size, 2, none⟩ = some (.int .i64 xi) := box_at hbx 2 _ rfl
                          have e3 : w6.cell? ⟨w5.heap.size, 3, none⟩ = some (.int .i64 xb) := box_at hbx 3 _ rfl
                          have e4 : w6.cell? ⟨w5.heap.size, 4, none⟩ = some (str xd) := box_at hbx 4 _ rfl
                          have e5 : w6.cell? ⟨w5.heap.size, 5, none⟩ = some (.int .i64 xt) := box_at hbx 5 _ rfl
                          have e6 : w6.cell? ⟨w5.heap.size, 6, none⟩ = some (.bool xo) := box_at hbx 6 _ rfl
                          have e7 : w6.cell? ⟨w5.heap.size, 7, none⟩ = some (.slice E em ed) := box_at hbx 7 _ rfl
                          have ef := box_free hbx
                          have HRT := Lib.hid (HRS.out.trans (if_pos hgt))
                          rw [HRT.out] at HRO HST2 HMS
                          clear hbx HRS C53
                          go_wp2_with (go_at_call 54; refine (C54.out _ HB.out).mono ?_; rintro e w7 ⟨rfl, hb7⟩; have hbx7 := keep hb7 HD6.out.bx; have HD7 := Lib.hid ((HD6.out.below hb7).put8 (x' := trimS ⟨xk, xs, xi, xb, xd, xt, xo, xw⟩) rfl); have i0 : w7.cell? ⟨w5.heap.size, 0, none⟩ = some (str xk) := box_at hbx7 0 _ rfl; have i1 : w7.cell? ⟨w5.heap.size, 1, none⟩ = some (.bool xs) := box_at hbx7 1 _ rfl; have i2 : w7.cell? ⟨w5.heap.size, 2, none⟩ = some (.int .i64 xi) := box_at hbx7 2 _ rfl; have i3 : w7.cell? ⟨w5.heap.size, 3, none⟩ = some (.int .i64 xb) := box_at hbx7 3 _ rfl; have i4 : w7.cell? ⟨w5.heap.size, 4, none⟩ = some (str xd) := box_at hbx7 4 _ rfl; have i5 : w7.cell? ⟨w5.heap.size, 5, none⟩ = some (.int .i64 xt) := box_at hbx7 5 _ rfl; have i6 : w7.cell? ⟨w5.heap.size, 6, none⟩ = some (.bool xo) := box_at hbx7 6 _ rfl; have i7 : w7.cell? ⟨w5.heap.size, 7, none⟩ = some (.slice E em ed) := box_at hbx7 7 _ rfl; have if7 := box_free hbx7; clear hb7 hbx7)
                          have hr2 := HRO.out (by trivial)
                          have hst2 := HST2.out.trans (if_pos (by trivial))
                          have hms2 := HMS.out (by trivial)
                          simp only [List.append_nil] at hr2 hst2 hms2
                          have HR2 := Lib.hid hr2.1
                          have HG2 := Lib.hid (HG.out.snoc hst2)
                          have HM2 := Lib.hid hms2
                          clear hr2 hst2 hms2
                          go_roundg (measF room s ⟨trimS ⟨xk, xs, xi, xb, xd, xt, xo, xw⟩, tn, out⟩)
                          case measure => exact Nat.lt_of_lt_of_le HM2.out HM.out
                          case rel => exact ⟨⟨trimS ⟨xk, xs, xi, xb, xd, xt, xo, xw⟩, tn, out⟩, ⟨E, em, ed⟩, L, l, dl, rfl, rfl, (show Aside _ from ⟨HG2.out, HR2.out, Nat.le_refl _, HD7.out⟩)⟩
                          -->>
                · refine wp_region_held_drew (S := fun W' => W'.cell? ⟨w5.heap.size, 0, none⟩ = some (str xk) ∧ W'.cell? ⟨w5.heap.size, 1, none⟩ = some (.bool xs) ∧ W'.cell? ⟨w5.heap.size, 2, none⟩ = some (.int .i64 xi) ∧ W'.cell? ⟨w5.heap.size, 3, none⟩ = some (.int .i64 xb) ∧ W'.cell? ⟨w5.heap.size, 4, none⟩ = some (str xd) ∧ W'.cell? ⟨w5.heap.size, 5, none⟩ = some (.int .i64 xt) ∧ W'.cell? ⟨w5.heap.size, 6, none⟩ = some (.bool xo) ∧ W'.cell? ⟨w5.heap.size, 7, none⟩ = some (.slice E em ed)) (by kernel_rfl) (⟨cell_dr e0, cell_dr e1, cell_dr e2, cell_dr e3, cell_dr e4, cell_dr e5, cell_dr e6, cell_dr e7⟩) (fun hHeld => ?_)
                  refine wpAnyH_take (i := 0) (oi := _) (v := ?v0b) rfl (by kernel_rfl) (by kernel_rfl) (by kernel_rfl) (fun _ _ _ h => h) (Or.inl ⟨by kernel_rfl, ?y0b⟩) (by assumption) ?r0b
                  case y0b => (intro w hSw; (try dsimp only at hSw); go_simp; try (with_reducible rfl))
                  case r0b =>
                    simp only [List.getElem_toArray, List.getElem_cons_succ, List.getElem_cons_zero, Act.put, List.setIfInBounds_toArray, List.set_cons_zero, List.set_cons_succ]
                    refine wpAnyH_take (i := 2) (oi := _) (v := ?v2b) rfl (by kernel_rfl) (by kernel_rfl) (by kernel_rfl) (fun _ _ _ h => h) (Or.inl ⟨by kernel_rfl, ?y2b⟩) (by assumption) ?r2b
                    case y2b => (intro w hSw; (try dsimp only at hSw); go_simp; try (with_reducible rfl))
                    case r2b =>
                      simp only [List.getElem_toArray, List.getElem_cons_succ, List.getElem_cons_zero, Act.put, List.setIfInBounds_toArray, List.set_cons_zero, List.set_cons_succ]
                      refine wpAnyH_take (i := 3) (oi := _) (v := ?v3b) rfl (by kernel_rfl) (by kernel_rfl) (by kernel_rfl) (fun _ _ _ h => h) (Or.inl ⟨by kernel_rfl, ?y3b⟩) (by assumption) ?r3b
                      case y3b => (intro w hSw; (try dsimp only at hSw); go_simp; try (with_reducible rfl))
                      case r3b =>
                        simp only [List.getElem_toArray, List.getElem_cons_succ, List.getElem_cons_zero, Act.put, List.setIfInBounds_toArray, List.set_cons_zero, List.set_cons_succ]
                        refine wpAnyH_ready (rs := [1]) (by kernel_rfl) (by simp) ?_
                        refine AllReadyH.cons (o := _) rfl (fun K hK => ?_) AllReadyH.nil
                        go_simp
                        (go_at_call 53; refine C53.out.mono ?_; rintro e w6 ⟨rfl, hb6⟩; have HB6 := Lib.hid hb6)
                        go_wp2_with fail
                        refine hK.out _ _ (⟨pw_cell_below hb6 hHeld.1, pw_cell_below hb6 hHeld.2.1, pw_cell_below hb6 hHeld.2.2.1, pw_cell_below hb6 hHeld.2.2.2.1, pw_cell_below hb6 hHeld.2.2.2.2.1, pw_cell_below hb6 hHeld.2.2.2.2.2.1, pw_cell_below hb6 hHeld.2.2.2.2.2.2.1, pw_cell_below hb6 hHeld.2.2.2.2.2.2.2⟩) (fun hHeld => ?_)
                        clear hK K
                        try simp only [List.getElem_toArray, List.getElem_cons_succ, List.getElem_cons_zero, Act.put, List.setIfInBounds_toArray, List.set_cons_zero, List.set_cons_succ]
                        refine wpAnyH_take (i := 4) (oi := _) (v := ?v4b) rfl (by kernel_rfl) (by kernel_rfl) (by kernel_rfl) (fun _ _ _ h => h) (Or.inl ⟨by kernel_rfl, ?y4b⟩) (by assumption) ?r4b
                        case y4b => (intro w hSw; (try dsimp only at hSw); go_simp; try (with_reducible rfl))
                        case r4b =>
                          simp only [List.getElem_toArray, List.getElem_cons_succ, List.getElem_cons_zero, Act.put, List.setIfInBounds_toArray, List.set_cons_zero, List.set_cons_succ]
                          refine wpAnyH_done (by kernel_rfl) ?_ _
                          clear hHeld e0 e1 e2 e3 e4 e5 e6 e7 ef y0 C54
                          have HB := Lib.hid ((below_drew (Below.refl _ _)).trans (HB6.out.mono (below_drew (Below.refl wr.heap.size wr)).size))
                          have HD6 := Lib.hid (HD.out.below HB.out)
                          have HRF := Lib.hid (HRS.out.trans (if_neg (by omega)))
                          clear HRS C53 HWR hb6 HD HSr
                          go_upto_region 20 with fail
                          go_loopg [15, 16, 17] em (fun gg s15 s16 s17 wr2 => ∃ (kk : Nat) (P : Option Addr) (p pc : Nat) (Q : Option Addr) (q qc : Nat), kk ≤ em ∧ em - kk ≤ gg ∧ s15 = .slice P p pc ∧ s16 = .slice Q q qc ∧ s17 = .int .i64 kk ∧ Aside (Below w6.heap.size w6 wr2 ∧ OwE tenc 2 47 wr2 w6.heap.size (.slice P p pc) ((xw.take kk).filter (fun t => t.at' == xb)) ∧ OwE tenc 2 47 wr2 w6.heap.size (.slice Q q qc) ((xw.take kk).filter (fun t => !(t.at' == xb))) ∧ ∀ k, (Value.slice P p pc).ownBlock = some k → (Value.slice Q q qc).ownBlock ≠ some k))
                          case atStart => exact ⟨0, none, 0, 0, none, 0, 0, Nat.zero_le _, by omega, rfl, rfl, rfl, (show Aside _ from ⟨Below.refl _ _, OwE.nil tencL _ _ _, OwE.nil tencL _ _ _, fun k hk => by cases hk⟩)⟩
                          case round =>
                            obtain ⟨kk, P, p, pc, Q, q, qc, hkk, hg, rfl, rfl, rfl, HA⟩ := hrel
                            have HBr := Lib.hid HA.out.1
                            have HP := Lib.hid HA.out.2.1
                            have HQ2 := Lib.hid HA.out.2.2.1
                            have HNE := Lib.hid HA.out.2.2.2
                            have HDr := Lib.hid (HD6.out.below HBr.out)
                            have e3 : wr.cell? ⟨w5.heap.size, 3, none⟩ = some (.int .i64 xb) := box_at HDr.out.bx 3 _ rfl
                            have e7 : wr.cell? ⟨w5.heap.size, 7, none⟩ = some (.slice E em ed) := box_at HDr.out.bx 7 _ rfl
                            clear HA
                            by_cases hlk : kk < em
                            · have hlkz : (kk : Int) < (em : Int) := by omega
                              have ht : xw[kk]? = some (xw[kk]'(by omega)) := List.getElem?_eq_getElem _
                              have hte : xw.take (kk + 1) = xw.take kk ++ [xw[kk]'(by omega)] := List.take_succ_eq_append_getElem (by omega)
                              generalize xw[kk]'(by omega) = t at ht hte
                              obtain ⟨ti, ta⟩ := t
                              obtain ⟨pb, po, hPA, hpl, j0, j1⟩ := (show RdE tenc 2 wr (.slice E em ed) xw from HDr.out.ow.rd).tm ht
                              subst hPA
                              simp only at j0 j1
                              have HTE := Lib.hid hte
                              clear ht hte
                              go_upto_region 22 with fail
                              cases hq : (ta == xb) with
                              | true =>
                                --<<
                                have HQ := Lib.hid hq
                                go_quiet (fail)
                                have hdr : Below wr.heap.size wr (wr.drewN nq) := pw_below_drewN (Below.refl _ _) _
                                generalize wr.drewN nq = W8 at *
                                have e7 := pw_cell_below hdr e7
                                have j0 := pw_cell_below hdr j0
                                have j1 := pw_cell_below hdr j1
                                have hdal : Below wr.heap.size wr (W8.alloc (.cells #[.int .i64 ti, .int .i64 ta] 47)) := hdr.alloc hdr.size _
                                have HBU := Lib.hid (HBr.out.trans (hdal.mono HBr.out.size))
                                have HOW := Lib.hid (HP.out.below hdal)
                                have HOT := Lib.hid (HQ2.out.below hdal)
                                have HBX := Lib.hid (show RdE tenc 2 (W8.alloc (.cells #[.int .i64 ti, .int .i64 ta] 47)) (.slice (some ⟨W8.heap.size, 0, none⟩) 1 1) [⟨ti, ta⟩] from rd_boxE (enc := tenc) W8 ⟨ti, ta⟩ 47)
                                have hfl2 : ((xw.take kk).filter (fun t => t.at' == xb)).length ≤ 8 := Nat.le_trans (List.length_filter_le _ _) (by rw [List.length_take]; omega)
                                clear hdal hdr
                                go_upto_region 23 with fail
                                clear hq
                                go_wp2_with (at_builtin; refine wp_appE w6.heap.size rfl _ _ 43 47 (.agg #[.int .i64 0, .int .i64 0]) 16 rfl Try.underlying43 Try.info47 rfl (by omega) (by omega) (.slice P p pc) (.slice (some ⟨W8.heap.size, 0, none⟩) 1 1) _ [⟨ti, ta⟩] rfl rfl HOW.out HBX.out tenc1 ?c3 ?c4 ?c5)
                                case c3 => simp only [List.length_cons, List.length_nil]; omega
                                case c4 => exact HBU.out.size
                                case c5 =>
                                  intro v1 w7 hv1 hg1 hat1
                                  obtain ⟨F1, f1, g1, rfl⟩ := hv1.slice'
                                  have htw := two_app HOT.out hg1 (fun k h1 h2 => HNE.out k h1 h2) (hat1.imp (fun h => h) (fun ⟨b, h1, h2⟩ => ⟨b, h1, by simpa using h2⟩))
                                  have HB7 := Lib.hid (HBU.out.grown hg1 HBU.out.size (fun q hq => HOW.out.lo q hq))
                                  have HV := Lib.hid hv1
                                  have HT1 := Lib.hid htw.1
                                  have HT2 := Lib.hid htw.2
                                  clear hv1 hg1 hat1 htw
                                  go_wp2_with fail
                                  go_roundg (em - (kk + 1))
                                  case measure => omega
                                  case rel =>
                                    refine ⟨kk + 1, F1, f1, g1, Q, q, qc, by omega, by omega, rfl, rfl, by go_num, (show Aside _ from ⟨HB7.out, ?_, ?_, HT2.out⟩)⟩
                                    · rw [HTE.out, List.filter_append]
                                      simp only [List.filter_cons, List.filter_nil, HQ.out, Bool.not_true, Bool.not_false, Bool.false_eq_true, if_true, if_false, List.append_nil]
                                      exact HV.out
                                    · rw [HTE.out, List.filter_append]
                                      simp only [List.filter_cons, List.filter_nil, HQ.out, Bool.not_true, Bool.not_false, Bool.false_eq_true, if_true, if_false, List.append_nil]
                                      exact HT1.out
                                -->>
                              | false =>
                                have HQ := Lib.hid hq
                                go_quiet (fail)
                                have hdr : Below wr.heap.size wr (wr.drewN nq) := pw_below_drewN (Below.refl _ _) _
                                generalize wr.drewN nq = W8 at *
                                have e7 := pw_cell_below hdr e7
                                have j0 := pw_cell_below hdr j0
                                have j1 := pw_cell_below hdr j1
                                have hdal : Below wr.heap.size wr (W8.alloc (.cells #[.int .i64 ti, .int .i64 ta] 47)) := hdr.alloc hdr.size _
                                have HBU := Lib.hid (HBr.out.trans (hdal.mono HBr.out.size))
                                have HOW := Lib.hid (HQ2.out.below hdal)
                                have HOT := Lib.hid (HP.out.below hdal)
                                have HBX := Lib.hid (show RdE tenc 2 (W8.alloc (.cells #[.int .i64 ti, .int .i64 ta] 47)) (.slice (some ⟨W8.heap.size, 0, none⟩) 1 1) [⟨ti, ta⟩] from rd_boxE (enc := tenc) W8 ⟨ti, ta⟩ 47)
                                have hfl2 : ((xw.take kk).filter (fun t => !(t.at' == xb))).length ≤ 8 := Nat.le_trans (List.length_filter_le _ _) (by rw [List.length_take]; omega)
                                clear hdal hdr
                                go_upto_region 24 with fail
                                clear hq
                                go_wp2_with (at_builtin; refine wp_appE w6.heap.size rfl _ _ 43 47 (.agg #[.int .i64 0, .int .i64 0]) 16 rfl Try.underlying43 Try.info47 rfl (by omega) (by omega) (.slice Q q qc) (.slice (some ⟨W8.heap.size, 0, none⟩) 1 1) _ [⟨ti, ta⟩] rfl rfl HOW.out HBX.out tenc1 ?c3 ?c4 ?c5)
                                case c3 => simp only [List.length_cons, List.length_nil]; omega
                                case c4 => exact HBU.out.size
                                case c5 =>
                                  intro v1 w7 hv1 hg1 hat1
                                  obtain ⟨F1, f1, g1, rfl⟩ := hv1.slice'
                                  have htw := two_app HOT.out hg1 (fun k h1 h2 => HNE.out k h2 h1) (hat1.imp (fun h => h) (fun ⟨b, h1, h2⟩ => ⟨b, h1, by simpa using h2⟩))
                                  have HB7 := Lib.hid (HBU.out.grown hg1 HBU.out.size (fun q hq => HOW.out.lo q hq))
                                  have HV := Lib.hid hv1
                                  have HT1 := Lib.hid htw.1
                                  have HT2 := Lib.hid htw.2
                                  clear hv1 hg1 hat1 htw
                                  go_wp2_with fail
                                  go_roundg (em - (kk + 1))
                                  case measure => omega
                                  case rel =>
                                    refine ⟨kk + 1, P, p, pc, F1, f1, g1, by omega, by omega, rfl, rfl, by go_num, (show Aside _ from ⟨HB7.out, ?_, ?_, fun k h1 h2 => HT2.out k h2 h1⟩)⟩
                                    · rw [HTE.out, List.filter_append]
                                      simp only [List.filter_cons, List.filter_nil, HQ.out, Bool.not_true, Bool.not_false, Bool.false_eq_true, if_true, if_false, List.append_nil]
                                      exact HT1.out
                                    · rw [HTE.out, List.filter_append]
                                      simp only [List.filter_cons, List.filter_nil, HQ.out, Bool.not_true, Bool.not_false, Bool.false_eq_true, if_true, if_false, List.append_nil]
                                      exact HV.out
                            · have hlkz : ¬ (kk : Int) < (em : Int) := by omega
                              have htk : xw.take kk = xw := List.take_of_length_le (by omega)
                              rw [htk] at HP HQ2
                              have hql : _ = q := HQ2.out.rd.len
                              have hpl : _ = p := HP.out.rd.len
                              have hfs0 : fastS ⟨xk, xs, xi, xb, xd, xt, xo, xw⟩ = xw.filter (fun t => !(t.at' == xb)) := rfl
                              have hsl0 : slowS ⟨xk, xs, xi, xb, xd, xt, xo, xw⟩ = xw.filter (fun t => t.at' == xb) := rfl
                              rw [hfs0, hsl0] at HRF
                              have hsf := slow_fast ⟨xk, xs, xi, xb, xd, xt, xo, xw⟩
                              rw [hfs0, hsl0] at hsf
                              clear hfs0 hsl0
                              generalize xw.filter (fun t => !(t.at' == xb)) = fast at *
                              generalize xw.filter (fun t => t.at' == xb) = slow at *
                              by_cases hfe : fast = []
                              · have hq0 : q = 0 := by rw [← hql, hfe]; rfl
                                subst hq0
                                have HRE := HRF.out.trans (if_pos hfe)
                                have HN := Lib.hid (show stepF room s ⟨⟨xk, xs, xi, xb, xd, xt, xo, xw⟩, tn, out⟩ = none from by rw [HST2.out, HRE]; rfl)
                                clear HRE hsf
                                go_upto_region 31 with fail
                                clear e3 e7
                                have HDe := HDr
                                --<<
                                have HE := Lib.hid (HF1.out _ HG.out HN.out)
                                have HSe := Lib.hid (HS5.out.below HDe.out.bw)
                                have hbx := HDe.out.bx
                                have e0 : wr.cell? ⟨w5.heap.size, 0, none⟩ = some (str xk) := box_at hbx 0 _ rfl
                                have e1 : wr.cell? ⟨w5.heap.size, 1, none⟩ = some (.bool xs) := box_at hbx 1 _ rfl
                                have e2 : wr.cell? ⟨w5.heap.size, 2, none⟩ = some (.int .i64 xi) := box_at hbx 2 _ rfl
                                have e3 : wr.cell? ⟨w5.heap.size, 3, none⟩ = some (.int .i64 xb) := box_at hbx 3 _ rfl
                                have e4 : wr.cell? ⟨w5.heap.size, 4, none⟩ = some (str xd) := box_at hbx 4 _ rfl
                                have e5 : wr.cell? ⟨w5.heap.size, 5, none⟩ = some (.int .i64 xt) := box_at hbx 5 _ rfl
                                have e6 : wr.cell? ⟨w5.heap.size, 6, none⟩ = some (.bool xo) := box_at hbx 6 _ rfl
                                have e7 : wr.cell? ⟨w5.heap.size, 7, none⟩ = some (.slice E em ed) := box_at hbx 7 _ rfl
                                clear hbx
                                have y2 : wr.cell? ⟨t6, 2, none⟩ = some (.slice (some ⟨b, off, none⟩) n2 c2) := box_at HSe.out.tp 2 _ rfl
                                have k0 := HSe.out.ow.cell HZK.out (j := 0) (v := str fk) rfl
                                have k1 := HSe.out.ow.cell HZK.out (j := 1) (v := .bool fs) rfl
                                have k2 := HSe.out.ow.cell HZK.out (j := 2) (v := .int .i64 fi) rfl
                                have k3 := HSe.out.ow.cell HZK.out (j := 3) (v := .int .i64 fb) rfl
                                have k4 := HSe.out.ow.cell HZK.out (j := 4) (v := str fd) rfl
                                have k5 := HSe.out.ow.cell HZK.out (j := 5) (v := .int .i64 ft) rfl
                                have k6 := HSe.out.ow.cell HZK.out (j := 6) (v := .bool false) rfl
                                have k7 := HSe.out.ow.cell HZK.out (j := 7) (v := .slice B m d) rfl
                                simp only [Nat.add_zero] at k0
                                obtain ⟨k0, f0⟩ := k0
                                obtain ⟨k1, f1⟩ := k1
                                obtain ⟨k2, f2⟩ := k2
                                obtain ⟨k3, f3⟩ := k3
                                obtain ⟨k4, f4⟩ := k4
                                obtain ⟨k5, f5⟩ := k5
                                obtain ⟨k6, f6⟩ := k6
                                obtain ⟨k7, f7⟩ := k7
                                have hne : ∀ (i : Nat) (y : FV), i ≠ k → zs[i]? = some y → ∀ q, y.2.v.ownBlock = some q → (Sl.v ⟨E, em, ed⟩).ownBlock ≠ some q := by
                                  intro i y hik hy q hq he
                                  rcases HDe.out.nw with hh | hh
                                  · refine HS5.out.ow.ne i k y _ hik hy HZK.out q hq ?_
                                    rw [hh] at he
                                    exact he
                                  · have h1 := hh q he
                                    have h2 := (HS5.out.ow.r i y hy).lt q hq
                                    omega
                                have hput := HSe.out.ow.putAll (x' := ⟨xk, xs, xi, xb, xd, xt, xo, xw⟩) (S' := ⟨E, em, ed⟩) HZK.out HDe.out.ow hne
                                have HS9 := Lib.hid (HSe.out.put8 hput)
                                have HL9 := Lib.hid (st8_is (o := off + k * 8) (y := (⟨xk, xs, xi, xb, xd, xt, xo, xw⟩, ⟨E, em, ed⟩)) HDe.out.is (HSe.out.ow.o.typed b rfl))
                                have HFS := Lib.hid (fls_set HFZ.out k ⟨xk, xs, xi, xb, xd, xt, xo, xw⟩ ⟨E, em, ed⟩)
                                clear hput hne
                                go_upto_region 32 with fail
                                clear e0 e1 e2 e3 e4 e5 e6 e7 k0 k1 k2 k3 k4 k5 k6 k7 f0 f1 f2 f3 f4 f5 f6 f7 y2
                                change Code.wp _ _ _ _ (st8 wr b (off + k * 8) (⟨xk, xs, xi, xb, xd, xt, xo, xw⟩, ⟨E, em, ed⟩))
                                generalize st8 wr b (off + k * 8) (⟨xk, xs, xi, xb, xd, xt, xo, xw⟩, ⟨E, em, ed⟩) = W9 at *
                                have y0 : W9.cell? ⟨t6, 0, none⟩ = some (.int .i64 room) := box_at HS9.out.tp 0 _ rfl
                                have y1 : W9.cell? ⟨t6, 1, none⟩ = some (.int .i64 next) := box_at HS9.out.tp 1 _ rfl
                                have y2 : W9.cell? ⟨t6, 2, none⟩ = some (.slice (some ⟨b, off, none⟩) n2 c2) := box_at HS9.out.tp 2 _ rfl
                                have s0 : W9.cell? ⟨w.heap.size + 1, 0, none⟩ = some (.int .i64 0) := box_at HS9.out.bz 0 _ rfl
                                have s1 : W9.cell? ⟨w.heap.size + 1, 1, none⟩ = some (.int .i64 0) := box_at HS9.out.bz 1 _ rfl
                                have s2 : W9.cell? ⟨w.heap.size + 1, 2, none⟩ = some (.slice none 0 0) := box_at HS9.out.bz 2 _ rfl
                                have sf := box_free HS9.out.bz
                                go_wp2_with fail
                                have hfin := ret_own (room := room) (next := next) HS9.out.ow HS9.out.bw HS9.out.bz (Nat.le_succ _)
                                refine bodyPost_ret (v := .tuple #[fv room next (.slice (some ⟨b, off, none⟩) n2 c2), .int .i64 tn, .slice L l dl, .int .i64 0]) (by simp [results, Try.results31, go_sem, s0, s1, s2]) rfl ?_
                                rw [HE.out]
                                exact ⟨_, n2, c2, _, L, l, dl, rfl, HFS.out, hfin.1, (ints_st3 (HL9.out.lower HS5.out.bw.size) HS9.out.bz), hfin.2⟩
                                -->>
                              · have hqn : ((q : Int) == 0) = false := by
                                  rw [beq_eq_false_iff_ne]
                                  have := List.length_pos_iff.2 hfe
                                  omega
                                have HRE := Lib.hid (HRF.out.trans (if_neg hfe))
                                go_upto_region 27 with fail
                                clear e3 e7
                                have hout : out.length + slow.length ≤ 8 := by
                                  have := HI.out.w2
                                  simp only at this hsf
                                  omega
                                go_loopg [13, 18] p (fun gg s13 s18 wr2 => ∃ (kk : Nat) (L2 : Option Addr) (l2 dl2 : Nat), kk ≤ p ∧ p - kk ≤ gg ∧ s13 = .slice L2 l2 dl2 ∧ s18 = .int .i64 kk ∧ Aside (FdI w w5 wr2 ⟨B, m, d⟩ ⟨E, em, ed⟩ ⟨xk, xs, xi, xb, xd, xt, xo, xw⟩ (.slice L2 l2 dl2) (out ++ (slow.take kk).map Tm.id) ∧ OwE tenc 2 47 wr2 w6.heap.size (.slice P p pc) slow ∧ OwE tenc 2 47 wr2 w6.heap.size (.slice Q q qc) fast))
                                case atStart => exact ⟨0, L, l, dl, Nat.zero_le _, by omega, rfl, rfl, (show Aside _ from ⟨by simpa using HDr.out, HP.out, HQ2.out⟩)⟩
                                case round =>
                                  obtain ⟨k3, L2, l2, dl2, hk3, hg3, rfl, rfl, HA⟩ := hrel
                                  have HD3 := Lib.hid HA.out.1
                                  have HP3 := Lib.hid HA.out.2.1
                                  have HQ3 := Lib.hid HA.out.2.2
                                  clear HA
                                  by_cases hl3 : k3 < p
                                  · have hl3z : (k3 : Int) < (p : Int) := by omega
                                    have ht : slow[k3]? = some (slow[k3]'(by omega)) := List.getElem?_eq_getElem _
                                    have hte : slow.take (k3 + 1) = slow.take k3 ++ [slow[k3]'(by omega)] := List.take_succ_eq_append_getElem (by omega)
                                    generalize slow[k3]'(by omega) = t at ht hte
                                    obtain ⟨ti, ta⟩ := t
                                    obtain ⟨pb, po, hPA, hpl, j0, j1⟩ := HP3.out.rd.tm ht
                                    subst hPA
                                    simp only at j0 j1
                                    have HTE := Lib.hid hte
                                    have hal3 : Below wr.heap.size wr (wr.alloc (.cells #[.int .i64 ti] 3)) := (Below.refl _ _).alloc (Nat.le_refl _) _
                                    have HDU := Lib.hid (HD3.out.below hal3)
                                    have HPU := Lib.hid (HP3.out.below hal3)
                                    have HQU := Lib.hid (HQ3.out.below hal3)
                                    have HBX := Lib.hid (show RdE ienc 1 (wr.alloc (.cells #[.int .i64 ti] 3)) (.slice (some ⟨wr.heap.size, 0, none⟩) 1 1) [ti] from rd_boxE (enc := ienc) wr ti 3)
                                    have hol : (out ++ (slow.take k3).map Tm.id).length ≤ 8 := by
                                      rw [List.length_append, List.length_map, List.length_take]
                                      omega
                                    clear ht hte hal3 j1
                                    go_wp2_with (at_builtin; refine wp_appE w5.heap.size rfl _ _ 34 3 (.int .i64 0) 8 rfl Try.underlying34 Try.info3 rfl (by omega) (by omega) (.slice L2 l2 dl2) (.slice (some ⟨wr.heap.size, 0, none⟩) 1 1) _ [ti] rfl rfl HDU.out.is HBX.out ienc1 ?c3 ?c4 ?c5)
                                    case c3 => simp only [List.length_cons, List.length_nil]; omega
                                    case c4 => exact HDU.out.bw.size
                                    case c5 =>
                                      intro v1 w7 hv1 hg1 hat1
                                      obtain ⟨F1, f1, g1, rfl⟩ := hv1.slice'
                                      have HD7 := Lib.hid (HDU.out.app hg1 hv1)
                                      have HP7 := Lib.hid (ts_grown HPU.out HDU.out.is hg1)
                                      have HQ7 := Lib.hid (ts_grown HQU.out HDU.out.is hg1)
                                      clear hv1 hg1 hat1
                                      go_wp2_with fail
                                      go_roundg (p - (k3 + 1))
                                      case measure => omega
                                      case rel =>
                                        refine ⟨k3 + 1, F1, f1, g1, by omega, by omega, rfl, by go_num, (show Aside _ from ⟨?_, HP7.out, HQ7.out⟩)⟩
                                        rw [HTE.out, List.map_append, List.map_take]
                                        exact HD7.out
                                  · have hl3z : ¬ (k3 : Int) < (p : Int) := by omega
                                    have htk3 : slow.take k3 = slow := List.take_of_length_le (by omega)
                                    rw [htk3] at HD3
                                    have e7 : wr.cell? ⟨w5.heap.size, 7, none⟩ = some (.slice E em ed) := box_at HD3.out.bx 7 _ rfl
                                    have ef := box_free HD3.out.bx
                                    go_wp2_with fail
                                    have hr2 := HRO.out (by rw [HRE.out])
                                    have hms2 := HMS.out (by rw [HRE.out])
                                    have hst2 := HST2.out.trans (if_pos (by rw [HRE.out]))
                                    rw [HRE.out] at hr2 hms2 hst2
                                    have HR2 := Lib.hid hr2.1
                                    have HG2 := Lib.hid (HG.out.snoc hst2)
                                    have HM2 := Lib.hid hms2
                                    have HD8 := Lib.hid (HD3.out.putW (x' := ⟨xk, xs, xi, xb, xd, xt, xo, fast⟩) (S' := ⟨Q, q, qc⟩) rfl HQ3.out (HD6.out.bw.size) HS5.out.bw.size)
                                    clear hr2 hst2 hms2
                                    go_roundg (measF room s ⟨⟨xk, xs, xi, xb, xd, xt, xo, fast⟩, tn, out ++ slow.map Tm.id⟩)
                                    case measure => exact Nat.lt_of_lt_of_le HM2.out HM.out
                                    case rel => exact ⟨⟨⟨xk, xs, xi, xb, xd, xt, xo, fast⟩, tn, out ++ slow.map Tm.id⟩, ⟨Q, q, qc⟩, L2, l2, dl2, rfl, rfl, (show Aside _ from ⟨HG2.out, HR2.out, Nat.le_refl _, HD8.out⟩)⟩
            · have hltz : ¬ (tn : Int) < (s.length : Int) := by omega
              have HN := Lib.hid (stepF_end (room := room) (s := s) (t := ⟨⟨xk, xs, xi, xb, xd, xt, xo, xw⟩, tn, out⟩) (by simp only; omega))
              go_upto_region 31 with fail
              clear e0 e1 e2 e3 e4 e5 e6 e7 ef y0
              have HDe := HD
              --<<
              have HE := Lib.hid (HF1.out _ HG.out HN.out)
              have HSe := Lib.hid (HS5.out.below HDe.out.bw)
              have hbx := HDe.out.bx
              have e0 : wr.cell? ⟨w5.heap.size, 0, none⟩ = some (str xk) := box_at hbx 0 _ rfl
              have e1 : wr.cell? ⟨w5.heap.size, 1, none⟩ = some (.bool xs) := box_at hbx 1 _ rfl
              have e2 : wr.cell? ⟨w5.heap.size, 2, none⟩ = some (.int .i64 xi) := box_at hbx 2 _ rfl
              have e3 : wr.cell? ⟨w5.heap.size, 3, none⟩ = some (.int .i64 xb) := box_at hbx 3 _ rfl
              have e4 : wr.cell? ⟨w5.heap.size, 4, none⟩ = some (str xd) := box_at hbx 4 _ rfl
              have e5 : wr.cell? ⟨w5.heap.size, 5, none⟩ = some (.int .i64 xt) := box_at hbx 5 _ rfl
              have e6 : wr.cell? ⟨w5.heap.size, 6, none⟩ = some (.bool xo) := box_at hbx 6 _ rfl
              have e7 : wr.cell? ⟨w5.heap.size, 7, none⟩ = some (.slice E em ed) := box_at hbx 7 _ rfl
              clear hbx
              have y2 : wr.cell? ⟨t6, 2, none⟩ = some (.slice (some ⟨b, off, none⟩) n2 c2) := box_at HSe.out.tp 2 _ rfl
              have k0 := HSe.out.ow.cell HZK.out (j := 0) (v := str fk) rfl
              have k1 := HSe.out.ow.cell HZK.out (j := 1) (v := .bool fs) rfl
              have k2 := HSe.out.ow.cell HZK.out (j := 2) (v := .int .i64 fi) rfl
              have k3 := HSe.out.ow.cell HZK.out (j := 3) (v := .int .i64 fb) rfl
              have k4 := HSe.out.ow.cell HZK.out (j := 4) (v := str fd) rfl
              have k5 := HSe.out.ow.cell HZK.out (j := 5) (v := .int .i64 ft) rfl
              have k6 := HSe.out.ow.cell HZK.out (j := 6) (v := .bool false) rfl
              have k7 := HSe.out.ow.cell HZK.out (j := 7) (v := .slice B m d) rfl
              simp only [Nat.add_zero] at k0
              obtain ⟨k0, f0⟩ := k0
              obtain ⟨k1, f1⟩ := k1
              obtain ⟨k2, f2⟩ := k2
              obtain ⟨k3, f3⟩ := k3
              obtain ⟨k4, f4⟩ := k4
              obtain ⟨k5, f5⟩ := k5
              obtain ⟨k6, f6⟩ := k6
              obtain ⟨k7, f7⟩ := k7
              have hne : ∀ (i : Nat) (y : FV), i ≠ k → zs[i]? = some y → ∀ q, y.2.v.ownBlock = some q → (Sl.v ⟨E, em, ed⟩).ownBlock ≠ some q := by
                intro i y hik hy q hq he
                rcases HDe.out.nw with hh | hh
                · refine HS5.out.ow.ne i k y _ hik hy HZK.out q hq ?_
                  rw [hh] at he
                  exact he
                · have h1 := hh q he
                  have h2 := (HS5.out.ow.r i y hy).lt q hq
                  omega
              have hput := HSe.out.ow.putAll (x' := ⟨xk, xs, xi, xb, xd, xt, xo, xw⟩) (S' := ⟨E, em, ed⟩) HZK.out HDe.out.ow hne
              have HS9 := Lib.hid (HSe.out.put8 hput)
              have HL9 := Lib.hid (st8_is (o := off + k * 8) (y := (⟨xk, xs, xi, xb, xd, xt, xo, xw⟩, ⟨E, em, ed⟩)) HDe.out.is (HSe.out.ow.o.typed b rfl))
              have HFS := Lib.hid (fls_set HFZ.out k ⟨xk, xs, xi, xb, xd, xt, xo, xw⟩ ⟨E, em, ed⟩)
              clear hput hne
              go_upto_region 32 with fail
              clear e0 e1 e2 e3 e4 e5 e6 e7 k0 k1 k2 k3 k4 k5 k6 k7 f0 f1 f2 f3 f4 f5 f6 f7 y2
              change Code.wp _ _ _ _ (st8 wr b (off + k * 8) (⟨xk, xs, xi, xb, xd, xt, xo, xw⟩, ⟨E, em, ed⟩))
              generalize st8 wr b (off + k * 8) (⟨xk, xs, xi, xb, xd, xt, xo, xw⟩, ⟨E, em, ed⟩) = W9 at *
              have y0 : W9.cell? ⟨t6, 0, none⟩ = some (.int .i64 room) := box_at HS9.out.tp 0 _ rfl
              have y1 : W9.cell? ⟨t6, 1, none⟩ = some (.int .i64 next) := box_at HS9.out.tp 1 _ rfl
              have y2 : W9.cell? ⟨t6, 2, none⟩ = some (.slice (some ⟨b, off, none⟩) n2 c2) := box_at HS9.out.tp 2 _ rfl
              have s0 : W9.cell? ⟨w.heap.size + 1, 0, none⟩ = some (.int .i64 0) := box_at HS9.out.bz 0 _ rfl
              have s1 : W9.cell? ⟨w.heap.size + 1, 1, none⟩ = some (.int .i64 0) := box_at HS9.out.bz 1 _ rfl
              have s2 : W9.cell? ⟨w.heap.size + 1, 2, none⟩ = some (.slice none 0 0) := box_at HS9.out.bz 2 _ rfl
              have sf := box_free HS9.out.bz
              go_wp2_with fail
              have hfin := ret_own (room := room) (next := next) HS9.out.ow HS9.out.bw HS9.out.bz (Nat.le_succ _)
              refine bodyPost_ret (v := .tuple #[fv room next (.slice (some ⟨b, off, none⟩) n2 c2), .int .i64 tn, .slice L l dl, .int .i64 0]) (by simp [results, Try.results31, go_sem, s0, s1, s2]) rfl ?_
              rw [HE.out]
              exact ⟨_, n2, c2, _, L, l, dl, rfl, HFS.out, hfin.1, (ints_st3 (HL9.out.lower HS5.out.bw.size) HS9.out.bz), hfin.2⟩
              -->>
end Go.Proofs.Ytipjhokhflokmaa
