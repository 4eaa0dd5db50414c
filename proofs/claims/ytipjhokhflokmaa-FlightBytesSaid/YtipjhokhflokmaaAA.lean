/- lockageref18.Leave (printed by mkAA.py). -/
import Derived.Test.YtipjhokhflokmaaZ
import Derived.Deep.RegionLaw
set_option linter.unusedVariables false
set_option linter.unusedSimpArgs false
namespace Go.Proofs.Ytipjhokhflokmaa
open Go.RowKit Go.Maps
open Go.Proofs.YtipjhokhflokmaaW.PrintWords
section
variable {α : Type} {enc : α → List Value} {m : Nat} {P : Program} {ops : Array Oper} {o : Oper} {a : Act} {Kc : Act → World → Prop} {Q' : Exit → Act → World → Prop} {E : Prop}
theorem wp_app_stepE_room {W : World} (base : Nat) (hgd : o.guard = none) (s x : Operand) (t e : TypeId) (z : Value) (bytes : Nat)
    (ho : o.op = .call { callee := .builtin .append, args := #[s, x], argTypes := #[t, t] })
    (ht : P.underlying t = some (.slice e)) (hinfo : (P.info? e).map (fun i => (i.zero, i.size, i.bytes)) = some (some z, m, bytes)) (hm0 : 0 < m)
    {b off n c : Nat} (src : Value) (xs ys : List α) (hs : a.eval s = .slice (some ⟨b, off, none⟩) n c) (hx : a.eval x = src)
    (hown : OwE enc m e W base (.slice (some ⟨b, off, none⟩) n c) xs) (hsrc : RdE enc m W src ys) (h1 : ∀ a, ∀ u ∈ enc a, u.oneCell' = true) (hroom : n + ys.length ≤ c)
    (h : ∀ w1, OwE enc m e w1 base (.slice (some ⟨b, off, none⟩) (n + ys.length) c) (xs ++ ys) → W.grownBy w1 (some b) → Kc (a.put o.dst (.slice (some ⟨b, off, none⟩) (n + ys.length) c)) w1) :
    if Region.wanted o (yielded ops a.tmps) = true then Oper.wp P o a W Kc Q' else E := by
  obtain ⟨w1, hr1, h2, hg⟩ := run_appE_room (P := P) W base t o.type e z bytes ht hinfo hm0 hown hsrc h1 hroom
  have hw : Region.wanted o (yielded ops a.tmps) = true := by simp [Region.wanted, hgd]
  rw [if_pos hw]
  unfold Oper.wp execOp
  simp only [ho, resolve, invoke, builtin, Sem.run_bind, Sem.run_pure, Result.andThen_ok, List.map_toArray, List.map_cons, List.map_nil, hs, hx, hr1]
  exact h w1 h2 hg
end

set_option maxRecDepth 100000 in
set_option maxHeartbeats 8000000 in
theorem rleave_any (w : World) (room next : Int) (A : Option Addr) (n c : Nat) (ys : List FV) (wt : Int) (hr : RdF w (.slice A n c) ys) (hs : SmF (fls ys)) :
    Calls Try.prog 34 #[fv room next (.slice A n c), .int .i64 wt] w (OpPost w room next (leaveOp room next (fls ys) wt).1 [.int .i64 (leaveOp room next (fls ys) wt).2.1, .bool (leaveOp room next (fls ys) wt).2.2.1, .int .i64 (leaveOp room next (fls ys) wt).2.2.2]) := by
  have hl : ys.length = n := hr.len
  have hn : n ≤ 1000 := by have := hs.n; rw [← hl]; simpa [fls] using this
  have hal1 : Below w.heap.size w (w.alloc (.cells #[.int .i64 room, .int .i64 next, .slice A n c] 26)) := (Below.refl _ _).alloc (Nat.le_refl _) _
  have hal2 : Below w.heap.size w ((w.alloc (.cells #[.int .i64 room, .int .i64 next, .slice A n c] 26)).alloc (.cells #[.int .i64 0, .int .i64 0, .slice none 0 0] 26)) := hal1.alloc (by simp) _
  have x1 : ((w.alloc (.cells #[.int .i64 room, .int .i64 next, .slice A n c] 26)).alloc (.cells #[.int .i64 0, .int .i64 0, .slice none 0 0] 26)).heap[w.heap.size]? = some (.cells #[.int .i64 room, .int .i64 next, .slice A n c] 26 (0, 0)) := keep ((Below.refl _ _).alloc (Nat.le_refl _) _) (heap_alloc_new w _)
  have x2 : ((w.alloc (.cells #[.int .i64 room, .int .i64 next, .slice A n c] 26)).alloc (.cells #[.int .i64 0, .int .i64 0, .slice none 0 0] 26)).heap[w.heap.size + 1]? = some (.cells #[.int .i64 0, .int .i64 0, .slice none 0 0] 26 (0, 0)) := by
    have := heap_alloc_new (w.alloc (.cells #[.int .i64 room, .int .i64 next, .slice A n c] 26)) (.cells #[.int .i64 0, .int .i64 0, .slice none 0 0] 26)
    rwa [show (w.alloc (.cells #[.int .i64 room, .int .i64 next, .slice A n c] 26)).heap.size = w.heap.size + 1 by simp] at this
  have HR0 := Lib.hid hr
  have HR := Lib.hid (hr.below hal2)
  have HS := Lib.hid hs
  clear hal1 hr hs
  go_enter Try.func34, Try.ntmps34
  go_upto_region 1 with fail
  generalize (w.alloc (.cells #[.int .i64 room, .int .i64 next, .slice A n c] 26)).alloc (.cells #[.int .i64 0, .int .i64 0, .slice none 0 0] 26) = U at *
  have HX1 := Lib.hid x1
  have HX2 := Lib.hid x2
  have HAL := Lib.hid hal2
  clear x1 x2 hal2
  have z0 : U.cell? ⟨w.heap.size, 0, none⟩ = some (.int .i64 room) := box_at HX1.out 0 _ rfl
  have z1 : U.cell? ⟨w.heap.size, 1, none⟩ = some (.int .i64 next) := box_at HX1.out 1 _ rfl
  have z2 : U.cell? ⟨w.heap.size, 2, none⟩ = some (.slice A n c) := box_at HX1.out 2 _ rfl
  have c37 := Lib.hid (rown_any U room next A n c ys HR.out hn HS.out.w')
  go_upto_region 2 with (go_at_call 37; refine c37.out.mono ?_; rintro e w2 ⟨A2, n2, c2, zs, rfl, hfz, hO2, hb2⟩)
  have hS := rf_setup HAL.out HX1.out HX2.out hO2 hb2
  clear z0 z1 z2 hO2 hb2 HX1 HX2 HAL HR c37
  generalize w2.alloc (.cells #[.int .i64 room, .int .i64 next, .slice A2 n2 c2] 26) = W3 at *
  generalize w2.heap.size = t6 at *
  have HSS := Lib.hid hS
  have HFZ := Lib.hid hfz
  clear hS hfz
  have y0 : W3.cell? ⟨w.heap.size, 0, none⟩ = some (.int .i64 room) := box_at HSS.out.bx 0 _ rfl
  have y1 : W3.cell? ⟨w.heap.size, 1, none⟩ = some (.int .i64 next) := box_at HSS.out.bx 1 _ rfl
  have y2 : W3.cell? ⟨w.heap.size, 2, none⟩ = some (.slice A n c) := box_at HSS.out.bx 2 _ rfl
  have C36 := Lib.hid (rright_any W3 room next A n c ys (HR0.out.below HSS.out.bw) hn)
  cases hq : rightS room next (fls ys) with
  | false =>
    have HE := Lib.hid (leaveOp1 hq wt)
    have HQ := Lib.hid hq; clear hq
    go_upto_region 3 with (go_at_call 36; refine C36.out.mono ?_; rw [HQ.out]; rintro e w4 ⟨rfl, hb4⟩; have HS4 := Lib.hid (HSS.out.below hb4); clear hb4)
    clear y0 y1 y2 C36
    have y0 : w4.cell? ⟨t6, 0, none⟩ = some (.int .i64 room) := box_at HS4.out.tp 0 _ rfl
    have y1 : w4.cell? ⟨t6, 1, none⟩ = some (.int .i64 next) := box_at HS4.out.tp 1 _ rfl
    have y2 : w4.cell? ⟨t6, 2, none⟩ = some (.slice A2 n2 c2) := box_at HS4.out.tp 2 _ rfl
    have s0 : w4.cell? ⟨w.heap.size + 1, 0, none⟩ = some (.int .i64 0) := box_at HS4.out.bz 0 _ rfl
    have s1 : w4.cell? ⟨w.heap.size + 1, 1, none⟩ = some (.int .i64 0) := box_at HS4.out.bz 1 _ rfl
    have s2 : w4.cell? ⟨w.heap.size + 1, 2, none⟩ = some (.slice none 0 0) := box_at HS4.out.bz 2 _ rfl
    have sf := box_free HS4.out.bz
    go_wp2_with fail
    have hfin := ret_own (room := room) (next := next) HS4.out.ow HS4.out.bw HS4.out.bz (Nat.le_succ _)
    refine bodyPost_ret (v := .tuple #[fv room next (.slice A2 n2 c2), .int .i64 0, .bool false, .int .i64 1]) (by simp [results, Try.results34, go_sem, s0, s1, s2]) rfl ?_
    rw [HE.out]
    exact ⟨A2, n2, c2, zs, rfl, HFZ.out, hfin.1, hfin.2⟩
  | true =>
    have HQ := Lib.hid hq
    have C38 := Lib.hid (fun W (hb : Below w.heap.size w W) => rwaits_any W room next A n c ys wt (HR0.out.below hb) hn HS.out.w')
    go_upto_region 4 with (go_at_call 36; refine C36.out.mono ?_; rw [HQ.out]; rintro e w4 ⟨rfl, hb4⟩; have HS4 := Lib.hid (HSS.out.below hb4); clear hb4)
    clear y0 y1 y2 C36
    have y0 : w4.cell? ⟨w.heap.size, 0, none⟩ = some (.int .i64 room) := box_at HS4.out.bx 0 _ rfl
    have y1 : w4.cell? ⟨w.heap.size, 1, none⟩ = some (.int .i64 next) := box_at HS4.out.bx 1 _ rfl
    have y2 : w4.cell? ⟨w.heap.size, 2, none⟩ = some (.slice A n c) := box_at HS4.out.bx 2 _ rfl
    by_cases hwt : (waitsS (fls ys) wt).1 < 0
    · have HE := Lib.hid (leaveOp5 hq hwt)
      obtain ⟨i1, hi1⟩ : ∃ i1, (waitsS (fls ys) wt).1 = i1 := ⟨_, rfl⟩
      rw [hi1] at hwt
      have HI1 := Lib.hid hi1
      clear hi1 hq
      go_upto_region 6 with (go_at_call 38; refine (C38.out w4 HS4.out.bw).mono ?_; rw [HI1.out]; rintro e w5 ⟨rfl, hb5⟩; have HS5 := Lib.hid (HS4.out.below hb5); clear hb5)
      clear y0 y1 y2 C38
      have y0 : w5.cell? ⟨t6, 0, none⟩ = some (.int .i64 room) := box_at HS5.out.tp 0 _ rfl
      have y1 : w5.cell? ⟨t6, 1, none⟩ = some (.int .i64 next) := box_at HS5.out.tp 1 _ rfl
      have y2 : w5.cell? ⟨t6, 2, none⟩ = some (.slice A2 n2 c2) := box_at HS5.out.tp 2 _ rfl
      have s0 : w5.cell? ⟨w.heap.size + 1, 0, none⟩ = some (.int .i64 0) := box_at HS5.out.bz 0 _ rfl
      have s1 : w5.cell? ⟨w.heap.size + 1, 1, none⟩ = some (.int .i64 0) := box_at HS5.out.bz 1 _ rfl
      have s2 : w5.cell? ⟨w.heap.size + 1, 2, none⟩ = some (.slice none 0 0) := box_at HS5.out.bz 2 _ rfl
      have sf := box_free HS5.out.bz
      go_wp2_with fail
      have hfin := ret_own (room := room) (next := next) HS5.out.ow HS5.out.bw HS5.out.bz (Nat.le_succ _)
      refine bodyPost_ret (v := .tuple #[fv room next (.slice A2 n2 c2), .int .i64 0, .bool false, .int .i64 5]) (by simp [results, Try.results34, go_sem, s0, s1, s2]) rfl ?_
      rw [HE.out]
      exact ⟨A2, n2, c2, zs, rfl, HFZ.out, hfin.1, hfin.2⟩
    · obtain ⟨i, k, x, t, hw1, hx, ht, hti⟩ := waitsS_at hwt
      have HE := Lib.hid (leaveOp0 hq hw1 hx)
      have HW1 := Lib.hid hw1
      have HX := Lib.hid hx
      have HT := Lib.hid ht
      have hxw : x.ws.length ≤ 1000 := HS.out.w x (List.mem_of_getElem? hx)
      clear hwt hw1 hx ht hti hq
      go_upto_region 5 with (go_at_call 38; refine (C38.out w4 HS4.out.bw).mono ?_; rw [HW1.out]; rintro e w5 ⟨rfl, hb5⟩; have HS5 := Lib.hid (HS4.out.below hb5); clear hb5)
      clear y0 y1 y2 C38 HS4 HSS
      obtain ⟨S, hzk⟩ := fls_get HFZ.out HX.out
      obtain ⟨b, off, hA2, hlob, hF⟩ := HS5.out.ow.at_ hzk
      subst hA2
      obtain ⟨B, m, d⟩ := S
      have hzl0 : zs.length = n2 := HS5.out.ow.rd.len
      have hin : i < n2 := by have := (List.getElem?_eq_some_iff.1 hzk).1; omega
      have hn2 : n2 ≤ 1000 := by have := HS.out.n; have h2 := fls_len HFZ.out; omega
      have hwl : x.ws.length = m := hF.r.len
      have hkm : k < m := by have := (List.getElem?_eq_some_iff.1 HT.out).1; omega
      obtain ⟨b2, o2, hB, _, _, _⟩ := hF.r.tm HT.out
      subst hB
      have hO2 : OwE tenc 2 47 w5 w.heap.size (.slice (some ⟨b2, o2, none⟩) m d) x.ws := HS5.out.ow.r i _ hzk
      have hlo2 := hO2.lo b2 rfl
      obtain ⟨cu2, hcu2⟩ := hO2.typed b2 rfl
      obtain ⟨cu1, hcu1⟩ := HS5.out.ow.o.typed b rfl
      obtain ⟨_, _, hAf, _, _, hmd, _, _⟩ := hO2.form (by omega)
      obtain ⟨_, _, hAg, _, _, hnc2, _, _⟩ := HS5.out.ow.o.form (by omega)
      clear hAf hAg
      have hi0 : ¬ (i : Int) < 0 := by omega
      have hi1 : (i : Int) < (n2 : Int) := by omega
      have hk1 : (k : Int) < (m : Int) := by omega
      have hk9 : (k : Int) + 1 ≤ 1000 := by omega
      have hi9 : (i : Int) + 1 ≤ 1000 := by omega
      have q1 : (k : Int) + 1 ≤ (m : Int) := by omega
      have q2 : (m : Int) ≤ (d : Int) := by omega
      have q3 : (k : Int) ≤ (d : Int) := by omega
      have NB0 := Lib.hid (show ¬ w.heap.size = b from blocks_ne (show (26 : TypeId) ≠ 45 by decide) HS5.out.bx hcu1)
      have NB1 := Lib.hid (show ¬ w.heap.size + 1 = b from blocks_ne (show (26 : TypeId) ≠ 45 by decide) HS5.out.bz hcu1)
      have NB6 := Lib.hid (show ¬ t6 = b from blocks_ne (show (26 : TypeId) ≠ 45 by decide) HS5.out.tp hcu1)
      have NC0 := Lib.hid (show ¬ w.heap.size = b2 from blocks_ne (show (26 : TypeId) ≠ 47 by decide) HS5.out.bx hcu2)
      have NC1 := Lib.hid (show ¬ w.heap.size + 1 = b2 from blocks_ne (show (26 : TypeId) ≠ 47 by decide) HS5.out.bz hcu2)
      have NC6 := Lib.hid (show ¬ t6 = b2 from blocks_ne (show (26 : TypeId) ≠ 47 by decide) HS5.out.tp hcu2)
      have HLO2 := Lib.hid hlo2
      have HLOB := Lib.hid hlob
      have y2 : w5.cell? ⟨t6, 2, none⟩ = some (.slice (some ⟨b, off, none⟩) n2 c2) := box_at HS5.out.tp 2 _ rfl
      have k7 : w5.cell? ⟨b, off + i * 8 + 7, none⟩ = some (.slice (some ⟨b2, o2, none⟩) m d) := hF.c7
      have HZK := Lib.hid hzk
      obtain ⟨i47, hi47⟩ : ∃ i, Try.prog.info? 47 = some i := by
        cases h : Try.prog.info? 47 with
        | none => have := Try.info47; rw [h] at this; simp at this
        | some i => exact ⟨i, rfl⟩
      have hsz47 : i47.size = 2 := by have := Try.info47; rw [hi47] at this; simp only [Option.map_some, Option.some.injEq, Prod.mk.injEq] at this; exact this.2.1
      have hsl := cut_from (P := Try.prog) 43 47 .i64 Try.underlying43 hi47 2 hsz47 (some ⟨b2, o2, none⟩) m d ((k : Int) + 1) (by omega) (by omega)
      rw [show ((k : Int) + 1).toNat = k + 1 by omega] at hsl
      have htk := hO2.take k (by omega)
      have hdr := (hO2.drop (k + 1) (by omega)).rd
      generalize (if d = k + 1 then (some (⟨b2, o2, none⟩ : Addr)) else (some (⟨b2, o2, none⟩ : Addr)).map (fun x => x.add ((k + 1) * 2))) = A6 at hsl hdr
      have HTK := Lib.hid htk
      have HDR := Lib.hid hdr
      have hdl := hdr.len
      clear hi47 hsz47 htk hdr hzk hF hO2 hcu1 hcu2 hlo2 hlob
      go_upto_region 8 with fail
      have hd : Below w5.heap.size w5 w5.drew := below_drew (Below.refl _ _)
      go_cut [] from 32 to 49 (fun wx => Aside (RfS w wx t6 room next (.slice A n c) (.slice (some ⟨b, off, none⟩) n2 c2) (zs.set i ({ x with ws := cutAt x.ws k }, ⟨some ⟨b2, o2, none⟩, m - 1, d⟩))))
      case first =>
        have hkw : IntKind.i64.wrap ((k : Int) + 1) = (k : Int) + 1 := by rw [IntKind.wrap_i64]; omega
        go_region_law (refine wp_app_stepE_room w.heap.size rfl _ _ 43 47 (.agg #[.int .i64 0, .int .i64 0]) 16 rfl Try.underlying43 Try.info47 (by omega) (b := b2) (off := o2) (n := k) (c := d) (.slice A6 (m - (k + 1)) (d - (k + 1))) (x.ws.take k) (x.ws.drop (k + 1)) (by rfl) (by rfl) (HTK.out.below hd) (HDR.out.below hd) tenc1 (by omega) ?_; intro w8 hO8 hg8; rw [hdl, show k + (m - (k + 1)) = m - 1 by omega] at hO8; rw [hdl, show k + (m - (k + 1)) = m - 1 by omega]; have HO8 := Lib.hid hO8; have HG8 := Lib.hid (show w5.grownBy w8 (some b2) from ⟨hg8.os, hg8.tape, hg8.output, hg8.size, hg8.block⟩); have z8 := (OwF.cell7 HS5.out.ow HZK.out HG8.out).1; have f8 := (OwF.cell7 HS5.out.ow HZK.out HG8.out).2; clear hO8 hg8 k7 y2)
        all_goals go_wp2_with fail
        all_goals go_meet
        all_goals
          clear hsl hd hkw
          have hown := HS5.out.ow.delW HZK.out HO8.out HG8.out
          have nh : ∀ {j : Nat}, j ≠ b2 → j ≠ b → j < w5.heap.size → (w8.setCell ⟨b, off + i * 8 + 7, none⟩ (.slice (some ⟨b2, o2, none⟩) (m - 1) d)).heap[j]? = w5.heap[j]? := fun h1 h2 h3 => by
            rw [Below.heap_setCell _ _ _ _ h2]
            exact HG8.out.block _ h3 (by simpa using h1)
          refine (show Aside (RfS w _ t6 room next _ _ _) from (?_ : RfS w _ t6 room next _ _ _))
          exact ⟨(nh NC0.out NB0.out (Array.getElem?_eq_some_iff.1 HS5.out.bx).1).trans HS5.out.bx, (nh NC1.out NB1.out (Array.getElem?_eq_some_iff.1 HS5.out.bz).1).trans HS5.out.bz, (nh NC6.out NB6.out (Array.getElem?_eq_some_iff.1 HS5.out.tp).1).trans HS5.out.tp, hown, (HS5.out.bw.grown HG8.out HS5.out.bw.size (fun q hq => by cases hq; exact HLO2.out)).setCell HLOB.out _, HS5.out.t6⟩
      case rest =>
        have HS7 := Lib.hid hcut.out
        have HFS := Lib.hid (fls_set HFZ.out i { x with ws := cutAt x.ws k } ⟨some ⟨b2, o2, none⟩, m - 1, d⟩)
        clear hcut y2 k7 hsl hd
        have hzk7 : (zs.set i ({ x with ws := cutAt x.ws k }, (⟨some ⟨b2, o2, none⟩, m - 1, d⟩ : Sl)))[i]? = some ({ x with ws := cutAt x.ws k }, (⟨some ⟨b2, o2, none⟩, m - 1, d⟩ : Sl)) := List.getElem?_set_self (by omega)
        have k2 : wc.cell? ⟨b, off + i * 8 + 2, none⟩ = some (.int .i64 x.id) := (HS7.out.ow.cell hzk7 (j := 2) rfl).1
        have k7 : wc.cell? ⟨b, off + i * 8 + 7, none⟩ = some (.slice (some ⟨b2, o2, none⟩) (m - 1) d) := (HS7.out.ow.cell hzk7 (j := 7) rfl).1
        have hcl := cutAt_len (xs := x.ws) (k := k) (hwl.symm ▸ hkm)
        clear hzk7
        by_cases hm1 : m = 1
        · have HE2 := Lib.hid (HE.out.trans (if_pos (by omega)))
          have hmz : ¬ (0 : Int) < ((m - 1 : Nat) : Int) := by omega
          have y2 : wc.cell? ⟨t6, 2, none⟩ = some (.slice (some ⟨b, off, none⟩) n2 c2) := box_at HS7.out.tp 2 _ rfl
          have q4 : (i : Int) + 1 ≤ (n2 : Int) := by omega
          have q5 : (n2 : Int) ≤ (c2 : Int) := by omega
          have q6 : (i : Int) ≤ (c2 : Int) := by omega
          obtain ⟨i45, hi45⟩ : ∃ i, Try.prog.info? 45 = some i := by
            cases h : Try.prog.info? 45 with
            | none => have := Try.info45; rw [h] at this; simp at this
            | some i => exact ⟨i, rfl⟩
          have hsz45 : i45.size = 8 := by have := Try.info45; rw [hi45] at this; simp only [Option.map_some, Option.some.injEq, Prod.mk.injEq] at this; exact this.2.1
          have hsl := cut_from (P := Try.prog) 24 45 .i64 Try.underlying24 hi45 8 hsz45 (some ⟨b, off, none⟩) n2 c2 ((i : Int) + 1) (by omega) (by omega)
          rw [show ((i : Int) + 1).toNat = i + 1 by omega] at hsl
          have htk := HS7.out.ow.o.take i (by omega)
          have hdr := (HS7.out.ow.o.drop (i + 1) (by omega)).rd
          generalize (if c2 = i + 1 then (some (⟨b, off, none⟩ : Addr)) else (some (⟨b, off, none⟩ : Addr)).map (fun x => x.add ((i + 1) * 8))) = A7 at hsl hdr
          have HTK2 := Lib.hid htk
          have HDR2 := Lib.hid hdr
          have hdl2 := hdr.len
          clear hi45 hsz45 htk hdr hm1 hcl
          go_upto_region 12 with fail
          have hd2 : Below wc.heap.size wc wc.drew := below_drew (Below.refl _ _)
          have hiw : IntKind.i64.wrap ((i : Int) + 1) = (i : Int) + 1 := by rw [IntKind.wrap_i64]; omega
          go_region_law (refine wp_app_stepE_room w.heap.size rfl _ _ 24 45 (.agg #[.string ⟨#[]⟩, .bool false, .int .i64 0, .int .i64 0, .string ⟨#[]⟩, .int .i64 0, .bool false, .slice none 0 0]) 96 rfl Try.underlying24 Try.info45 (by omega) (b := b) (off := off) (n := i) (c := c2) (.slice A7 (n2 - (i + 1)) (c2 - (i + 1))) _ _ (by rfl) (by rfl) (HTK2.out.below hd2) (HDR2.out.below hd2) fenc1 (by omega) ?_; intro w9 hO9 hg9; rw [hdl2, show i + (n2 - (i + 1)) = n2 - 1 by omega] at hO9; rw [hdl2, show i + (n2 - (i + 1)) = n2 - 1 by omega]; have HO9 := Lib.hid hO9; have HG9 := Lib.hid (show wc.grownBy w9 (some b) from ⟨hg9.os, hg9.tape, hg9.output, hg9.size, hg9.block⟩); have hx9 : w9.heap[t6]? = some (.cells #[.int .i64 room, .int .i64 next, .slice (some ⟨b, off, none⟩) n2 c2] 26 (0, 0)) := (HG9.out.block _ (Array.getElem?_eq_some_iff.1 HS7.out.tp).1 (fun he => NB6.out (Option.some.inj he))).trans HS7.out.tp; have z9 : w9.cell? ⟨t6, 2, none⟩ = some (.slice (some ⟨b, off, none⟩) n2 c2) := box_at hx9 2 _ rfl; have f9 : w9.frozen? ⟨t6, 2, none⟩ = false := box_free hx9 2; have HX9 := Lib.hid hx9; clear hO9 hg9 hx9 y2 k2 k7)
          all_goals
            clear hsl hd2 hiw
            go_upto_region 13 with fail
            have hown := HS7.out.ow.del i HO9.out HG9.out
            have hbz9 : w9.heap[w.heap.size + 1]? = _ := (HG9.out.block _ (Array.getElem?_eq_some_iff.1 HS7.out.bz).1 (fun he => NB1.out (Option.some.inj he))).trans HS7.out.bz
            have hbx9 : w9.heap[w.heap.size]? = _ := (HG9.out.block _ (Array.getElem?_eq_some_iff.1 HS7.out.bx).1 (fun he => NB0.out (Option.some.inj he))).trans HS7.out.bx
            have ht6 := HS7.out.t6
            have hS9 : RfS w (w9.setCell ⟨t6, 2, none⟩ (.slice (some ⟨b, off, none⟩) (n2 - 1) c2)) t6 room next (.slice A n c) (.slice (some ⟨b, off, none⟩) (n2 - 1) c2) _ :=
              ⟨(Below.heap_setCell _ _ _ _ (by simp; omega)).trans hbx9, (Below.heap_setCell _ _ _ _ (by simp; omega)).trans hbz9, bx_set HX9.out, OwF.far hown HX9.out (by decide) (by decide) _ _, (HS7.out.bw.grown HG9.out HS7.out.bw.size (fun q hq => by cases hq; exact HLOB.out)).setCell (by simp; omega) _, ht6⟩
            have HS9 := Lib.hid hS9
            have hfz9 : fls (cutAt (zs.set i ({ x with ws := cutAt x.ws k }, (⟨some ⟨b2, o2, none⟩, m - 1, d⟩ : Sl))) i) = cutAt (fls ys) i := by
              unfold fls
              rw [cutAt_map]
              have := HFS.out
              unfold fls at this
              rw [this, cutAt_set]
            have HF9 := Lib.hid hfz9
            clear hown hbz9 hbx9 hS9 z9 f9 hfz9
            generalize w9.setCell ⟨t6, 2, none⟩ (.slice (some ⟨b, off, none⟩) (n2 - 1) c2) = W9 at *
            have y0 : W9.cell? ⟨t6, 0, none⟩ = some (.int .i64 room) := box_at HS9.out.tp 0 _ rfl
            have y1 : W9.cell? ⟨t6, 1, none⟩ = some (.int .i64 next) := box_at HS9.out.tp 1 _ rfl
            have y2 : W9.cell? ⟨t6, 2, none⟩ = some (.slice (some ⟨b, off, none⟩) (n2 - 1) c2) := box_at HS9.out.tp 2 _ rfl
            have s0 : W9.cell? ⟨w.heap.size + 1, 0, none⟩ = some (.int .i64 0) := box_at HS9.out.bz 0 _ rfl
            have s1 : W9.cell? ⟨w.heap.size + 1, 1, none⟩ = some (.int .i64 0) := box_at HS9.out.bz 1 _ rfl
            have s2 : W9.cell? ⟨w.heap.size + 1, 2, none⟩ = some (.slice none 0 0) := box_at HS9.out.bz 2 _ rfl
            have sf := box_free HS9.out.bz
            go_wp2_with fail
            have hfin := ret_own (room := room) (next := next) HS9.out.ow HS9.out.bw HS9.out.bz (Nat.le_succ _)
            refine bodyPost_ret (v := .tuple #[fv room next (.slice (some ⟨b, off, none⟩) (n2 - 1) c2), .int .i64 x.id, .bool true, .int .i64 0]) (by simp [results, Try.results34, go_sem, s0, s1, s2]) rfl ?_
            rw [HE2.out]
            exact ⟨_, n2 - 1, c2, _, rfl, HF9.out, hfin.1, hfin.2⟩
        · have HE2 := Lib.hid (HE.out.trans (if_neg (by omega)))
          have hmz : (0 : Int) < ((m - 1 : Nat) : Int) := by omega
          have y0 : wc.cell? ⟨t6, 0, none⟩ = some (.int .i64 room) := box_at HS7.out.tp 0 _ rfl
          have y1 : wc.cell? ⟨t6, 1, none⟩ = some (.int .i64 next) := box_at HS7.out.tp 1 _ rfl
          have y2 : wc.cell? ⟨t6, 2, none⟩ = some (.slice (some ⟨b, off, none⟩) n2 c2) := box_at HS7.out.tp 2 _ rfl
          have s0 : wc.cell? ⟨w.heap.size + 1, 0, none⟩ = some (.int .i64 0) := box_at HS7.out.bz 0 _ rfl
          have s1 : wc.cell? ⟨w.heap.size + 1, 1, none⟩ = some (.int .i64 0) := box_at HS7.out.bz 1 _ rfl
          have s2 : wc.cell? ⟨w.heap.size + 1, 2, none⟩ = some (.slice none 0 0) := box_at HS7.out.bz 2 _ rfl
          have sf := box_free HS7.out.bz
          go_wp2_with fail
          have hfin := ret_own (room := room) (next := next) HS7.out.ow HS7.out.bw HS7.out.bz (Nat.le_succ _)
          refine bodyPost_ret (v := .tuple #[fv room next (.slice (some ⟨b, off, none⟩) n2 c2), .int .i64 x.id, .bool false, .int .i64 0]) (by simp [results, Try.results34, go_sem, s0, s1, s2]) rfl ?_
          rw [HE2.out]
          exact ⟨_, n2, c2, _, rfl, HFS.out, hfin.1, hfin.2⟩
end Go.Proofs.Ytipjhokhflokmaa
