/- flight.Fail (printed by mkAB.py). -/
import Derived.Test.YtipjhokhflokmaaAA
set_option linter.unusedVariables false
set_option linter.unusedSimpArgs false
namespace Go.Proofs.Ytipjhokhflokmaa
open Go.RowKit Go.Maps
open Go.Proofs.YtipjhokhflokmaaW.PrintWords

theorem OfS.below {w W W1 : World} {t6 : Nat} {room next : Int} {V : Value} {zs : List FV} {pa : Option Addr} (h : OfS w W t6 room next V zs pa) (hb : Below W.heap.size W W1) : OfS w W1 t6 room next V zs pa :=
  ⟨keep hb h.bx, keep hb h.bz, keep hb h.tp, h.ow.below hb, h.bw.trans (hb.mono h.bw.size), h.t6⟩
theorem OfS.put {w W W1 : World} {b n c t6 : Nat} {A : Option Addr} {room next : Int} {cs : Array Value} {pa : Option Addr} {zs zs' : List FV} (h : OfS w W t6 room next (.slice A n c) zs pa) {j : Nat} {v : Value} (hW : W1 = W.setCell ⟨b, j, none⟩ v) (hb : W.heap[b]? = some (.cells cs 45 (0, 0))) (hlo : w.heap.size ≤ b) (ho : OwF W1 w.heap.size (.slice A n c) zs') : OfS w W1 t6 room next (.slice A n c) zs' pa := by
  subst hW
  have nb : ∀ {k : Nat} {cs : Array Value} {T : TypeId}, T ≠ 45 → W.heap[k]? = some (.cells cs T (0, 0)) → (W.setCell ⟨b, j, none⟩ v).heap[k]? = some (.cells cs T (0, 0)) := fun hT hk => by
    rw [Below.heap_setCell _ _ _ _ (blocks_ne hT hk hb)]
    exact hk
  exact ⟨nb (by decide) h.bx, nb (by decide) h.bz, nb (by decide) h.tp, ho, h.bw.setCell hlo _, h.t6⟩
theorem ints_far {w : World} {base : Nat} {V : Value} {xs : List Int} (h : OwE ienc 1 3 w base V xs) {b : Nat} {cs : Array Value} {T : TypeId} (hb : w.heap[b]? = some (.cells cs T (0, 0))) (hT : T ≠ 3) (j : Nat) (u : Value) : OwE ienc 1 3 (w.setCell ⟨b, j, none⟩ u) base V xs :=
  h.far (fun k hk => by
    obtain ⟨cur, hcur⟩ := h.typed k hk
    exact blocks_ne (Ne.symm hT) hcur hb) _
theorem ints_st3 {w : World} {base b : Nat} {V' : Value} {xs : List Int} {cs : Array Value} {r x V : Value} (h : OwE ienc 1 3 w base V' xs) (hb : w.heap[b]? = some (.cells cs 26 (0, 0))) : OwE ienc 1 3 (st3 w b r x V) base V' xs :=
  ints_far (ints_far (ints_far h hb (by decide) _ _) (heap_set hb _) (by decide) _ _) (heap_set (heap_set hb _) _) (by decide) _ _
/-- may a flight begin anew? -/
def freshB (most : Int) (x : Fl) : Bool := decide (x.base = 0) && (!x.done && (decide (x.tries < min most 5) && !(x.ws.any (fun t => decide (0 < t.at')))))
def failOp (room next : Int) (fs : List Fl) (id most : Int) : List Fl × List Int × Bool × Int :=
  if rightS room next fs = false then (fs, [], false, 1) else if findF fs id < 0 then (fs, [], false, 5) else
  match fs[(findF fs id).toNat]? with
  | none => (fs, [], false, 5)
  | some x => if freshB most x = true then (fs.set (findF fs id).toNat { x with data := [], tries := x.tries + 1 }, [], true, 0) else (cutAt fs (findF fs id).toNat, x.ws.map Tm.id, false, 0)
theorem failOp1 {room next : Int} {fs : List Fl} (h : rightS room next fs = false) (id most : Int) : failOp room next fs id most = (fs, [], false, 1) := if_pos h
theorem failOp5 {room next : Int} {fs : List Fl} (h : rightS room next fs = true) {id : Int} (hf : findF fs id < 0) (most : Int) : failOp room next fs id most = (fs, [], false, 5) := by unfold failOp; rw [if_neg (by rw [h]; decide), if_pos hf]
theorem failOp0 {room next : Int} {fs : List Fl} (h : rightS room next fs = true) {id : Int} {k : Nat} {x : Fl} (hf : findF fs id = (k : Int)) (hx : fs[k]? = some x) (most : Int) :
    failOp room next fs id most = if freshB most x = true then (fs.set k { x with data := [], tries := x.tries + 1 }, [], true, 0) else (cutAt fs k, x.ws.map Tm.id, false, 0) := by
  unfold failOp
  rw [if_neg (by rw [h]; decide), hf, if_neg (by omega), Int.toNat_natCast, hx]
/-- what Fail leaves -/
def FailPost (w : World) (room next : Int) (r : List Fl × List Int × Bool × Int) (e : Ending) (w' : World) : Prop :=
  ∃ A n c zs L l d, e = .returned (.tuple #[fv room next (.slice A n c), .slice L l d, .bool r.2.2.1, .int .i64 r.2.2.2]) ∧ fls zs = r.1 ∧ OwF w' w.heap.size (.slice A n c) zs ∧ OwE ienc 1 3 w' w.heap.size (.slice L l d) r.2.1 ∧ Below w.heap.size w w'

set_option maxRecDepth 100000 in
set_option maxHeartbeats 8000000 in
theorem fail_any (w : World) (room next : Int) (A : Option Addr) (n c : Nat) (ys : List FV) (id most : Int) (hr : RdF w (.slice A n c) ys) (hs : SmF (fls ys)) :
    Calls Try.prog 19 #[fv room next (.slice A n c), .int .i64 id, .int .i64 most] w (FailPost w room next (failOp room next (fls ys) id most)) := by
  have hl : ys.length = n := hr.len
  have hn : n ≤ 1000 := by have := hs.n; rw [← hl]; simpa [fls] using this
  have hal1 : Below w.heap.size w (w.alloc (.cells #[.int .i64 room, .int .i64 next, .slice A n c] 26)) := (Below.refl _ _).alloc (Nat.le_refl _) _
  have hal2 : Below w.heap.size w ((w.alloc (.cells #[.int .i64 room, .int .i64 next, .slice A n c] 26)).alloc (.cells #[.int .i64 0, .int .i64 0, .slice none 0 0] 26)) := hal1.alloc (by simp) _
  have x1 : ((w.alloc (.cells #[.int .i64 room, .int .i64 next, .slice A n c] 26)).alloc (.cells #[.int .i64 0, .int .i64 0, .slice none 0 0] 26)).heap[w.heap.size]? = some (.cells #[.int .i64 room, .int .i64 next, .slice A n c] 26 (0, 0)) := keep ((Below.refl _ _).alloc (Nat.le_refl _) _) (heap_alloc_new w _)
  have x2 : ((w.alloc (.cells #[.int .i64 room, .int .i64 next, .slice A n c] 26)).alloc (.cells #[.int .i64 0, .int .i64 0, .slice none 0 0] 26)).heap[w.heap.size + 1]? = some (.cells #[.int .i64 0, .int .i64 0, .slice none 0 0] 26 (0, 0)) := by
    have := heap_alloc_new (w.alloc (.cells #[.int .i64 room, .int .i64 next, .slice A n c] 26)) (.cells #[.int .i64 0, .int .i64 0, .slice none 0 0] 26)
    rwa [show (w.alloc (.cells #[.int .i64 room, .int .i64 next, .slice A n c] 26)).heap.size = w.heap.size + 1 by simp] at this
  have HR0 := Lib.hid hr
  have HR := Lib.hid (hr.below hal2)
  have HS := Lib.hid hs
  clear hal1 hr hs
  go_enter Try.func19, Try.ntmps19
  go_upto_region 1 with fail
  generalize (w.alloc (.cells #[.int .i64 room, .int .i64 next, .slice A n c] 26)).alloc (.cells #[.int .i64 0, .int .i64 0, .slice none 0 0] 26) = U at *
  have HX1 := Lib.hid x1
  have HX2 := Lib.hid x2
  have HAL := Lib.hid hal2
  clear x1 x2 hal2
  have z0 : U.cell? ⟨w.heap.size, 0, none⟩ = some (.int .i64 room) := box_at HX1.out 0 _ rfl
  have z1 : U.cell? ⟨w.heap.size, 1, none⟩ = some (.int .i64 next) := box_at HX1.out 1 _ rfl
  have z2 : U.cell? ⟨w.heap.size, 2, none⟩ = some (.slice A n c) := box_at HX1.out 2 _ rfl
  have c26 := Lib.hid (of_any2 U room next A n c ys id HR.out HS.out)
  go_upto_region 2 with (go_at_call 26; refine c26.out.mono ?_; rintro e w2 ⟨A2, n2, c2, zs, pa, er, rfl, hfz, hO2, hb2, hcase⟩; have hb2a : Below U.heap.size U (w2.alloc (.cells #[.pointer none] 61)) := hb2.alloc hb2.size _; have hO2a := hO2.below (((Below.refl _ _).alloc (Nat.le_refl _) (.cells #[.pointer none] 61))); have y0 : (w2.alloc (.cells #[.pointer none] 61)).cell? ⟨w.heap.size, 0, none⟩ = some (.int .i64 room) := box_at (keep hb2a HX1.out) 0 _ rfl; have y1 : (w2.alloc (.cells #[.pointer none] 61)).cell? ⟨w.heap.size, 1, none⟩ = some (.int .i64 next) := box_at (keep hb2a HX1.out) 1 _ rfl; have y2 : (w2.alloc (.cells #[.pointer none] 61)).cell? ⟨w.heap.size, 2, none⟩ = some (.slice A n c) := box_at (keep hb2a HX1.out) 2 _ rfl; have yf : ∀ j, (w2.alloc (.cells #[.pointer none] 61)).frozen? ⟨w.heap.size, j, none⟩ = false := box_free (keep hb2a HX1.out); have hx6 := heap_alloc_new w2 (.cells #[.pointer none] 61); have hs2 := hb2.size; have ne6 : ¬ w2.heap.size = w.heap.size := (by have := HAL.out.size; have := (Array.getElem?_eq_some_iff.1 HX2.out).1; omega))
  have hS := of_setup pa HAL.out HX1.out HX2.out hO2 hb2
  clear y0 y1 y2 yf z0 z1 z2 hO2 hb2 hb2a hO2a hx6 hs2 ne6 HX1 HX2 HAL HR c26
  unfold st3 at hS
  generalize ((((w2.alloc (.cells #[.pointer none] 61)).setCell ⟨w.heap.size, 0, none⟩ (.int .i64 room)).setCell ⟨w.heap.size, 1, none⟩ (.int .i64 next)).setCell ⟨w.heap.size, 2, none⟩ (.slice A2 n2 c2)).setCell ⟨w2.heap.size, 0, none⟩ (.pointer pa) = W3 at *
  generalize w2.heap.size = t6 at *
  have HSS := Lib.hid hS
  have HFZ := Lib.hid hfz
  clear hS hfz
  have y0 : W3.cell? ⟨w.heap.size, 0, none⟩ = some (.int .i64 room) := box_at HSS.out.bx 0 _ rfl
  have y1 : W3.cell? ⟨w.heap.size, 1, none⟩ = some (.int .i64 next) := box_at HSS.out.bx 1 _ rfl
  have y2 : W3.cell? ⟨w.heap.size, 2, none⟩ = some (.slice A2 n2 c2) := box_at HSS.out.bx 2 _ rfl
  have s0 : W3.cell? ⟨w.heap.size + 1, 0, none⟩ = some (.int .i64 0) := box_at HSS.out.bz 0 _ rfl
  have s1 : W3.cell? ⟨w.heap.size + 1, 1, none⟩ = some (.int .i64 0) := box_at HSS.out.bz 1 _ rfl
  have s2 : W3.cell? ⟨w.heap.size + 1, 2, none⟩ = some (.slice none 0 0) := box_at HSS.out.bz 2 _ rfl
  have sf := box_free HSS.out.bz
  have p0 : W3.cell? ⟨t6, 0, none⟩ = some (.pointer pa) := box_at HSS.out.tp 0 _ rfl
  rcases hcase with ⟨hq, rfl, rfl⟩ | ⟨hq, hf, rfl, rfl⟩ | ⟨hq, b, off, k, x, rfl, hf, hx, hpi, rfl, rfl⟩
  · have HE := Lib.hid (failOp1 hq id most)
    go_wp2_with fail
    have hfin := ret_own (room := room) (next := next) HSS.out.ow HSS.out.bw HSS.out.bz (Nat.le_succ _)
    refine bodyPost_ret (v := .tuple #[fv room next (.slice A2 n2 c2), .slice none 0 0, .bool false, .int .i64 1]) (by simp [results, Try.results19, go_sem, s0, s1, s2]) rfl ?_
    rw [HE.out]
    exact ⟨A2, n2, c2, zs, none, 0, 0, rfl, HFZ.out, hfin.1, OwE.nil iencL _ _ _, hfin.2⟩
  · have HE := Lib.hid (failOp5 hq hf most)
    clear hf
    go_wp2_with fail
    have hfin := ret_own (room := room) (next := next) HSS.out.ow HSS.out.bw HSS.out.bz (Nat.le_succ _)
    refine bodyPost_ret (v := .tuple #[fv room next (.slice A2 n2 c2), .slice none 0 0, .bool false, .int .i64 5]) (by simp [results, Try.results19, go_sem, s0, s1, s2]) rfl ?_
    rw [HE.out]
    exact ⟨A2, n2, c2, zs, none, 0, 0, rfl, HFZ.out, hfin.1, OwE.nil iencL _ _ _, hfin.2⟩
  · have HE := Lib.hid (failOp0 hq hf hx most)
    have hf' : findG (fun x => x.id == id) (fls ys) = (k : Int) := hf
    have HK' := Lib.hid hf'
    have hxw : x.ws.length ≤ 1000 := HS.out.w x (List.mem_of_getElem? hx)
    have hrx := rightF_num (right_x hq hx)
    unfold badF at hrx
    have hxt : x.tries ≤ 5 := by omega
    have hxt1 : 1 ≤ x.tries := by omega
    obtain ⟨S, hzk⟩ := fls_get HFZ.out hx
    obtain ⟨b', off', hA2, hlob, hF⟩ := HSS.out.ow.at_ hzk
    injection hA2 with hA2
    injection hA2 with h1 h2
    subst h1; subst h2
    obtain ⟨B, m, d⟩ := S
    have hzl0 : zs.length = n2 := HSS.out.ow.rd.len
    have hkn : k < n2 := by have := (List.getElem?_eq_some_iff.1 hzk).1; omega
    have hn2 : n2 ≤ 1000 := by have := HS.out.n; have h2 := fls_len HFZ.out; omega
    obtain ⟨cu1, hcu1⟩ := HSS.out.ow.o.typed b rfl
    have NB0 := Lib.hid (show ¬ w.heap.size = b from blocks_ne (show (26 : TypeId) ≠ 45 by decide) HSS.out.bx hcu1)
    have NB1 := Lib.hid (show ¬ w.heap.size + 1 = b from blocks_ne (show (26 : TypeId) ≠ 45 by decide) HSS.out.bz hcu1)
    have NB6 := Lib.hid (show ¬ t6 = b from blocks_ne (show (61 : TypeId) ≠ 45 by decide) HSS.out.tp hcu1)
    have HLOB := Lib.hid hlob
    have HCU := Lib.hid hcu1
    have k3 : W3.cell? ⟨b, off + k * 8 + 3, none⟩ = some (.int .i64 x.base) := hF.c3
    have k5 : W3.cell? ⟨b, off + k * 8 + 5, none⟩ = some (.int .i64 x.tries) := hF.c5
    have k6 : W3.cell? ⟨b, off + k * 8 + 6, none⟩ = some (.bool x.done) := hF.c6
    have k7 : W3.cell? ⟨b, off + k * 8 + 7, none⟩ = some (.slice B m d) := hF.c7
    have hk1 : (k : Int) < (n2 : Int) := by omega
    have hk9 : (k : Int) + 1 ≤ 1000 := by omega
    have HZK := Lib.hid hzk
    have eg : ∀ args w, (callFunc 39 args).run Try.prog w = .ok (.enter 39 args) w := enters_of Try.func39 (by kernel_rfl) rfl
    have C40 := Lib.hid (containsFunc_tms 39 #[] eg (fun t => decide (0 < t.at')) W3 (.slice B m d) x.ws hF.r (begun_any W3))
    clear hf hx hpi hq hrx hzk hF hcu1 hlob hf'
    go_upto_region 5 with fail
    go_cut [59] from 26 to 59 (fun s59 wx => s59 = .bool (freshB most x) ∧ Aside (OfS w wx t6 room next (.slice (some ⟨b, off, none⟩) n2 c2) zs (some ⟨b, off + k * 8, none⟩)))
    case first =>
      by_cases e1 : x.base = 0
      · have e1b : (x.base == 0) = true := by simpa using e1
        cases e2 : x.done with
        | true =>
          have hv := Lib.hid (show freshB most x = false by unfold freshB; rw [e2]; simp)
          rw [e2] at k6
          clear e1 e2 C40
          go_wp2_with fail
          go_meet
          exact ⟨by rw [hv.out], HSS.out⟩
        | false =>
          rw [e2] at k6
          by_cases e3 : x.tries < min most 5
          · have e3a : x.tries < most := by omega
            have e3c : x.tries < 5 := by omega
            cases e4 : x.ws.any (fun t => decide (0 < t.at')) with
            | true =>
              have hv := Lib.hid (show freshB most x = false by unfold freshB; rw [e2, e4]; simp)
              have E4 := Lib.hid e4
              clear e1 e2 e3 e4
              go_wp2_with (go_at_call 40; refine C40.out.mono ?_; rw [E4.out]; rintro e w4 ⟨rfl, hb4⟩)
              all_goals go_meet
              all_goals exact ⟨by rw [hv.out], HSS.out.below hb4⟩
            | false =>
              have hv := Lib.hid (show freshB most x = true by unfold freshB; rw [e2, e4, decide_eq_true e1, decide_eq_true e3]; rfl)
              have E4 := Lib.hid e4
              clear e1 e2 e3 e4
              go_wp2_with (go_at_call 40; refine C40.out.mono ?_; rw [E4.out]; rintro e w4 ⟨rfl, hb4⟩)
              all_goals go_meet
              all_goals exact ⟨by rw [hv.out], HSS.out.below hb4⟩
          · have hv := Lib.hid (show freshB most x = false by unfold freshB; rw [decide_eq_false e3]; simp)
            have e3a : 5 ≤ most → ¬ x.tries < 5 := fun h => by omega
            clear e1 e2 C40
            by_cases e5 : most ≤ 5
            · have e6 : ¬ x.tries < most := by omega
              clear e3 e3a
              go_wp2_with fail
              all_goals go_meet
              all_goals exact ⟨by rw [hv.out], HSS.out⟩
            · have e6 : ¬ x.tries < 5 := by omega
              clear e3 e3a
              go_wp2_with fail
              all_goals go_meet
              all_goals exact ⟨by rw [hv.out], HSS.out⟩
      · have hv := Lib.hid (show freshB most x = false by unfold freshB; rw [decide_eq_false e1]; simp)
        have e1b : (x.base == 0) = false := by simpa using e1
        clear e1 C40
        go_wp2_with fail
        go_meet
        exact ⟨by rw [hv.out], HSS.out⟩
    case rest =>
      obtain ⟨rfl, hcut2⟩ := hcut
      have HS4 := Lib.hid hcut2.out
      clear hcut2 y0 y1 y2 s0 s1 s2 sf p0 k3 k5 k6 k7 C40
      have p0 : wc.cell? ⟨t6, 0, none⟩ = some (.pointer (some ⟨b, off + k * 8, none⟩)) := box_at HS4.out.tp 0 _ rfl
      cases hfr : freshB most x with
      | true =>
        have HE2 := Lib.hid (HE.out.trans (if_pos hfr))
        have k4 := HS4.out.ow.cell HZK.out (j := 4) (v := str x.data) rfl
        have f4 := k4.2
        replace k4 := k4.1
        clear hfr
        go_upto_region 7 with fail
        obtain ⟨cu4, hcu4⟩ := HS4.out.ow.o.typed b rfl
        have HS5 := Lib.hid (HS4.out.put rfl hcu4 HLOB.out (HS4.out.ow.put1 (x' := { x with data := [] }) HZK.out 4 (by decide) (v := str []) rfl rfl))
        have hzk5 : (zs.set k ({ x with data := [] }, (⟨B, m, d⟩ : Sl)))[k]? = some ({ x with data := [] }, (⟨B, m, d⟩ : Sl)) := List.getElem?_set_self (by omega)
        have HZK5 := Lib.hid hzk5
        clear k4 f4 p0 hcu4 hzk5
        change Code.wp _ _ _ _ (wc.setCell ⟨b, off + k * 8 + 4, none⟩ (str []))
        generalize wc.setCell ⟨b, off + k * 8 + 4, none⟩ (str []) = W5 at *
        have p0 : W5.cell? ⟨t6, 0, none⟩ = some (.pointer (some ⟨b, off + k * 8, none⟩)) := box_at HS5.out.tp 0 _ rfl
        have k5 := HS5.out.ow.cell HZK5.out (j := 5) (v := .int .i64 x.tries) rfl
        have f5 := k5.2
        replace k5 := k5.1
        go_upto_region 8 with fail
        obtain ⟨cu5, hcu5⟩ := HS5.out.ow.o.typed b rfl
        have HS6 := Lib.hid (HS5.out.put rfl hcu5 HLOB.out (HS5.out.ow.put1 (x' := { x with data := [], tries := x.tries + 1 }) HZK5.out 5 (by decide) (v := .int .i64 (x.tries + 1)) rfl rfl))
        have hfs : fls ((zs.set k ({ x with data := [] }, (⟨B, m, d⟩ : Sl))).set k ({ x with data := [], tries := x.tries + 1 }, (⟨B, m, d⟩ : Sl))) = (fls ys).set k { x with data := [], tries := x.tries + 1 } := by
          rw [fls_set (fls_set HFZ.out k _ _), List.set_set]
        have HFS := Lib.hid hfs
        clear k5 f5 p0 hcu5 hfs
        generalize W5.setCell ⟨b, off + k * 8 + 5, none⟩ (.int .i64 (x.tries + 1)) = W6 at *
        have y0 : W6.cell? ⟨w.heap.size, 0, none⟩ = some (.int .i64 room) := box_at HS6.out.bx 0 _ rfl
        have y1 : W6.cell? ⟨w.heap.size, 1, none⟩ = some (.int .i64 next) := box_at HS6.out.bx 1 _ rfl
        have y2 : W6.cell? ⟨w.heap.size, 2, none⟩ = some (.slice (some ⟨b, off, none⟩) n2 c2) := box_at HS6.out.bx 2 _ rfl
        have s0 : W6.cell? ⟨w.heap.size + 1, 0, none⟩ = some (.int .i64 0) := box_at HS6.out.bz 0 _ rfl
        have s1 : W6.cell? ⟨w.heap.size + 1, 1, none⟩ = some (.int .i64 0) := box_at HS6.out.bz 1 _ rfl
        have s2 : W6.cell? ⟨w.heap.size + 1, 2, none⟩ = some (.slice none 0 0) := box_at HS6.out.bz 2 _ rfl
        have sf := box_free HS6.out.bz
        go_wp2_with fail
        have hfin := ret_own (room := room) (next := next) HS6.out.ow HS6.out.bw HS6.out.bz (Nat.le_succ _)
        refine bodyPost_ret (v := .tuple #[fv room next (.slice (some ⟨b, off, none⟩) n2 c2), .slice none 0 0, .bool true, .int .i64 0]) (by simp [results, Try.results19, go_sem, s0, s1, s2]) rfl ?_
        rw [HE2.out]
        exact ⟨_, n2, c2, _, none, 0, 0, rfl, HFS.out, hfin.1, OwE.nil iencL _ _ _, hfin.2⟩
      | false =>
        have HE2 := Lib.hid (HE.out.trans (if_neg (by rw [hfr]; decide)))
        clear hfr
        obtain ⟨b', off', hA4, _, hF4⟩ := HS4.out.ow.at_ HZK.out
        injection hA4 with hA4
        injection hA4 with h1 h2
        subst h1; subst h2
        have hdr0 : Below wc.heap.size wc wc.drew := below_drew (Below.refl _ _)
        have HS4d := Lib.hid (HS4.out.below hdr0)
        have C29 := Lib.hid (ids_any wc.drew b (off + k * 8) (x, ⟨B, m, d⟩) (hF4.below hdr0) hxw)
        have C41 := Lib.hid (fun W (hO : OwF W w.heap.size (.slice (some ⟨b, off, none⟩) n2 c2) zs) => find_any W room next (some ⟨b, off, none⟩) n2 c2 zs id hO.rd)
        clear hF4 hdr0 p0
        go_upto_region 9 with fail
        refine wp_region_held_drew (S := fun W' => W'.cell? ⟨w.heap.size, 0, none⟩ = some (.int .i64 room) ∧ W'.cell? ⟨w.heap.size, 1, none⟩ = some (.int .i64 next) ∧ W'.cell? ⟨w.heap.size, 2, none⟩ = some (.slice (some ⟨b, off, none⟩) n2 c2) ∧ W'.cell? ⟨t6, 0, none⟩ = some (.pointer (some ⟨b, off + k * 8, none⟩))) (by kernel_rfl) (⟨box_at HS4.out.bx 0 _ rfl, box_at HS4.out.bx 1 _ rfl, box_at HS4.out.bx 2 _ rfl, box_at HS4.out.tp 0 _ rfl⟩) (fun hHeld => ?_)
        refine wpAnyH_take (i := 0) (oi := _) (v := ?v0a) rfl (by kernel_rfl) (by kernel_rfl) (by kernel_rfl) (fun _ _ _ h => h) (Or.inl ⟨by kernel_rfl, ?y0a⟩) (by assumption) ?r0a
        case y0a => (intro w hSw; (try dsimp only at hSw); go_simp; try (with_reducible rfl))
        case r0a =>
          simp only [List.getElem_toArray, List.getElem_cons_succ, List.getElem_cons_zero, Act.put, List.setIfInBounds_toArray, List.set_cons_zero, List.set_cons_succ]
          refine wpAnyH_take (i := 2) (oi := _) (v := ?v2a) rfl (by kernel_rfl) (by kernel_rfl) (by kernel_rfl) (fun _ _ _ h => h) (Or.inl ⟨by kernel_rfl, ?y2a⟩) (by assumption) ?r2a
          case y2a => (intro w hSw; (try dsimp only at hSw); go_simp; try (with_reducible rfl))
          case r2a =>
            simp only [List.getElem_toArray, List.getElem_cons_succ, List.getElem_cons_zero, Act.put, List.setIfInBounds_toArray, List.set_cons_zero, List.set_cons_succ]
            refine wpAnyH_take (i := 3) (oi := _) (v := ?v3a) rfl (by kernel_rfl) (by kernel_rfl) (by kernel_rfl) (fun _ _ _ h => h) (Or.inl ⟨by kernel_rfl, ?y3a⟩) (by assumption) ?r3a
            case y3a => (intro w hSw; (try dsimp only at hSw); go_simp; try (with_reducible rfl))
            case r3a =>
              simp only [List.getElem_toArray, List.getElem_cons_succ, List.getElem_cons_zero, Act.put, List.setIfInBounds_toArray, List.set_cons_zero, List.set_cons_succ]
              refine wpAnyH_ready (rs := [1]) (by kernel_rfl) (by simp) ?_
              refine AllReadyH.cons (o := _) rfl (fun K hK => ?_) AllReadyH.nil
              go_simp
              (go_at_call 29; refine C29.out.mono ?_; rintro e w5 ⟨L, l, dl, rfl, hL, hb5⟩; have HB5 := Lib.hid hb5; have HL5 := Lib.hid hL; have HS5 := Lib.hid (HS4d.out.below hb5); clear hb5 hL)
              go_wp2_with fail
              refine hK.out _ _ (by first | exact ⟨pw_cell_below HB6.out hHeld.1, pw_cell_below HB6.out hHeld.2.1, pw_cell_below HB6.out hHeld.2.2.1, pw_cell_below HB6.out hHeld.2.2.2⟩ | exact ⟨pw_cell_below HB5.out hHeld.1, pw_cell_below HB5.out hHeld.2.1, pw_cell_below HB5.out hHeld.2.2.1, pw_cell_below HB5.out hHeld.2.2.2⟩) (fun hHeld => ?_)
              clear hK K
              try simp only [List.getElem_toArray, List.getElem_cons_succ, List.getElem_cons_zero, Act.put, List.setIfInBounds_toArray, List.set_cons_zero, List.set_cons_succ]
              refine wpAnyH_ready (rs := [4]) (by kernel_rfl) (by simp) ?_
              refine AllReadyH.cons (o := _) rfl (fun K hK => ?_) AllReadyH.nil
              go_simp
              (go_at_call 41; refine (C41.out w5 HS5.out.ow).mono ?_; rw [HFZ.out, HK'.out]; rintro e w6 ⟨rfl, hb6⟩; have HB6 := Lib.hid hb6; have HL6 := Lib.hid (HL5.out.below hb6); have HS6 := Lib.hid (HS5.out.below hb6); clear hb6)
              go_wp2_with fail
              refine hK.out _ _ (by first | exact ⟨pw_cell_below HB6.out hHeld.1, pw_cell_below HB6.out hHeld.2.1, pw_cell_below HB6.out hHeld.2.2.1, pw_cell_below HB6.out hHeld.2.2.2⟩ | exact ⟨pw_cell_below HB5.out hHeld.1, pw_cell_below HB5.out hHeld.2.1, pw_cell_below HB5.out hHeld.2.2.1, pw_cell_below HB5.out hHeld.2.2.2⟩) (fun hHeld => ?_)
              clear hK K
              try simp only [List.getElem_toArray, List.getElem_cons_succ, List.getElem_cons_zero, Act.put, List.setIfInBounds_toArray, List.set_cons_zero, List.set_cons_succ]
              refine wpAnyH_take (i := 5) (oi := _) (v := ?v5a) rfl (by kernel_rfl) (by kernel_rfl) (by kernel_rfl) (fun _ _ _ h => h) (Or.inl ⟨by kernel_rfl, ?y5a⟩) (by assumption) ?r5a
              case y5a => (intro w hSw; (try dsimp only at hSw); go_simp; try (with_reducible rfl))
              case r5a =>
                simp only [List.getElem_toArray, List.getElem_cons_succ, List.getElem_cons_zero, Act.put, List.setIfInBounds_toArray, List.set_cons_zero, List.set_cons_succ]
                refine wpAnyH_take (i := 6) (oi := _) (v := ?v6a) rfl (by kernel_rfl) (by kernel_rfl) (by kernel_rfl) (fun _ _ _ h => h) (Or.inl ⟨by kernel_rfl, ?y6a⟩) (by assumption) ?r6a
                case y6a => (intro w hSw; (try dsimp only at hSw); go_simp; try (with_reducible rfl))
                case r6a =>
                  simp only [List.getElem_toArray, List.getElem_cons_succ, List.getElem_cons_zero, Act.put, List.setIfInBounds_toArray, List.set_cons_zero, List.set_cons_succ]
                  refine wpAnyH_done (by kernel_rfl) ?_ _
                  clear hHeld
                  have C42 := Lib.hid (deleteF_any w6 w.heap.size b off n2 c2 _ k HS6.out.ow.o hkn hn2)
                  have y2 : w6.cell? ⟨w.heap.size, 2, none⟩ = some (.slice (some ⟨b, off, none⟩) n2 c2) := box_at HS6.out.bx 2 _ rfl
                  have hlo6 : w.heap.size ≤ wc.drew.heap.size := HS4d.out.bw.size
                  clear HS5 HL5 HB5 HB6 C29 C41 HS4d
                  go_upto_region 11 with (go_at_call 42; refine C42.out.mono ?_; rintro e w8 ⟨rfl, hO8, hg8⟩; have hx8 : w8.heap[w.heap.size]? = some (.cells #[.int .i64 room, .int .i64 next, .slice (some ⟨b, off, none⟩) n2 c2] 26 (0, 0)) := (hg8.block _ (Array.getElem?_eq_some_iff.1 HS6.out.bx).1 (fun he => NB0.out (Option.some.inj he))).trans HS6.out.bx; have z8 : w8.cell? ⟨w.heap.size, 2, none⟩ = some (.slice (some ⟨b, off, none⟩) n2 c2) := box_at hx8 2 _ rfl; have zf8 := box_free hx8; have HO8 := Lib.hid hO8; have HG8 := Lib.hid hg8; have HX8 := Lib.hid hx8; clear hO8 hg8 hx8)
                  have hown := HS6.out.ow.del k HO8.out HG8.out
                  have hbz8 : w8.heap[w.heap.size + 1]? = _ := (HG8.out.block _ (Array.getElem?_eq_some_iff.1 HS6.out.bz).1 (fun he => NB1.out (Option.some.inj he))).trans HS6.out.bz
                  have hS9 : IpS w (w8.setCell ⟨w.heap.size, 2, none⟩ (.slice (some ⟨b, off, none⟩) (n2 - 1) c2)) room next (.slice (some ⟨b, off, none⟩) (n2 - 1) c2) _ :=
                    ⟨bx_set HX8.out, (Below.heap_setCell _ _ _ _ (by simp)).trans hbz8, OwF.far hown HX8.out (by decide) (by decide) _ _, (HS6.out.bw.grown HG8.out HS6.out.bw.size (fun q hq => by cases hq; exact HLOB.out)).setCell (Nat.le_refl _) _⟩
                  obtain ⟨cu6, hcu6⟩ := HS6.out.ow.o.typed b rfl
                  have hL8 : OwE ienc 1 3 w8 w.heap.size (.slice L l dl) (x.ws.map Tm.id) := (HL6.out.lower hlo6).grown HG8.out (fun q hq he => by
                    cases he
                    obtain ⟨cs, hcs⟩ := HL6.out.typed _ hq
                    exact blocks_ne (show (3 : TypeId) ≠ 45 by decide) hcs hcu6 rfl)
                  have HL9 := Lib.hid (ints_far hL8 HX8.out (by decide) 2 (.slice (some ⟨b, off, none⟩) (n2 - 1) c2))
                  have HS9 := Lib.hid hS9
                  have hfz9 : fls (cutAt zs k) = cutAt (fls ys) k := by
                    unfold fls
                    rw [cutAt_map]
                    have := HFZ.out
                    unfold fls at this
                    rw [this]
                  have HF9 := Lib.hid hfz9
                  clear hown hbz8 hS9 z8 zf8 y2 C42 hfz9 hL8 hcu6
                  generalize w8.setCell ⟨w.heap.size, 2, none⟩ (.slice (some ⟨b, off, none⟩) (n2 - 1) c2) = W9 at *
                  have y0 : W9.cell? ⟨w.heap.size, 0, none⟩ = some (.int .i64 room) := box_at HS9.out.bx 0 _ rfl
                  have y1 : W9.cell? ⟨w.heap.size, 1, none⟩ = some (.int .i64 next) := box_at HS9.out.bx 1 _ rfl
                  have y2 : W9.cell? ⟨w.heap.size, 2, none⟩ = some (.slice (some ⟨b, off, none⟩) (n2 - 1) c2) := box_at HS9.out.bx 2 _ rfl
                  have s0 : W9.cell? ⟨w.heap.size + 1, 0, none⟩ = some (.int .i64 0) := box_at HS9.out.bz 0 _ rfl
                  have s1 : W9.cell? ⟨w.heap.size + 1, 1, none⟩ = some (.int .i64 0) := box_at HS9.out.bz 1 _ rfl
                  have s2 : W9.cell? ⟨w.heap.size + 1, 2, none⟩ = some (.slice none 0 0) := box_at HS9.out.bz 2 _ rfl
                  have sf := box_free HS9.out.bz
                  go_wp2_with fail
                  have hfin := ret_own (room := room) (next := next) HS9.out.ow HS9.out.bw HS9.out.bz (Nat.le_succ _)
                  refine bodyPost_ret (v := .tuple #[fv room next (.slice (some ⟨b, off, none⟩) (n2 - 1) c2), .slice L l dl, .bool false, .int .i64 0]) (by simp [results, Try.results19, go_sem, s0, s1, s2]) rfl ?_
                  rw [HE2.out]
                  exact ⟨_, n2 - 1, c2, _, L, l, dl, rfl, HF9.out, hfin.1, (ints_st3 HL9.out HS9.out.bz), hfin.2⟩
        
end Go.Proofs.Ytipjhokhflokmaa
