/- flight.Right. -/
import Derived.Test.YtipjhokhflokmaaL
import Derived.Test.YtipjhokhflokmaaS
set_option linter.unusedVariables false
set_option linter.unusedSimpArgs false
namespace Go.Proofs.Ytipjhokhflokmaa
open Go.RowKit Go.Maps
open Go.Proofs.YtipjhokhflokmaaW.PrintWords

theorem zero71 (w : World) : (zeroValue 71).run Try.prog w = .ok (.agg #[]) w := by kernel_rfl
theorem keyed3 : Keyed Try.prog 3 := int_keyed Try.underlying3
section
variable {P : Program} {ops : Array Oper} {rest : List Oper} {o : Oper} {a : Act} {Q : Exit → Act → World → Prop} {W : World}
theorem wp_set_len_g (hw : Region.wanted o (yielded ops a.tmps) = true) (m : Operand) (t : TypeId) (hop : o.op = Op.call { callee := Callee.builtin Builtin.len, args := #[m], argTypes := #[t] })
    (k e : TypeId) (ht : P.underlying t = some (.map k e)) (b : Nat) (ls : List Lit) (hm : a.eval m = .map (some b)) (hs : LSet P k W b ls)
    (hK : wpList P ops Q rest (a.put o.dst (.int .i64 (dcount ls))) W) :
    wpList P ops Q (o :: rest) a W := by
  refine wpList_step fun K' hK' => ?_
  rw [if_pos hw]
  unfold Oper.wp
  simp [execOp, hop, resolve, invoke, builtin, hm, hs.1.len ht o.type, Result.andThen]
  refine hK' _ _ ?_
  rw [size_setOf _ _ hs.2]
  exact hK
end
/-- the ids of all who wait -/
def allw (fs : List Fl) : List Int := fs.flatMap (fun x => x.ws.map Tm.id)
theorem allw_app (a b : List Fl) : allw (a ++ b) = allw a ++ allw b := by simp [allw]
theorem allw_one (x : Fl) : allw [x] = x.ws.map Tm.id := by simp [allw]
def badR (room next : Int) (n : Nat) : Prop := room < 1 ∨ 4096 < room ∨ next < 0 ∨ 9007199254740992 < next ∨ 8 < (n : Int)
instance (room next : Int) (n : Nat) : Decidable (badR room next n) := by unfold badR; infer_instance
/-- may flights be? -/
def rightS (room next : Int) (fs : List Fl) : Bool := !(decide (badR room next fs.length)) && (fs.all (rightF room next) && (decide (fs.map Fl.id).Nodup && decide (allw fs).Nodup))
theorem rightS_bad {room next : Int} {fs : List Fl} (h : badR room next fs.length) : rightS room next fs = false := by unfold rightS; rw [decide_eq_true h]; rfl
theorem rightS_one {room next : Int} {fs : List Fl} {x : Fl} (hx : x ∈ fs) (h : rightF room next x = false) : rightS room next fs = false := by
  unfold rightS
  rw [List.all_eq_false.2 ⟨x, hx, by rw [h]; simp⟩]
  simp
theorem rightS_ids {room next : Int} {fs : List Fl} (h : ¬ (fs.map Fl.id).Nodup) : rightS room next fs = false := by
  unfold rightS
  rw [decide_eq_false h]
  simp
theorem rightS_ws {room next : Int} {fs : List Fl} (h : ¬ (allw fs).Nodup) : rightS room next fs = false := by
  unfold rightS
  rw [decide_eq_false h]
  simp
theorem rightS_yes {room next : Int} {fs : List Fl} (h1 : ¬ badR room next fs.length) (h2 : ∀ x ∈ fs, rightF room next x = true) (h3 : (fs.map Fl.id).Nodup) (h4 : (allw fs).Nodup) : rightS room next fs = true := by
  unfold rightS
  rw [decide_eq_false h1, decide_eq_true h3, decide_eq_true h4, List.all_eq_true.2 h2]
  rfl
theorem rightF_num {room next : Int} {x : Fl} (h : rightF room next x = true) : ¬ badF room next x := fun hb => by rw [rightF_bad hb] at h; cases h
theorem wf_id {x : Int} (h0 : -9223372036854775808 ≤ x) (h : x ≤ 9223372036854775807) : (Lit.int .i64 x).wf = true := by
  simp [Lit.wf, IntKind.max, IntKind.min, IntKind.signed, IntKind.bits]
  omega
def okI (x : Int) : Prop := -9223372036854775808 ≤ x ∧ x ≤ 9223372036854775807
/-- what is asked of what is read -/
structure Sm (n : Nat) (ys : List FV) : Prop where
  n : n ≤ 1000
  w : ∀ (i : Nat) (y : FV), ys[i]? = some y → y.1.ws.length ≤ 1000
  k : ∀ (i : Nat) (y : FV), ys[i]? = some y → ∀ t ∈ y.1.ws, okI t.id
theorem dc_ids {xs : List Int} : ((dcount (iLits xs) : Int) = (xs.length : Int)) ↔ xs.Nodup := by
  have := dcount_eq (iLits_key xs)
  rw [iLits_len, iLits_nodup] at this
  rw [← this]
  omega
theorem dc_beq (xs : List Int) (k : Nat) (hk : xs.length = k) : ((dcount (iLits xs) : Int) == (k : Int)) = decide xs.Nodup := by
  by_cases h : xs.Nodup
  · rw [decide_eq_true h, ← hk]
    exact beq_iff_eq.2 (dc_ids.2 h)
  · rw [decide_eq_false h, ← hk]
    rw [beq_eq_false_iff_ne]
    exact fun e => h (dc_ids.1 e)

set_option maxRecDepth 100000 in
set_option maxHeartbeats 8000000 in
theorem right_any (w : World) (room next : Int) (A : Option Addr) (n c : Nat) (ys : List FV) (hr : RdF w (.slice A n c) ys) (hs : Sm n ys) :
    Calls Try.prog 13 #[fv room next (.slice A n c)] w fun e w' => e = .returned (.bool (rightS room next (fls ys))) ∧ Below w.heap.size w w' := by
  have hl : ys.length = n := hr.len
  have hfl : (fls ys).length = n := by simp [fls, hl]
  have hn := hs.n
  have HWS := Lib.hid hs.w
  have HK := Lib.hid hs.k
  have hal : Below w.heap.size w (w.alloc (.cells #[.int .i64 room, .int .i64 next, .slice A n c] 26)) := (Below.refl _ _).alloc (Nat.le_refl _) _
  have x1 := heap_alloc_new w (.cells #[.int .i64 room, .int .i64 next, .slice A n c] 26)
  have su : (w.alloc (.cells #[.int .i64 room, .int .i64 next, .slice A n c] 26)).heap.size = w.heap.size + 1 := by simp
  have HR := Lib.hid (hr.below hal)
  have HAL := Lib.hid hal
  have HR0 := Lib.hid hr
  clear hr hal hs
  go_enter Try.func13, Try.ntmps13
  go_upto_region 1 with fail
  generalize w.alloc (.cells #[.int .i64 room, .int .i64 next, .slice A n c] 26) = U at *
  have z0 : U.cell? ⟨w.heap.size, 0, none⟩ = some (.int .i64 room) := box_at x1 0 _ rfl
  have z1 : U.cell? ⟨w.heap.size, 1, none⟩ = some (.int .i64 next) := box_at x1 1 _ rfl
  have z2 : U.cell? ⟨w.heap.size, 2, none⟩ = some (.slice A n c) := box_at x1 2 _ rfl
  have HX1 := Lib.hid x1
  clear x1
  have hbad : badR room next n → rightS room next (fls ys) = false := fun hb => rightS_bad (by rw [hfl]; exact hb)
  by_cases b1 : room < 1
  · go_wp2_with fail
    go_ret
    exact ⟨ret_bool (hbad (.inl b1)).symm, HAL.out⟩
  by_cases b2 : 4096 < room
  · go_wp2_with fail
    go_ret
    exact ⟨ret_bool (hbad (.inr (.inl b2))).symm, HAL.out⟩
  by_cases b3 : next < 0
  · go_wp2_with fail
    go_ret
    exact ⟨ret_bool (hbad (.inr (.inr (.inl b3)))).symm, HAL.out⟩
  by_cases b4 : 9007199254740992 < next
  · go_wp2_with fail
    go_ret
    exact ⟨ret_bool (hbad (.inr (.inr (.inr (.inl b4))))).symm, HAL.out⟩
  by_cases b5 : 8 < (n : Int)
  · go_wp2_with fail
    go_ret
    exact ⟨ret_bool (hbad (.inr (.inr (.inr (.inr b5))))).symm, HAL.out⟩
  have hnb : ¬ badR room next n := by unfold badR; omega
  have HNB := Lib.hid hnb
  clear hbad hnb
  go_upto_region 3 with fail
  have hmm := @run_makeMap Try.prog
  go_upto_region 4 with fail
  clear hmm z0 z1 z2
  have hS1 := LSet.made U Try.prog 3
  have hS2 := LSet.made (U.alloc (.map #[] 0)) Try.prog 3
  have s2 : (U.alloc (.map #[] 0)).heap.size = w.heap.size + 1 + 1 := by simp; omega
  have hb2 : Below w.heap.size w ((U.alloc (.map #[] 0)).alloc (.map #[] 0)) := (HAL.out.alloc HAL.out.size _).alloc (by omega) _
  have hS1' := hS1.alloc (.map #[] 0)
  rw [su] at hS1'
  rw [s2] at hS2
  have x3 : ((U.alloc (.map #[] 0)).alloc (.map #[] 0)).heap[w.heap.size]? = some (.cells #[.int .i64 room, .int .i64 next, .slice A n c] 26 (0, 0)) := keep (((Below.refl _ _).alloc (Nat.le_refl _) _).alloc (by omega) _) HX1.out
  have hR3 := HR.out.below (((Below.refl U.heap.size U).alloc (Nat.le_refl _) (.map #[] 0)).alloc (by omega) (.map #[] 0))
  have HR3 := Lib.hid hR3
  have HS1 := Lib.hid hS1'
  have HS2 := Lib.hid hS2
  have HB2 := Lib.hid hb2
  have HX3 := Lib.hid x3
  clear hS1 hS1' hS2 s2 hb2 x3 hR3 su
  generalize (U.alloc (.map #[] 0)).alloc (.map #[] 0) = V at *
  have z2 : V.cell? ⟨w.heap.size, 2, none⟩ = some (.slice A n c) := box_at HX3.out 2 _ rfl
  go_wp2_with fail
  clear z2
  have hVw := HS2.out.lt
  go_loopg [5, 39] n (fun gg s5 s39 wr => ∃ kk : Nat, kk ≤ n ∧ n - kk ≤ gg ∧ s5 = .int .i64 ((allw ((fls ys).take kk)).length : Int) ∧ s39 = .int .i64 kk ∧ Aside (LSet Try.prog 3 wr (w.heap.size + 1) (iLits (((fls ys).take kk).map Fl.id)) ∧ LSet Try.prog 3 wr (w.heap.size + 1 + 1) (iLits (allw ((fls ys).take kk))) ∧ Below w.heap.size w wr ∧ wr.heap[w.heap.size]? = some (.cells #[.int .i64 room, .int .i64 next, .slice A n c] 26 (0, 0)) ∧ (∀ (j : Nat) (x : FV), j < kk → ys[j]? = some x → rightF room next x.1 = true) ∧ (allw ((fls ys).take kk)).length ≤ 8 * kk))
  case atStart => exact ⟨0, Nat.zero_le _, by omega, rfl, rfl, by show Aside _; exact ⟨HS1.out, HS2.out, HB2.out, HX3.out, fun j x hj => absurd hj (Nat.not_lt_zero _), by simp [allw]⟩⟩
  case round =>
    clear HS1 HS2 HB2 HX3 HR3 HR HX1 HAL
    obtain ⟨kk, hkk, hg, rfl, rfl, HA⟩ := hrel
    obtain ⟨hS1, hS2, hB, hX, hall, hcnt⟩ := HA.out
    have hw2 := hS2.lt
    have HS1 := Lib.hid hS1
    have HS2 := Lib.hid hS2
    have HB := Lib.hid hB
    have HX := Lib.hid hX
    have HALL := Lib.hid hall
    clear HA hS1 hS2 hB hX hall
    by_cases hlt : kk < n
    · have h1 : (kk : Int) < (n : Int) := by omega
      have hy : ys[kk]? = some (ys[kk]'(by omega)) := List.getElem?_eq_getElem _
      generalize ys[kk]'(by omega) = y at hy
      obtain ⟨b, off, hA2, hF⟩ := HR0.out.at_ hy
      subst hA2
      have z2 : wr.cell? ⟨w.heap.size, 2, none⟩ = some (.slice (some ⟨b, off, none⟩) n c) := box_at HX.out 2 _ rfl
      have hfy : (fls ys)[kk]? = some y.1 := fls_at hy
      have htk : (fls ys).take (kk + 1) = (fls ys).take kk ++ [y.1] := by
        have hk2 : kk < (fls ys).length := by omega
        rw [List.take_succ_eq_append_getElem hk2]
        rw [List.getElem?_eq_getElem hk2] at hfy
        injection hfy with hfy
        rw [hfy]
      have hmem : y.1 ∈ fls ys := List.mem_of_getElem? hfy
      have hkey := HK.out kk y hy
      have HY := Lib.hid hy
      have HF := Lib.hid hF
      have HTK := Lib.hid htk
      have HMEM := Lib.hid hmem
      have HKEY := Lib.hid hkey
      clear hy hF hfy htk hmem hkey
      go_upto_region 8 with fail
      have hal8 : Below wr.heap.size wr (wr.alloc (.cells #[.pointer (some ⟨b, off + kk * 8, none⟩)] 61)) := (Below.refl _ _).alloc (Nat.le_refl _) _
      have x8 := heap_alloc_new wr (.cells #[.pointer (some ⟨b, off + kk * 8, none⟩)] 61)
      have hb8 := HB.out.trans (hal8.mono HB.out.size)
      have HS18 := Lib.hid (HS1.out.below hal8)
      have HS28 := Lib.hid (HS2.out.below hal8)
      have HB8 := Lib.hid hb8
      have p8 : (wr.alloc (.cells #[.pointer (some ⟨b, off + kk * 8, none⟩)] 61)).cell? ⟨wr.heap.size, 0, none⟩ = some (.pointer (some ⟨b, off + kk * 8, none⟩)) := box_at x8 0 _ rfl
      have z0 : (wr.alloc (.cells #[.pointer (some ⟨b, off + kk * 8, none⟩)] 61)).cell? ⟨w.heap.size, 0, none⟩ = some (.int .i64 room) := box_at (keep hal8 HX.out) 0 _ rfl
      have z1 : (wr.alloc (.cells #[.pointer (some ⟨b, off + kk * 8, none⟩)] 61)).cell? ⟨w.heap.size, 1, none⟩ = some (.int .i64 next) := box_at (keep hal8 HX.out) 1 _ rfl
      have HX8 := Lib.hid x8
      have HZ8 := Lib.hid (keep hal8 HX.out)
      have hw8 : wr.heap.size < (wr.alloc (.cells #[.pointer (some ⟨b, off + kk * 8, none⟩)] 61)).heap.size := by simp
      clear hal8 x8 hb8 z2
      generalize wr.alloc (.cells #[.pointer (some ⟨b, off + kk * 8, none⟩)] 61) = W8 at *
      cases hq : rightF room next y.1 with
      | false =>
        have HQ := Lib.hid hq; clear hq
        go_wp2_with (go_at_call 28; refine (right1_any W8 b (off + kk * 8) y room next (HF.out.below HB8.out) (by omega)).mono ?_; rw [HQ.out]; rintro e w9 ⟨rfl, hb9⟩)
        go_ret
        exact ⟨ret_bool (rightS_one HMEM.out HQ.out).symm, HB8.out.trans (hb9.mono HB8.out.size)⟩
      | true =>
        have hnum := rightF_num hq
        unfold badF at hnum
        have HQ := Lib.hid hq; clear hq
        have hid := wf_id (x := y.1.id) (by omega) (by omega)
        have hwl : y.1.ws.length ≤ 8 := by omega
        have HID := Lib.hid hid
        clear hid hnum
        go_upto_region 10 with (go_at_call 28; refine (right1_any W8 b (off + kk * 8) y room next (HF.out.below HB8.out) (by omega)).mono ?_; rw [HQ.out]; rintro e w9 ⟨rfl, hb9⟩; have p9 : w9.cell? ⟨wr.heap.size, 0, none⟩ = some (.pointer (some ⟨b, off + kk * 8, none⟩)) := box_at (keep hb9 HX8.out) 0 _ rfl; have k9 : w9.cell? ⟨b, off + kk * 8 + 2, none⟩ = some (.int .i64 y.1.id) := (HF.out.below (HB8.out.trans (hb9.mono HB8.out.size))).c2; have hs9 := hb9.size; have HB9 := Lib.hid hb9; clear hb9)
        clear p8 z0 z1
        go_upto_region 11 with (at_mapUpdate; refine wp_set_put rfl _ _ _ 69 rfl 3 71 keyed3 Try.underlying69 (w.heap.size + 1) _ rfl (HS18.out.below HB9.out) (by rw [iLits_len, List.length_map, List.length_take]; omega) _ _ rfl rfl (keyOf_int_mk Try.underlying3 HID.out) ?_; intro w10 hs10 hg10)
        have hb10 : Below w.heap.size w w10 := (HB8.out.trans (HB9.out.mono HB8.out.size)).grown hg10 (by omega) (fun k hk => by cases hk; omega)
        have p10 : w10.cell? ⟨wr.heap.size, 0, none⟩ = some (.pointer (some ⟨b, off + kk * 8, none⟩)) := box_at (by rw [hg10.block wr.heap.size (by omega) (by simp; omega)]; exact keep HB9.out HX8.out) 0 _ rfl
        have x10 : w10.heap[w.heap.size]? = some (.cells #[.int .i64 room, .int .i64 next, .slice (some ⟨b, off, none⟩) n c] 26 (0, 0)) := by
          rw [hg10.block w.heap.size (by omega) (by simp)]
          exact keep HB9.out HZ8.out
        have hS2 := (HS28.out.below HB9.out).grown hg10 (by simp)
        have hs10' : LSet Try.prog 3 w10 (w.heap.size + 1) (iLits (((fls ys).take (kk + 1)).map Fl.id)) := by
          rw [HTK.out, List.map_append, iLits_app]
          exact hs10
        have hsz := hg10.size
        have HS1 := Lib.hid hs10'
        have HS2 := Lib.hid hS2
        have HB10 := Lib.hid hb10
        have HX10 := Lib.hid x10
        clear hs10 hg10 p9 k9 hb10 x10 hS2 hs10'
        go_wp2_with (go_at_call 29; refine (ids_any w10 b (off + kk * 8) y (HF.out.below HB10.out) (by omega)).mono ?_; rintro e w11 ⟨B, m, d, rfl, hO, hb11⟩)
        have hml1 : m ≤ y.1.ws.length := by
          have := hO.rd.len
          rw [List.length_map] at this
          omega
        have hml2 : y.1.ws.length ≤ m := by
          have := hO.rd.len
          rw [List.length_map] at this
          omega
        have hs11 := hb11.size
        have HO := Lib.hid hO
        have HB11 := Lib.hid (HB10.out.trans (hb11.mono HB10.out.size))
        have HS1' := Lib.hid (HS1.out.below hb11)
        have HS2' := Lib.hid (HS2.out.below hb11)
        have HX11 := Lib.hid (keep hb11 HX10.out)
        clear p10 hO hb11 HS1 HS2 HX10 HX8 HZ8 HS18 HS28 HB8 HB9
        go_loopg [5, 64] m (fun gq s5 s64 wq => ∃ jj : Nat, jj ≤ m ∧ m - jj ≤ gq ∧ s5 = .int .i64 (((allw ((fls ys).take kk)).length + jj : Nat) : Int) ∧ s64 = .int .i64 jj ∧ Aside (LSet Try.prog 3 wq (w.heap.size + 1) (iLits (((fls ys).take (kk + 1)).map Fl.id)) ∧ LSet Try.prog 3 wq (w.heap.size + 1 + 1) (iLits (allw ((fls ys).take kk) ++ (y.1.ws.map Tm.id).take jj)) ∧ Below w.heap.size w wq ∧ wq.heap[w.heap.size]? = some (.cells #[.int .i64 room, .int .i64 next, .slice (some ⟨b, off, none⟩) n c] 26 (0, 0)) ∧ OwE ienc 1 3 wq w10.heap.size (.slice B m d) (y.1.ws.map Tm.id)))
        case atStart => exact ⟨0, Nat.zero_le _, by omega, rfl, rfl, by show Aside _; rw [List.take_zero, List.append_nil]; exact ⟨HS1'.out, HS2'.out, HB11.out, HX11.out, HO.out⟩⟩
        case round =>
          clear HS1' HS2' HB11 HX11 HO
          obtain ⟨jj, hjj, hg2, rfl, rfl, HA2⟩ := hrel
          obtain ⟨hS1, hS2, hB, hX, hO⟩ := HA2.out
          by_cases hlt2 : jj < m
          · have h2 : (jj : Int) < (m : Int) := by omega
            have hmi : jj < (y.1.ws.map Tm.id).length := by rw [List.length_map]; omega
            obtain ⟨b2, o2, rfl, _, k2⟩ := hO.rd.int hmi
            have htk2 : (y.1.ws.map Tm.id).take (jj + 1) = (y.1.ws.map Tm.id).take jj ++ [(y.1.ws.map Tm.id)[jj]] := List.take_succ_eq_append_getElem hmi
            have hin : okI (y.1.ws.map Tm.id)[jj] := by
              have hm1 := List.getElem_mem hmi
              obtain ⟨t, ht, he⟩ := List.mem_map.1 hm1
              rw [← he]
              exact HKEY.out t ht
            generalize (y.1.ws.map Tm.id)[jj] = q at k2 htk2 hin
            have hwq := wf_id hin.1 hin.2
            have hcn : (iLits (allw ((fls ys).take kk) ++ (y.1.ws.map Tm.id).take jj)).length < 1000000 := by
              rw [iLits_len, List.length_append, List.length_take]
              omega
            have hqs := hS2.lt
            have HS1 := Lib.hid hS1
            have HS2 := Lib.hid hS2
            have HB := Lib.hid hB
            have HX := Lib.hid hX
            have HO := Lib.hid hO
            have HT2 := Lib.hid htk2
            have HWQ := Lib.hid hwq
            have HCN := Lib.hid hcn
            clear hS1 hS2 hB hX hO htk2 hwq HA2 hin hcn hmi
            have hcq : IntKind.i64.wrap (((allw ((fls ys).take kk)).length + jj : Nat) + 1 : Int) = (((allw ((fls ys).take kk)).length + (jj + 1) : Nat) : Int) := by rw [IntKind.wrap_i64]; omega
            go_wp2_with (at_mapUpdate; refine wp_set_put rfl _ _ _ 69 rfl 3 71 keyed3 Try.underlying69 (w.heap.size + 1 + 1) _ rfl HS2.out HCN.out _ _ rfl rfl (keyOf_int_mk Try.underlying3 HWQ.out) ?_; intro w12 hs12 hg12)
            have HS12 := Lib.hid hs12
            have HG12 := Lib.hid hg12
            clear hs12 hg12
            go_roundg (m - (jj + 1))
            case measure => omega
            case rel =>
              refine ⟨jj + 1, by omega, by omega, by first | rfl | (congr 1), by go_num, (show Aside _ from ⟨HS1.out.grown HG12.out (by simp), ?_, HB.out.grown HG12.out (by omega) (fun k hk => by cases hk; omega), ?_, HO.out.grown HG12.out (fun k hk => ?_)⟩)⟩
              · rw [HT2.out, ← List.append_assoc, iLits_app]
                exact HS12.out
              · rw [HG12.out.block w.heap.size (by omega) (by simp; omega)]
                exact HX.out
              · have := HO.out.lo k hk
                simp
                omega
          · have h2 : ¬ (jj : Int) < (m : Int) := by omega
            have HS1 := Lib.hid hS1
            have HS2 := Lib.hid hS2
            have HB := Lib.hid hB
            have HX := Lib.hid hX
            have hal2 : allw ((fls ys).take (kk + 1)) = allw ((fls ys).take kk) ++ (y.1.ws.map Tm.id).take jj := by
              rw [HTK.out, allw_app, allw_one, List.take_of_length_le (l := y.1.ws.map Tm.id) (i := jj) (by rw [List.length_map]; omega)]
            have hal3 : (allw ((fls ys).take (kk + 1))).length = (allw ((fls ys).take kk)).length + jj := by
              rw [hal2, List.length_append, List.length_take, List.length_map]
              omega
            have HAL2 := Lib.hid hal2
            have HAL3 := Lib.hid hal3
            clear hS1 hS2 hB hX hO HA2 hal2 hal3
            go_wp2_with fail
            go_roundg (n - (kk + 1))
            case measure => omega
            case rel =>
              refine ⟨kk + 1, by omega, by omega, by rw [HAL3.out]; first | rfl | (congr 1; done) | (congr 1; omega), by go_num, (show Aside _ from ⟨HS1.out, by rw [HAL2.out]; exact HS2.out, HB.out, HX.out, fun j x hj hx => ?_, by rw [HAL3.out]; omega⟩)⟩
              rcases Nat.lt_or_ge j kk with h | h
              · exact HALL.out j x h hx
              · obtain rfl : j = kk := by omega
                rw [HY.out] at hx
                injection hx with hx
                subst hx
                exact HQ.out
    · have h1 : ¬ (kk : Int) < (n : Int) := by omega
      have z2 : wr.cell? ⟨w.heap.size, 2, none⟩ = some (.slice A n c) := box_at HX.out 2 _ rfl
      have ht : (fls ys).take kk = fls ys := List.take_of_length_le (by omega)
      rw [ht] at HS1 HS2 hcnt
      rw [ht]
      have hall : ∀ x ∈ fls ys, rightF room next x = true := fun x hx => by
        obtain ⟨j, hj⟩ := List.getElem?_of_mem hx
        obtain ⟨z, hz, rfl⟩ : ∃ z : FV, ys[j]? = some z ∧ z.1 = x := by
          simp only [fls, List.getElem?_map, Option.map_eq_some_iff] at hj
          exact hj
        exact HALL.out j z (by have := (List.getElem?_eq_some_iff.1 hz).1; omega) hz
      have e1 := dc_beq ((fls ys).map Fl.id) n (by rw [List.length_map]; exact hfl)
      have e2 := dc_beq (allw (fls ys)) (allw (fls ys)).length rfl
      have HALL' := Lib.hid hall
      obtain ⟨D1, hD1⟩ : ∃ D, dcount (iLits ((fls ys).map Fl.id)) = D := ⟨_, rfl⟩
      obtain ⟨D2, hD2⟩ : ∃ D, dcount (iLits (allw (fls ys))) = D := ⟨_, rfl⟩
      rw [hD1] at e1
      rw [hD2] at e2
      have HDC1 := Lib.hid hD1
      have HDC2 := Lib.hid hD2
      clear ht hall hD1 hD2
      by_cases hd1 : ((fls ys).map Fl.id).Nodup
      · rw [decide_eq_true hd1] at e1
        have HD1 := Lib.hid hd1
        clear hd1
        by_cases hd2 : (allw (fls ys)).Nodup
        · rw [decide_eq_true hd2] at e2
          have HD2 := Lib.hid hd2
          clear hd2
          go_wp2_with first
            | (at_len; refine wp_set_len_g (by rfl) _ 69 rfl 3 71 Try.underlying69 (w.heap.size + 1) _ rfl HS1.out ?_; rw [HDC1.out])
            | (at_len; refine wp_set_len_g (by rfl) _ 69 rfl 3 71 Try.underlying69 (w.heap.size + 1 + 1) _ rfl HS2.out ?_; rw [HDC2.out])
          go_ret
          exact ⟨ret_bool (rightS_yes (by rw [hfl]; exact HNB.out) HALL'.out HD1.out HD2.out).symm, HB.out⟩
        · rw [decide_eq_false hd2] at e2
          have HD2 := Lib.hid hd2
          clear hd2
          go_wp2_with first
            | (at_len; refine wp_set_len_g (by rfl) _ 69 rfl 3 71 Try.underlying69 (w.heap.size + 1) _ rfl HS1.out ?_; rw [HDC1.out])
            | (at_len; refine wp_set_len_g (by rfl) _ 69 rfl 3 71 Try.underlying69 (w.heap.size + 1 + 1) _ rfl HS2.out ?_; rw [HDC2.out])
          go_ret
          exact ⟨ret_bool (rightS_ws HD2.out).symm, HB.out⟩
      · rw [decide_eq_false hd1] at e1
        have HD1 := Lib.hid hd1
        clear hd1
        go_wp2_with first
          | (at_len; refine wp_set_len_g (by rfl) _ 69 rfl 3 71 Try.underlying69 (w.heap.size + 1) _ rfl HS1.out ?_; rw [HDC1.out])
        go_ret
        exact ⟨ret_bool (rightS_ids HD1.out).symm, HB.out⟩
end Go.Proofs.Ytipjhokhflokmaa
