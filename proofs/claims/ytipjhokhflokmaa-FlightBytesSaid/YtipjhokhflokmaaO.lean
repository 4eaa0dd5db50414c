/- lockageref18.Right. -/
import Derived.Test.YtipjhokhflokmaaN
set_option linter.unusedVariables false
set_option linter.unusedSimpArgs false
namespace Go.Proofs.Ytipjhokhflokmaa
open Go.RowKit Go.Maps
open Go.Proofs.YtipjhokhflokmaaW.PrintWords

theorem nodup_take {α : Type} {xs : List α} {a : List α} {x : α} (hp : (a ++ [x]) <+: xs) (hx : x ∈ a) : ¬ xs.Nodup := by
  intro h
  obtain ⟨t, rfl⟩ := hp
  have h2 := (List.nodup_append.1 h).1
  have h3 := (List.nodup_append.1 h2).2.2
  exact h3 x hx x (by simp) rfl
theorem nodup_snoc {α : Type} {a : List α} {x : α} (h : a.Nodup) (hx : ¬ x ∈ a) : (a ++ [x]).Nodup := by
  rw [List.nodup_append]
  refine ⟨h, by simp, fun y hy z hz => ?_⟩
  simp at hz
  subst hz
  rintro rfl
  exact hx hy
theorem allw_pre {fs : List Fl} {k : Nat} {x : Fl} (hx : fs[k]? = some x) {a : List Int} {q : Int} {j : Nat} (hq : (x.ws.map Tm.id)[j]? = some q) : allw (fs.take k) ++ (x.ws.map Tm.id).take j ++ [q] <+: allw fs := by
  have hk := (List.getElem?_eq_some_iff.1 hx).1
  have hj := (List.getElem?_eq_some_iff.1 hq).1
  have h1 : fs = fs.take k ++ (x :: fs.drop (k + 1)) := by
    conv => lhs; rw [← List.take_append_drop k fs, List.drop_eq_getElem_cons hk]
    rw [List.getElem?_eq_getElem hk] at hx
    injection hx with hx
    rw [hx]
  have h2 : x.ws.map Tm.id = (x.ws.map Tm.id).take j ++ (q :: (x.ws.map Tm.id).drop (j + 1)) := by
    conv => lhs; rw [← List.take_append_drop j (x.ws.map Tm.id), List.drop_eq_getElem_cons hj]
    rw [List.getElem?_eq_getElem hj] at hq
    injection hq with hq
    rw [hq]
  have h3 : allw fs = allw (fs.take k) ++ (x.ws.map Tm.id ++ allw (fs.drop (k + 1))) := by
    conv => lhs; rw [h1]
    rw [allw_app]
    rfl
  refine ⟨(x.ws.map Tm.id).drop (j + 1) ++ allw (fs.drop (k + 1)), ?_⟩
  rw [h3]
  conv => rhs; rw [h2]
  simp
/-- what ref Right has found -/
structure RR (w wr : World) (room next : Int) (V : Value) (v3 v4 : Value) (is ls : List Int) : Prop where
  a : OwE ienc 1 3 wr w.heap.size v3 is
  b : OwE ienc 1 3 wr w.heap.size v4 ls
  ne : ∀ k, v3.ownBlock = some k → v4.ownBlock ≠ some k
  bw : Below w.heap.size w wr
  bx : wr.heap[w.heap.size]? = some (.cells #[.int .i64 room, .int .i64 next, V] 26 (0, 0))
  n3 : is.Nodup
  n4 : ls.Nodup
theorem RR.below {w wr w1 : World} {room next : Int} {V v3 v4 : Value} {is ls : List Int} (h : RR w wr room next V v3 v4 is ls) (hb : Below wr.heap.size wr w1) : RR w w1 room next V v3 v4 is ls :=
  ⟨h.a.below hb, h.b.below hb, h.ne, h.bw.trans (hb.mono h.bw.size), keep hb h.bx, h.n3, h.n4⟩
theorem RR.lt {w wr : World} {room next : Int} {V v3 v4 : Value} {is ls : List Int} (h : RR w wr room next V v3 v4 is ls) : w.heap.size < wr.heap.size := (Array.getElem?_eq_some_iff.1 h.bx).1
theorem RR.put3 {w wr w1 : World} {room next : Int} {V v3 v4 v1 : Value} {is ls : List Int} (h : RR w wr room next V v3 v4 is ls) {x : Int} (hx : ¬ x ∈ is) (ho : OwE ienc 1 3 w1 w.heap.size v1 (is ++ [x])) (hg : wr.grownBy w1 v3.ownBlock) (hat : v1.ownBlock = v3.ownBlock ∨ ∃ b, v1.ownBlock = some b ∧ wr.heap.size ≤ b) : RR w w1 room next V v1 v4 (is ++ [x]) ls := by
  have hl := h.lt
  refine ⟨ho, h.b.grown hg (fun k hk he => h.ne k he.symm hk), fun k hk hk4 => ?_, h.bw.grown hg (by omega) (fun k hk => h.a.lo k hk), ?_, nodup_snoc h.n3 hx, h.n4⟩
  · rcases hat with he | ⟨b, he, hb⟩
    · exact h.ne k (by rw [← he]; exact hk) hk4
    · rw [he] at hk
      injection hk with hk
      have := h.b.lt k hk4
      omega
  · rw [hg.block w.heap.size hl (fun he => ?_)]
    · exact h.bx
    · obtain ⟨cs, hcs⟩ := h.a.typed _ he.symm
      exact blocks_ne (show (3 : TypeId) ≠ 26 by decide) hcs h.bx rfl
theorem RR.put4 {w wr w1 : World} {room next : Int} {V v3 v4 v1 : Value} {is ls : List Int} (h : RR w wr room next V v3 v4 is ls) {x : Int} (hx : ¬ x ∈ ls) (ho : OwE ienc 1 3 w1 w.heap.size v1 (ls ++ [x])) (hg : wr.grownBy w1 v4.ownBlock) (hat : v1.ownBlock = v4.ownBlock ∨ ∃ b, v1.ownBlock = some b ∧ wr.heap.size ≤ b) : RR w w1 room next V v3 v1 is (ls ++ [x]) := by
  have hl := h.lt
  refine ⟨h.a.grown hg (fun k hk he => h.ne k hk he.symm), ho, fun k hk hk4 => ?_, h.bw.grown hg (by omega) (fun k hk => h.b.lo k hk), ?_, h.n3, nodup_snoc h.n4 hx⟩
  · rcases hat with he | ⟨b, he, hb⟩
    · exact h.ne k hk (by rw [← he]; exact hk4)
    · rw [he] at hk4
      injection hk4 with hk4
      have := h.a.lt k hk
      omega
  · rw [hg.block w.heap.size hl (fun he => ?_)]
    · exact h.bx
    · obtain ⟨cs, hcs⟩ := h.b.typed _ he.symm
      exact blocks_ne (show (3 : TypeId) ≠ 26 by decide) hcs h.bx rfl

set_option maxRecDepth 100000 in
set_option maxHeartbeats 8000000 in
theorem rright_any (w : World) (room next : Int) (A : Option Addr) (n c : Nat) (ys : List FV) (hr : RdF w (.slice A n c) ys) (hn : n ≤ 1000) :
    Calls Try.prog 36 #[fv room next (.slice A n c)] w fun e w' => e = .returned (.bool (rightS room next (fls ys))) ∧ Below w.heap.size w w' := by
  have hl : ys.length = n := hr.len
  have hfl : (fls ys).length = n := by simp [fls, hl]
  have hal : Below w.heap.size w (w.alloc (.cells #[.int .i64 room, .int .i64 next, .slice A n c] 26)) := (Below.refl _ _).alloc (Nat.le_refl _) _
  have x1 := heap_alloc_new w (.cells #[.int .i64 room, .int .i64 next, .slice A n c] 26)
  have HAL := Lib.hid hal
  have HR0 := Lib.hid hr
  clear hr hal
  go_enter Try.func36, Try.ntmps36
  go_upto_region 1 with fail
  generalize w.alloc (.cells #[.int .i64 room, .int .i64 next, .slice A n c] 26) = U at *
  have z0 : U.cell? ⟨w.heap.size, 0, none⟩ = some (.int .i64 room) := box_at x1 0 _ rfl
  have z1 : U.cell? ⟨w.heap.size, 1, none⟩ = some (.int .i64 next) := box_at x1 1 _ rfl
  have z2 : U.cell? ⟨w.heap.size, 2, none⟩ = some (.slice A n c) := box_at x1 2 _ rfl
  have HX1 := Lib.hid x1
  clear x1
  have hbad : badR room next n → rightS room next (fls ys) = false := fun hb => rightS_bad (by rw [hfl]; exact hb)
  by_cases b1 : room < 1
  · go_wp2_with fail
    go_ret
    exact ⟨ret_bool (hbad (.inl b1)).symm, HAL.out⟩
  by_cases b2 : 4096 < room
  · go_wp2_with fail
    go_ret
    exact ⟨ret_bool (hbad (.inr (.inl b2))).symm, HAL.out⟩
  by_cases b3 : next < 0
  · go_wp2_with fail
    go_ret
    exact ⟨ret_bool (hbad (.inr (.inr (.inl b3)))).symm, HAL.out⟩
  by_cases b4 : 9007199254740992 < next
  · go_wp2_with fail
    go_ret
    exact ⟨ret_bool (hbad (.inr (.inr (.inr (.inl b4))))).symm, HAL.out⟩
  by_cases b5 : 8 < (n : Int)
  · go_wp2_with fail
    go_ret
    exact ⟨ret_bool (hbad (.inr (.inr (.inr (.inr b5))))).symm, HAL.out⟩
  have hnb : ¬ badR room next n := by unfold badR; omega
  have HNB := Lib.hid hnb
  clear hbad hnb
  go_wp2_with fail
  clear z0 z1 z2
  go_loopg [3, 4, 5] n (fun gg s3 s4 s5 wr => ∃ (kk : Nat) (A3 : Option Addr) (n3 c3 : Nat) (A4 : Option Addr) (n4 c4 : Nat), kk ≤ n ∧ n - kk ≤ gg ∧ s3 = .slice A3 n3 c3 ∧ s4 = .slice A4 n4 c4 ∧ s5 = .int .i64 kk ∧ Aside (RR w wr room next (.slice A n c) (.slice A3 n3 c3) (.slice A4 n4 c4) (((fls ys).take kk).map Fl.id) (allw ((fls ys).take kk)) ∧ (∀ (j : Nat) (x : FV), j < kk → ys[j]? = some x → rightF room next x.1 = true) ∧ (allw ((fls ys).take kk)).length ≤ 8 * kk))
  case atStart => exact ⟨0, none, 0, 0, none, 0, 0, Nat.zero_le _, by omega, rfl, rfl, rfl, by show Aside _; exact ⟨⟨OwE.nil iencL _ _ _, OwE.nil iencL _ _ _, fun k hk => by simp [Value.ownBlock] at hk, HAL.out, HX1.out, by simp, by simp [allw]⟩, fun j x hj => absurd hj (Nat.not_lt_zero _), by simp [allw]⟩⟩
  case round =>
    clear HX1 HAL
    obtain ⟨kk, A3, n3, c3, A4, n4, c4, hkk, hg, rfl, rfl, rfl, HA⟩ := hrel
    obtain ⟨hR, hall, hcnt⟩ := HA.out
    have z0 : wr.cell? ⟨w.heap.size, 0, none⟩ = some (.int .i64 room) := box_at hR.bx 0 _ rfl
    have z1 : wr.cell? ⟨w.heap.size, 1, none⟩ = some (.int .i64 next) := box_at hR.bx 1 _ rfl
    have z2 : wr.cell? ⟨w.heap.size, 2, none⟩ = some (.slice A n c) := box_at hR.bx 2 _ rfl
    have HRR := Lib.hid hR
    have HALL := Lib.hid hall
    clear HA hR hall
    by_cases hlt : kk < n
    · have h1 : (kk : Int) < (n : Int) := by omega
      have hy : ys[kk]? = some (ys[kk]'(by omega)) := List.getElem?_eq_getElem _
      generalize ys[kk]'(by omega) = y at hy
      obtain ⟨b, off, hA2, hF⟩ := HR0.out.at_ hy
      subst hA2
      have hfy : (fls ys)[kk]? = some y.1 := fls_at hy
      have htk : (fls ys).take (kk + 1) = (fls ys).take kk ++ [y.1] := by
        have hk2 : kk < (fls ys).length := by omega
        rw [List.take_succ_eq_append_getElem hk2]
        rw [List.getElem?_eq_getElem hk2] at hfy
        injection hfy with hfy
        rw [hfy]
      have hmem : y.1 ∈ fls ys := List.mem_of_getElem? hfy
      have hpre : ((fls ys).take kk).map Fl.id ++ [y.1.id] <+: (fls ys).map Fl.id := by
        have h9 := List.take_prefix (kk + 1) (fls ys)
        rw [htk] at h9
        have := h9.map Fl.id
        rwa [List.map_append] at this
      obtain ⟨⟨fk, fs, fi, fb, fd, ft, fo, ws⟩, ⟨B, m, d⟩⟩ := y
      have hFr := hF.below HRR.out.bw
      have k0 : wr.cell? ⟨b, off + kk * 8, none⟩ = some (str fk) := hFr.c0
      have k1 : wr.cell? ⟨b, off + kk * 8 + 1, none⟩ = some (.bool fs) := hFr.c1
      have k2 : wr.cell? ⟨b, off + kk * 8 + 2, none⟩ = some (.int .i64 fi) := hFr.c2
      have k3 : wr.cell? ⟨b, off + kk * 8 + 3, none⟩ = some (.int .i64 fb) := hFr.c3
      have k4 : wr.cell? ⟨b, off + kk * 8 + 4, none⟩ = some (str fd) := hFr.c4
      have k5 : wr.cell? ⟨b, off + kk * 8 + 5, none⟩ = some (.int .i64 ft) := hFr.c5
      have k6 : wr.cell? ⟨b, off + kk * 8 + 6, none⟩ = some (.bool fo) := hFr.c6
      have k7 : wr.cell? ⟨b, off + kk * 8 + 7, none⟩ = some (.slice B m d) := hFr.c7
      have hWm : RdE tenc 2 w (.slice B m d) ws := hF.r
      have hwm : ws.length = m := hWm.len
      have HY := Lib.hid hy
      have HTK := Lib.hid htk
      have HMEM := Lib.hid hmem
      have HFY := Lib.hid hfy
      have HPRE := Lib.hid hpre
      have HWM := Lib.hid hWm
      clear hy hF hFr hfy htk hmem hpre hWm
      go_upto_region 8 with fail
      have hal8 : Below wr.heap.size wr (wr.alloc (.cells #[str fk, .bool fs, .int .i64 fi, .int .i64 fb, str fd, .int .i64 ft, .bool fo, .slice B m d] 45)) := (Below.refl _ _).alloc (Nat.le_refl _) _
      have x8 := heap_alloc_new wr (.cells #[str fk, .bool fs, .int .i64 fi, .int .i64 fb, str fd, .int .i64 ft, .bool fo, .slice B m d] 45)
      have HR8 := Lib.hid (HRR.out.below hal8)
      have HX8 := Lib.hid x8
      have hs8 : wr.heap.size < (wr.alloc (.cells #[str fk, .bool fs, .int .i64 fi, .int .i64 fb, str fd, .int .i64 ft, .bool fo, .slice B m d] 45)).heap.size := by simp
      clear hal8 x8 k0 k1 k2 k3 k4 k5 k6 k7 z0 z1 z2
      generalize wr.alloc (.cells #[str fk, .bool fs, .int .i64 fi, .int .i64 fb, str fd, .int .i64 ft, .bool fo, .slice B m d] 45) = W8 at *
      generalize hT8 : wr.heap.size = T8 at *
      have z0 : W8.cell? ⟨w.heap.size, 0, none⟩ = some (.int .i64 room) := box_at HR8.out.bx 0 _ rfl
      have z1 : W8.cell? ⟨w.heap.size, 1, none⟩ = some (.int .i64 next) := box_at HR8.out.bx 1 _ rfl
      have k0 : W8.cell? ⟨T8, 0, none⟩ = some (str fk) := box_at HX8.out 0 _ rfl
      have k1 : W8.cell? ⟨T8, 1, none⟩ = some (.bool fs) := box_at HX8.out 1 _ rfl
      have k2 : W8.cell? ⟨T8, 2, none⟩ = some (.int .i64 fi) := box_at HX8.out 2 _ rfl
      have k3 : W8.cell? ⟨T8, 3, none⟩ = some (.int .i64 fb) := box_at HX8.out 3 _ rfl
      have k4 : W8.cell? ⟨T8, 4, none⟩ = some (str fd) := box_at HX8.out 4 _ rfl
      have k5 : W8.cell? ⟨T8, 5, none⟩ = some (.int .i64 ft) := box_at HX8.out 5 _ rfl
      have k6 : W8.cell? ⟨T8, 6, none⟩ = some (.bool fo) := box_at HX8.out 6 _ rfl
      have k7 : W8.cell? ⟨T8, 7, none⟩ = some (.slice B m d) := box_at HX8.out 7 _ rfl
      have hc55 := Lib.hid (rright1_any W8 (⟨fk, fs, fi, fb, fd, ft, fo, ws⟩, ⟨B, m, d⟩) room next (HWM.out.below HR8.out.bw) (by omega))
      have hl3 := HR8.out.a.rd.len
      rw [List.length_map, List.length_take] at hl3
      cases hq : rightF room next ⟨fk, fs, fi, fb, fd, ft, fo, ws⟩ with
      | false =>
        have HQ := Lib.hid hq; clear hq
        go_wp2_with (go_at_call 55; refine hc55.out.mono ?_; rw [HQ.out]; rintro e w9 ⟨rfl, hb9⟩)
        go_ret
        exact ⟨ret_bool (rightS_one HMEM.out HQ.out).symm, HR8.out.bw.trans (hb9.mono HR8.out.bw.size)⟩
      | true =>
        have hnum := rightF_num hq
        unfold badF at hnum
        simp only at hnum
        have hwl : ws.length ≤ 8 := by omega
        have HQ := Lib.hid hq; clear hq hnum
        by_cases hin : fi ∈ ((fls ys).take kk).map Fl.id
        · have hcb : (((fls ys).take kk).map Fl.id).contains fi = true := by simpa using hin
          have HCB := Lib.hid hcb
          have HIN := Lib.hid hin
          clear hcb hin
          go_wp2_with first
            | (go_at_call 55; refine hc55.out.mono ?_; rw [HQ.out]; rintro e w9 ⟨rfl, hb9⟩; have j2 : w9.cell? ⟨T8, 2, none⟩ = some (.int .i64 fi) := box_at (keep hb9 HX8.out) 2 _ rfl; have HR9 := Lib.hid (HR8.out.below hb9); clear hb9)
            | (go_at_call 56; refine (has_any _ A3 n3 c3 _ fi HR9.out.a.rd (by omega)).mono ?_; rw [HCB.out]; rintro e w10 ⟨rfl, hw10⟩; subst w10)
          go_ret
          exact ⟨ret_bool (rightS_ids (nodup_take HPRE.out HIN.out)).symm, HR9.out.bw⟩
        · have hcb : (((fls ys).take kk).map Fl.id).contains fi = false := by simpa using hin
          have HCB := Lib.hid hcb
          have HIN := Lib.hid hin
          clear hcb hin
          go_upto_region 10 with first
            | (go_at_call 55; refine hc55.out.mono ?_; rw [HQ.out]; rintro e w9 ⟨rfl, hb9⟩; have j2 : w9.cell? ⟨T8, 2, none⟩ = some (.int .i64 fi) := box_at (keep hb9 HX8.out) 2 _ rfl; have HR9 := Lib.hid (HR8.out.below hb9); have HX9 := Lib.hid (keep hb9 HX8.out); have hs9 := hb9.size; clear hb9)
            | (go_at_call 56; refine (has_any _ A3 n3 c3 _ fi HR9.out.a.rd (by omega)).mono ?_; rw [HCB.out]; rintro e w10 ⟨rfl, hw10⟩; subst w10)
          clear hc55 k0 k1 k2 k3 k4 k5 k6 k7 z0 z1 HR8 HRR HX8
          have hal9 : Below w9.heap.size w9 (w9.alloc (.cells #[.int .i64 fi] 3)) := (Below.refl _ _).alloc (Nat.le_refl _) _
          have HR9' := Lib.hid (HR9.out.below hal9)
          have HX9' := Lib.hid (keep hal9 HX9.out)
          go_upto_region 11 with (at_builtin; refine wp_appE w.heap.size rfl _ _ 34 3 (.int .i64 0) 8 rfl Try.underlying34 Try.info3 rfl (by omega) (by omega) (.slice A3 n3 c3) (.slice (some ⟨w9.heap.size, 0, none⟩) 1 1) _ [fi] rfl rfl HR9'.out.a (rd_boxE (enc := ienc) w9 fi 3) ienc1 (by rw [List.length_map, List.length_take]; simp; omega) (by have := HR9'.out.bw.size; simpa using this) ?_; intro v1 w11 hv1 hg1 hat1; obtain ⟨B3, m3, d3, rfl⟩ := hv1.slice')
          have hR11 := HR9'.out.put3 HIN.out hv1 hg1 hat1
          have hx11 : w11.heap[T8]? = some (.cells #[str fk, .bool fs, .int .i64 fi, .int .i64 fb, str fd, .int .i64 ft, .bool fo, .slice B m d] 45 (0, 0)) := by
            rw [hg1.block T8 (by simp; omega) (fun he => by
              obtain ⟨cs, hcs⟩ := HR9'.out.a.typed _ he.symm
              exact blocks_ne (show (3 : TypeId) ≠ 45 by decide) hcs HX9'.out rfl)]
            exact HX9'.out
          rw [show ((fls ys).take kk).map Fl.id ++ [fi] = ((fls ys).take (kk + 1)).map Fl.id by rw [HTK.out, List.map_append]; rfl] at hR11
          have HR11 := Lib.hid hR11
          have HX11 := Lib.hid hx11
          clear hR11 hx11 hv1 hg1 hat1 HR9 HR9' HX9 HX9' hal9 j2
          go_wp2_with fail
          go_loopg [4, 7] m (fun gq s4 s7 wq => ∃ (jj : Nat) (A4 : Option Addr) (n4 c4 : Nat), jj ≤ m ∧ m - jj ≤ gq ∧ s4 = .slice A4 n4 c4 ∧ s7 = .int .i64 jj ∧ Aside (RR w wq room next (.slice (some ⟨b, off, none⟩) n c) (.slice B3 m3 d3) (.slice A4 n4 c4) (((fls ys).take (kk + 1)).map Fl.id) (allw ((fls ys).take kk) ++ (ws.map Tm.id).take jj) ∧ wq.heap[T8]? = some (.cells #[str fk, .bool fs, .int .i64 fi, .int .i64 fb, str fd, .int .i64 ft, .bool fo, .slice B m d] 45 (0, 0))))
          case atStart => exact ⟨0, A4, n4, c4, Nat.zero_le _, by omega, rfl, rfl, by show Aside _; rw [List.take_zero, List.append_nil]; exact ⟨HR11.out, HX11.out⟩⟩
          case round =>
            clear HR11 HX11
            obtain ⟨jj, A5, n5, c5, hjj, hg2, rfl, rfl, HA2⟩ := hrel
            obtain ⟨hR, hX⟩ := HA2.out
            have k7 : wr.cell? ⟨T8, 7, none⟩ = some (.slice B m d) := box_at hX 7 _ rfl
            have hl4 := hR.b.rd.len
            rw [List.length_append, List.length_take, List.length_map] at hl4
            by_cases hlt2 : jj < m
            · have h2 : (jj : Int) < (m : Int) := by omega
              have ht : ws[jj]? = some (ws[jj]'(by omega)) := List.getElem?_eq_getElem _
              generalize ws[jj]'(by omega) = t at ht
              obtain ⟨b2, o2, rfl, _, j0, _⟩ := (HWM.out.below hR.bw).tm ht
              obtain ⟨ti, ta⟩ := t
              have hq2 : (ws.map Tm.id)[jj]? = some ti := by simp [ht]
              have htk2 : (ws.map Tm.id).take (jj + 1) = (ws.map Tm.id).take jj ++ [ti] := by
                have hk2 := (List.getElem?_eq_some_iff.1 hq2).1
                rw [List.take_succ_eq_append_getElem hk2]
                rw [List.getElem?_eq_getElem hk2] at hq2
                injection hq2 with hq2
                rw [hq2]
              have HRI := Lib.hid hR
              have HXI := Lib.hid hX
              have HQ2 := Lib.hid hq2
              have HT2 := Lib.hid htk2
              clear hR hX HA2 ht hq2 htk2
              by_cases hin2 : ti ∈ allw ((fls ys).take kk) ++ (ws.map Tm.id).take jj
              · have hcb : (allw ((fls ys).take kk) ++ (ws.map Tm.id).take jj).contains ti = true := List.contains_iff_mem.2 hin2
                have HCB := Lib.hid hcb
                have HIN2 := Lib.hid hin2
                clear hcb hin2
                go_wp2_with (go_at_call 56; refine (has_any _ A5 n5 c5 _ ti HRI.out.b.rd (by omega)).mono ?_; rw [HCB.out]; rintro e w10 ⟨rfl, hw10⟩; subst w10)
                go_ret
                exact ⟨ret_bool (rightS_ws (nodup_take (allw_pre (a := []) HFY.out HQ2.out) HIN2.out)).symm, HRI.out.bw⟩
              · have hcb : (allw ((fls ys).take kk) ++ (ws.map Tm.id).take jj).contains ti = false := by
                  rw [Bool.eq_false_iff]
                  exact fun h => hin2 (List.contains_iff_mem.1 h)
                have HCB := Lib.hid hcb
                have HIN2 := Lib.hid hin2
                clear hcb hin2
                have hal9 : Below wr.heap.size wr (wr.alloc (.cells #[.int .i64 ti] 3)) := (Below.refl _ _).alloc (Nat.le_refl _) _
                have HR9' := Lib.hid (HRI.out.below hal9)
                have HX9' := Lib.hid (keep hal9 HXI.out)
                have hTl : T8 < (wr.alloc (.cells #[.int .i64 ti] 3)).heap.size := (Array.getElem?_eq_some_iff.1 HX9'.out).1
                go_upto_region 16 with (go_at_call 56; refine (has_any _ A5 n5 c5 _ ti HRI.out.b.rd (by omega)).mono ?_; rw [HCB.out]; rintro e w10 ⟨rfl, hw10⟩; subst w10)
                go_wp2_with (at_builtin; refine wp_appE w.heap.size rfl _ _ 34 3 (.int .i64 0) 8 rfl Try.underlying34 Try.info3 rfl (by omega) (by omega) (.slice A5 n5 c5) (.slice (some ⟨wr.heap.size, 0, none⟩) 1 1) _ [ti] rfl rfl HR9'.out.b (rd_boxE (enc := ienc) wr ti 3) ienc1 (by rw [List.length_append, List.length_take, List.length_map]; simp; omega) (by have := HR9'.out.bw.size; simpa using this) ?_; intro v1 w11 hv1 hg1 hat1; obtain ⟨B4, m4, d4, rfl⟩ := hv1.slice'; have hR11 := HR9'.out.put4 HIN2.out hv1 hg1 hat1; have hx11 : w11.heap[T8]? = some (.cells #[str fk, .bool fs, .int .i64 fi, .int .i64 fb, str fd, .int .i64 ft, .bool fo, .slice (some ⟨b2, o2, none⟩) m d] 45 (0, 0)) := (hg1.block T8 hTl (fun he => by
                      obtain ⟨cs, hcs⟩ := HR9'.out.b.typed _ he.symm
                      exact blocks_ne (show (3 : TypeId) ≠ 45 by decide) hcs HX9'.out rfl)).trans HX9'.out; have HR11 := Lib.hid hR11; have HX11 := Lib.hid hx11; clear hR11 hx11 hv1 hg1 hat1 hal9 hTl k7)
                go_roundg (m - (jj + 1))
                case measure => omega
                case rel =>
                  refine ⟨jj + 1, B4, m4, d4, by omega, by omega, rfl, by go_num, (show Aside _ from ⟨?_, HX11.out⟩)⟩
                  rw [HT2.out, ← List.append_assoc]
                  exact HR11.out
            · have h2 : ¬ (jj : Int) < (m : Int) := by omega
              have HRI := Lib.hid hR
              have hal2 : allw ((fls ys).take (kk + 1)) = allw ((fls ys).take kk) ++ (ws.map Tm.id).take jj := by
                rw [HTK.out, allw_app, allw_one, List.take_of_length_le (l := ws.map Tm.id) (i := jj) (by rw [List.length_map]; omega)]
              have hal3 : (allw ((fls ys).take (kk + 1))).length ≤ 8 * (kk + 1) := by
                rw [hal2, List.length_append, List.length_take, List.length_map]
                omega
              have HAL2 := Lib.hid hal2
              have HAL3 := Lib.hid hal3
              clear hR hX HA2 hal2 hal3
              go_wp2_with fail
              go_roundg (n - (kk + 1))
              case measure => omega
              case rel =>
                refine ⟨kk + 1, B3, m3, d3, A5, n5, c5, by omega, by omega, rfl, rfl, by go_num, (show Aside _ from ⟨by rw [HAL2.out]; exact HRI.out, fun j x hj hx => ?_, HAL3.out⟩)⟩
                rcases Nat.lt_or_ge j kk with h | h
                · exact HALL.out j x h hx
                · obtain rfl : j = kk := by omega
                  rw [HY.out] at hx
                  injection hx with hx
                  subst hx
                  exact HQ.out
    · have h1 : ¬ (kk : Int) < (n : Int) := by omega
      have ht : (fls ys).take kk = fls ys := List.take_of_length_le (by omega)
      have hR := HRR.out
      rw [ht] at hR
      have hall : ∀ x ∈ fls ys, rightF room next x = true := fun x hx => by
        obtain ⟨j, hj⟩ := List.getElem?_of_mem hx
        obtain ⟨z, hz, rfl⟩ : ∃ z : FV, ys[j]? = some z ∧ z.1 = x := by
          simp only [fls, List.getElem?_map, Option.map_eq_some_iff] at hj
          exact hj
        exact HALL.out j z (by have := (List.getElem?_eq_some_iff.1 hz).1; omega) hz
      have HALL' := Lib.hid hall
      have HRF := Lib.hid hR
      clear ht hall hR
      go_wp2_with fail
      go_ret
      exact ⟨ret_bool (rightS_yes (by rw [hfl]; exact HNB.out) HALL'.out HRF.out.n3 HRF.out.n4).symm, HRF.out.bw⟩
end Go.Proofs.Ytipjhokhflokmaa
