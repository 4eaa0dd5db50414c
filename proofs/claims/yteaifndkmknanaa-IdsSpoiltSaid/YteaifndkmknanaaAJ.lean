/- Contract of lockagelaw02.IdsSpoilt. -/
import Derived.Test.YteaifndkmknanaaAH
set_option linter.unusedVariables false
set_option linter.unusedSimpArgs false
namespace Go.Proofs.Yteaifndkmknanaa
open Go.RowKit
open Go.Proofs.YteaifndkmknanaaW.PrintWords

theorem stepM_len (s : Tab × List Int) (b : Nat) : (stepM s b).1.gens.length = s.1.gens.length ∧ (stepM s b).1.busy.length = s.1.busy.length := by
  unfold stepM
  split
  · exact ⟨(takeS_len s.1).1, (takeS_len s.1).2.1⟩
  · split
    · exact ⟨(giveS_len s.1 _).1, (giveS_len s.1 _).2.1⟩
    · exact ⟨rfl, rfl⟩
theorem runM_len (l : List Nat) : ∀ s : Tab × List Int, (l.foldl stepM s).1.gens.length = s.1.gens.length ∧ (l.foldl stepM s).1.busy.length = s.1.busy.length := by
  induction l with
  | nil => intro s; exact ⟨rfl, rfl⟩
  | cons b r ih =>
    intro s
    have h1 := ih (stepM s b)
    have h2 := stepM_len s b
    simp only [List.foldl_cons]
    exact ⟨h1.1.trans h2.1, h1.2.trans h2.2⟩
theorem madeS_len (room : Nat) (l : List Nat) : (madeS room l).1.gens.length = 1 + room % 8 ∧ (madeS room l).1.busy.length = 1 + room % 8 := by
  have h := runM_len (l.take 60) (newS (1 + (room % 8 : Nat)), [])
  have h2 : newS (1 + (room % 8 : Nat)) = made (1 + room % 8) := by
    unfold newS
    rw [if_neg (by omega)]
    congr 1
  unfold madeS
  rw [h.1, h.2, h2]
  simp [made]

theorem TabO.setG {w : World} {base b o n c i : Nat} {vb vf : Value} {t : Tab} (h : TabO w base (.slice (some ⟨b, o, none⟩) n c) vb vf t) (hi : i < n) (x : Int) :
    TabO (w.setCell ⟨b, o + i, none⟩ (.int .i64 x)) base (.slice (some ⟨b, o, none⟩) n c) vb vf ⟨t.gens.set i x, t.busy, t.free⟩ := by
  have hl := h.g.rd.len
  obtain ⟨cur, hcur⟩ := h.g.typed b rfl
  refine ⟨?_, h.b.far (fun k hk => by obtain ⟨c2, h2⟩ := h.b.typed k hk; exact blocks_ne (by decide) h2 hcur) _, h.f.far (fun k hk he => h.ne b rfl (by rw [hk]; exact congrArg some he)) _, h.ne⟩
  have := h.g.set i (by omega) (.int .i64 x)
  rwa [show (ints t.gens).set i (.int .i64 x) = ints (t.gens.set i x) by simp [ints, List.map_set]] at this
theorem TabO.setF {w : World} {base b o n c i : Nat} {vg vb : Value} {t : Tab} (h : TabO w base vg vb (.slice (some ⟨b, o, none⟩) n c) t) (hi : i < n) (x : Int) :
    TabO (w.setCell ⟨b, o + i, none⟩ (.int .i64 x)) base vg vb (.slice (some ⟨b, o, none⟩) n c) ⟨t.gens, t.busy, t.free.set i x⟩ := by
  have hl := h.f.rd.len
  obtain ⟨cur, hcur⟩ := h.f.typed b rfl
  refine ⟨h.g.far (fun k hk he => h.ne k hk (by rw [show k = b from he]; rfl)) _, h.b.far (fun k hk => by obtain ⟨c2, h2⟩ := h.b.typed k hk; exact blocks_ne (by decide) h2 hcur) _, ?_, h.ne⟩
  have := h.f.set i (by omega) (.int .i64 x)
  rwa [show (ints t.free).set i (.int .i64 x) = ints (t.free.set i x) by simp [ints, List.map_set]] at this
theorem TabO.setB {w : World} {base b o n c i : Nat} {vg vf : Value} {t : Tab} (h : TabO w base vg (.slice (some ⟨b, o, none⟩) n c) vf t) (hi : i < n) (x : Bool) :
    TabO (w.setCell ⟨b, o + i, none⟩ (.bool x)) base vg (.slice (some ⟨b, o, none⟩) n c) vf ⟨t.gens, t.busy.set i x, t.free⟩ := by
  have hl := h.b.rd.len
  obtain ⟨cur, hcur⟩ := h.b.typed b rfl
  refine ⟨h.g.far (fun k hk => by obtain ⟨c2, h2⟩ := h.g.typed k hk; exact blocks_ne (by decide) h2 hcur) _, ?_, h.f.far (fun k hk => by obtain ⟨c2, h2⟩ := h.f.typed k hk; exact blocks_ne (by decide) h2 hcur) _, h.ne⟩
  have := h.b.set i (by omega) (.bool x)
  rwa [show (bls t.busy).set i (.bool x) = bls (t.busy.set i x) by simp [bls, List.map_set]] at this

set_option maxHeartbeats 4000000 in
theorem idsSpoilt_any (w : World) (room how at' : Nat) (n : Int) (Al : Option Addr) (nl cl : Nat) (l : List Nat) (hr : room < 256) (hhow : how < 256) (hat : at' < 256) (hl : Rd w (.slice Al nl cl) (u8s l)) (h8 : ∀ x ∈ l, x < 256) :
    Calls Try.prog 5 #[.int .u8 room, .slice Al nl cl, .int .u8 how, .int .u8 at', .int .i64 n] w fun e w' => e = .returned (.bool true) ∧ Below w.heap.size w w' := by
  have hm := Lib.hid (made_any w room Al nl cl l hr hl h8)
  have hok := OkM.made room l
  have hlen := madeS_len room l
  generalize madeS room l = st at hm hok hlen
  have HOK := Lib.hid hok
  clear hl h8 hok
  go_enter Try.func5, Try.ntmps5
  go_wp2_with fail
  refine hm.out.mono ?_
  rintro e w1 ⟨A1, n1, c1, A2, n2, c2, A3, n3, c3, Ai, ni, ci, rfl, hO, hI, hB1⟩
  have lg := hO.g.rd.len
  have lb := hO.b.rd.len
  have lf := hO.f.rd.len
  rw [ints_len] at lg lf
  rw [bls_len] at lb
  obtain ⟨hlg, hlb⟩ := hlen
  have hn1 : 1 ≤ n1 := by omega
  have hn8 : n1 ≤ 8 := by omega
  have hn12 : n2 = n1 := by omega
  have hf3 : n3 ≤ 124 := by have := HOK.out.f; omega
  have hn1z : ¬ (n1 : Int) = 0 := by omega
  have hn8z : (n1 : Int) ≤ 8 := by omega
  subst hn12
  obtain ⟨kq, hkq⟩ : ∃ kq, at' % n2 = kq := ⟨_, rfl⟩
  have hq : (at' : Int) % (n2 : Int) = (kq : Int) := by rw [← hkq]; simp
  have hkl : kq < n2 := by rw [← hkq]; exact Nat.mod_lt _ (by omega)
  have hklz : (kq : Int) < (n2 : Int) := by omega
  have HO := Lib.hid hO
  have HKQ := Lib.hid hkq
  clear hm hO hI hkq
  have h6 : how % 6 < 6 := Nat.mod_lt _ (by omega)
  obtain ⟨bg, og, rfl, hbg, ⟨curg, hcurg⟩, hcg, hgc, hgf⟩ := HO.out.g.form' (by omega)
  obtain ⟨bb, ob, rfl, hbb, ⟨curb, hcurb⟩, hcb, hbc, hbf⟩ := HO.out.b.form' (by omega)
  have hbgl := (Array.getElem?_eq_some_iff.1 hcurg).1
  have hbbl := (Array.getElem?_eq_some_iff.1 hcurb).1
  have hg1 := hgc kq _ (ints_at (by omega))
  have hb1 := hbc kq _ (bls_at (by omega))
  generalize hgv : st.1.gens[kq] = gv at hg1
  generalize hbv : st.1.busy[kq] = bv at hb1
  clear hgc hbc hcurg hcurb hgv hbv
  have AL : Below w1.heap.size w1 (w1.alloc (.cells #[.slice (some ⟨bg, og, none⟩) n2 c1, .slice (some ⟨bb, ob, none⟩) n2 c2, .slice A3 n3 c3] 25)) := (Below.refl _ _).alloc (Nat.le_refl _) _
  have HX := Lib.hid (heap_alloc_new w1 (.cells #[.slice (some ⟨bg, og, none⟩) n2 c1, .slice (some ⟨bb, ob, none⟩) n2 c2, .slice A3 n3 c3] 25))
  have HOW := Lib.hid (HO.out.below AL)
  have HBW := Lib.hid (hB1.trans (AL.mono hB1.size))
  have HSZ := Lib.hid (show (w1.alloc (.cells #[.slice (some ⟨bg, og, none⟩) n2 c1, .slice (some ⟨bb, ob, none⟩) n2 c2, .slice A3 n3 c3] 25)).heap.size = w1.heap.size + 1 by simp)
  have HAL := Lib.hid AL
  clear AL
  obtain h | h | h | h | h | h : how % 6 = 0 ∨ how % 6 = 1 ∨ how % 6 = 2 ∨ how % 6 = 3 ∨ how % 6 = 4 ∨ how % 6 = 5 := by omega
  · have hh : (how : Int) % 6 = 0 := by omega
    go_wp2_with fail
    have al : Below (w1.setCell ⟨bg, og + kq, none⟩ (.int .i64 n)).heap.size (w1.setCell ⟨bg, og + kq, none⟩ (.int .i64 n)) ((w1.setCell ⟨bg, og + kq, none⟩ (.int .i64 n)).alloc (.cells #[.slice (some ⟨bg, og, none⟩) n2 c1, .slice (some ⟨bb, ob, none⟩) n2 c2, .slice A3 n3 c3] 25)) := (Below.refl _ _).alloc (Nat.le_refl _) _
    have BV := (hB1.setCell (p := ⟨bg, og + kq, none⟩) hbg (.int .i64 n)).trans (al.mono (by simpa using hB1.size))
    have XV : ((w1.setCell ⟨bg, og + kq, none⟩ (.int .i64 n)).alloc (.cells #[.slice (some ⟨bg, og, none⟩) n2 c1, .slice (some ⟨bb, ob, none⟩) n2 c2, .slice A3 n3 c3] 25)).heap[w1.heap.size]? = some (.cells #[.slice (some ⟨bg, og, none⟩) n2 c1, .slice (some ⟨bb, ob, none⟩) n2 c2, .slice A3 n3 c3] 25 (0, 0)) := by
      have := heap_alloc_new (w1.setCell ⟨bg, og + kq, none⟩ (.int .i64 n)) (.cells #[.slice (some ⟨bg, og, none⟩) n2 c1, .slice (some ⟨bb, ob, none⟩) n2 c2, .slice A3 n3 c3] 25)
      simpa using this
    have RV := (HO.out.setG hkl n).below al
    have hs' : (⟨st.1.gens.set kq n, st.1.busy, st.1.free⟩ : Tab).small := ⟨by simp; omega, by show st.1.busy.length ≤ _; omega, by show st.1.free.length ≤ _; omega⟩
    clear al
    have HS := Lib.hid hs'
    have X6 := Lib.hid XV
    have R6 := Lib.hid RV
    have B6 := Lib.hid BV
    clear XV RV BV hs'
    refine (awake_any _).mono ?_
    rintro e w6 ⟨rfl, hb6⟩
    have X6 := keep hb6 X6.out
    have R6 := Lib.hid (R6.out.r.below hb6)
    have B6 := Lib.hid (B6.out.trans (hb6.mono B6.out.size))
    have z0 := box_at X6 0 _ rfl
    have z1 := box_at X6 1 _ rfl
    have z2 := box_at X6 2 _ rfl
    clear hb6
    go_wp2_with fail
    refine (told_any _ _ _ _ _ _ _ _ _ _ _ kq R6.out HS.out (by omega)).mono ?_
    rintro e w7 ⟨rfl, hb7⟩
    have X7 := keep hb7 X6
    have R7 := Lib.hid (R6.out.below hb7)
    have B7 := Lib.hid (B6.out.trans (hb7.mono B6.out.size))
    clear z0 z1 z2 hb7 X6
    have z0 := box_at X7 0 _ rfl
    have z1 := box_at X7 1 _ rfl
    have z2 := box_at X7 2 _ rfl
    go_wp2_with fail
    refine (told_any _ _ _ _ _ _ _ _ _ _ _ (9007199254740992 * n2 + kq) R7.out HS.out (by omega)).mono ?_
    rintro e w8 ⟨rfl, hb8⟩
    have B8 := B7.out.trans (hb8.mono B7.out.size)
    clear z0 z1 z2 hb8 X7
    go_wp2_with fail
    go_ret
    exact ⟨by simp, B8⟩
  · have hh : (how : Int) % 6 = 1 := by omega
    go_wp2_with fail
    go_region
    go_wp2_with fail
    have al : Below (w1.setCell ⟨bb, ob + kq, none⟩ (.bool !bv)).heap.size (w1.setCell ⟨bb, ob + kq, none⟩ (.bool !bv)) ((w1.setCell ⟨bb, ob + kq, none⟩ (.bool !bv)).alloc (.cells #[.slice (some ⟨bg, og, none⟩) n2 c1, .slice (some ⟨bb, ob, none⟩) n2 c2, .slice A3 n3 c3] 25)).drew := below_drew ((Below.refl _ _).alloc (Nat.le_refl _) _)
    have BV := (hB1.setCell (p := ⟨bb, ob + kq, none⟩) hbb (.bool !bv)).trans (al.mono (by simpa using hB1.size))
    have XV : ((w1.setCell ⟨bb, ob + kq, none⟩ (.bool !bv)).alloc (.cells #[.slice (some ⟨bg, og, none⟩) n2 c1, .slice (some ⟨bb, ob, none⟩) n2 c2, .slice A3 n3 c3] 25)).drew.heap[w1.heap.size]? = some (.cells #[.slice (some ⟨bg, og, none⟩) n2 c1, .slice (some ⟨bb, ob, none⟩) n2 c2, .slice A3 n3 c3] 25 (0, 0)) := by
      show ((w1.setCell ⟨bb, ob + kq, none⟩ (.bool !bv)).alloc (.cells #[.slice (some ⟨bg, og, none⟩) n2 c1, .slice (some ⟨bb, ob, none⟩) n2 c2, .slice A3 n3 c3] 25)).heap[w1.heap.size]? = some (.cells #[.slice (some ⟨bg, og, none⟩) n2 c1, .slice (some ⟨bb, ob, none⟩) n2 c2, .slice A3 n3 c3] 25 (0, 0))
      have := heap_alloc_new (w1.setCell ⟨bb, ob + kq, none⟩ (.bool !bv)) (.cells #[.slice (some ⟨bg, og, none⟩) n2 c1, .slice (some ⟨bb, ob, none⟩) n2 c2, .slice A3 n3 c3] 25)
      simpa using this
    have RV := (HO.out.setB hkl (!bv)).below al
    have hs' : (⟨st.1.gens, st.1.busy.set kq (!bv), st.1.free⟩ : Tab).small := ⟨by show st.1.gens.length ≤ _; omega, by simp; omega, by show st.1.free.length ≤ _; omega⟩
    clear al
    have HS := Lib.hid hs'
    have X6 := Lib.hid XV
    have R6 := Lib.hid RV
    have B6 := Lib.hid BV
    clear XV RV BV hs'
    refine (awake_any _).mono ?_
    rintro e w6 ⟨rfl, hb6⟩
    have X6 := keep hb6 X6.out
    have R6 := Lib.hid (R6.out.r.below hb6)
    have B6 := Lib.hid (B6.out.trans (hb6.mono B6.out.size))
    have z0 := box_at X6 0 _ rfl
    have z1 := box_at X6 1 _ rfl
    have z2 := box_at X6 2 _ rfl
    clear hb6
    go_wp2_with fail
    refine (told_any _ _ _ _ _ _ _ _ _ _ _ kq R6.out HS.out (by omega)).mono ?_
    rintro e w7 ⟨rfl, hb7⟩
    have X7 := keep hb7 X6
    have R7 := Lib.hid (R6.out.below hb7)
    have B7 := Lib.hid (B6.out.trans (hb7.mono B6.out.size))
    clear z0 z1 z2 hb7 X6
    have z0 := box_at X7 0 _ rfl
    have z1 := box_at X7 1 _ rfl
    have z2 := box_at X7 2 _ rfl
    go_wp2_with fail
    refine (told_any _ _ _ _ _ _ _ _ _ _ _ (9007199254740992 * n2 + kq) R7.out HS.out (by omega)).mono ?_
    rintro e w8 ⟨rfl, hb8⟩
    have B8 := B7.out.trans (hb8.mono B7.out.size)
    clear z0 z1 z2 hb8 X7
    go_wp2_with fail
    go_ret
    exact ⟨by simp, B8⟩
  · have hh : (how : Int) % 6 = 2 := by omega
    go_wp2_with (at_builtin; generalize hW : (w1.alloc (.cells #[.slice (some ⟨bg, og, none⟩) n2 c1, .slice (some ⟨bb, ob, none⟩) n2 c2, .slice A3 n3 c3] 25)) = W at *; clear hW; refine wp_app w.heap.size rfl _ _ 22 3 (.int .i64 0) 8 rfl Try.underlying22 Try.info3 rfl (by omega) (.slice A3 n3 c3) (.slice (some ⟨w1.heap.size + 1, 0, none⟩) 1 1) (ints st.1.free) [.int .i64 n] rfl rfl ?d1 ?d0 ?d2 ?d3 ?d4 ?d5)
    case d0 =>
      have := rd_box W (.int .i64 n) 3
      rwa [HSZ.out] at this
    case d1 => exact HOW.out.f.below ((Below.refl _ _).alloc (Nat.le_refl _) _)
    case d2 => simp [Value.oneCell']
    case d3 => simp [ints_len, bls_len]; omega
    case d4 => have := HBW.out.size; simp; omega
    case d5 =>
      intro v1 w4 hv1 hg1 hat1
      obtain ⟨A7, n7, c7, rfl⟩ := hv1.slice'
      obtain ⟨k1, k2, k3⟩ := step_f HX.out HOW.out hg1 hv1 (by rcases hat1 with h | ⟨b, h, hb⟩; exact .inl h; exact .inr ⟨b, h, by simpa using hb⟩)
      have hB4 : Below w.heap.size w w4 := (HBW.out.alloc HBW.out.size _).grown hg1 (by have := HBW.out.size; simp; omega) (fun k hk => HOW.out.f.base k hk)
      have BV := Lib.hid (hB4.setCell (p := ⟨w1.heap.size, 2, none⟩) hB1.size (.slice A7 n7 c7))
      have XV := Lib.hid k2
      have RV := Lib.hid k3
      have hs' : (⟨st.1.gens, st.1.busy, st.1.free ++ [n]⟩ : Tab).small := ⟨by show st.1.gens.length ≤ _; omega, by show st.1.busy.length ≤ _; omega, by simp; omega⟩
      have z0 := box_at k1 0 _ rfl
      have z1 := box_at k1 1 _ rfl
      have z2 := box_at k1 2 _ rfl
      have zf := box_free k1
      have hl4 : w1.heap.size < w4.heap.size := (Array.getElem?_eq_some_iff.1 k1).1
      clear k1 k2 k3 hB4 hv1 hg1 hat1 HX HOW HBW HAL
      go_wp2_with fail
      clear z0 z1 z2 zf
      have XV := XV.out
      have RV := RV.out
      have BV := BV.out
      have HS := Lib.hid hs'
      have X6 := Lib.hid XV
      have R6 := Lib.hid RV
      have B6 := Lib.hid BV
      clear XV RV BV hs'
      refine (awake_any _).mono ?_
      rintro e w6 ⟨rfl, hb6⟩
      have X6 := keep hb6 X6.out
      have R6 := Lib.hid (R6.out.r.below hb6)
      have B6 := Lib.hid (B6.out.trans (hb6.mono B6.out.size))
      have z0 := box_at X6 0 _ rfl
      have z1 := box_at X6 1 _ rfl
      have z2 := box_at X6 2 _ rfl
      clear hb6
      go_wp2_with fail
      refine (told_any _ _ _ _ _ _ _ _ _ _ _ kq R6.out HS.out (by omega)).mono ?_
      rintro e w7 ⟨rfl, hb7⟩
      have X7 := keep hb7 X6
      have R7 := Lib.hid (R6.out.below hb7)
      have B7 := Lib.hid (B6.out.trans (hb7.mono B6.out.size))
      clear z0 z1 z2 hb7 X6
      have z0 := box_at X7 0 _ rfl
      have z1 := box_at X7 1 _ rfl
      have z2 := box_at X7 2 _ rfl
      go_wp2_with fail
      refine (told_any _ _ _ _ _ _ _ _ _ _ _ (9007199254740992 * n2 + kq) R7.out HS.out (by omega)).mono ?_
      rintro e w8 ⟨rfl, hb8⟩
      have B8 := B7.out.trans (hb8.mono B7.out.size)
      clear z0 z1 z2 hb8 X7
      go_wp2_with fail
      go_ret
      exact ⟨by simp, B8⟩
  · have hh : (how : Int) % 6 = 3 := by omega
    go_wp2_with (at_builtin; generalize hW : (w1.alloc (.cells #[.slice (some ⟨bg, og, none⟩) n2 c1, .slice (some ⟨bb, ob, none⟩) n2 c2, .slice A3 n3 c3] 25)) = W at *; clear hW; refine wp_app w.heap.size rfl _ _ 23 4 (.bool false) 1 rfl Try.underlying23 Try.info4 rfl (by omega) (.slice (some ⟨bb, ob, none⟩) n2 c2) (.slice (some ⟨w1.heap.size + 1, 0, none⟩) 1 1) (bls st.1.busy) [.bool false] rfl rfl ?d1 ?d0 ?d2 ?d3 ?d4 ?d5)
    case d0 =>
      have := rd_box W (.bool false) 4
      rwa [HSZ.out] at this
    case d1 => exact HOW.out.b.below ((Below.refl _ _).alloc (Nat.le_refl _) _)
    case d2 => simp [Value.oneCell']
    case d3 => simp [ints_len, bls_len]; omega
    case d4 => have := HBW.out.size; simp; omega
    case d5 =>
      intro v1 w4 hv1 hg1 hat1
      obtain ⟨A7, n7, c7, rfl⟩ := hv1.slice'
      obtain ⟨k1, k2, k3⟩ := step_b HX.out HOW.out hg1 hv1
      have hB4 : Below w.heap.size w w4 := (HBW.out.alloc HBW.out.size _).grown hg1 (by have := HBW.out.size; simp; omega) (fun k hk => HOW.out.b.base k hk)
      have BV := Lib.hid (hB4.setCell (p := ⟨w1.heap.size, 1, none⟩) hB1.size (.slice A7 n7 c7))
      have XV := Lib.hid k2
      have RV := Lib.hid k3
      have hs' : (⟨st.1.gens, st.1.busy ++ [false], st.1.free⟩ : Tab).small := ⟨by show st.1.gens.length ≤ _; omega, by simp; omega, by show st.1.free.length ≤ _; omega⟩
      have z0 := box_at k1 0 _ rfl
      have z1 := box_at k1 1 _ rfl
      have z2 := box_at k1 2 _ rfl
      have zf := box_free k1
      have hl4 : w1.heap.size < w4.heap.size := (Array.getElem?_eq_some_iff.1 k1).1
      clear k1 k2 k3 hB4 hv1 hg1 hat1 HX HOW HBW HAL
      go_wp2_with fail
      clear z0 z1 z2 zf
      have XV := XV.out
      have RV := RV.out
      have BV := BV.out
      have HS := Lib.hid hs'
      have X6 := Lib.hid XV
      have R6 := Lib.hid RV
      have B6 := Lib.hid BV
      clear XV RV BV hs'
      refine (awake_any _).mono ?_
      rintro e w6 ⟨rfl, hb6⟩
      have X6 := keep hb6 X6.out
      have R6 := Lib.hid (R6.out.r.below hb6)
      have B6 := Lib.hid (B6.out.trans (hb6.mono B6.out.size))
      have z0 := box_at X6 0 _ rfl
      have z1 := box_at X6 1 _ rfl
      have z2 := box_at X6 2 _ rfl
      clear hb6
      go_wp2_with fail
      refine (told_any _ _ _ _ _ _ _ _ _ _ _ kq R6.out HS.out (by omega)).mono ?_
      rintro e w7 ⟨rfl, hb7⟩
      have X7 := keep hb7 X6
      have R7 := Lib.hid (R6.out.below hb7)
      have B7 := Lib.hid (B6.out.trans (hb7.mono B6.out.size))
      clear z0 z1 z2 hb7 X6
      have z0 := box_at X7 0 _ rfl
      have z1 := box_at X7 1 _ rfl
      have z2 := box_at X7 2 _ rfl
      go_wp2_with fail
      refine (told_any _ _ _ _ _ _ _ _ _ _ _ (9007199254740992 * n2 + kq) R7.out HS.out (by omega)).mono ?_
      rintro e w8 ⟨rfl, hb8⟩
      have B8 := B7.out.trans (hb8.mono B7.out.size)
      clear z0 z1 z2 hb8 X7
      go_wp2_with fail
      go_ret
      exact ⟨by simp, B8⟩
  · have hh : (how : Int) % 6 = 4 := by omega
    by_cases hz : n3 = 0
    · subst hz
      go_wp2_with fail
      have XV := HX.out
      have RV := HOW.out
      have BV := HBW.out
      have hs' : st.1.small := HOK.out.small (by omega)
      have HS := Lib.hid hs'
      have X6 := Lib.hid XV
      have R6 := Lib.hid RV
      have B6 := Lib.hid BV
      clear XV RV BV hs'
      refine (awake_any _).mono ?_
      rintro e w6 ⟨rfl, hb6⟩
      have X6 := keep hb6 X6.out
      have R6 := Lib.hid (R6.out.r.below hb6)
      have B6 := Lib.hid (B6.out.trans (hb6.mono B6.out.size))
      have z0 := box_at X6 0 _ rfl
      have z1 := box_at X6 1 _ rfl
      have z2 := box_at X6 2 _ rfl
      clear hb6
      go_wp2_with fail
      refine (told_any _ _ _ _ _ _ _ _ _ _ _ kq R6.out HS.out (by omega)).mono ?_
      rintro e w7 ⟨rfl, hb7⟩
      have X7 := keep hb7 X6
      have R7 := Lib.hid (R6.out.below hb7)
      have B7 := Lib.hid (B6.out.trans (hb7.mono B6.out.size))
      clear z0 z1 z2 hb7 X6
      have z0 := box_at X7 0 _ rfl
      have z1 := box_at X7 1 _ rfl
      have z2 := box_at X7 2 _ rfl
      go_wp2_with fail
      refine (told_any _ _ _ _ _ _ _ _ _ _ _ (9007199254740992 * n2 + kq) R7.out HS.out (by omega)).mono ?_
      rintro e w8 ⟨rfl, hb8⟩
      have B8 := B7.out.trans (hb8.mono B7.out.size)
      clear z0 z1 z2 hb8 X7
      go_wp2_with fail
      go_ret
      exact ⟨by simp, B8⟩
    · have hz1 : (0 : Int) < (n3 : Int) := by omega
      have hz2 : ¬ (n3 : Int) = 0 := by omega
      have hz0 : 0 < n3 := by omega
      obtain ⟨kf, hkf⟩ : ∃ kf, at' % n3 = kf := ⟨_, rfl⟩
      have hqf : (at' : Int) % (n3 : Int) = (kf : Int) := by rw [← hkf]; simp
      have hkfl : kf < n3 := by rw [← hkf]; exact Nat.mod_lt _ (by omega)
      have hkfz : (kf : Int) < (n3 : Int) := by omega
      obtain ⟨bf, off, rfl, hbf', ⟨curf, hcurf⟩, hcf, hfc, hff⟩ := HO.out.f.form' (by omega)
      have hbfl := (Array.getElem?_eq_some_iff.1 hcurf).1
      have hf1 := hfc kf _ (ints_at (by omega))
      generalize hfv : st.1.free[kf] = fv at hf1
      clear hfc hcurf hfv hkf
      go_wp2_with fail
      go_region
      go_wp2_with fail
      have al : Below (w1.setCell ⟨bf, off + kf, none⟩ (.int .i64 n)).heap.size (w1.setCell ⟨bf, off + kf, none⟩ (.int .i64 n)) ((w1.setCell ⟨bf, off + kf, none⟩ (.int .i64 n)).alloc (.cells #[.slice (some ⟨bg, og, none⟩) n2 c1, .slice (some ⟨bb, ob, none⟩) n2 c2, .slice (some ⟨bf, off, none⟩) n3 c3] 25)).drew := below_drew ((Below.refl _ _).alloc (Nat.le_refl _) _)
      have BV := (hB1.setCell (p := ⟨bf, off + kf, none⟩) hbf' (.int .i64 n)).trans (al.mono (by simpa using hB1.size))
      have XV : ((w1.setCell ⟨bf, off + kf, none⟩ (.int .i64 n)).alloc (.cells #[.slice (some ⟨bg, og, none⟩) n2 c1, .slice (some ⟨bb, ob, none⟩) n2 c2, .slice (some ⟨bf, off, none⟩) n3 c3] 25)).drew.heap[w1.heap.size]? = some (.cells #[.slice (some ⟨bg, og, none⟩) n2 c1, .slice (some ⟨bb, ob, none⟩) n2 c2, .slice (some ⟨bf, off, none⟩) n3 c3] 25 (0, 0)) := by
        show ((w1.setCell ⟨bf, off + kf, none⟩ (.int .i64 n)).alloc (.cells #[.slice (some ⟨bg, og, none⟩) n2 c1, .slice (some ⟨bb, ob, none⟩) n2 c2, .slice (some ⟨bf, off, none⟩) n3 c3] 25)).heap[w1.heap.size]? = some (.cells #[.slice (some ⟨bg, og, none⟩) n2 c1, .slice (some ⟨bb, ob, none⟩) n2 c2, .slice (some ⟨bf, off, none⟩) n3 c3] 25 (0, 0))
        have := heap_alloc_new (w1.setCell ⟨bf, off + kf, none⟩ (.int .i64 n)) (.cells #[.slice (some ⟨bg, og, none⟩) n2 c1, .slice (some ⟨bb, ob, none⟩) n2 c2, .slice (some ⟨bf, off, none⟩) n3 c3] 25)
        simpa using this
      have RV := (HO.out.setF hkfl n).below al
      have hs' : (⟨st.1.gens, st.1.busy, st.1.free.set kf n⟩ : Tab).small := ⟨by show st.1.gens.length ≤ _; omega, by show st.1.busy.length ≤ _; omega, by simp; omega⟩
      clear al
      have HS := Lib.hid hs'
      have X6 := Lib.hid XV
      have R6 := Lib.hid RV
      have B6 := Lib.hid BV
      clear XV RV BV hs'
      refine (awake_any _).mono ?_
      rintro e w6 ⟨rfl, hb6⟩
      have X6 := keep hb6 X6.out
      have R6 := Lib.hid (R6.out.r.below hb6)
      have B6 := Lib.hid (B6.out.trans (hb6.mono B6.out.size))
      have z0 := box_at X6 0 _ rfl
      have z1 := box_at X6 1 _ rfl
      have z2 := box_at X6 2 _ rfl
      clear hb6
      go_wp2_with fail
      refine (told_any _ _ _ _ _ _ _ _ _ _ _ kq R6.out HS.out (by omega)).mono ?_
      rintro e w7 ⟨rfl, hb7⟩
      have X7 := keep hb7 X6
      have R7 := Lib.hid (R6.out.below hb7)
      have B7 := Lib.hid (B6.out.trans (hb7.mono B6.out.size))
      clear z0 z1 z2 hb7 X6
      have z0 := box_at X7 0 _ rfl
      have z1 := box_at X7 1 _ rfl
      have z2 := box_at X7 2 _ rfl
      go_wp2_with fail
      refine (told_any _ _ _ _ _ _ _ _ _ _ _ (9007199254740992 * n2 + kq) R7.out HS.out (by omega)).mono ?_
      rintro e w8 ⟨rfl, hb8⟩
      have B8 := B7.out.trans (hb8.mono B7.out.size)
      clear z0 z1 z2 hb8 X7
      go_wp2_with fail
      go_ret
      exact ⟨by simp, B8⟩
  · have hh : (how : Int) % 6 = 5 := by omega
    go_wp2_with fail
    have al : Below (w1.setCell ⟨bg, og + kq, none⟩ (.int .i64 9007199254740992)).heap.size (w1.setCell ⟨bg, og + kq, none⟩ (.int .i64 9007199254740992)) ((w1.setCell ⟨bg, og + kq, none⟩ (.int .i64 9007199254740992)).alloc (.cells #[.slice (some ⟨bg, og, none⟩) n2 c1, .slice (some ⟨bb, ob, none⟩) n2 c2, .slice A3 n3 c3] 25)) := (Below.refl _ _).alloc (Nat.le_refl _) _
    have BV := (hB1.setCell (p := ⟨bg, og + kq, none⟩) hbg (.int .i64 9007199254740992)).trans (al.mono (by simpa using hB1.size))
    have XV : ((w1.setCell ⟨bg, og + kq, none⟩ (.int .i64 9007199254740992)).alloc (.cells #[.slice (some ⟨bg, og, none⟩) n2 c1, .slice (some ⟨bb, ob, none⟩) n2 c2, .slice A3 n3 c3] 25)).heap[w1.heap.size]? = some (.cells #[.slice (some ⟨bg, og, none⟩) n2 c1, .slice (some ⟨bb, ob, none⟩) n2 c2, .slice A3 n3 c3] 25 (0, 0)) := by
      have := heap_alloc_new (w1.setCell ⟨bg, og + kq, none⟩ (.int .i64 9007199254740992)) (.cells #[.slice (some ⟨bg, og, none⟩) n2 c1, .slice (some ⟨bb, ob, none⟩) n2 c2, .slice A3 n3 c3] 25)
      simpa using this
    have RV := (HO.out.setG hkl 9007199254740992).below al
    have hs' : (⟨st.1.gens.set kq 9007199254740992, st.1.busy, st.1.free⟩ : Tab).small := ⟨by simp; omega, by show st.1.busy.length ≤ _; omega, by show st.1.free.length ≤ _; omega⟩
    clear al
    have HS := Lib.hid hs'
    have X6 := Lib.hid XV
    have R6 := Lib.hid RV
    have B6 := Lib.hid BV
    clear XV RV BV hs'
    refine (awake_any _).mono ?_
    rintro e w6 ⟨rfl, hb6⟩
    have X6 := keep hb6 X6.out
    have R6 := Lib.hid (R6.out.r.below hb6)
    have B6 := Lib.hid (B6.out.trans (hb6.mono B6.out.size))
    have z0 := box_at X6 0 _ rfl
    have z1 := box_at X6 1 _ rfl
    have z2 := box_at X6 2 _ rfl
    clear hb6
    go_wp2_with fail
    refine (told_any _ _ _ _ _ _ _ _ _ _ _ kq R6.out HS.out (by omega)).mono ?_
    rintro e w7 ⟨rfl, hb7⟩
    have X7 := keep hb7 X6
    have R7 := Lib.hid (R6.out.below hb7)
    have B7 := Lib.hid (B6.out.trans (hb7.mono B6.out.size))
    clear z0 z1 z2 hb7 X6
    have z0 := box_at X7 0 _ rfl
    have z1 := box_at X7 1 _ rfl
    have z2 := box_at X7 2 _ rfl
    go_wp2_with fail
    refine (told_any _ _ _ _ _ _ _ _ _ _ _ (9007199254740992 * n2 + kq) R7.out HS.out (by omega)).mono ?_
    rintro e w8 ⟨rfl, hb8⟩
    have B8 := B7.out.trans (hb8.mono B7.out.size)
    clear z0 z1 z2 hb8 X7
    go_wp2_with fail
    go_ret
    exact ⟨by simp, B8⟩
end Go.Proofs.Yteaifndkmknanaa
