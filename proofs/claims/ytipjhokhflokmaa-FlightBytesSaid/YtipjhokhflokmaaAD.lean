/- Ints and Same, at alike. -/
import Derived.Test.YtipjhokhflokmaaAC
set_option linter.unusedVariables false
set_option linter.unusedSimpArgs false
namespace Go.Proofs.Ytipjhokhflokmaa
open Go.RowKit
open Go.Proofs.YtipjhokhflokmaaW.PrintWords

theorem cell_al {w : World} {p : Addr} {v : Value} (h : w.cell? p = some v) (o : Obj) : (w.alloc o).cell? p = some v := pw_cell_below ((Below.refl w.heap.size w).alloc (Nat.le_refl _) o) h
theorem two1 (w : World) (a : Array Value) (T : TypeId) (o : Obj) : (((w.alloc (.cells a T)).alloc o).drew).heap[w.heap.size]? = some (.cells a T (0, 0)) := keep (below_drew ((Below.refl _ _).alloc (Nat.le_refl _) _)) (heap_alloc_new w _)
theorem two2 (w : World) (a : Array Value) (T : TypeId) (o : Obj) : (((w.alloc o).alloc (.cells a T)).drew).heap[w.heap.size + 1]? = some (.cells a T (0, 0)) := by
  have := heap_alloc_new (w.alloc o) (.cells a T)
  rw [show (w.alloc o).heap.size = w.heap.size + 1 by simp] at this
  exact this
set_option maxHeartbeats 4000000 in
theorem ints1_any (w : World) (A B : Option Addr) (n c m d : Nat) (xs : List Int) (hr : RdE ienc 1 w (.slice A n c) xs) (hs : RdE ienc 1 w (.slice B m d) xs) :
    Calls Try.prog 44 #[.slice A n c, .slice B m d] w fun e w' => e = .returned (.bool true) ∧ Below w.heap.size w w' := by
  have hnm : n = m := by have := hr.len; have := hs.len; omega
  subst hnm
  have hl := hr.len
  have hmx := hr.max
  have hnx : n ≤ 9223372036854775807 := by omega
  have HR := Lib.hid hr
  have HS := Lib.hid hs
  clear hr hs hmx
  go_enter Try.func44, Try.ntmps44
  go_wp2_with fail
  go_loopg [5] n (fun gg s5 wr => ∃ kk : Nat, kk ≤ n ∧ n - kk ≤ gg ∧ s5 = .int .i64 kk ∧ Below w.heap.size w wr)
  case atStart => exact ⟨0, Nat.zero_le _, by omega, rfl, Below.refl _ _⟩
  case round =>
    obtain ⟨kk, hkk, hg, rfl, hB⟩ := hrel
    by_cases hlt : kk < n
    · have hltz : (kk : Int) < (n : Int) := by omega
      obtain ⟨b, off, rfl, hbl, k0⟩ := HR.out.int (i := kk) (by omega)
      obtain ⟨b2, off2, rfl, hbl2, j0⟩ := HS.out.int (i := kk) (by omega)
      generalize xs[kk]'(by omega) = y at k0 j0
      have k0 : wr.cell? ⟨b, off + kk, none⟩ = some (.int .i64 y) := (hB.cell (p := ⟨b, off + kk, none⟩) hbl).trans k0
      have j0 : wr.cell? ⟨b2, off2 + kk, none⟩ = some (.int .i64 y) := (hB.cell (p := ⟨b2, off2 + kk, none⟩) hbl2).trans j0
      have HB := Lib.hid hB
      clear hB
      go_upto_region 6 with fail
      go_quiet (fail)
      go_wp2_with fail
      go_roundg (n - (kk + 1))
      case measure => omega
      case rel => exact ⟨kk + 1, by omega, by omega, by simp, pw_below_drewN HB.out _⟩
    · have hltz : ¬ (kk : Int) < (n : Int) := by omega
      go_wp2_with fail
      go_ret
      exact ⟨rfl, hB⟩
set_option maxHeartbeats 400000 in
theorem ints_any (w : World) (A B : Option Addr) (n c m d : Nat) (xs : List Int) (hr : RdE ienc 1 w (.slice A n c) xs) (hs : RdE ienc 1 w (.slice B m d) xs) :
    Calls Try.prog 21 #[.slice A n c, .slice B m d] w fun e w' => e = .returned (.bool true) ∧ Below w.heap.size w w' := by
  have C := Lib.hid (ints1_any w A B n c m d xs hr hs)
  clear hr hs
  go_enter Try.func21, Try.ntmps21
  go_wp2_with (go_at_call 44; refine C.out.mono ?_; rintro e w' ⟨rfl, hb⟩)
  go_ret
  exact ⟨rfl, hb⟩

set_option maxRecDepth 100000 in
set_option maxHeartbeats 8000000 in
theorem same_any (w : World) (room next : Int) (A B : Option Addr) (n c m d : Nat) (ys zs : List FV) (hr : RdF w (.slice A n c) ys) (hs : RdF w (.slice B m d) zs) (he : fls ys = fls zs) (hn : n ≤ 100000) (hw : ∀ (i : Nat) (y : FV), ys[i]? = some y → y.1.ws.length ≤ 1000) :
    Calls Try.prog 30 #[fv room next (.slice A n c), fv room next (.slice B m d)] w fun e w' => e = .returned (.bool true) ∧ Below w.heap.size w w' := by
  have hnm : n = m := by have h1 := hr.len; have h2 := hs.len; have h3 := fls_len he; have h4 : (fls zs).length = zs.length := (by simp [fls]); omega
  subst hnm
  have HLY := Lib.hid hr.len
  have HLZ := Lib.hid hs.len
  have HR := Lib.hid hr
  have HS := Lib.hid hs
  have HEQ := Lib.hid he
  have HWL := Lib.hid hw
  have hW : Below w.heap.size w ((w.alloc (.cells #[.int .i64 room, .int .i64 next, .slice A n c] 26)).alloc (.cells #[.int .i64 room, .int .i64 next, .slice B n d] 26)) := ((Below.refl _ _).alloc (Nat.le_refl _) _).alloc (by simp) _
  have x1 : ((w.alloc (.cells #[.int .i64 room, .int .i64 next, .slice A n c] 26)).alloc (.cells #[.int .i64 room, .int .i64 next, .slice B n d] 26)).heap[w.heap.size]? = some (.cells #[.int .i64 room, .int .i64 next, .slice A n c] 26 (0, 0)) := keep ((Below.refl _ _).alloc (Nat.le_refl _) _) (heap_alloc_new w _)
  have x2 : ((w.alloc (.cells #[.int .i64 room, .int .i64 next, .slice A n c] 26)).alloc (.cells #[.int .i64 room, .int .i64 next, .slice B n d] 26)).heap[w.heap.size + 1]? = some (.cells #[.int .i64 room, .int .i64 next, .slice B n d] 26 (0, 0)) := by
    have := heap_alloc_new (w.alloc (.cells #[.int .i64 room, .int .i64 next, .slice A n c] 26)) (.cells #[.int .i64 room, .int .i64 next, .slice B n d] 26)
    simpa using this
  have HW := Lib.hid hW
  have X1 := Lib.hid x1
  have X2 := Lib.hid x2
  clear hr hs he hw hW x1 x2
  go_enter Try.func30, Try.ntmps30
  go_wp2_with fail
  go_loopg [5] n (fun gg s5 wr => ∃ kk : Nat, kk ≤ n ∧ n - kk ≤ gg ∧ s5 = .int .i64 kk ∧ Aside (Below w.heap.size w wr ∧ wr.heap[w.heap.size]? = some (.cells #[.int .i64 room, .int .i64 next, .slice A n c] 26 (0, 0)) ∧ wr.heap[w.heap.size + 1]? = some (.cells #[.int .i64 room, .int .i64 next, .slice B n d] 26 (0, 0))))
  case atStart => exact ⟨0, Nat.zero_le _, by omega, rfl, ⟨HW.out, X1.out, X2.out⟩⟩
  case round =>
    obtain ⟨kk, hkk, hg, rfl, HA⟩ := hrel
    have HA := Lib.hid HA.out
    have z2 : wr.cell? ⟨w.heap.size, 2, none⟩ = some (.slice A n c) := box_at HA.out.2.1 2 _ rfl
    have u2 : wr.cell? ⟨w.heap.size + 1, 2, none⟩ = some (.slice B n d) := box_at HA.out.2.2 2 _ rfl
    by_cases hlt : kk < n
    · have hltz : (kk : Int) < (n : Int) := by omega
      have hyl : kk < ys.length := by have := HLY.out; omega
      have hzl : kk < zs.length := by have := HLZ.out; omega
      have hy : ys[kk]? = some (ys[kk]'hyl) := List.getElem?_eq_getElem _
      have hz : zs[kk]? = some (zs[kk]'hzl) := List.getElem?_eq_getElem _
      generalize ys[kk]'hyl = y at hy
      generalize zs[kk]'hzl = z at hz
      have hyz : y.1 = z.1 := by
        have h1 := fls_at hy
        have h2 := fls_at hz
        rw [HEQ.out, h2] at h1
        injection h1 with h1
        exact h1.symm
      obtain ⟨b, off, hA, hF⟩ := (HR.out.below HA.out.1).at_ hy
      subst hA
      obtain ⟨b2, off2, hB, hG⟩ := (HS.out.below HA.out.1).at_ hz
      subst hB
      have hwl := HWL.out kk y hy
      obtain ⟨⟨fk, fs, fi, fb, fd, ft, fo, ws⟩, ⟨P1, p1, p2⟩⟩ := y
      obtain ⟨z1, ⟨Q1, q1, q2⟩⟩ := z
      simp only at hyz hwl
      subst hyz
      have k0 : wr.cell? ⟨b, off + kk * 8, none⟩ = some (str fk) := hF.c0
      have k1 : wr.cell? ⟨b, off + kk * 8 + 1, none⟩ = some (.bool fs) := hF.c1
      have k2 : wr.cell? ⟨b, off + kk * 8 + 2, none⟩ = some (.int .i64 fi) := hF.c2
      have k3 : wr.cell? ⟨b, off + kk * 8 + 3, none⟩ = some (.int .i64 fb) := hF.c3
      have k4 : wr.cell? ⟨b, off + kk * 8 + 4, none⟩ = some (str fd) := hF.c4
      have k5 : wr.cell? ⟨b, off + kk * 8 + 5, none⟩ = some (.int .i64 ft) := hF.c5
      have k6 : wr.cell? ⟨b, off + kk * 8 + 6, none⟩ = some (.bool fo) := hF.c6
      have k7 : wr.cell? ⟨b, off + kk * 8 + 7, none⟩ = some (.slice P1 p1 p2) := hF.c7
      have j0 : wr.cell? ⟨b2, off2 + kk * 8, none⟩ = some (str fk) := hG.c0
      have j1 : wr.cell? ⟨b2, off2 + kk * 8 + 1, none⟩ = some (.bool fs) := hG.c1
      have j2 : wr.cell? ⟨b2, off2 + kk * 8 + 2, none⟩ = some (.int .i64 fi) := hG.c2
      have j3 : wr.cell? ⟨b2, off2 + kk * 8 + 3, none⟩ = some (.int .i64 fb) := hG.c3
      have j4 : wr.cell? ⟨b2, off2 + kk * 8 + 4, none⟩ = some (str fd) := hG.c4
      have j5 : wr.cell? ⟨b2, off2 + kk * 8 + 5, none⟩ = some (.int .i64 ft) := hG.c5
      have j6 : wr.cell? ⟨b2, off2 + kk * 8 + 6, none⟩ = some (.bool fo) := hG.c6
      have j7 : wr.cell? ⟨b2, off2 + kk * 8 + 7, none⟩ = some (.slice Q1 q1 q2) := hG.c7
      have hWP : RdE tenc 2 wr (.slice P1 p1 p2) ws := hF.r
      have hWQ : RdE tenc 2 wr (.slice Q1 q1 q2) ws := hG.r
      have hp1 : ws.length = p1 := hWP.len
      have hq1 : ws.length = q1 := hWQ.len
      subst hp1 hq1
      have HWP := Lib.hid hWP
      have HWQ := Lib.hid hWQ
      clear hF hG hy hz hWP hWQ
      go_upto_region 6 with fail
      go_cut [6, 7] from 37 to 46 (fun s6 s7 wx => ∃ p q : Nat, s6 = .pointer (some ⟨p, 0, none⟩) ∧ s7 = .pointer (some ⟨q, 0, none⟩) ∧ Aside (Below wr.heap.size wr wx ∧ wx.heap[p]? = some (.cells #[str fk, .bool fs, .int .i64 fi, .int .i64 fb, str fd, .int .i64 ft, .bool fo, .slice P1 ws.length p2] 45 (0, 0)) ∧ wx.heap[q]? = some (.cells #[str fk, .bool fs, .int .i64 fi, .int .i64 fb, str fd, .int .i64 ft, .bool fo, .slice Q1 ws.length q2] 45 (0, 0))))
      case first =>
        replace k0 := fun (w' : World) (hb : Below wr.heap.size wr w') => pw_cell_below hb k0
        replace k1 := fun (w' : World) (hb : Below wr.heap.size wr w') => pw_cell_below hb k1
        replace k2 := fun (w' : World) (hb : Below wr.heap.size wr w') => pw_cell_below hb k2
        replace k3 := fun (w' : World) (hb : Below wr.heap.size wr w') => pw_cell_below hb k3
        replace k4 := fun (w' : World) (hb : Below wr.heap.size wr w') => pw_cell_below hb k4
        replace k5 := fun (w' : World) (hb : Below wr.heap.size wr w') => pw_cell_below hb k5
        replace k6 := fun (w' : World) (hb : Below wr.heap.size wr w') => pw_cell_below hb k6
        replace k7 := fun (w' : World) (hb : Below wr.heap.size wr w') => pw_cell_below hb k7
        replace j0 := fun (w' : World) (hb : Below wr.heap.size wr w') => pw_cell_below hb j0
        replace j1 := fun (w' : World) (hb : Below wr.heap.size wr w') => pw_cell_below hb j1
        replace j2 := fun (w' : World) (hb : Below wr.heap.size wr w') => pw_cell_below hb j2
        replace j3 := fun (w' : World) (hb : Below wr.heap.size wr w') => pw_cell_below hb j3
        replace j4 := fun (w' : World) (hb : Below wr.heap.size wr w') => pw_cell_below hb j4
        replace j5 := fun (w' : World) (hb : Below wr.heap.size wr w') => pw_cell_below hb j5
        replace j6 := fun (w' : World) (hb : Below wr.heap.size wr w') => pw_cell_below hb j6
        replace j7 := fun (w' : World) (hb : Below wr.heap.size wr w') => pw_cell_below hb j7
        replace z2 := fun (w' : World) (hb : Below wr.heap.size wr w') => pw_cell_below hb z2
        replace u2 := fun (w' : World) (hb : Below wr.heap.size wr w') => pw_cell_below hb u2
        go_region_held3 (fun w' => Below wr.heap.size wr w')
          (repeat' (with_reducible first | assumption | exact Below.refl _ _ | refine below_drew ?_ | refine Below.alloc ?_ ?_ _ | refine Below.setCell ?_ ?_ _ | exact Below.size ‹_› | (simp; done) | (simp; omega)))
          (fail)
        all_goals go_wp2_with fail
        all_goals go_meet
        all_goals refine ⟨_, _, rfl, rfl, (show Aside _ from ⟨?_, ?_, ?_⟩)⟩
        all_goals try (repeat' (with_reducible first | assumption | exact Below.refl _ _ | refine below_drew ?_ | refine Below.alloc ?_ ?_ _ | refine Below.setCell ?_ ?_ _ | exact Below.size ‹_› | (simp; done) | (simp; omega)))
        all_goals first | exact two1 _ _ _ _ | exact two2 _ _ _ _
      case rest =>
        obtain ⟨p, q, rfl, rfl, HC⟩ := hcut
        have HC := Lib.hid HC.out
        have e0 := box_at HC.out.2.1 0 _ rfl
        have e1 := box_at HC.out.2.1 1 _ rfl
        have e2 := box_at HC.out.2.1 2 _ rfl
        have e3 := box_at HC.out.2.1 3 _ rfl
        have e4 := box_at HC.out.2.1 4 _ rfl
        have e5 := box_at HC.out.2.1 5 _ rfl
        have e6 := box_at HC.out.2.1 6 _ rfl
        have e7 := box_at HC.out.2.1 7 _ rfl
        have g0 := box_at HC.out.2.2 0 _ rfl
        have g1 := box_at HC.out.2.2 1 _ rfl
        have g2 := box_at HC.out.2.2 2 _ rfl
        have g3 := box_at HC.out.2.2 3 _ rfl
        have g4 := box_at HC.out.2.2 4 _ rfl
        have g5 := box_at HC.out.2.2 5 _ rfl
        have g6 := box_at HC.out.2.2 6 _ rfl
        have g7 := box_at HC.out.2.2 7 _ rfl
        go_wp2_with fail
        go_loopg [8] ws.length (fun gg s8 wr => ∃ jj : Nat, jj ≤ ws.length ∧ ws.length - jj ≤ gg ∧ s8 = .int .i64 jj ∧ Below wc.heap.size wc wr)
        case atStart => exact ⟨0, Nat.zero_le _, by omega, rfl, Below.refl _ _⟩
        case round =>
          obtain ⟨jj, hjj, hg2, rfl, hB⟩ := hrel
          have e7 : wr.cell? ⟨p, 7, none⟩ = some (.slice P1 ws.length p2) := box_at (keep hB HC.out.2.1) 7 _ rfl
          have g7 : wr.cell? ⟨q, 7, none⟩ = some (.slice Q1 ws.length q2) := box_at (keep hB HC.out.2.2) 7 _ rfl
          by_cases hlt2 : jj < ws.length
          · have hlt2z : (jj : Int) < (ws.length : Int) := by omega
            obtain ⟨⟨ti, ta⟩, hti⟩ : ∃ t, ws[jj]? = some t := ⟨_, List.getElem?_eq_getElem hlt2⟩
            obtain ⟨pb, po, hPA, hpl, m0, m1⟩ := HWP.out.tm hti
            obtain ⟨qb, qo, hQA, hql, r0, r1⟩ := HWQ.out.tm hti
            subst hPA hQA
            have hbb := HC.out.1.trans (hB.mono HC.out.1.size)
            have m0 : wr.cell? ⟨pb, po + jj * 2, none⟩ = some (.int .i64 ti) := pw_cell_below hbb m0
            have m1 : wr.cell? ⟨pb, po + jj * 2 + 1, none⟩ = some (.int .i64 ta) := pw_cell_below hbb m1
            have r0 : wr.cell? ⟨qb, qo + jj * 2, none⟩ = some (.int .i64 ti) := pw_cell_below hbb r0
            have r1 : wr.cell? ⟨qb, qo + jj * 2 + 1, none⟩ = some (.int .i64 ta) := pw_cell_below hbb r1
            have HBB := Lib.hid hB
            clear hbb hB hti
            go_upto_region 12 with fail
            go_quiet (fail)
            go_wp2_with fail
            go_roundg (ws.length - (jj + 1))
            case measure => omega
            case rel => exact ⟨jj + 1, by omega, by omega, by simp, pw_below_drewN HBB.out _⟩
          · have hlt2z : ¬ (jj : Int) < (ws.length : Int) := by omega
            go_wp2_with fail
            go_roundg (n - (kk + 1))
            case measure => omega
            case rel =>
              have hbb := HC.out.1.trans (hB.mono HC.out.1.size)
              exact ⟨kk + 1, by omega, by omega, by simp, ⟨HA.out.1.trans (hbb.mono HA.out.1.size), keep hbb HA.out.2.1, keep hbb HA.out.2.2⟩⟩
    · have hltz : ¬ (kk : Int) < (n : Int) := by omega
      go_wp2_with fail
      go_ret
      exact ⟨rfl, HA.out.1⟩
end Go.Proofs.Ytipjhokhflokmaa
