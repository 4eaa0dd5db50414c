/- Contract of lockageref02.New. -/
import Derived.Test.YteaifndkmknanaaY
set_option linter.unusedVariables false
namespace Go.Proofs.Yteaifndkmknanaa
open Go.RowKit
open Go.Proofs.YteaifndkmknanaaW.PrintWords

def made (k : Nat) : Tab := ⟨List.replicate k 0, List.replicate k false, (List.range k).map (fun i : Nat => (i : Int))⟩
theorem made_succ (k : Nat) : made (k + 1) = ⟨(made k).gens ++ [0], (made k).busy ++ [false], (made k).free ++ [(k : Int)]⟩ := by
  simp [made, List.replicate_succ', List.range_succ]
def newS (room : Int) : Tab := if room < 1 ∨ 64 < room then ⟨[], [], []⟩ else made room.toNat

/-- a field of a box that is a row, appended to: what stays -/
theorem app_stays {W w1 : World} {bx : Nat} {cs : Array Value} {T e : TypeId} {v : Value} {base : Nat} {xs : List Value} {o : Obj} (hT : T ≠ e) (hx : W.heap[bx]? = some (.cells cs T (0, 0))) (hv : Ow e W base v xs) (hg : (W.alloc o).grownBy w1 v.ownBlock) :
    w1.heap[bx]? = some (.cells cs T (0, 0)) := by
  have lx := (Array.getElem?_eq_some_iff.1 hx).1
  rw [hg.block bx (by simp; omega) (fun h => by
    obtain ⟨c', hc'⟩ := hv.typed bx h.symm
    exact blocks_ne hT hx hc' rfl), Below.heap_alloc _ _ _ lx]
  exact hx
theorem app_other {W w1 : World} {e' : TypeId} {v u : Value} {base : Nat} {ys : List Value} {o : Obj} (hu : Ow e' W base u ys) (hne : ∀ k, u.ownBlock = some k → some k ≠ v.ownBlock) (hg : (W.alloc o).grownBy w1 v.ownBlock) : Ow e' w1 base u ys :=
  (hu.below ((Below.refl _ _).alloc (Nat.le_refl _) o)).grown hg hne
theorem ow_ne {W : World} {e e' : TypeId} {v u : Value} {base : Nat} {xs ys : List Value} (he : e' ≠ e) (hv : Ow e W base v xs) (hu : Ow e' W base u ys) : ∀ k, u.ownBlock = some k → some k ≠ v.ownBlock := by
  intro k hk h
  obtain ⟨c, hc⟩ := hu.typed k hk
  obtain ⟨c', hc'⟩ := hv.typed k h.symm
  exact blocks_ne he hc hc' rfl
theorem ow_box {W : World} {e T : TypeId} {v : Value} {base bx : Nat} {cs : Array Value} {xs : List Value} (he : e ≠ T) (hv : Ow e W base v xs) (hx : W.heap[bx]? = some (.cells cs T (0, 0))) : ∀ k, v.ownBlock = some k → k ≠ bx := by
  intro k hk
  obtain ⟨c, hc⟩ := hv.typed k hk
  exact blocks_ne he hc hx

theorem step_g {W w1 : World} {bx base : Nat} {vg vb vf v1 : Value} {o : Obj} {t : Tab} {x : Int} (hx : W.heap[bx]? = some (.cells #[vg, vb, vf] 25 (0, 0))) (h : TabO W base vg vb vf t) (hg : (W.alloc o).grownBy w1 vg.ownBlock) (h1 : Ow 3 w1 base v1 (ints t.gens ++ [.int .i64 x]))
    (hat : v1.ownBlock = vg.ownBlock ∨ ∃ b, v1.ownBlock = some b ∧ W.heap.size + 1 ≤ b) :
    w1.heap[bx]? = some (.cells #[vg, vb, vf] 25 (0, 0)) ∧ (w1.setCell ⟨bx, 0, none⟩ v1).heap[bx]? = some (.cells #[v1, vb, vf] 25 (0, 0)) ∧ TabO (w1.setCell ⟨bx, 0, none⟩ v1) base v1 vb vf ⟨t.gens ++ [x], t.busy, t.free⟩ := by
  have k1 := app_stays (by decide) hx h.g hg
  have ob := app_other h.b (ow_ne (by decide) h.g h.b) hg
  have of := app_other h.f (fun k hk hk2 => h.ne k hk2.symm hk) hg
  refine ⟨k1, by rw [heap_set k1]; rfl, ?_, ob.far (ow_box (by decide) ob k1) _, of.far (ow_box (by decide) of k1) _, fun k hk hk2 => ?_⟩
  · have := h1.far (p := ⟨bx, 0, none⟩) (ow_box (by decide) h1 k1) v1
    rwa [show ints t.gens ++ [.int .i64 x] = ints (t.gens ++ [x]) by simp [ints]] at this
  · rcases hat with e | ⟨b, e, hle⟩
    · exact h.ne k (e ▸ hk) hk2
    · rw [e] at hk
      injection hk with hk
      have := h.f.lt k hk2
      omega
theorem step_b {W w1 : World} {bx base : Nat} {vg vb vf v1 : Value} {o : Obj} {t : Tab} {x : Bool} (hx : W.heap[bx]? = some (.cells #[vg, vb, vf] 25 (0, 0))) (h : TabO W base vg vb vf t) (hg : (W.alloc o).grownBy w1 vb.ownBlock) (h1 : Ow 4 w1 base v1 (bls t.busy ++ [.bool x])) :
    w1.heap[bx]? = some (.cells #[vg, vb, vf] 25 (0, 0)) ∧ (w1.setCell ⟨bx, 1, none⟩ v1).heap[bx]? = some (.cells #[vg, v1, vf] 25 (0, 0)) ∧ TabO (w1.setCell ⟨bx, 1, none⟩ v1) base vg v1 vf ⟨t.gens, t.busy ++ [x], t.free⟩ := by
  have k1 := app_stays (by decide) hx h.b hg
  have og := app_other h.g (ow_ne (by decide) h.b h.g) hg
  have of := app_other h.f (ow_ne (by decide) h.b h.f) hg
  refine ⟨k1, by rw [heap_set k1]; rfl, og.far (ow_box (by decide) og k1) _, ?_, of.far (ow_box (by decide) of k1) _, h.ne⟩
  have := h1.far (p := ⟨bx, 1, none⟩) (ow_box (by decide) h1 k1) v1
  rwa [show bls t.busy ++ [.bool x] = bls (t.busy ++ [x]) by simp [bls]] at this
theorem step_f {W w1 : World} {bx base : Nat} {vg vb vf v1 : Value} {o : Obj} {t : Tab} {x : Int} (hx : W.heap[bx]? = some (.cells #[vg, vb, vf] 25 (0, 0))) (h : TabO W base vg vb vf t) (hg : (W.alloc o).grownBy w1 vf.ownBlock) (h1 : Ow 3 w1 base v1 (ints t.free ++ [.int .i64 x]))
    (hat : v1.ownBlock = vf.ownBlock ∨ ∃ b, v1.ownBlock = some b ∧ W.heap.size + 1 ≤ b) :
    w1.heap[bx]? = some (.cells #[vg, vb, vf] 25 (0, 0)) ∧ (w1.setCell ⟨bx, 2, none⟩ v1).heap[bx]? = some (.cells #[vg, vb, v1] 25 (0, 0)) ∧ TabO (w1.setCell ⟨bx, 2, none⟩ v1) base vg vb v1 ⟨t.gens, t.busy, t.free ++ [x]⟩ := by
  have k1 := app_stays (by decide) hx h.f hg
  have ob := app_other h.b (ow_ne (by decide) h.f h.b) hg
  have og := app_other h.g (fun k hk hk2 => h.ne k hk hk2.symm) hg
  refine ⟨k1, by rw [heap_set k1]; rfl, og.far (ow_box (by decide) og k1) _, ob.far (ow_box (by decide) ob k1) _, ?_, fun k hk hk2 => ?_⟩
  · have := h1.far (p := ⟨bx, 2, none⟩) (ow_box (by decide) h1 k1) v1
    rwa [show ints t.free ++ [.int .i64 x] = ints (t.free ++ [x]) by simp [ints]] at this
  · rcases hat with e | ⟨b, e, hle⟩
    · exact h.ne k hk (e ▸ hk2)
    · rw [e] at hk2
      injection hk2 with hk2
      have := h.g.lt k hk
      omega

def NewPost (w : World) (t : Tab) (e : Ending) (w' : World) : Prop :=
  ∃ Ag ng cg Ab nb cb Af nf cf, e = .returned (.agg #[.slice Ag ng cg, .slice Ab nb cb, .slice Af nf cf]) ∧ TabO w' w.heap.size (.slice Ag ng cg) (.slice Ab nb cb) (.slice Af nf cf) t ∧ Below w.heap.size w w'

theorem TabO.zero (w : World) (base : Nat) : TabO w base (.slice none 0 0) (.slice none 0 0) (.slice none 0 0) ⟨[], [], []⟩ :=
  ⟨Ow.nil _ _ _, Ow.nil _ _ _, Ow.nil _ _ _, fun k hk => by simp [Value.ownBlock] at hk⟩

set_option maxHeartbeats 400000 in
theorem rnew_small (w : World) (room : Int) (h : room < 1) : Calls Try.prog 11 #[.int .i64 room] w (NewPost w ⟨[], [], []⟩) := by
  go_enter Try.func11, Try.ntmps11
  go_wp2_with fail
  refine bodyPost_ret (v := .agg #[.slice none 0 0, .slice none 0 0, .slice none 0 0]) (by simp [results, Try.results11, go_sem]) rfl ?_
  exact ⟨_, _, _, _, _, _, _, _, _, rfl, TabO.zero _ _, ((((Below.refl _ _).alloc (Nat.le_refl _) _).alloc (by simp) _))⟩
set_option maxHeartbeats 400000 in
theorem rnew_big (w : World) (room : Int) (h : 64 < room) : Calls Try.prog 11 #[.int .i64 room] w (NewPost w ⟨[], [], []⟩) := by
  have h' : ¬ room < 1 := by omega
  go_enter Try.func11, Try.ntmps11
  go_wp2_with fail
  refine bodyPost_ret (v := .agg #[.slice none 0 0, .slice none 0 0, .slice none 0 0]) (by simp [results, Try.results11, go_sem]) rfl ?_
  exact ⟨_, _, _, _, _, _, _, _, _, rfl, TabO.zero _ _, ((((Below.refl _ _).alloc (Nat.le_refl _) _).alloc (by simp) _))⟩

set_option maxHeartbeats 2000000 in
theorem rnew_ok (w : World) (n : Nat) (h1 : 1 ≤ n) (h2 : n ≤ 64) : Calls Try.prog 11 #[.int .i64 n] w (NewPost w (made n)) := by
  have h1' : ¬ (n : Int) < 1 := by omega
  have h2' : ¬ (64 : Int) < (n : Int) := by omega
  go_enter Try.func11, Try.ntmps11
  go_wp2_with fail
  go_loopg [4] n (fun gg s4 wr => ∃ kk : Nat, kk ≤ n ∧ n - kk ≤ gg ∧ s4 = .int .i64 kk ∧ Below w.heap.size w wr ∧ w.heap.size + 2 ≤ wr.heap.size ∧ ∃ A1 n1 c1 A2 n2 c2 A3 n3 c3,
    Aside (wr.heap[w.heap.size]? = some (.cells #[.slice none 0 0, .slice none 0 0, .slice none 0 0] 25 (0, 0)) ∧ wr.heap[w.heap.size + 1]? = some (.cells #[.slice A1 n1 c1, .slice A2 n2 c2, .slice A3 n3 c3] 25 (0, 0)) ∧ TabO wr (w.heap.size + 2) (.slice A1 n1 c1) (.slice A2 n2 c2) (.slice A3 n3 c3) (made kk)))
  case atStart =>
    refine ⟨0, Nat.zero_le _, by omega, rfl, ((Below.refl _ _).alloc (Nat.le_refl _) _).alloc (by simp) _, by simp, none, 0, 0, none, 0, 0, none, 0, 0, ?_⟩
    show Aside _
    refine ⟨?_, ?_, TabO.zero _ _⟩
    · rw [Below.heap_alloc _ _ _ (by simp)]; exact heap_alloc_new _ _
    · have := heap_alloc_new (w.alloc (.cells #[.slice none 0 0, .slice none 0 0, .slice none 0 0] 25)) (.cells #[.slice none 0 0, .slice none 0 0, .slice none 0 0] 25)
      simpa using this
  case round =>
    obtain ⟨kk, hkk, hg, rfl, hB, hsz, A1, n1, c1, A2, n2, c2, A3, n3, c3, HA⟩ := hrel
    obtain ⟨hr, hx, hO⟩ := HA.out
    by_cases hlt : kk < n
    · have hltz : (kk : Int) < (n : Int) := by omega
      have HX := Lib.hid hx
      have HR := Lib.hid hr
      have HO := Lib.hid hO
      have z0 := box_at hx 0 _ rfl
      have z1 := box_at hx 1 _ rfl
      have z2 := box_at hx 2 _ rfl
      have zf := box_free hx
      clear HA hr hx hO
      go_wp2_with (at_builtin; refine wp_app (w.heap.size + 2) rfl _ _ 22 3 (.int .i64 0) 8 rfl Try.underlying22 Try.info3 rfl (by omega) (.slice A1 n1 c1) (.slice (some ⟨wr.heap.size, 0, none⟩) 1 1) (ints (made kk).gens) [.int .i64 0] rfl rfl ?d1 (rd_box _ _ _) ?d2 ?d3 ?d4 ?d5)
      case d1 => exact HO.out.g.below ((Below.refl _ _).alloc (Nat.le_refl _) _)
      case d2 => simp [Value.oneCell']
      case d3 => simp [ints_len, made]; omega
      case d4 => simp; omega
      case d5 =>
        intro v1 w1 h1 hg1 hat
        obtain ⟨B1, m1, e1, rfl⟩ := h1.slice'
        obtain ⟨k1, k2, k3⟩ := step_g HX.out HO.out hg1 h1 (by simpa using hat)
        have hB1 : Below w.heap.size w w1 := (hB.alloc hB.size _).grown hg1 (by simp; omega) (fun k hk => by have := HO.out.g.base k hk; omega)
        have q1 := app_stays (by decide) HR.out HO.out.g hg1
        have hs1 : wr.heap.size < w1.heap.size := by have := hg1.size; simp at this; omega
        have hB1' : Below w.heap.size w (w1.setCell ⟨w.heap.size + 1, 0, none⟩ (.slice B1 m1 e1)) := hB1.setCell (by simp) _
        have q1' : (w1.setCell ⟨w.heap.size + 1, 0, none⟩ (.slice B1 m1 e1)).heap[w.heap.size]? = some (.cells #[.slice none 0 0, .slice none 0 0, .slice none 0 0] 25 (0, 0)) := by rw [Below.heap_setCell _ _ _ _ (by simp)]; exact q1
        have hs1' : w.heap.size + 2 ≤ (w1.setCell ⟨w.heap.size + 1, 0, none⟩ (.slice B1 m1 e1)).heap.size := by simp; omega
        clear z0 z1 z2 zf
        have z0 := box_at k1 0 _ rfl
        have z1 := box_at k1 1 _ rfl
        have z2 := box_at k1 2 _ rfl
        have zf := box_free k1
        have HX1 := Lib.hid k2
        have HO1 := Lib.hid k3
        have HR1 := Lib.hid q1'
        have HB1 := Lib.hid hB1'
        clear HX HO HR hg1 h1 hat k1 k2 k3 hB1 hB q1 q1' hB1' hsz
        go_wp2_with (at_builtin; generalize hW : w1.setCell ⟨w.heap.size + 1, 0, none⟩ (.slice B1 m1 e1) = W1 at *; have HW := Lib.hid (show W1.heap.size = w1.heap.size by rw [← hW]; simp); clear hW z0 z1 z2 zf; refine wp_app (w.heap.size + 2) rfl _ _ 23 4 (.bool false) 1 rfl Try.underlying23 Try.info4 rfl (by omega) (.slice A2 n2 c2) (.slice (some ⟨w1.heap.size, 0, none⟩) 1 1) (bls (made kk).busy) [.bool false] rfl rfl ?d1 ?d0 ?d2 ?d3 ?d4 ?d5)
        case d0 => rw [← HW.out]; exact rd_box _ _ _
        case d1 => exact HO1.out.b.below ((Below.refl _ _).alloc (Nat.le_refl _) _)
        case d2 => simp [Value.oneCell']
        case d3 => simp [bls_len, made]; omega
        case d4 => simp; omega
        case d5 =>
          intro v2 w2 h2 hg2 hat2
          obtain ⟨B2, m2, e2, rfl⟩ := h2.slice'
          obtain ⟨k1, k2, k3⟩ := step_b HX1.out HO1.out hg2 h2
          have hB2 : Below w.heap.size w w2 := (HB1.out.alloc HB1.out.size _).grown hg2 (by simp; omega) (fun k hk => by have := HO1.out.b.base k hk; omega)
          have q1 := app_stays (by decide) HR1.out HO1.out.b hg2
          have hs2 : W1.heap.size < w2.heap.size := by have := hg2.size; simp at this; omega
          have hB2' : Below w.heap.size w (w2.setCell ⟨w.heap.size + 1, 1, none⟩ (.slice B2 m2 e2)) := hB2.setCell (by simp) _
          have q1' : (w2.setCell ⟨w.heap.size + 1, 1, none⟩ (.slice B2 m2 e2)).heap[w.heap.size]? = some (.cells #[.slice none 0 0, .slice none 0 0, .slice none 0 0] 25 (0, 0)) := by rw [Below.heap_setCell _ _ _ _ (by simp)]; exact q1
          have hs2' : w.heap.size + 2 ≤ (w2.setCell ⟨w.heap.size + 1, 1, none⟩ (.slice B2 m2 e2)).heap.size := by simp; omega
          have z0 := box_at k1 0 _ rfl
          have z1 := box_at k1 1 _ rfl
          have z2 := box_at k1 2 _ rfl
          have zf := box_free k1
          have HX2 := Lib.hid k2
          have HO2 := Lib.hid k3
          have HR2 := Lib.hid q1'
          have HB2 := Lib.hid hB2'
          clear HX1 HO1 HR1 HB1 hg2 h2 hat2 k1 k2 k3 hB2 q1 q1' hB2' hs1' HW hs2
          go_wp2_with (at_builtin; generalize hW : w2.setCell ⟨w.heap.size + 1, 1, none⟩ (.slice B2 m2 e2) = W2 at *; have HW := Lib.hid (show W2.heap.size = w2.heap.size by rw [← hW]; simp); clear hW z0 z1 z2 zf; refine wp_app (w.heap.size + 2) rfl _ _ 22 3 (.int .i64 0) 8 rfl Try.underlying22 Try.info3 rfl (by omega) (.slice A3 n3 c3) (.slice (some ⟨w2.heap.size, 0, none⟩) 1 1) (ints (made kk).free) [.int .i64 kk] rfl rfl ?f1 ?f0 ?f2 ?f3 ?f4 ?f5)
          case f0 => rw [← HW.out]; exact rd_box _ _ _
          case f1 => exact HO2.out.f.below ((Below.refl _ _).alloc (Nat.le_refl _) _)
          case f2 => simp [Value.oneCell']
          case f3 => simp [ints_len, made]; omega
          case f4 => first | omega | (simp; omega)
          case f5 =>
            intro v3 w3 h3 hg3 hat3
            obtain ⟨B3, m3, e3, rfl⟩ := h3.slice'
            obtain ⟨k1, k2, k3⟩ := step_f HX2.out HO2.out hg3 h3 (by simpa using hat3)
            have hB3 : Below w.heap.size w w3 := (HB2.out.alloc HB2.out.size _).grown hg3 (by simp; omega) (fun k hk => by have := HO2.out.f.base k hk; omega)
            have q1 := app_stays (by decide) HR2.out HO2.out.f hg3
            have hs3 : W2.heap.size < w3.heap.size := by have := hg3.size; simp at this; omega
            have z0 := box_at k1 0 _ rfl
            have z1 := box_at k1 1 _ rfl
            have z2 := box_at k1 2 _ rfl
            have zf := box_free k1
            have HX3 := Lib.hid k2
            have HO3 := Lib.hid k3
            have HR3 := Lib.hid q1
            clear HX2 HO2 HR2 HB2 hg3 h3 hat3 k1 k2 k3 q1
            go_wp2
            go_roundg (n - (kk + 1))
            case measure => omega
            case rel =>
              refine ⟨kk + 1, by omega, by omega, by go_num, hB3.setCell (by simp) _, by simp; omega, _, _, _, _, _, _, _, _, _, (show Aside _ from ⟨?_, HX3.out, by rw [made_succ]; exact HO3.out⟩)⟩
              rw [Below.heap_setCell _ _ _ _ (by simp)]
              exact HR3.out
    · obtain rfl : kk = n := by omega
      have hltz : ¬ (kk : Int) < (kk : Int) := by omega
      have z0 := box_at hx 0 _ rfl
      have z1 := box_at hx 1 _ rfl
      have z2 := box_at hx 2 _ rfl
      have r0 := box_at hr 0 _ rfl
      have r1 := box_at hr 1 _ rfl
      have r2 := box_at hr 2 _ rfl
      have rf := box_free hr
      clear HA hx hr
      have HO := Lib.hid hO
      clear hO
      go_wp2
      refine bodyPost_ret (v := .agg #[.slice A1 n1 c1, .slice A2 n2 c2, .slice A3 n3 c3]) (by simp [results, Try.results11, go_sem, r0, r1, r2]) rfl ?_
      refine ⟨A1, n1, c1, A2, n2, c2, A3, n3, c3, rfl, ?_, ?_⟩
      · exact (((HO.out.far (by simp) _).far (by simp) _).far (by simp) _).lower (by simp)
      · exact ((hB.setCell (by simp) _).setCell (by simp) _).setCell (by simp) _

theorem rnew_any (w : World) (room : Int) : Calls Try.prog 11 #[.int .i64 room] w (NewPost w (newS room)) := by
  unfold newS
  split
  · rename_i h
    rcases h with h | h
    · exact rnew_small w room h
    · exact rnew_big w room h
  · rename_i h
    obtain ⟨n, rfl⟩ := Int.eq_ofNat_of_zero_le (show 0 ≤ room by omega)
    rw [Int.toNat_natCast]
    exact rnew_ok w n (by omega) (by omega)
end Go.Proofs.Yteaifndkmknanaa
