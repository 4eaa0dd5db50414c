/- Contract of ids.New. -/
import Derived.Test.YteaifndkmknanaaZ
set_option linter.unusedVariables false
namespace Go.Proofs.Yteaifndkmknanaa
open Go.RowKit
open Go.Proofs.YteaifndkmknanaaW.PrintWords

set_option maxHeartbeats 400000 in
theorem new_small (w : World) (room : Int) (h : room < 1) : Calls Try.prog 10 #[.int .i64 room] w (NewPost w ⟨[], [], []⟩) := by
  go_enter Try.func10, Try.ntmps10
  go_wp2_with fail
  refine bodyPost_ret (v := .agg #[.slice none 0 0, .slice none 0 0, .slice none 0 0]) (by simp [results, Try.results10, go_sem]) rfl ?_
  exact ⟨_, _, _, _, _, _, _, _, _, rfl, TabO.zero _ _, (Below.refl _ _).alloc (Nat.le_refl _) _⟩
set_option maxHeartbeats 400000 in
theorem new_big (w : World) (room : Int) (h : 64 < room) : Calls Try.prog 10 #[.int .i64 room] w (NewPost w ⟨[], [], []⟩) := by
  have h' : ¬ room < 1 := by omega
  go_enter Try.func10, Try.ntmps10
  go_wp2_with fail
  refine bodyPost_ret (v := .agg #[.slice none 0 0, .slice none 0 0, .slice none 0 0]) (by simp [results, Try.results10, go_sem]) rfl ?_
  exact ⟨_, _, _, _, _, _, _, _, _, rfl, TabO.zero _ _, (Below.refl _ _).alloc (Nat.le_refl _) _⟩

theorem madeCells_list (z : Value) (n : Nat) : (madeCells #[z] n).toList = List.replicate n z := by
  apply List.ext_getElem
  · simp [madeCells]
  · intro i h1 h2
    simp [madeCells, Nat.mod_one]
theorem ow_made {W : World} {b base n : Nat} {e : TypeId} {z : Value} (hb : base ≤ b) (hh : W.heap[b]? = some (.cells (madeCells #[z] n) e (0, 0))) (hn : n ≤ 64) : Ow e W base (.slice (some ⟨b, 0, none⟩) n n) (List.replicate n z) := by
  have := Ow.mk (xs := List.replicate n z) (off := 0) (c := n) hb hh (by simp) (by omega) (by simp [madeCells]) (by rw [madeCells_list]; simp)
  rwa [List.length_replicate] at this
theorem ints_rep (n : Nat) : ints (List.replicate n 0) = List.replicate n (.int .i64 0) := by simp [ints]
theorem bls_rep (n : Nat) : bls (List.replicate n false) = List.replicate n (.bool false) := by simp [bls]

theorem new_mid {w : World} {o1 o2 : Obj} {cs : Array Value} {T : TypeId} : ∀ W, W = (((w.alloc (.cells cs T)).alloc o1).alloc o2).drew →
    W.heap[w.heap.size]? = some (.cells cs T (0, 0)) ∧ W.heap[w.heap.size + 1]? = some o1 ∧ W.heap[w.heap.size + 1 + 1]? = some o2 ∧ Below w.heap.size w W ∧ W.heap.size = w.heap.size + 3 := by
  rintro W rfl
  refine ⟨?_, ?_, ?_, ((((Below.refl _ _).alloc (Nat.le_refl _) _).alloc (by simp) _).alloc (by simp; omega) _).drew, by simp⟩
  · show (((w.alloc (.cells cs T)).alloc o1).alloc o2).heap[w.heap.size]? = _
    rw [Below.heap_alloc _ _ _ (by simp; omega), Below.heap_alloc _ _ _ (by simp)]; exact heap_alloc_new _ _
  · show (((w.alloc (.cells cs T)).alloc o1).alloc o2).heap[w.heap.size + 1]? = _
    rw [Below.heap_alloc _ _ _ (by simp)]
    have := heap_alloc_new (w.alloc (.cells cs T)) o1
    simpa using this
  · show (((w.alloc (.cells cs T)).alloc o1).alloc o2).heap[w.heap.size + 1 + 1]? = _
    have := heap_alloc_new ((w.alloc (.cells cs T)).alloc o1) o2
    simpa using this

set_option maxHeartbeats 4000000 in
theorem new_ok (w : World) (n : Nat) (h1 : 1 ≤ n) (h2 : n ≤ 64) : Calls Try.prog 10 #[.int .i64 n] w (NewPost w (made n)) := by
  have h1' : ¬ (n : Int) < 1 := by omega
  have h2' : ¬ (64 : Int) < (n : Int) := by omega
  have hm1 := run_make_row' (P := Try.prog) 22 3 (.int .i64 0) 8 Try.underlying22 Try.info3 rfl .i64 .i64 n (by omega) (by omega)
  have hm2 := run_make_row' (P := Try.prog) 23 4 (.bool false) 1 Try.underlying23 Try.info4 rfl .i64 .i64 n (by omega) (by omega)
  go_enter Try.func10, Try.ntmps10
  go_wp2_with fail
  go_region
  · have H := new_mid (w := w) (o1 := .cells (madeCells #[.int .i64 0] n) 3) (o2 := .cells (madeCells #[.bool false] n) 4) (cs := #[.slice (some ⟨w.heap.size + 1, 0, none⟩) n n, .slice (some ⟨w.heap.size + 1 + 1, 0, none⟩) n n, .slice none 0 0]) (T := 25) _ rfl
    generalize ((((w.alloc (.cells #[.slice (some ⟨w.heap.size + 1, 0, none⟩) n n, .slice (some ⟨w.heap.size + 1 + 1, 0, none⟩) n n, .slice none 0 0] 25)).alloc (.cells (madeCells #[.int .i64 0] n) 3)).alloc (.cells (madeCells #[.bool false] n) 4)).drew) = W at *
    obtain ⟨m1, m2, m3, m4, m5⟩ := H
    have hO : TabO W (w.heap.size + 1) (.slice (some ⟨w.heap.size + 1, 0, none⟩) n n) (.slice (some ⟨w.heap.size + 1 + 1, 0, none⟩) n n) (.slice none 0 0) ⟨List.replicate n 0, List.replicate n false, []⟩ :=
      ⟨by rw [ints_rep]; exact ow_made (by omega) m2 h2, by rw [bls_rep]; exact ow_made (by omega) m3 h2, Ow.nil _ _ _, fun k _ => by simp [Value.ownBlock]⟩
    generalize (some (⟨w.heap.size + 1, 0, none⟩ : Addr)) = A1 at *
    generalize (some (⟨w.heap.size + 1 + 1, 0, none⟩ : Addr)) = A2 at *
    have HX := Lib.hid m1
    have HO := Lib.hid hO
    have z0 := box_at m1 0 _ rfl
    have z1 := box_at m1 1 _ rfl
    have z2 := box_at m1 2 _ rfl
    have zf := box_free m1
    clear m1 m2 m3 hO hm1 hm2
    go_wp2
    go_loopg [18] n (fun gg s18 wr => ∃ kk : Nat, kk ≤ n ∧ n - kk ≤ gg ∧ s18 = .int .i64 kk ∧ Below w.heap.size w wr ∧ w.heap.size + 1 ≤ wr.heap.size ∧ ∃ A3 n3 c3,
      Aside (wr.heap[w.heap.size]? = some (.cells #[.slice A1 n n, .slice A2 n n, .slice A3 n3 c3] 25 (0, 0)) ∧ TabO wr (w.heap.size + 1) (.slice A1 n n) (.slice A2 n n) (.slice A3 n3 c3) ⟨List.replicate n 0, List.replicate n false, (List.range kk).map (fun i : Nat => (i : Int))⟩))
    case atStart =>
      refine ⟨0, Nat.zero_le _, by omega, rfl, m4, by omega, none, 0, 0, ?_⟩
      show Aside _
      exact ⟨HX.out, HO.out⟩
    case round =>
      clear z0 z1 z2 zf HX HO
      obtain ⟨kk, hkk, hg, rfl, hB, hsz, A3, n3, c3, HA⟩ := hrel
      obtain ⟨hx, hO⟩ := HA.out
      have HX := Lib.hid hx
      have HO := Lib.hid hO
      have z0 := box_at hx 0 _ rfl
      have z1 := box_at hx 1 _ rfl
      have z2 := box_at hx 2 _ rfl
      have zf := box_free hx
      clear HA hx hO
      by_cases hlt : kk < n
      · have hltz : (kk : Int) < (n : Int) := by omega
        go_wp2_with (at_builtin; refine wp_app (w.heap.size + 1) rfl _ _ 22 3 (.int .i64 0) 8 rfl Try.underlying22 Try.info3 rfl (by omega) (.slice A3 n3 c3) (.slice (some ⟨wr.heap.size, 0, none⟩) 1 1) (ints ((List.range kk).map (fun i : Nat => (i : Int)))) [.int .i64 kk] rfl rfl ?d1 (rd_box _ _ _) ?d2 ?d3 ?d4 ?d5)
        case d1 => exact HO.out.f.below ((Below.refl _ _).alloc (Nat.le_refl _) _)
        case d2 => simp [Value.oneCell']
        case d3 => simp [ints_len]; omega
        case d4 => simp; omega
        case d5 =>
          intro v1 w1 h1 hg1 hat
          obtain ⟨B1, m1, e1, rfl⟩ := h1.slice'
          obtain ⟨k1, k2, k3⟩ := step_f (x := (kk : Int)) HX.out HO.out hg1 h1 (by simpa using hat)
          have hB1 : Below w.heap.size w w1 := (hB.alloc hB.size _).grown hg1 (by simp; omega) (fun k hk => by have := HO.out.f.base k hk; omega)
          have hs1 : wr.heap.size < w1.heap.size := by have := hg1.size; simp at this; omega
          clear z0 z1 z2 zf
          have z0 := box_at k1 0 _ rfl
          have z1 := box_at k1 1 _ rfl
          have z2 := box_at k1 2 _ rfl
          have zf := box_free k1
          have HX1 := Lib.hid k2
          have HO1 := Lib.hid k3
          clear HX HO hg1 h1 hat k1 k2 k3
          go_wp2
          go_roundg (n - (kk + 1))
          case measure => omega
          case rel =>
            refine ⟨kk + 1, by omega, by omega, by go_num, hB1.setCell (by simp) _, by simp; omega, B1, m1, e1, (show Aside _ from ⟨HX1.out, ?_⟩)⟩
            rw [show (List.range (kk + 1)).map (fun i : Nat => (i : Int)) = (List.range kk).map (fun i : Nat => (i : Int)) ++ [(kk : Int)] by simp [List.range_succ]]
            exact HO1.out
      · obtain rfl : kk = n := by omega
        have hltz : ¬ (kk : Int) < (kk : Int) := by omega
        go_wp2
        refine bodyPost_ret (v := .agg #[.slice A1 kk kk, .slice A2 kk kk, .slice A3 n3 c3]) (by simp [results, Try.results10, go_sem, z0, z1, z2]) rfl ?_
        refine ⟨A1, kk, kk, A2, kk, kk, A3, n3, c3, rfl, ?_, ?_⟩
        · exact (((HO.out.far (by simp) _).far (by simp) _).far (by simp) _).lower (by simp)
        · exact ((hB.setCell (by simp) _).setCell (by simp) _).setCell (by simp) _
  · have H := new_mid (w := w) (o1 := .cells (madeCells #[.bool false] n) 4) (o2 := .cells (madeCells #[.int .i64 0] n) 3) (cs := #[.slice (some ⟨w.heap.size + 1 + 1, 0, none⟩) n n, .slice (some ⟨w.heap.size + 1, 0, none⟩) n n, .slice none 0 0]) (T := 25) _ rfl
    generalize ((((w.alloc (.cells #[.slice (some ⟨w.heap.size + 1 + 1, 0, none⟩) n n, .slice (some ⟨w.heap.size + 1, 0, none⟩) n n, .slice none 0 0] 25)).alloc (.cells (madeCells #[.bool false] n) 4)).alloc (.cells (madeCells #[.int .i64 0] n) 3)).drew) = W at *
    obtain ⟨m1, m2, m3, m4, m5⟩ := H
    have hO : TabO W (w.heap.size + 1) (.slice (some ⟨w.heap.size + 1 + 1, 0, none⟩) n n) (.slice (some ⟨w.heap.size + 1, 0, none⟩) n n) (.slice none 0 0) ⟨List.replicate n 0, List.replicate n false, []⟩ :=
      ⟨by rw [ints_rep]; exact ow_made (by omega) m3 h2, by rw [bls_rep]; exact ow_made (by omega) m2 h2, Ow.nil _ _ _, fun k _ => by simp [Value.ownBlock]⟩
    generalize (some (⟨w.heap.size + 1, 0, none⟩ : Addr)) = A2 at *
    generalize (some (⟨w.heap.size + 1 + 1, 0, none⟩ : Addr)) = A1 at *
    have HX := Lib.hid m1
    have HO := Lib.hid hO
    have z0 := box_at m1 0 _ rfl
    have z1 := box_at m1 1 _ rfl
    have z2 := box_at m1 2 _ rfl
    have zf := box_free m1
    clear m1 m2 m3 hO hm1 hm2
    go_wp2
    go_loopg [18] n (fun gg s18 wr => ∃ kk : Nat, kk ≤ n ∧ n - kk ≤ gg ∧ s18 = .int .i64 kk ∧ Below w.heap.size w wr ∧ w.heap.size + 1 ≤ wr.heap.size ∧ ∃ A3 n3 c3,
      Aside (wr.heap[w.heap.size]? = some (.cells #[.slice A1 n n, .slice A2 n n, .slice A3 n3 c3] 25 (0, 0)) ∧ TabO wr (w.heap.size + 1) (.slice A1 n n) (.slice A2 n n) (.slice A3 n3 c3) ⟨List.replicate n 0, List.replicate n false, (List.range kk).map (fun i : Nat => (i : Int))⟩))
    case atStart =>
      refine ⟨0, Nat.zero_le _, by omega, rfl, m4, by omega, none, 0, 0, ?_⟩
      show Aside _
      exact ⟨HX.out, HO.out⟩
    case round =>
      clear z0 z1 z2 zf HX HO
      obtain ⟨kk, hkk, hg, rfl, hB, hsz, A3, n3, c3, HA⟩ := hrel
      obtain ⟨hx, hO⟩ := HA.out
      have HX := Lib.hid hx
      have HO := Lib.hid hO
      have z0 := box_at hx 0 _ rfl
      have z1 := box_at hx 1 _ rfl
      have z2 := box_at hx 2 _ rfl
      have zf := box_free hx
      clear HA hx hO
      by_cases hlt : kk < n
      · have hltz : (kk : Int) < (n : Int) := by omega
        go_wp2_with (at_builtin; refine wp_app (w.heap.size + 1) rfl _ _ 22 3 (.int .i64 0) 8 rfl Try.underlying22 Try.info3 rfl (by omega) (.slice A3 n3 c3) (.slice (some ⟨wr.heap.size, 0, none⟩) 1 1) (ints ((List.range kk).map (fun i : Nat => (i : Int)))) [.int .i64 kk] rfl rfl ?d1 (rd_box _ _ _) ?d2 ?d3 ?d4 ?d5)
        case d1 => exact HO.out.f.below ((Below.refl _ _).alloc (Nat.le_refl _) _)
        case d2 => simp [Value.oneCell']
        case d3 => simp [ints_len]; omega
        case d4 => simp; omega
        case d5 =>
          intro v1 w1 h1 hg1 hat
          obtain ⟨B1, m1, e1, rfl⟩ := h1.slice'
          obtain ⟨k1, k2, k3⟩ := step_f (x := (kk : Int)) HX.out HO.out hg1 h1 (by simpa using hat)
          have hB1 : Below w.heap.size w w1 := (hB.alloc hB.size _).grown hg1 (by simp; omega) (fun k hk => by have := HO.out.f.base k hk; omega)
          have hs1 : wr.heap.size < w1.heap.size := by have := hg1.size; simp at this; omega
          clear z0 z1 z2 zf
          have z0 := box_at k1 0 _ rfl
          have z1 := box_at k1 1 _ rfl
          have z2 := box_at k1 2 _ rfl
          have zf := box_free k1
          have HX1 := Lib.hid k2
          have HO1 := Lib.hid k3
          clear HX HO hg1 h1 hat k1 k2 k3
          go_wp2
          go_roundg (n - (kk + 1))
          case measure => omega
          case rel =>
            refine ⟨kk + 1, by omega, by omega, by go_num, hB1.setCell (by simp) _, by simp; omega, B1, m1, e1, (show Aside _ from ⟨HX1.out, ?_⟩)⟩
            rw [show (List.range (kk + 1)).map (fun i : Nat => (i : Int)) = (List.range kk).map (fun i : Nat => (i : Int)) ++ [(kk : Int)] by simp [List.range_succ]]
            exact HO1.out
      · obtain rfl : kk = n := by omega
        have hltz : ¬ (kk : Int) < (kk : Int) := by omega
        go_wp2
        refine bodyPost_ret (v := .agg #[.slice A1 kk kk, .slice A2 kk kk, .slice A3 n3 c3]) (by simp [results, Try.results10, go_sem, z0, z1, z2]) rfl ?_
        refine ⟨A1, kk, kk, A2, kk, kk, A3, n3, c3, rfl, ?_, ?_⟩
        · exact (((HO.out.far (by simp) _).far (by simp) _).far (by simp) _).lower (by simp)
        · exact ((hB.setCell (by simp) _).setCell (by simp) _).setCell (by simp) _

theorem new_any (w : World) (room : Int) : Calls Try.prog 10 #[.int .i64 room] w (NewPost w (newS room)) := by
  unfold newS
  split
  · rename_i h
    rcases h with h | h
    · exact new_small w room h
    · exact new_big w room h
  · rename_i h
    obtain ⟨n, rfl⟩ := Int.eq_ofNat_of_zero_le (show 0 ≤ room by omega)
    rw [Int.toNat_natCast]
    exact new_ok w n (by omega) (by omega)
end Go.Proofs.Yteaifndkmknanaa
