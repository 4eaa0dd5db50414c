/- lockagelaw14.RouteAny. -/
import Derived.Test.YtoegjpfngmilhaaDoorUH
set_option linter.unusedVariables false
set_option linter.unusedSimpArgs false
namespace Go.Proofs.YtoegjpfngmilhaaDoor
open Go.RowKit Go.Lib
open Go.Proofs.YtoegjpfngmilhaaDoorW.PrintWords

def lens (l : List Rt) : Nat := (l.map (fun r => r.1.length)).sum
theorem lens_snoc (l : List Rt) (x : Rt) : lens (l ++ [x]) = lens l + x.1.length := by simp [lens]
theorem lens_mem {l : List Rt} {x : Rt} (h : x ∈ l) : x.1.length ≤ lens l := by
  induction l with
  | nil => cases h
  | cons y l ih =>
    have : lens (y :: l) = y.1.length + lens l := by simp [lens]
    rcases List.mem_cons.1 h with rfl | h
    · omega
    · have := ih h
      omega

set_option maxRecDepth 100000 in
set_option maxHeartbeats 8000000 in
theorem routeAny_any (A : Option Addr) (n c : Nat) (l : List Rt) (path pre : List UInt8) (w : World) (m : Int) (hm : w.cell? ⟨0, 0, none⟩ = some (.int .i64 m)) (hr : RdE encR 2 w (.slice A n c) l) (hs : ∀ r ∈ l, r.1.length ≤ 140737488355328)
    (hpa : path.length ≤ 140737488355328) (hpr : pre.length ≤ 140737488355328) :
    Calls Tryd.prog 3 #[.slice A n c, str path, str pre] w fun e w' => e = .returned (.bool true) ∧ Below w.heap.size w w' := by
  have hn := hr.len
  have HR := Lib.hid hr
  have HS := Lib.hid hs
  have HM := Lib.hid hm
  have hmx := hr.max
  clear hr hs hm
  go_enter Tryd.func3, Tryd.ntmps3
  go_wp2_with fail
  go_loopg [7, 8] n (fun gg s7 s8 wr => ∃ i N : Nat, s8 = .int .i64 i ∧ s7 = .int .i64 N ∧ i ≤ n ∧ n - i ≤ gg ∧ N ≤ 562949953421312 ∧ wr = w ∧ Aside (N = path.length + pre.length + lens (l.take i)))
  case atStart => exact ⟨0, path.length + pre.length, rfl, by simp, by omega, by omega, by omega, rfl, (show path.length + pre.length = path.length + pre.length + lens (l.take 0) by simp [lens])⟩
  case round =>
    obtain ⟨i, N, rfl, rfl, hi, hg, hN, rfl, HA⟩ := hrel
    have HA := Lib.hid HA.out
    by_cases hlt : i < n ∧ N ≤ 4000
    · have h2 : (i : Int) < (n : Int) := by omega
      have h3 : (N : Int) ≤ 4000 := by omega
      obtain ⟨b, off, rfl, hbl, hc0⟩ := HR.out.get (by omega)
      have hll : i < l.length := by omega
      have hat : l[i]? = some l[i] := List.getElem?_eq_getElem hll
      have hxl := HS.out _ (List.getElem_mem hll)
      have k0 : wr.cell? ⟨b, off + i * 2, none⟩ = some (str l[i].1) := hc0 i 0 l[i] _ hat rfl
      have hts : l.take (i + 1) = l.take i ++ [l[i]] := List.take_succ_eq_append_getElem hll
      generalize l[i] = x at hat hxl k0 hts
      clear hll hc0 hat
      obtain ⟨px, bx⟩ := x
      simp only at hxl
      have HT := Lib.hid hts
      have HLT := Lib.hid hlt
      have hN2 : N ≤ 4000 := hlt.2
      have hin : i < n := hlt.1
      clear hts hlt
      go_wp2_with fail
      go_roundg (n - (i + 1))
      case measure => omega
      case rel =>
        refine ⟨i + 1, N + px.length, by simp [wrap64] <;> omega, by simp [wrap64] <;> omega, by omega, by omega, by omega, rfl, ?_⟩
        show N + px.length = _
        rw [HT.out, lens_snoc]
        have := HA.out
        simp only
        omega
    · have hex : ¬ (i : Int) < (n : Int) ∨ ((i : Int) < (n : Int) ∧ ¬ (N : Int) ≤ 4000) := by omega
      have HEX := Lib.hid hex
      have HLT := Lib.hid hlt
      clear hex hlt
      by_cases hbig : 15 < n ∨ 4000 < N
      · have hb2 : (15 : Int) < (n : Int) ∨ (¬ (15 : Int) < (n : Int) ∧ (4000 : Int) < (N : Int)) := by omega
        have HB2 := Lib.hid hb2
        have HBG := Lib.hid hbig
        clear hbig hb2
        rcases HEX.out with h1 | ⟨h1, h2⟩
        all_goals
          rcases HB2.out with h5 | ⟨h5, h6⟩
          all_goals
            go_wp2_with (go_at_call 7; refine (awake_any _ m HM.out).mono ?_; rintro e w1 ⟨rfl, hb1⟩)
            go_ret
            exact ⟨rfl, hb1⟩
      · have hin : i = n := by rcases HEX.out with h | h <;> omega
        subst hin
        have hall : l.take i = l := List.take_of_length_le (by omega)
        have hA := HA.out
        rw [hall] at hA
        have hs2 : ∀ r ∈ l, r.1.length ≤ 1000000 := fun r hr => by have := lens_mem hr; omega
        have HS2 := Lib.hid hs2
        have h5 : ¬ (15 : Int) < (i : Int) := by omega
        have h6 : ¬ (4000 : Int) < (N : Int) := by omega
        have h1 : ¬ (i : Int) < (i : Int) := by omega
        have hpl : path.length ≤ 4000 := by omega
        have hql : pre.length ≤ 4000 := by omega
        obtain ⟨ub, hub⟩ : ∃ b, underS pre path = b := ⟨_, rfl⟩
        have HUB := Lib.hid hub
        clear hbig hall hA hs2 hub
        go_wp2_with first
          | (go_at_call 10; refine (runder_any pre path _ (by omega) (by omega)).mono ?_; rw [HUB.out]; rintro e w4 ⟨rfl, rfl⟩)
          | (go_at_call 9; refine (under_any pre path _ (by omega)).mono ?_; rw [HUB.out]; rintro e w3 ⟨rfl, rfl⟩)
          | (go_at_call 8; refine (same_any A i c l path _ m (pw_cell_below HB1.out HM.out) (HR.out.below HB1.out) HS2.out (by omega) (by omega)).mono ?_; rintro e w2 ⟨rfl, hb2⟩; have HB2 := Lib.hid (HB1.out.trans (hb2.mono HB1.out.size)); clear hb2)
          | (go_at_call 7; refine (awake_any _ m HM.out).mono ?_; rintro e w1 ⟨rfl, hb1⟩; have HB1 := Lib.hid hb1; clear hb1)
        go_ret
        exact ⟨rfl, HB2.out⟩
end Go.Proofs.YtoegjpfngmilhaaDoor
