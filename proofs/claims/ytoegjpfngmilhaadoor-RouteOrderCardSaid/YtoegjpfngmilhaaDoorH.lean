/- target.plain. -/
import Derived.Test.YtoegjpfngmilhaaDoorG
import Derived.Shelf.Strings.MapGrows
import Derived.Deep.CutRange
import Derived.Deep.CutBlock
import Derived.Deep.RegionWith
set_option linter.unusedVariables false
set_option linter.unusedSimpArgs false
namespace Go.Proofs.YtoegjpfngmilhaaDoor
open Go.RowKit Go.Lib
open Go.Proofs.YtoegjpfngmilhaaDoorW.PrintWords

def plainR (l : List UInt8) : List UInt8 × Bool := match rawS l with | none => ([], false) | some r => (r, mayB r)
theorem Bld.below {W W' : World} {b : Nat} {l : List UInt8} (h : Bld W b l) (hb : Below W.heap.size W W') : Bld W' b l := IsBuilderF.below h hb
theorem Bld.drewN {W : World} {b : Nat} {l : List UInt8} (h : Bld W b l) (n : Nat) : Bld (W.drewN n) b l := h.below (pw_below_drewN (Below.refl _ _) n)
/-- what a write has made, before it is known as a round's end -/
structure Pm (w W : World) (b : Nat) (out : List UInt8) : Prop where
  lo : w.heap.size ≤ b
  bl : Bld W b out
  hw : b ≤ W.heap.size
  bw : Below w.heap.size w W
theorem Pm.below {w W W1 : World} {b : Nat} {out : List UInt8} (h : Pm w W b out) (hb : Below W.heap.size W W1) : Pm w W1 b out := ⟨h.lo, h.bl.below hb, Nat.le_trans h.hw hb.size, h.bw.trans (hb.mono h.bw.size)⟩
theorem Pm.put {w W W1 : World} {b : Nat} {out out' : List UInt8} (h : Pm w W b out) (hB : Bld W1 b out') (hb : Below b W W1) : Pm w W1 b out' := ⟨h.lo, hB, Nat.le_trans h.hw hb.size, h.bw.trans (hb.mono h.lo)⟩
theorem Pm.drewN {w W : World} {b : Nat} {out : List UInt8} (h : Pm w W b out) (n : Nat) : Pm w (W.drewN n) b out := h.below (pw_below_drewN (Below.refl _ _) n)
theorem Pm.cell {w W : World} {b : Nat} {out : List UInt8} (h : Pm w W b out) {a : Addr} {v : Value} (hc : w.cell? a = some v) : W.cell? a = some v := pw_cell_below h.bw hc

theorem ws_pm {w W : World} {b : Nat} {l : List UInt8} (s : List UInt8) (h : Pm w W b l) (hlen : l.length + s.length ≤ 140737488355328) :
    Calls Tryd.prog 31 #[.pointer (some ⟨b, 0, none⟩), .string ⟨s.toArray⟩] W fun e w' => e = .returned (.tuple #[.int .i64 s.length, .nilIface]) ∧ Pm w w' b (l ++ s) :=
  (ws_any b l s W h.bl hlen h.hw).mono fun _ _ hh => ⟨hh.1, h.put hh.2.1 hh.2.2.1⟩
theorem wb_pm {w W : World} {b : Nat} {l : List UInt8} (c : UInt8) (h : Pm w W b l) (hlen : l.length ≤ 1000000000) :
    Calls Tryd.prog 40 #[.pointer (some ⟨b, 0, none⟩), .int .u8 (c.toNat : Int)] W fun e w' => e = .returned .nilIface ∧ Pm w w' b (l ++ [c]) :=
  (wb_any b l c W h.bl hlen h.hw).mono fun _ _ hh => ⟨hh.1, h.put hh.2.1 hh.2.2.1⟩
theorem str_pm {w W : World} {b : Nat} {l : List UInt8} (h : Pm w W b l) :
    Calls Tryd.prog 32 #[.pointer (some ⟨b, 0, none⟩)] W fun e w' => e = .returned (.string ⟨l.toArray⟩) ∧ Pm w w' b l :=
  (str_any b l W h.bl h.hw).mono fun _ _ hh => ⟨hh.1, h.put hh.2.1 hh.2.2.1⟩
theorem cut_pm {w W : World} {b : Nat} {l : List UInt8} {Sk : ByteArray} {A R : List UInt8} {o : Bool} {m : Int} (h : Pm w W b l) (hm : w.cell? ⟨0, 0, none⟩ = some (.int .i64 m)) (hs : Sk.size < 4294967281) (hq : cut (lst Sk) [37] = (A, R, o)) :
    Calls Tryd.prog 37 #[.string Sk, .string ⟨#[37]⟩] W fun e w' => e = .returned (.tuple #[.string ⟨A.toArray⟩, .string ⟨R.toArray⟩, .bool o]) ∧ Pm w w' b l := by
  refine (Tryd.strings_Cut Sk ⟨#[37]⟩ m W hs (h.cell hm)).mono ?_
  rintro e w' ⟨rfl, n, rfl⟩
  have : cut Sk.data.toList (ByteArray.mk #[37]).data.toList = (A, R, o) := hq
  exact ⟨by rw [this], h.drewN n⟩
theorem escL_any (l : List UInt8) (w : World) (hs : l.length ≤ 9223372036854775807) : Calls Tryd.prog 38 #[.string ⟨l.toArray⟩] w fun e w' => e = .returned (.int .u8 (esc l : Int)) ∧ w' = w := escape_any ⟨l.toArray⟩ w (by simpa [ByteArray.size] using hs)
theorem mayL_any (l : List UInt8) (w : World) (hs : l.length ≤ 9223372036854775807) : Calls Tryd.prog 29 #[.string ⟨l.toArray⟩] w fun e w' => e = .returned (.bool (mayB l)) ∧ w' = w := may_any ⟨l.toArray⟩ w (by simpa [ByteArray.size] using hs)
theorem Pm.fresh (w : World) : Pm w (w.alloc (.cells #[.pointer none, .slice none 0 0] 55)) w.heap.size [] := ⟨Nat.le_refl _, IsBuilderF.of (fresh_isBuilder 55 5 w), by simp, (Below.refl _ _).alloc (Nat.le_refl _) _⟩

theorem conv3 (W : World) (x y : UInt8) : (convert 30 9 (.slice (some ⟨W.heap.size, 0, none⟩) 3 3)).run Tryd.prog (W.alloc (.cells #[.int .u8 37, .int .u8 (x.toNat : Int), .int .u8 (y.toNat : Int)] 5)).drew = .ok (.string ⟨#[37, x, y]⟩) (W.alloc (.cells #[.int .u8 37, .int .u8 (x.toNat : Int), .int .u8 (y.toNat : Int)] 5)).drew := by
  have hn := heap_alloc_new W (.cells #[.int .u8 37, .int .u8 (x.toNat : Int), .int .u8 (y.toNat : Int)] 5)
  refine run_convert_bytes_back _ 30 9 5 ⟨W.heap.size, 0, none⟩ 3 [37, x, y] Tryd.underlying30 Tryd.underlying5 Tryd.underlying9 ?_
  intro j hj
  rw [add_plain]
  match j with
  | 0 => exact box_at hn 0 _ rfl
  | 1 => exact box_at hn 1 _ rfl
  | 2 => exact box_at hn 2 _ rfl
  | n + 3 => simp at hj; omega
theorem caps_at : ∀ k : Fin 16, (⟨#[48, 49, 50, 51, 52, 53, 54, 55, 56, 57, 65, 66, 67, 68, 69, 70]⟩ : ByteArray)[k.val]'(by have := k.isLt; exact this) = capN k.val := by decide +kernel
theorem bits15 : ∀ k : Fin 256, bits BinOp.and IntKind.u8 (k.val : Int) 15 = ((k.val % 16 : Nat) : Int) := by decide +kernel

set_option maxHeartbeats 4000000 in
theorem plain_any (S : ByteArray) (w : World) (m : Int) (hm : w.cell? ⟨0, 0, none⟩ = some (.int .i64 m)) (hs : S.size ≤ 1000) (q : List UInt8) (ok : Bool) (hq : plainR (lst S) = (q, ok)) :
    Calls Tryd.prog 27 #[.string S] w fun e w' => e = .returned (.tuple #[.string ⟨q.toArray⟩, .bool ok]) ∧ Below w.heap.size w w' := by
  have HQ := Lib.hid hq
  clear hq
  have HM := Lib.hid hm
  clear hm
  go_enter Tryd.func27, Tryd.ntmps27
  go_wp2_with fail
  have hPm := Pm.fresh w
  go_loopg [0] S.size (fun gg s0 wr => ∃ Sk : ByteArray, ∃ out : List UInt8, s0 = .string Sk ∧ Sk.size ≤ gg ∧ Pm w wr w.heap.size out ∧ rawS (lst S) = (rawS (lst Sk)).map (out ++ ·) ∧ out.length + 3 * Sk.size ≤ 3 * S.size)
  case atStart =>
    refine ⟨S, [], rfl, Nat.le_refl _, hPm, ?_, by simp⟩
    cases rawS (lst S) <;> simp
  case round =>
    obtain ⟨Sk, out, rfl, hg, hP, hr, hn⟩ := hrel
    clear hPm
    have hk := lst_len Sk
    rcases cut1 37 (lst Sk) with ⟨h37, hc⟩ | ⟨a, r, hsp, h37, hc⟩
    · have hres : plainR (lst S) = (out ++ lst Sk, mayB (out ++ lst Sk)) := by
        unfold plainR
        rw [hr, rawS_free h37]
        rfl
      rw [HQ.out] at hres
      injection hres with e1 e2
      subst e1 e2
      have HC := Lib.hid hc
      clear hc h37 hr HQ
      go_wp2_with first
        | (go_at_call 37; refine (cut_pm hP HM.out (by omega) HC.out).mono ?_; rintro e w1 ⟨rfl, hP1⟩)
        | (go_at_call 31; refine (ws_pm _ hP1 (by omega)).mono ?_; rintro e w2 ⟨rfl, hP2⟩)
        | (go_at_call 32; refine (str_pm hP3).mono ?_; rintro e w4 ⟨rfl, hP4⟩)
        | (go_at_call 32; refine (str_pm hP2).mono ?_; rintro e w3 ⟨rfl, hP3⟩)
        | (go_at_call 29; refine (mayL_any _ _ (by rw [List.length_append]; omega)).mono ?_; rintro e w5 ⟨rfl, rfl⟩)
      go_ret2
      exact ⟨rfl, hP4.bw⟩
    · have HC := Lib.hid hc
      have hl3 : (lst Sk).length = a.length + 1 + r.length := by rw [hsp]; simp; omega
      have hraw : rawS (lst Sk) = if esc r = 0 then none else (rawS (r.drop 2)).map ((a ++ unit (esc r)) ++ ·) := by rw [hsp]; exact rawS_round h37
      rw [hraw] at hr
      have hlt := esc_lt r
      by_cases h0 : esc r = 0
      · rw [if_pos h0] at hr
        have hres : plainR (lst S) = ([], false) := by
          unfold plainR
          rw [hr]
          rfl
        rw [HQ.out] at hres
        injection hres with e1 e2
        subst e1 e2
        clear hc h37 hr HQ hsp hraw
        go_wp2_with first
          | (go_at_call 37; refine (cut_pm hP HM.out (by omega) HC.out).mono ?_; rintro e w1 ⟨rfl, hP1⟩)
          | (go_at_call 31; refine (ws_pm _ hP1 (by omega)).mono ?_; rintro e w2 ⟨rfl, hP2⟩)
          | (go_at_call 38; refine (escL_any _ _ (by omega)).mono ?_; rw [h0]; rintro e w3 ⟨rfl, rfl⟩)
        go_ret2
        exact ⟨rfl, hP2.bw⟩
      · rw [if_neg h0] at hr
        have h2 := esc_two h0
        obtain ⟨c, hN⟩ : ∃ c : UInt8, esc r = c.toNat := ⟨UInt8.ofNat (esc r), by simp; omega⟩
        rw [hN] at hr h0 hlt
        have HN := Lib.hid hN
        have h0' : ((c.toNat : Int) == 0) = false := by rw [beq_eq_false_iff_ne]; omega
        have HR := Lib.hid hr
        have HS := Lib.hid hsp
        clear hc h37 hsp hraw hN hr
        have fin : ∀ W out', Pm w W w.heap.size out' → out' = out ++ (a ++ unit c.toNat) → ∃ Sk' : ByteArray, ∃ out : List UInt8, Value.string ((⟨r.toArray⟩ : ByteArray).extract 2 r.length) = .string Sk' ∧ Sk'.size ≤ r.length - 2 ∧ Pm w W w.heap.size out ∧ rawS (lst S) = (rawS (lst Sk')).map (out ++ ·) ∧ out.length + 3 * Sk'.size ≤ 3 * S.size := by
          intro W out' h e
          have hx : lst ((⟨r.toArray⟩ : ByteArray).extract 2 r.length) = r.drop 2 := by
            rw [lst_extract, lst_mk, List.take_of_length_le (by simp)]
          have hsz : ((⟨r.toArray⟩ : ByteArray).extract 2 r.length).size = r.length - 2 := by rw [← lst_len, hx, List.length_drop]
          have hu := (unit_ok ⟨c.toNat, hlt⟩).2.1
          simp only at hu
          refine ⟨_, out', rfl, Nat.le_of_eq hsz, h, ?_, ?_⟩
          · rw [HR.out, hx, e]
            cases rawS (r.drop 2) <;> simp
          · rw [hsz, e, List.length_append, List.length_append]
            omega
        have HF := Lib.hid fin
        clear fin
        cases hfr : freeB c with
        | true =>
          have HFR := Lib.hid hfr
          clear hfr
          go_wp2_with first
            | (go_at_call 37; refine (cut_pm hP HM.out (by omega) HC.out).mono ?_; rintro e w1 ⟨rfl, hP1⟩)
            | (go_at_call 31; refine (ws_pm _ hP1 (by omega)).mono ?_; rintro e w2 ⟨rfl, hP2⟩)
            | (go_at_call 38; refine (escL_any _ _ (by omega)).mono ?_; rw [HN.out]; rintro e w3 ⟨rfl, rfl⟩)
            | (go_at_call 39; refine (free_any c _).mono ?_; rw [HFR.out]; rintro e w4 ⟨rfl, rfl⟩)
            | (go_at_call 40; refine (wb_pm c hP2 (by rw [List.length_append]; omega)).mono ?_; rintro e w5 ⟨rfl, hP5⟩)
          go_roundg (r.length - 2)
          case measure => omega
          case rel =>
            exact HF.out _ _ hP5 (by unfold unit; rw [if_pos (show freeN c.toNat = true from HFR.out)]; simp)
        | false =>
          have HFR := Lib.hid hfr
          clear hfr
          go_wp2_with first
            | (go_at_call 37; refine (cut_pm hP HM.out (by omega) HC.out).mono ?_; rintro e w1 ⟨rfl, hP1⟩)
            | (go_at_call 31; refine (ws_pm _ hP1 (by omega)).mono ?_; rintro e w2 ⟨rfl, hP2⟩)
            | (go_at_call 38; refine (escL_any _ _ (by omega)).mono ?_; rw [HN.out]; rintro e w3 ⟨rfl, rfl⟩)
            | (go_at_call 39; refine (free_any c _).mono ?_; rw [HFR.out]; rintro e w4 ⟨rfl, rfl⟩)
          obtain ⟨x4, hx4⟩ : ∃ x, c.toNat / 16 = x := ⟨_, rfl⟩
          obtain ⟨y4, hy4⟩ : ∃ x, c.toNat % 16 = x := ⟨_, rfl⟩
          have hA : (c.toNat : Int) / 16 = (x4 : Int) := by omega
          have hB : bits BinOp.and IntKind.u8 (c.toNat : Int) 15 = (y4 : Int) := by
            have := bits15 ⟨c.toNat, hlt⟩
            rw [← hy4]
            exact this
          have hA1 : x4 < 16 := by omega
          have hB1 : y4 < 16 := by omega
          have hA2 : (x4 : Int) < 16 := by omega
          have hB2 : (y4 : Int) < 16 := by omega
          have HX := Lib.hid hx4
          have HY := Lib.hid hy4
          clear hx4 hy4
          have hcX := caps_at ⟨x4, hA1⟩
          have hcY := caps_at ⟨y4, hB1⟩
          simp only at hcX hcY
          obtain ⟨cx, hcx⟩ : ∃ cx, capN x4 = cx := ⟨_, rfl⟩
          obtain ⟨cy, hcy⟩ : ∃ cy, capN y4 = cy := ⟨_, rfl⟩
          rw [hcx] at hcX
          rw [hcy] at hcY
          have HCX := Lib.hid hcx
          have HCY := Lib.hid hcy
          clear hcx hcy
          have hcv := fun W : World => conv3 W cx cy
          go_region_with (go_at_call 31; refine (ws_pm [37, cx, cy] (hP2.below (below_drew ((Below.refl _ _).alloc (Nat.le_refl _) _))) (by rw [List.length_append]; simp; omega)).mono ?_; rintro e w5 ⟨rfl, hP5⟩)
          all_goals
            clear hcv
            have hfin := Lib.hid (HF.out _ _ hP5 (by unfold unit; rw [if_neg (show ¬ freeN c.toNat = true from fun h => by rw [show freeN c.toNat = false from HFR.out] at h; cases h), HX.out, HY.out, HCX.out, HCY.out]; simp))
            clear hcX hcY hA hB hA1 hB1 hA2 hB2
            go_wp2_with fail
            go_roundg (r.length - 2)
            case measure => omega
            case rel => exact hfin.out
end Go.Proofs.YtoegjpfngmilhaaDoor
