/- lockageref13.Segments. -/
import Derived.Test.YtoegjpfngmilhaaDoorO
set_option linter.unusedVariables false
set_option linter.unusedSimpArgs false
namespace Go.Proofs.YtoegjpfngmilhaaDoor
open Go.RowKit Go.Lib
open Go.Proofs.YtoegjpfngmilhaaDoorW.PrintWords

/-- rows of one's own, grown -/
structure Rw (w W : World) (v : Value) (xs : List (List UInt8)) : Prop where
  ow : Ow 9 W w.heap.size v (strs xs)
  bw : Below w.heap.size w W
theorem Rw.start (w : World) : Rw w w (.slice none 0 0) [] := ⟨Ow.nil _ _ _, Below.refl _ _⟩
theorem Rw.alloc {w W : World} {v : Value} {xs : List (List UInt8)} (h : Rw w W v xs) (o : Obj) : Rw w (W.alloc o) v xs := ⟨h.ow.below ((Below.refl _ _).alloc (Nat.le_refl _) _), h.bw.alloc h.bw.size _⟩
theorem Rw.app {w W w1 : World} {v v1 : Value} {xs ys : List (List UInt8)} (h : Rw w W v xs) (hv : Ow 9 w1 w.heap.size v1 (strs ys)) (hg : W.grownBy w1 v.ownBlock) : Rw w w1 v1 ys := ⟨hv, h.bw.grown hg h.bw.size (fun k e => h.ow.base k e)⟩

def segsOf (l : List UInt8) : List (List UInt8) := if l = [] then [] else pieces 47 l.tail

/-- the loop of the reference's Segments, at i, with start st -/
def Sg (l : List UInt8) (o : List (List UInt8)) (st i : Nat) : Prop :=
  o.length ≤ i ∧ 1 ≤ i ∧ ((i = l.length + 1 ∧ o = segsOf l) ∨ (i ≤ l.length ∧ ∃ a rest, l.drop st = a ++ rest ∧ (47 : UInt8) ∉ a ∧ a.length + st = i ∧ segsOf l = o ++ pieces 47 (a ++ rest)))
theorem Sg.start {l : List UInt8} : Sg l [] 1 1 := by
  refine ⟨by simp, Nat.le_refl _, ?_⟩
  cases l with
  | nil => exact .inl ⟨rfl, rfl⟩
  | cons c r => exact .inr ⟨by simp, [], r, by simp, by simp, by simp, by simp [segsOf]⟩

set_option maxRecDepth 100000 in
set_option maxHeartbeats 4000000 in
theorem rseg_any (l : List UInt8) (w : World) (hl : l.length ≤ 100000) :
    Calls Tryd.prog 45 #[str l] w fun e w' => ∃ v, e = .returned v ∧ Rw w w' v (segsOf l) := by
  go_enter Tryd.func45, Tryd.ntmps45
  go_wp2_with fail
  go_loopg [3, 4, 5] (l.length + 1) (fun gg s3 s4 s5 wr => ∃ (o : List (List UInt8)) (st i : Nat) (A : Option Addr) (n c : Nat), s3 = .slice A n c ∧ s4 = .int .i64 st ∧ s5 = .int .i64 i ∧ i ≤ l.length + 1 ∧ l.length + 1 - i ≤ gg ∧ Sg l o st i ∧ Rw w wr (.slice A n c) o)
  case atStart => exact ⟨[], 1, 1, none, 0, 0, rfl, rfl, rfl, by omega, by omega, Sg.start, Rw.start w⟩
  case round =>
    obtain ⟨o, st, i, A, n, c, rfl, rfl, rfl, hi, hg, ⟨ho, h1i, hS⟩, hR⟩ := hrel
    rcases hS with ⟨hi2, hS⟩ | ⟨hi2, a, rest, hd, ha, hai, hS⟩
    · have hlt : ¬ (i : Int) ≤ (l.length : Int) := by omega
      subst hS
      go_wp2_with fail
      go_ret
      exact ⟨_, rfl, hR⟩
    · have hlt : (i : Int) ≤ (l.length : Int) := by omega
      have hdl : (l.drop st).length = a.length + rest.length := by rw [hd]; simp
      rw [List.length_drop] at hdl
      have hx : (⟨l.toArray⟩ : ByteArray).extract st i = ⟨a.toArray⟩ := by
        have : lst ((⟨l.toArray⟩ : ByteArray).extract st i) = a := by
          rw [lst_extract, lst_mk, hd, ← hai]
          simp
        apply ByteArray.ext
        apply Array.ext'
        exact this
      have hsti : (st : Int) ≤ (i : Int) := by omega
      have HR := Lib.hid hR
      have HS := Lib.hid hS
      have HA := Lib.hid ha
      have HD := Lib.hid hd
      clear hR hS ha hd
      by_cases he : i = l.length
      · skip
        obtain rfl : rest = [] := List.eq_nil_of_length_eq_zero (by omega)
        have HSG := Lib.hid (show Sg l (o ++ [a]) (i + 1) (i + 1) from ⟨by simp; omega, by omega, .inl ⟨by omega, by rw [HS.out, List.append_nil, pieces_none HA.out]⟩⟩)
        have hei : ((i : Int) == (l.length : Int)) = true := by rw [beq_iff_eq]; omega
        have hd1 : l.length - st ≤ 100000 := by omega
        have hil2 : i + 1 = l.length + 1 := by omega
        have HE := Lib.hid he
        clear he hdl hil2
        go_wp2_with (at_builtin; refine wp_app w.heap.size rfl _ _ 42 9 (.string ByteArray.empty) 16 rfl Tryd.underlying42 (by kernel_rfl) rfl (by omega) _ _ (strs o) [str a] rfl rfl ?c1 ?c2 ?c3 ?c4 ?c5 ?c6)
        case c1 => exact (HR.out.alloc _).ow
        case c2 => exact rd_box wr (str a) 9
        case c3 => exact strs_one [a]
        case c4 =>
          rw [strs_len]
          simp
          omega
        case c5 => exact (HR.out.alloc _).bw.size
        case c6 =>
          intro v1 w1 hv1 hg1 hat1
          obtain ⟨A1, n1, c1, rfl⟩ := hv1.slice'
          have HR1 := Lib.hid ((HR.out.alloc (.cells #[str a] 9)).app (ys := o ++ [a]) (by rw [strs_app]; exact hv1) hg1)
          clear hv1 hg1 hat1
          go_wp2_with fail
          go_roundg (l.length + 1 - (i + 1))
          case measure => omega
          case rel => exact ⟨o ++ [a], i + 1, i + 1, A1, n1, c1, rfl, by simp [wrap64] <;> omega, by simp [wrap64] <;> omega, by omega, by omega, HSG.out, HR1.out⟩
      · have hei : ((i : Int) == (l.length : Int)) = false := by rw [beq_eq_false_iff_ne]; omega
        have hil : i < l.length := by omega
        have hil1 : (i : Int) < (l.length : Int) := by omega
        obtain ⟨x, rest', rfl⟩ : ∃ x r, rest = x :: r := by
          cases rest with
          | nil => simp at hdl; omega
          | cons x r => exact ⟨x, r, rfl⟩
        have hxi0 : l[i] = x := by
          have h1 : (l.drop st)[a.length]? = some x := by rw [HD.out]; simp
          rw [List.getElem?_drop, show st + a.length = i by omega, List.getElem?_eq_getElem hil] at h1
          injection h1
        have hxi : (⟨l.toArray⟩ : ByteArray)[i]'(by simpa [ByteArray.size] using hil) = x := hxi0
        clear hxi0 he
        obtain ⟨k, hk⟩ : ∃ k, x.toNat = k := ⟨_, rfl⟩
        by_cases h47 : x = 47
        · have hk47 : k = 47 := by rw [← hk, h47]; rfl
          subst hk47
          have HSG := Lib.hid (show Sg l (o ++ [a]) (i + 1) (i + 1) from ⟨by simp; omega, by omega, .inr ⟨by omega, [], rest', by
            have h1 : l.drop (i + 1) = (l.drop st).drop (a.length + 1) := by rw [List.drop_drop]; congr 1; omega
            rw [h1, HD.out]
            simp, by simp, by simp, by rw [HS.out, h47, pieces_app HA.out]; simp⟩⟩)
          clear h47
          go_wp2_with (at_builtin; refine wp_app w.heap.size rfl _ _ 42 9 (.string ByteArray.empty) 16 rfl Tryd.underlying42 (by kernel_rfl) rfl (by omega) _ _ (strs o) [str a] rfl rfl ?c1 ?c2 ?c3 ?c4 ?c5 ?c6)
          case c1 => exact (HR.out.alloc _).ow
          case c2 => exact rd_box wr (str a) 9
          case c3 => exact strs_one [a]
          case c4 =>
            rw [strs_len]
            simp
            omega
          case c5 => exact (HR.out.alloc _).bw.size
          case c6 =>
            intro v1 w1 hv1 hg1 hat1
            obtain ⟨A1, n1, c1, rfl⟩ := hv1.slice'
            have HR1 := Lib.hid ((HR.out.alloc (.cells #[str a] 9)).app (ys := o ++ [a]) (by rw [strs_app]; exact hv1) hg1)
            clear hv1 hg1 hat1
            go_wp2_with fail
            go_roundg (l.length + 1 - (i + 1))
            case measure => omega
            case rel => exact ⟨o ++ [a], i + 1, i + 1, A1, n1, c1, rfl, by simp [wrap64] <;> omega, by simp [wrap64] <;> omega, by omega, by omega, HSG.out, HR1.out⟩
        · have hk47 : ((k : Int) == 47) = false := by
            rw [beq_eq_false_iff_ne]
            intro h
            exact h47 (UInt8.toNat_inj.1 (by rw [hk]; show k = 47; omega))
          have HSG := Lib.hid (show Sg l o st (i + 1) from ⟨by omega, by omega, .inr ⟨by omega, a ++ [x], rest', by rw [HD.out]; simp, by
            intro h
            rcases List.mem_append.1 h with h | h
            · exact HA.out h
            · simp at h
              exact h47 h.symm, by simp; omega, by rw [HS.out]; simp⟩⟩)
          go_wp2_with fail
          go_roundg (l.length + 1 - (i + 1))
          case measure => omega
          case rel => exact ⟨o, st, i + 1, A, n, c, rfl, rfl, by simp [wrap64] <;> omega, by omega, by omega, HSG.out, HR.out⟩
end Go.Proofs.YtoegjpfngmilhaaDoor
