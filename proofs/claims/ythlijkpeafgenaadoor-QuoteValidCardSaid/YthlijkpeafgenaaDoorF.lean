/- Contract of strconv.FormatInt at base 16. -/
import Derived.Test.YthlijkpeafgenaaDoorC
import Derived.Test.YthlijkpeafgenaaDoorShelf
import Derived.Laws.BitsAllLaws
set_option linter.unusedVariables false
set_option linter.unusedSimpArgs false
namespace Go.Proofs.YthlijkpeafgenaaDoor
open Go.RowKit
open Go.Proofs.YthlijkpeafgenaaDoorW.PrintWords

theorem pow2_16 (w : World) : Calls Tryd.prog 51 #[.int .i64 16] w fun e w' => e = .returned (.bool true) ∧ w' = w := by
  go_enter Tryd.func51, Tryd.ntmps51
  go_wp2_with fail
  go_ret
  exact ⟨by rfl, rfl⟩
theorem tz64_16 (w : World) (h : w.cell? ⟨5, 15, none⟩ = some (.int .u8 4)) : Calls Tryd.prog 54 #[.int .u64 16] w fun e w' => e = .returned (.int .i64 4) ∧ w' = w := by
  have hb : bits BinOp.and IntKind.u64 16 (IntKind.u64.wrap (-16)) = 16 := by rfl
  have hm : IntKind.u64.wrap (16 * 285870213051353865) = 4573923408821661840 := by rfl
  go_enter Tryd.func54, Tryd.ntmps54
  go_wp2_with fail
  go_ret
  exact ⟨rfl, rfl⟩
theorem tz_16 (w : World) (h : w.cell? ⟨5, 15, none⟩ = some (.int .u8 4)) : Calls Tryd.prog 52 #[.int .u64 16] w fun e w' => e = .returned (.int .i64 4) ∧ w' = w := by
  go_enter Tryd.func52, Tryd.ntmps52
  go_wp2_with (go_at_call 54; refine (tz64_16 _ h).mono ?_; rintro e _ ⟨rfl, rfl⟩)
  go_ret
  exact ⟨rfl, rfl⟩

/-- a digit to the base 16 (and to the base 10) -/
def dgt (k : Nat) : UInt8 := if k < 10 then UInt8.ofNat (48 + k) else UInt8.ofNat (87 + k)
def hexD (u : Nat) : List UInt8 :=
  if h : u < 16 then [dgt u] else hexD (u / 16) ++ [dgt (u % 16)]
termination_by u
decreasing_by omega
theorem hexD_small {u : Nat} (h : u < 16) : hexD u = [dgt u] := by rw [hexD, dif_pos h]
theorem hexD_big {u : Nat} (h : ¬ u < 16) : hexD u = hexD (u / 16) ++ [dgt (u % 16)] := by rw [hexD, dif_neg h]
theorem hexD_len {k u : Nat} (h : u < 16 ^ (k + 1)) : (hexD u).length ≤ k + 1 := by
  induction k generalizing u with
  | zero => rw [hexD_small (by simpa using h)]; simp
  | succ k ih =>
    by_cases hu : u < 16
    · rw [hexD_small hu]; simp
    · rw [hexD_big hu, List.length_append, List.length_singleton]
      have : u / 16 < 16 ^ (k + 1) := by rw [Nat.div_lt_iff_lt_mul (by omega), ← Nat.pow_succ]; exact h
      have := ih this
      omega
theorem hexD_pos (u : Nat) : 1 ≤ (hexD u).length := by
  by_cases hu : u < 16
  · rw [hexD_small hu]; simp
  · rw [hexD_big hu]; simp

/-- the loop of formatBits -/
def FmtI (u : Nat) (wr : World) (b u' i : Nat) : Prop :=
  ∃ (cs : Array Value) (suf : List UInt8), wr.heap[b]? = some (.cells cs 91 (0, 0)) ∧ cs.size = 65 ∧ hexD u = hexD u' ++ suf ∧ i + suf.length = 65 ∧ cs.toList.drop i = suf.map (fun b : UInt8 => Value.int .u8 (b.toNat : Int))
theorem dig36 : ∀ k : Fin 16, (#[48, 49, 50, 51, 52, 53, 54, 55, 56, 57, 97, 98, 99, 100, 101, 102, 103, 104, 105, 106, 107, 108, 109, 110, 111, 112, 113, 114, 115, 116, 117, 118, 119, 120, 121, 122] : Array UInt8)[k.val]'(by have := k.isLt; simp; omega) = dgt k.val := by decide
theorem put_at {cs : Array Value} {j : Nat} (hj : j < cs.size) (v : Value) : (cs.setIfInBounds j v).toList.drop j = v :: cs.toList.drop (j + 1) := by
  rw [Array.toList_setIfInBounds, List.drop_eq_getElem_cons (by simpa using hj), List.getElem_set_self, List.drop_set_of_lt (by omega)]
theorem FmtI.step {u u' j b : Nat} {wr : World} (h : FmtI u wr b u' (j + 1)) (hu : ¬ u' < 16) (c : UInt8) (hc : c = dgt (u' % 16)) : FmtI u (wr.setCell ⟨b, j, none⟩ (.int .u8 (c.toNat : Int))) b (u' / 16) j := by
  obtain ⟨cs, suf, hX, hcs, hh, hil, hdr⟩ := h
  refine ⟨cs.setIfInBounds j (.int .u8 (c.toNat : Int)), c :: suf, heap_set hX _, by simpa using hcs, ?_, by simp; omega, ?_⟩
  · rw [hh, hexD_big hu, hc]; simp
  · rw [put_at (by omega), hdr]; rfl
theorem FmtI.last {u u' j b : Nat} {wr : World} (h : FmtI u wr b u' (j + 1)) (hu : u' < 16) (c : UInt8) (hc : c = dgt u') :
    (hexD u).length = 65 - j ∧ ∀ i (hi : i < (hexD u).length), (wr.setCell ⟨b, j, none⟩ (.int .u8 (c.toNat : Int))).cell? ⟨b, j + i, none⟩ = some (.int .u8 ((hexD u)[i].toNat : Int)) := by
  obtain ⟨cs, suf, hX, hcs, hh, hil, hdr⟩ := h
  rw [hexD_small hu] at hh
  refine ⟨by rw [hh]; simp; omega, fun i hi => ?_⟩
  have hp := put_at (cs := cs) (j := j) (by omega) (.int .u8 (c.toNat : Int))
  rw [hdr] at hp
  have hl : (hexD u).map (fun b : UInt8 => Value.int .u8 (b.toNat : Int)) = (cs.setIfInBounds j (.int .u8 (c.toNat : Int))).toList.drop j := by
    rw [hp, hh, hc]; rfl
  have hg : ((hexD u).map (fun b : UInt8 => Value.int .u8 (b.toNat : Int)))[i]? = some (.int .u8 ((hexD u)[i].toNat : Int)) := by
    rw [List.getElem?_map, List.getElem?_eq_getElem hi]; rfl
  rw [hl, List.getElem?_drop] at hg
  exact box_at (heap_set hX _) (j + i) _ (by rw [← Array.getElem?_toList]; exact hg)
theorem z47 : ∀ w, Sem.run Tryd.prog (zeroValue 91) w = .ok (.agg (Array.replicate 65 (.int .u8 0))) w := by
  intro w
  kernel_rfl
theorem c47 : (Value.agg (Array.replicate 65 (.int .u8 0))).cells = Array.replicate 65 (.int .u8 0) := by
  kernel_rfl
set_option maxHeartbeats 1000000 in
theorem formatBits_16 (u : Nat) (hu : u ≤ 9007199254740992) (w : World) (h : w.cell? ⟨5, 15, none⟩ = some (.int .u8 4)) :
    Calls Tryd.prog 46 #[.slice none 0 0, .int .u64 u, .int .i64 16, .bool false, .bool false] w fun e w' => e = .returned (.tuple #[.slice none 0 0, .string ⟨(hexD u).toArray⟩]) ∧ Below w.heap.size w w' := by
  have hz := z47
  have hcc := c47
  have hzs : (Array.replicate 65 (Value.int .u8 0)).size = 65 := by simp
  generalize Array.replicate 65 (Value.int .u8 0) = Z at hz hcc hzs
  have h1 : (w.alloc (.cells Z 91)).cell? ⟨5, 15, none⟩ = some (.int .u8 4) := by
    exact pw_cell_below ((Below.refl _ _).alloc (Nat.le_refl _) _) h
  go_enter Tryd.func46, Tryd.ntmps46
  go_wp2_with (first | (go_at_call 51; refine (pow2_16 _).mono ?_; rintro e _ ⟨rfl, rfl⟩) | (go_at_call 52; refine (tz_16 _ h1).mono ?_; rintro e _ ⟨rfl, rfl⟩))
  go_loopg [1, 13] u (fun gg s1 s13 wr => ∃ u' i : Nat, u' ≤ gg ∧ u' ≤ u ∧ s1 = .int .u64 u' ∧ s13 = .int .i64 i ∧ Below w.heap.size w wr ∧ Aside (FmtI u wr w.heap.size u' i))
  case atStart =>
    refine ⟨u, 65, Nat.le_refl _, Nat.le_refl _, rfl, rfl, (Below.refl _ _).alloc (Nat.le_refl _) _, ?_⟩
    exact ⟨Z, [], heap_alloc_new w (.cells Z 91), hzs, by simp, rfl, by rw [List.drop_eq_nil_of_le (by rw [Array.length_toList, hzs]; omega)]; rfl⟩
  case round =>
    obtain ⟨u', i, hg, huu, rfl, rfl, hB, HA⟩ := hrel
    obtain ⟨cs, suf, hX, hcs, hh, hil, hdr⟩ := HA.out
    have HA := Lib.hid HA.out
    have hbd : (hexD u).length ≤ 14 := hexD_len (k := 13) (by omega)
    have hp := hexD_pos u'
    rw [hh, List.length_append] at hbd
    obtain ⟨j, rfl⟩ : ∃ j, i = j + 1 := ⟨i - 1, by omega⟩
    have hj1 : (j : Int) < 65 := by omega
    have zf := box_free hX
    have z0 := box_at hX j (cs[j]'(by omega)) (by simp)
    by_cases h16 : 16 ≤ u'
    · have hlt : (16 : Int) ≤ (u' : Int) := by omega
      have hand : bits BinOp.and IntKind.u64 (u' : Int) 15 = ((u' % 16 : Nat) : Int) := by
        have := u64_and_nat u' 15 (by omega) (by omega)
        rw [show (15 : Nat) = 2 ^ 4 - 1 by rfl, Nat.and_two_pow_sub_one_eq_mod] at this
        exact this
      obtain ⟨k, hk⟩ : ∃ k, u' % 16 = k := ⟨_, rfl⟩
      have hk16 : k < 16 := by omega
      rw [hk] at hand
      clear hX hdr hh hbd hp
      go_wp2_with fail
      go_roundg (u' / 16)
      case measure => omega
      case rel =>
        refine ⟨u' / 16, j, Nat.le_refl _, by omega, by simp, rfl, hB.setCell (Nat.le_refl _) _, ?_⟩
        show Aside _
        exact HA.out.step (by omega) _ (by have := dig36 ⟨k, hk16⟩; rw [hk]; exact this)
    · have hlt : ¬ (16 : Int) ≤ (u' : Int) := by omega
      have h3 : u' < 36 := by omega
      obtain ⟨hlen, hcell⟩ := HA.out.last (by omega) (dgt u') rfl
      have hsl : ∀ W, (Instr.sliceAt 91 (.pointer (some ⟨w.heap.size, 0, none⟩)) (some (.int .i64 (j : Int))) none none).run Tryd.prog W = .ok (.slice (some ⟨w.heap.size, j, none⟩) (65 - j) (65 - j)) W := fun W => by
        have hal : Tryd.prog.arrayLen 91 = 65 := by simp [Program.arrayLen, Tryd.underlying91]
        rw [run_sliceAt_array_l W 91 ⟨w.heap.size, 0, none⟩ (by simp [Program.arrayLen, Program.elem, Tryd.underlying91]) .i64 (j : Int) (by omega) (by rw [hal]; omega)]
        go_simp
        omega
      have hcv : ∀ W, W = wr.setCell ⟨w.heap.size, j, none⟩ (.int .u8 ((dgt u').toNat : Int)) → (convert 22 9 (.slice (some ⟨w.heap.size, j, none⟩) (65 - j) (65 - j))).run Tryd.prog W = .ok (.string ⟨(hexD u).toArray⟩) W := by
        rintro W rfl
        have := run_convert_bytes_back (P := Tryd.prog) (wr.setCell ⟨w.heap.size, j, none⟩ (.int .u8 ((dgt u').toNat : Int))) 22 9 5 ⟨w.heap.size, j, none⟩ (65 - j) (hexD u) Tryd.underlying22 Tryd.underlying5 Tryd.underlying9 (fun i hi => by rw [add_at]; exact hcell i hi)
        rwa [hlen] at this
      have hcv := hcv _ rfl
      have hd : ({ data := #[48, 49, 50, 51, 52, 53, 54, 55, 56, 57, 97, 98, 99, 100, 101, 102, 103, 104, 105, 106, 107, 108, 109, 110, 111, 112, 113, 114, 115, 116, 117, 118, 119, 120, 121, 122] } : ByteArray)[u']'(by show u' < 36; omega) = dgt u' := dig36 ⟨u', by omega⟩
      have hB2 := hB.setCell (p := ⟨w.heap.size, j, none⟩) (Nat.le_refl _) (.int .u8 ((dgt u').toNat : Int))
      clear hX hdr hh hbd hp hcell hlen
      go_wp2_with fail
      go_ret2
      exact ⟨rfl, hB2⟩
end Go.Proofs.YthlijkpeafgenaaDoor
