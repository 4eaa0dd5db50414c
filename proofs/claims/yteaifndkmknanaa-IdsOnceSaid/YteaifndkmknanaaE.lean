/- Contracts of (*table).id and (*table).place; slices.IndexFunc, ContainsFunc. -/
import Derived.Test.YteaifndkmknanaaD
set_option linter.unusedVariables false
namespace Go.Proofs.Yteaifndkmknanaa
open Go.RowKit
open Go.Proofs.YteaifndkmknanaaW.PrintWords

theorem w64 {x : Int} (h0 : -9223372036854775808 ≤ x) (h1 : x ≤ 9223372036854775807) : wrap64 x = x := by unfold wrap64; omega
theorem ret_int {k : IntKind} {a b : Int} (h : a = b) : Ending.returned (.int k a) = .returned (.int k b) := by rw [h]
theorem ret_bool {a b : Bool} (h : a = b) : Ending.returned (.bool a) = .returned (.bool b) := by rw [h]
theorem mul_bd {g : Int} {n : Nat} (h0 : 0 ≤ g) (h1 : g ≤ 9007199254740992) (hn : n ≤ 64) : 0 ≤ g * n ∧ g * n ≤ 576460752303423488 := by
  have a := Int.mul_nonneg h0 (show (0 : Int) ≤ (n : Int) by omega)
  have b := Int.mul_le_mul h1 (show (n : Int) ≤ 64 by omega) (by omega) (by omega)
  omega

set_option maxHeartbeats 400000 in
theorem id_any (i : Nat) (w : World) (bx bg off n c : Nat) (g : Int) (hi : i < n) (hn : n ≤ 64) (h0 : 0 ≤ g) (h1 : g ≤ 9007199254740992)
    (c0 : w.cell? ⟨bx, 0, none⟩ = some (.slice (some ⟨bg, off, none⟩) n c)) (cg : w.cell? ⟨bg, off + i, none⟩ = some (.int .i64 g)) :
    Calls Try.prog 23 #[.pointer (some ⟨bx, 0, none⟩), .int .i64 i] w fun e w' => e = .returned (.int .i64 (g * n + i)) ∧ ∃ q, w' = w.drewN q := by
  have hz : (i : Int) < (n : Int) := by omega
  have hf : wrap64 (wrap64 (g * n) + i) = g * n + i := by
    have := mul_bd h0 h1 hn
    rw [w64 (x := g * n) (by omega) (by omega), w64 (by omega) (by omega)]
  have HF := Lib.hid hf
  clear hf
  go_enter Try.func23, Try.ntmps23
  go_wp2
  go_quiet (fail)
  go_wp2
  go_ret
  exact ⟨ret_int HF.out, _, rfl⟩

set_option maxHeartbeats 400000 in
theorem place_neg (id : Int) (w : World) (p : Value) (h : id < 0) :
    Calls Try.prog 24 #[p, .int .i64 id] w fun e w' => e = .returned (.tuple #[.int .i64 0, .bool false]) ∧ ∃ q, w' = w.drewN q := by
  go_enter Try.func24, Try.ntmps24
  go_wp2
  go_ret2
  exact ⟨rfl, 0, rfl⟩

set_option maxHeartbeats 400000 in
theorem place_idle (k : Nat) (w : World) (bx n : Nat) (Ag : Option Addr) (cg bb offb nb cb : Nat) (hn0 : 0 < n) (hn : n ≤ 64) (hnb : nb = n)
    (c0 : w.cell? ⟨bx, 0, none⟩ = some (.slice Ag n cg)) (c1 : w.cell? ⟨bx, 1, none⟩ = some (.slice (some ⟨bb, offb, none⟩) nb cb))
    (hb : w.cell? ⟨bb, offb + k % n, none⟩ = some (.bool false)) :
    Calls Try.prog 24 #[.pointer (some ⟨bx, 0, none⟩), .int .i64 k] w fun e w' => e = .returned (.tuple #[.int .i64 (k % n : Nat), .bool false]) ∧ ∃ q, w' = w.drewN q := by
  have hz : (k % n : Int) < (nb : Int) := by have := Nat.mod_lt k hn0; omega
  have hk0 : (0 : Int) ≤ (k % n : Int) := by omega
  have HN := Lib.hid hnb
  clear hnb
  go_enter Try.func24, Try.ntmps24
  go_wp2
  go_ret2
  exact ⟨by simp, 0, rfl⟩

set_option maxHeartbeats 400000 in
theorem place_busy (k : Nat) (w : World) (bx n : Nat) (bg offg cg bb offb nb cb : Nat) (g : Int) (hn0 : 0 < n) (hn : n ≤ 64) (hnb : nb = n) (h0 : 0 ≤ g) (h1 : g ≤ 9007199254740992)
    (c0 : w.cell? ⟨bx, 0, none⟩ = some (.slice (some ⟨bg, offg, none⟩) n cg)) (c1 : w.cell? ⟨bx, 1, none⟩ = some (.slice (some ⟨bb, offb, none⟩) nb cb))
    (hb : w.cell? ⟨bb, offb + k % n, none⟩ = some (.bool true)) (hg : w.cell? ⟨bg, offg + k % n, none⟩ = some (.int .i64 g)) :
    Calls Try.prog 24 #[.pointer (some ⟨bx, 0, none⟩), .int .i64 k] w fun e w' => e = .returned (.tuple #[.int .i64 (k % n : Nat), .bool (g * n + (k % n : Nat) == k)]) ∧ ∃ q, w' = w.drewN q := by
  have hz : (k % n : Int) < (nb : Int) := by have := Nat.mod_lt k hn0; omega
  have hk0 : (0 : Int) ≤ (k % n : Int) := by omega
  have hlt := Nat.mod_lt k hn0
  have hcall := id_any (k % n) w bx bg offg n cg g hlt hn h0 h1 c0 hg
  rw [show ((k % n : Nat) : Int) = (k : Int) % (n : Int) by simp] at hcall ⊢
  have HN := Lib.hid hnb
  have HC := Lib.hid hcall
  clear hnb hcall hlt
  go_enter Try.func24, Try.ntmps24
  go_wp2_with (go_at_call 23; refine (HC.out).mono ?_; rintro e w' ⟨rfl, q, rfl⟩)
  go_ret2
  exact ⟨rfl, q, rfl⟩
end Go.Proofs.Yteaifndkmknanaa
