/- What Made does, as plain lists. -/
import Derived.Test.YtjomenldmojnjaaN
import Derived.Test.YtjomenldmojnjaaMB
import Derived.Test.YtjomenldmojnjaaR
set_option linter.unusedVariables false
set_option linter.unusedSimpArgs false
namespace Go.Proofs.Ytjomenldmojnjaa
open Go.RowKit
open Go.Proofs.YtjomenldmojnjaaW.PrintWords

def u8s (xs : List Nat) : List Value := xs.map (fun x : Nat => Value.int .u8 (x : Int))
theorem u8s_len (xs : List Nat) : (u8s xs).length = xs.length := by simp [u8s]
theorem u8s_at {xs : List Nat} {i : Nat} (h : i < xs.length) : (u8s xs)[i]? = some (.int .u8 (xs[i] : Int)) := by simp [u8s, h]

def roomB (r : Nat) : Bk := ⟨0, 1 + (r % 8 : Nat), 0, 0⟩
def startS (rooms : List Nat) : List Bk := ⟨0, 2, 0, 0⟩ :: (rooms.take 7).map roomB
def stepM (s : List Bk × Int) (b : Nat) : List Bk × Int :=
  if b % 2 = 0 then ((openS s.1 s.2).bs, (openS s.1 s.2).nx)
  else ((closeS s.1 s.2 (b / 8 % s.1.length : Nat) (decide (b / 2 % 2 = 0)) (decide (b / 4 % 2 = 0))).bs, (closeS s.1 s.2 (b / 8 % s.1.length : Nat) (decide (b / 2 % 2 = 0)) (decide (b / 4 % 2 = 0))).nx)
def madeS (rooms l : List Nat) : List Bk × Int := (l.take 40).foldl stepM (startS rooms, 0)
theorem openS_len (bs : List Bk) (nx : Int) : (openS bs nx).bs.length = bs.length := by
  unfold openS
  split <;> simp
theorem closeS_len (bs : List Bk) (nx i : Int) (a b : Bool) : (closeS bs nx i a b).bs.length = bs.length := by
  unfold closeS
  split
  · split <;> simp
  · simp
theorem stepM_len (s : List Bk × Int) (b : Nat) : (stepM s b).1.length = s.1.length := by
  unfold stepM
  split
  · simp [openS_len]
  · simp [closeS_len]
theorem foldM_len (l : List Nat) : ∀ s : List Bk × Int, (l.foldl stepM s).1.length = s.1.length := by
  induction l with
  | nil => intro s; rfl
  | cons b r ih => intro s; rw [List.foldl_cons, ih, stepM_len]
theorem startS_len (rooms : List Nat) : 1 ≤ (startS rooms).length ∧ (startS rooms).length ≤ 8 := by simp [startS]; omega
theorem madeS_len (rooms l : List Nat) : 1 ≤ (madeS rooms l).1.length ∧ (madeS rooms l).1.length ≤ 8 := by
  unfold madeS
  rw [foldM_len]
  exact startS_len rooms
theorem startS_succ {rooms : List Nat} {k : Nat} (hk : k < rooms.length) : (⟨0, 2, 0, 0⟩ :: (rooms.take (k + 1)).map roomB : List Bk) = (⟨0, 2, 0, 0⟩ :: (rooms.take k).map roomB) ++ [roomB rooms[k]] := by
  rw [List.take_succ_eq_append_getElem hk, List.map_append]
  rfl
theorem runM_succ {l : List Nat} {k : Nat} (hk : k < l.length) (s : List Bk × Int) : (l.take (k + 1)).foldl stepM s = stepM ((l.take k).foldl stepM s) l[k] := by
  rw [List.take_succ_eq_append_getElem hk, List.foldl_append]
  rfl
theorem take_min {α : Type} (l : List α) (n : Nat) : l.take (min l.length n) = l.take n := by
  by_cases h : l.length ≤ n
  · rw [Nat.min_eq_left h, List.take_of_length_le (by omega), List.take_of_length_le (by omega)]
  · rw [Nat.min_eq_right (by omega)]
end Go.Proofs.Ytjomenldmojnjaa
