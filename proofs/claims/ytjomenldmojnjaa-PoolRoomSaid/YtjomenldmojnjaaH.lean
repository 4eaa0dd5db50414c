/- Which one is picked: plain. -/
import Derived.Test.YtjomenldmojnjaaG
set_option linter.unusedVariables false
set_option linter.unusedSimpArgs false
namespace Go.Proofs.Ytjomenldmojnjaa

/-- may one be picked (g: there is one that did not fail too often) -/
def mayB (bs : List Bk) (g : Bool) (i : Nat) : Bool := match bs[i]? with
  | some b => decide (b.o < b.r) && !(g && badB b)
  | none => false
def goodB (bs : List Bk) : Bool := bs.any (fun b => !badB b)
/-- the places, in their order -/
def places (n q : Nat) : List Nat := (List.range n).map fun k => (q + k) % n
def mayL (bs : List Bk) (q : Nat) : List Nat := (places bs.length q).filter (mayB bs (goodB bs))
def less (bs : List Bk) (m y : Nat) : Nat := if oAt bs y < oAt bs m then y else m
/-- the place and the error -/
def pickS (bs : List Bk) (nx : Int) : Nat × Nat :=
  if rightB bs nx = true then (match mayL bs nx.toNat with
    | [] => (0, 4)
    | x :: rest => (rest.foldl (less bs) x, 0)) else (0, 1)

/-- the reference's: the best one till now -/
def step (bs : List Bk) (g : Bool) (best : Option Nat) (i : Nat) : Option Nat :=
  if mayB bs g i then (match best with
    | none => some i
    | some m => some (less bs m i)) else best
theorem step_some (bs : List Bk) (g : Bool) (m : Nat) (xs : List Nat) : xs.foldl (step bs g) (some m) = some ((xs.filter (mayB bs g)).foldl (less bs) m) := by
  induction xs generalizing m with
  | nil => rfl
  | cons x r ih =>
    rw [List.foldl_cons]
    cases hq : mayB bs g x with
    | true => rw [List.filter_cons_of_pos hq, List.foldl_cons]; unfold step; rw [if_pos hq]; exact ih _
    | false => rw [List.filter_cons_of_neg (by simp [hq])]; unfold step; rw [if_neg (by simp [hq])]; exact ih _
theorem step_none (bs : List Bk) (g : Bool) (xs : List Nat) : xs.foldl (step bs g) none = match xs.filter (mayB bs g) with
    | [] => none
    | x :: rest => some (rest.foldl (less bs) x) := by
  induction xs with
  | nil => rfl
  | cons x r ih =>
    rw [List.foldl_cons]
    cases hq : mayB bs g x with
    | true => rw [List.filter_cons_of_pos hq]; unfold step; rw [if_pos hq]; exact step_some _ _ _ _
    | false => rw [List.filter_cons_of_neg (by simp [hq])]; unfold step; rw [if_neg (by simp [hq])]; exact ih
theorem places_succ {n q k : Nat} : ((List.range (k + 1)).map fun k => (q + k) % n) = ((List.range k).map fun k => (q + k) % n) ++ [(q + k) % n] := by
  rw [List.range_succ, List.map_append]
  rfl
theorem mayL_lt {bs : List Bk} {q x : Nat} (h : x ∈ mayL bs q) : x < bs.length := by
  unfold mayL places at h
  have h := (List.mem_filter.1 h).1
  obtain ⟨k, hk, rfl⟩ := List.mem_map.1 h
  have := List.mem_range.1 hk
  exact Nat.mod_lt _ (by omega)
theorem less_mem {bs : List Bk} {L : List Nat} {m y : Nat} (h1 : m ∈ L) (h2 : y ∈ L) : less bs m y ∈ L := by
  unfold less
  split
  · exact h2
  · exact h1
theorem fold_mem {bs : List Bk} {L r : List Nat} {m : Nat} (h1 : m ∈ L) (h2 : ∀ y ∈ r, y ∈ L) : r.foldl (less bs) m ∈ L := by
  induction r generalizing m with
  | nil => exact h1
  | cons a r ih => exact ih (less_mem h1 (h2 a (by simp))) (fun y hy => h2 y (List.mem_cons_of_mem _ hy))
/-- what is picked lies in the pool -/
theorem pickS_ok {bs : List Bk} {nx : Int} (h : (pickS bs nx).2 = 0) : rightB bs nx = true ∧ (pickS bs nx).1 ∈ mayL bs nx.toNat := by
  unfold pickS at h ⊢
  split at h
  · rename_i hr
    refine ⟨hr, ?_⟩
    rw [if_pos hr]
    cases hL : mayL bs nx.toNat with
    | nil => rw [hL] at h; cases h
    | cons x r => exact fold_mem (by simp) (fun y hy => List.mem_cons_of_mem _ hy)
  · cases h
theorem cmp_less (bs : List Bk) : (fun m y => if cmpI (oAt bs y) (oAt bs m) < 0 then y else m) = less bs := by
  funext m y
  unfold less cmpI
  repeat' split
  all_goals first | rfl | omega
end Go.Proofs.Ytjomenldmojnjaa
