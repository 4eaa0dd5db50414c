/- What plain does: paths whose escapes are made alike. -/
import Derived.Test.YtoegjpfngmilhaaDoorF
import Derived.Lib.IndexLaws
import Derived.Lib.IndexBytes
import Derived.Lib.IndexMore
set_option linter.unusedVariables false
set_option linter.unusedSimpArgs false
namespace Go.Proofs.YtoegjpfngmilhaaDoor
open Go.RowKit Go.Lib

theorem cut1 (c : UInt8) (l : List UInt8) : (c ∉ l ∧ cut l [c] = (l, [], false)) ∨ ∃ a r, l = a ++ c :: r ∧ c ∉ a ∧ cut l [c] = (a, r, true) := by
  have hge := indexByte_ge l c
  unfold cut
  rw [index_one]
  by_cases h : 0 ≤ indexByte l c
  · obtain ⟨o, ho⟩ : ∃ o : Nat, indexByte l c = o := ⟨(indexByte l c).toNat, by omega⟩
    obtain ⟨h1, h2⟩ := indexByte_some ho
    obtain ⟨hol, hoc⟩ := List.getElem?_eq_some_iff.1 h1
    refine .inr ⟨l.take o, l.drop (o + 1), ?_, ?_, ?_⟩
    · conv => lhs; rw [← List.take_append_drop o l]
      rw [List.drop_eq_getElem_cons hol, hoc]
    · intro hm
      obtain ⟨k, hk, hkc⟩ := List.getElem_of_mem hm
      rw [List.length_take] at hk
      rw [List.getElem_take] at hkc
      exact h2 k (by omega) (by rw [List.getElem?_eq_getElem (by omega), hkc])
    · rw [if_pos h, ho]
      simp
  · have hn : indexByte l c = -1 := by omega
    refine .inl ⟨fun hm => ?_, by rw [if_neg h]⟩
    obtain ⟨k, hk, hkc⟩ := List.getElem_of_mem hm
    exact indexByte_none hn k (by rw [List.getElem?_eq_getElem hk, hkc])

def capN (k : Nat) : UInt8 := if k < 10 then UInt8.ofNat (48 + k) else UInt8.ofNat (55 + k)
/-- an escape, made alike -/
def unit (n : Nat) : List UInt8 := if freeN n = true then [UInt8.ofNat n] else [37, capN (n / 16), capN (n % 16)]
theorem unit_ok : ∀ n : Fin 256, mayB (unit n.val) = true ∧ (unit n.val).length ≤ 3 ∧ 1 ≤ (unit n.val).length := by decide +kernel

def rawS (l : List UInt8) : Option (List UInt8) :=
  match l with
  | [] => some []
  | c :: r => if c = 37 then (if esc r = 0 then none else (rawS (r.drop 2)).map (unit (esc r) ++ ·)) else (rawS r).map (c :: ·)
termination_by l.length
decreasing_by all_goals simp <;> omega
def plainS (l : List UInt8) : Option (List UInt8) :=
  match l with
  | [] => some []
  | c :: r => if c = 37 then (if esc r = 0 then none else (plainS (r.drop 2)).map (unit (esc r) ++ ·)) else if okC c = true then (plainS r).map (c :: ·) else none
termination_by l.length
decreasing_by all_goals simp <;> omega
theorem rawS_nil : rawS [] = some [] := by rw [rawS]
theorem rawS_esc (r : List UInt8) : rawS (37 :: r) = if esc r = 0 then none else (rawS (r.drop 2)).map (unit (esc r) ++ ·) := by rw [rawS]; simp
theorem rawS_cons {c : UInt8} (h : c ≠ 37) (r : List UInt8) : rawS (c :: r) = (rawS r).map (c :: ·) := by rw [rawS, if_neg h]
theorem plainS_nil : plainS [] = some [] := by rw [plainS]
theorem plainS_esc (r : List UInt8) : plainS (37 :: r) = if esc r = 0 then none else (plainS (r.drop 2)).map (unit (esc r) ++ ·) := by rw [plainS]; simp
theorem plainS_cons {c : UInt8} (h : c ≠ 37) (r : List UInt8) : plainS (c :: r) = if okC c = true then (plainS r).map (c :: ·) else none := by rw [plainS, if_neg h]
theorem mayB_app (a b : List UInt8) : mayB (a ++ b) = (mayB a && mayB b) := by simp [mayB]
theorem mayB_cons (c : UInt8) (b : List UInt8) : mayB (c :: b) = (okC c && mayB b) := by simp [mayB]

theorem plain_raw : ∀ (n : Nat) (l : List UInt8), l.length ≤ n → plainS l = match rawS l with | some r => if mayB r = true then some r else none | none => none := by
  intro n
  induction n with
  | zero =>
    intro l hl
    obtain rfl : l = [] := List.eq_nil_of_length_eq_zero (by omega)
    rw [plainS_nil, rawS_nil]
    simp [mayB]
  | succ n ih =>
    intro l hl
    cases l with
    | nil => rw [plainS_nil, rawS_nil]; simp [mayB]
    | cons c r =>
      simp only [List.length_cons] at hl
      by_cases h : c = 37
      · subst h
        rw [plainS_esc, rawS_esc]
        by_cases he : esc r = 0
        · rw [if_pos he, if_pos he]
        · rw [if_neg he, if_neg he, ih (r.drop 2) (by rw [List.length_drop]; omega)]
          have hu := (unit_ok ⟨esc r, esc_lt r⟩).1
          simp only at hu
          cases rawS (r.drop 2) with
          | none => rfl
          | some q =>
            simp only [Option.map_some, mayB_app, hu, Bool.true_and]
            cases mayB q <;> simp
      · rw [plainS_cons h, rawS_cons h, ih r (by omega)]
        cases rawS r with
        | none => simp
        | some q =>
          simp only [Option.map_some, mayB_cons]
          cases okC c <;> cases mayB q <;> simp
theorem plain_of_raw (l : List UInt8) : plainS l = match rawS l with | some r => if mayB r = true then some r else none | none => none := plain_raw _ l (Nat.le_refl _)

theorem rawS_plain {a : List UInt8} (h : (37 : UInt8) ∉ a) (l : List UInt8) : rawS (a ++ l) = (rawS l).map (a ++ ·) := by
  induction a with
  | nil => simp
  | cons c a ih =>
    rw [List.cons_append, rawS_cons (by rintro rfl; simp at h), ih (by intro hm; exact h (List.mem_cons_of_mem _ hm))]
    cases rawS l <;> simp
theorem rawS_free {a : List UInt8} (h : (37 : UInt8) ∉ a) : rawS a = some a := by
  have := rawS_plain h []
  rw [List.append_nil, rawS_nil] at this
  simpa using this
/-- one round of plain -/
theorem rawS_round {a r : List UInt8} (h : (37 : UInt8) ∉ a) : rawS (a ++ 37 :: r) = if esc r = 0 then none else (rawS (r.drop 2)).map ((a ++ unit (esc r)) ++ ·) := by
  rw [rawS_plain h, rawS_esc]
  split
  · rfl
  · cases rawS (r.drop 2) <;> simp
theorem esc_two {r : List UInt8} (h : esc r ≠ 0) : 2 ≤ r.length := by
  match r with
  | [] => simp [esc] at h
  | [_] => simp [esc] at h
  | _ :: _ :: _ => simp
end Go.Proofs.YtoegjpfngmilhaaDoor
