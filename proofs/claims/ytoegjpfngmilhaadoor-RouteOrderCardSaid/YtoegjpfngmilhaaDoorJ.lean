/- strings.SplitSeq's iterator, and a range over an iterator that writes a box of its own. -/
import Derived.Test.YtoegjpfngmilhaaDoorI
import Derived.RangeFuncNested
import Derived.RangeFuncBound
import Derived.RangeFuncCalls
import Derived.RangeFuncLeaves
import Derived.Shelf.Abstract
import Derived.Shelf.RegionOpen
import Derived.WalkKit
import Derived.OwnWalkIn
import Derived.TacticsInMore
import Derived.LoopNIn
import Derived.LoopIn
set_option linter.unusedVariables false
set_option linter.unusedSimpArgs false
namespace Go.Proofs.YtoegjpfngmilhaaDoor
open Go.RowKit Go.Lib Go.Shelf
open Go.Proofs.YtoegjpfngmilhaaDoorW.PrintWords
attribute [local go_sem] Oper.semAt_some

/-- the pieces between the bytes c -/
def pieces (c : UInt8) (l : List UInt8) : List (List UInt8) :=
  match l with
  | [] => [[]]
  | x :: r => if x = c then [] :: pieces c r else match pieces c r with
    | [] => [[x]]
    | p :: ps => (x :: p) :: ps
theorem pieces_ne (c : UInt8) (l : List UInt8) : pieces c l ≠ [] := by
  induction l with
  | nil => simp [pieces]
  | cons x r ih =>
    unfold pieces
    split
    · simp
    · split <;> simp
theorem pieces_none {c : UInt8} {l : List UInt8} (h : c ∉ l) : pieces c l = [l] := by
  induction l with
  | nil => rfl
  | cons x r ih =>
    unfold pieces
    rw [if_neg (by rintro rfl; simp at h), ih (by intro hm; exact h (List.mem_cons_of_mem _ hm))]
theorem pieces_cons {c x : UInt8} (h : x ≠ c) (r : List UInt8) : pieces c (x :: r) = match pieces c r with
    | [] => [[x]]
    | p :: ps => (x :: p) :: ps := by
  conv => lhs; unfold pieces
  rw [if_neg h]
theorem pieces_app {c : UInt8} {a : List UInt8} (h : c ∉ a) (r : List UInt8) : pieces c (a ++ c :: r) = a :: pieces c r := by
  induction a with
  | nil => conv => lhs; unfold pieces
           simp
  | cons x a ih =>
    rw [List.cons_append, pieces_cons (by rintro rfl; simp at h), ih (by intro hm; exact h (List.mem_cons_of_mem _ hm))]
/-- where the byte lies first -/
theorem index1 (c : UInt8) (l : List UInt8) : (c ∉ l ∧ indexByte l c = -1) ∨ ∃ a r, l = a ++ c :: r ∧ c ∉ a ∧ indexByte l c = (a.length : Int) := by
  have hge := indexByte_ge l c
  by_cases h : 0 ≤ indexByte l c
  · obtain ⟨o, ho⟩ : ∃ o : Nat, indexByte l c = o := ⟨(indexByte l c).toNat, by omega⟩
    obtain ⟨h1, h2⟩ := indexByte_some ho
    obtain ⟨hol, hoc⟩ := List.getElem?_eq_some_iff.1 h1
    refine .inr ⟨l.take o, l.drop (o + 1), ?_, ?_, by rw [ho, List.length_take]; omega⟩
    · conv => lhs; rw [← List.take_append_drop o l]
      rw [List.drop_eq_getElem_cons hol, hoc]
    · intro hm
      obtain ⟨k, hk, hkc⟩ := List.getElem_of_mem hm
      rw [List.length_take] at hk
      rw [List.getElem_take] at hkc
      exact h2 k (by omega) (by rw [List.getElem?_eq_getElem (by omega), hkc])
  · have hn : indexByte l c = -1 := by omega
    refine .inl ⟨fun hm => ?_, hn⟩
    obtain ⟨k, hk, hkc⟩ := List.getElem_of_mem hm
    exact indexByte_none hn k (by rw [List.getElem?_eq_getElem hk, hkc])

abbrev str (l : List UInt8) : Value := .string ⟨l.toArray⟩
/-- the iterator's boxes, as they stand -/
structure It (W : World) (bs : Nat) (r : List UInt8) : Prop where
  s : W.heap[bs]? = some (.cells #[str r] 9 (0, 0))
  sep : W.heap[bs + 1]? = some (.cells #[str [47]] 9 (0, 0))
  sv : W.heap[bs + 2]? = some (.cells #[.int .i64 0] 3 (0, 0))
/-- what the iterator asks of its caller's state -/
structure Asks (F : Fence) (k l bs : Nat) (J : List (List UInt8) → List UInt8 → World → Prop) : Prop where
  it : ∀ pre r W, J pre r W → It W bs r
  put : ∀ pre r r2 W, J pre r W → r2.length ≤ r.length → J pre r2 (W.setCell ⟨bs, 0, none⟩ (str r2))
  round : ∀ pre r x W, J pre r W → x.length ≤ r.length → pre.length ≤ 1000 → YieldAt F (k - 1) Tryd.prog l #[str x] W fun e W' => e = .returned (.bool true) ∧ J (pre ++ [x]) r W'

def remOf (W : World) (bs : Nat) : Nat := match W.cell? ⟨bs, 0, none⟩ with
  | some (.string s) => s.size
  | _ => 0
theorem It.rem {W : World} {bs : Nat} {r : List UInt8} (h : It W bs r) : remOf W bs = r.length := by
  unfold remOf
  rw [box_at h.s 0 _ rfl]
  simp [ByteArray.size]

set_option maxRecDepth 100000 in
set_option maxHeartbeats 4000000 in
theorem seq_in (F : Fence) (k : Nat) (hk : 1 ≤ k) (h51 : F.fn 56) (h44 : F.fn 58) (hro : F.round = none) (l bs : Nat) (J : List (List UInt8) → List UInt8 → World → Prop) (hA : Asks F k l bs J) (r0 : List UInt8) (hr0 : r0.length ≤ 1000) (W : World) (h0 : J [] r0 W)
    (hix : ∀ (r : List UInt8) (W : World), CallsIn F (k - 1) Tryd.prog 58 #[str r, .string ⟨#[47]⟩] W fun e w' => e = .returned (.int .i64 (indexByte r 47)) ∧ w' = W) :
    CallsIn F k Tryd.prog 56 #[.func (.yield l) #[] #[], .pointer (some ⟨bs + 1, 0, none⟩), .pointer (some ⟨bs, 0, none⟩), .pointer (some ⟨bs + 2, 0, none⟩)] W fun e W' => (∃ v, e = .returned v) ∧ ∃ r, J (pieces 47 r0) r W' := by
  have HA := Lib.hid hA
  clear hA
  have hit := HA.out.it _ _ _ h0
  have z0 := box_at hit.s 0 _ rfl
  have z1 := box_at hit.sep 0 _ rfl
  have z2 := box_at hit.sv 0 _ rfl
  refine callsIn_of_wp Tryd.func56 rfl h51 ?_ hro
  simp only [Tryd.ntmps56, List.size_toArray, List.length_cons, List.length_nil, Nat.reduceAdd, Nat.reduceSub, Array.replicate_succ, Array.replicate_zero, List.push_toArray, List.append_toArray, List.nil_append, List.cons_append]
  gi_wp2
  clear z0 z1 z2 hit
  gi_loopw [7] (fun s7 wr => ∃ pre r, J pre r wr ∧ pieces 47 r0 = pre ++ pieces 47 r ∧ r.length ≤ 1000 ∧ pre.length + r.length ≤ r0.length) (fun s7 wr => remOf wr bs)
  case atStart =>
    exact ⟨[], r0, h0, rfl, hr0, by simp⟩
  case round =>
    obtain ⟨pre, r, hJ, hp, hr, hpl⟩ := hrel
    have hit := HA.out.it _ _ _ hJ
    have hrem := hit.rem
    have z0 := box_at hit.s 0 _ rfl
    have z1 := box_at hit.sep 0 _ rfl
    have z2 := box_at hit.sv 0 _ rfl
    rcases index1 47 r with ⟨h47, hi⟩ | ⟨a, r2, hsp, h47, hi⟩
    · have HP := Lib.hid (hp.trans (by rw [pieces_none h47]))
      clear hp h47 h0
      obtain ⟨f1, t1, a1, b1, hy1, hR1⟩ := HA.out.round _ _ r _ hJ (Nat.le_refl _) (by omega)
      dsimp only [str] at hy1
      gi_wp2_with (gi_at_call 58; refine (hix r _).mono ?_; rw [hi]; rintro e w1 ⟨rfl, rfl⟩)
      refine hR1.mono ?_
      rintro e W2 ⟨rfl, hJ2⟩
      gi_wp2
      first | go_end0 | refine bodyPost_ret (results_none rfl _ _ _) rfl ?_
      refine ⟨⟨_, rfl⟩, r, ?_⟩
      rw [HP.out]
      exact hJ2
    · have hlen : r.length = a.length + 1 + r2.length := by rw [hsp]; simp; omega
      have HP := Lib.hid (show pieces 47 r0 = (pre ++ [a]) ++ pieces 47 r2 by rw [hp, hsp, pieces_app h47]; simp)
      have hx1 : (⟨r.toArray⟩ : ByteArray).extract 0 a.length = ⟨a.toArray⟩ := by
        apply ByteArray.ext
        apply Array.ext'
        rw [ByteArray.data_extract]
        simp [hsp]
      have hx2 : (⟨r.toArray⟩ : ByteArray).extract (a.length + 1) r.length = ⟨r2.toArray⟩ := by
        apply ByteArray.ext
        apply Array.ext'
        rw [ByteArray.data_extract]
        simp [hsp]
        exact List.take_of_length_le (by omega)
      have hn0 : ¬ (a.length : Int) < 0 := by omega
      have hle : (a.length : Int) ≤ (r.length : Int) := by omega
      have hle1 : (a.length : Int) + 1 ≤ (r.length : Int) := by omega
      clear hp hsp h47 h0
      obtain ⟨f1, t1, a1, b1, hy1, hR1⟩ := HA.out.round _ _ a _ hJ (by omega) (by omega)
      dsimp only [str] at hy1
      gi_wp2_with (gi_at_call 58; refine (hix r _).mono ?_; rw [hi]; rintro e w1 ⟨rfl, rfl⟩)
      refine hR1.mono ?_
      rintro e W2 ⟨rfl, hJ2⟩
      have hit2 := HA.out.it _ _ _ hJ2
      clear z0 z1 z2
      have z0 := box_at hit2.s 0 _ rfl
      have z1 := box_at hit2.sep 0 _ rfl
      have z2 := box_at hit2.sv 0 _ rfl
      have zf := box_free hit2.s
      gi_wp2
      rw [← hlen, hx2]
      have hJ3 := HA.out.put _ _ r2 _ hJ2 (by omega)
      refine ⟨⟨_, r2, hJ3, HP.out, by omega, by simp; omega⟩, ?_⟩
      rw [hrem]
      exact Nat.lt_of_le_of_lt (Nat.le_of_eq (HA.out.it _ _ _ hJ3).rem) (by omega)
end Go.Proofs.YtoegjpfngmilhaaDoor
