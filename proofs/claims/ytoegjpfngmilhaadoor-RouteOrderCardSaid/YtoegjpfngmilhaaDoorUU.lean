/- The order of routes makes no difference. -/
import Derived.Test.YtoegjpfngmilhaaDoorUO
set_option linter.unusedVariables false
set_option linter.unusedSimpArgs false
namespace Go.Proofs.YtoegjpfngmilhaaDoor
open Go.RowKit Go.Lib

theorem pick_spec (l : List Rt) : ∀ (is : List Nat) (j0 j : Nat), is.foldl (pickF l) (some j0) = some j → (j = j0 ∨ j ∈ is) ∧ lenAt l j0 ≤ lenAt l j ∧ ∀ i ∈ is, lenAt l i ≤ lenAt l j := by
  intro is
  induction is with
  | nil => intro j0 j h; rw [List.foldl_nil] at h; injection h with h; subst h; exact ⟨.inl rfl, Nat.le_refl _, by simp⟩
  | cons x is ih =>
    intro j0 j h
    rw [List.foldl_cons] at h
    by_cases hx : lenAt l j0 < lenAt l x
    · have : pickF l (some j0) x = some x := by unfold pickF; simp only [hx, if_true]
      rw [this] at h
      obtain ⟨h1, h2, h3⟩ := ih x j h
      refine ⟨.inr ?_, by omega, fun i hi => ?_⟩
      · rcases h1 with rfl | h1
        · simp
        · exact List.mem_cons_of_mem _ h1
      · rcases List.mem_cons.1 hi with rfl | hi
        · exact h2
        · exact h3 i hi
    · have : pickF l (some j0) x = some j0 := by unfold pickF; simp only [hx, if_false]
      rw [this] at h
      obtain ⟨h1, h2, h3⟩ := ih j0 j h
      refine ⟨?_, h2, fun i hi => ?_⟩
      · rcases h1 with rfl | h1
        · exact .inl rfl
        · exact .inr (List.mem_cons_of_mem _ h1)
      · rcases List.mem_cons.1 hi with rfl | hi
        · omega
        · exact h3 i hi
theorem best_spec {l : List Rt} {is : List Nat} {j : Nat} (h : bestL l is = some j) : j ∈ is ∧ ∀ i ∈ is, lenAt l i ≤ lenAt l j := by
  cases is with
  | nil => cases h
  | cons x is =>
    have h' : is.foldl (pickF l) (some x) = some j := h
    obtain ⟨h1, h2, h3⟩ := pick_spec l is x j h'
    refine ⟨?_, fun i hi => ?_⟩
    · rcases h1 with rfl | h1
      · simp
      · exact List.mem_cons_of_mem _ h1
    · rcases List.mem_cons.1 hi with rfl | hi
      · exact h2
      · exact h3 i hi
theorem best_none {l : List Rt} {is : List Nat} (h : bestL l is = none) : is = [] := by
  cases is with
  | nil => rfl
  | cons x is =>
    have h' : is.foldl (pickF l) (some x) = none := h
    have : ∀ (is : List Nat) (j : Nat), is.foldl (pickF l) (some j) ≠ none := by
      intro is
      induction is with
      | nil => intro j; simp
      | cons y is ih =>
        intro j
        rw [List.foldl_cons]
        unfold pickF
        simp only
        split
        · exact ih y
        · exact ih j
    exact absurd h' (this is x)
theorem mem_unders {l : List Rt} {path : List UInt8} {i : Nat} {x : Rt} (h : l[i]? = some x) : i ∈ unders l path l.length ↔ underS x.1 path = true := by
  have h1 : l.getD i ([], 0) = x := by rw [List.getD_eq_getElem?_getD, h]; rfl
  have hi := (List.getElem?_eq_some_iff.1 h).1
  unfold unders
  rw [List.mem_filter, List.mem_range]
  simp only [h1]
  exact ⟨fun h => h.2, fun h => ⟨hi, h⟩⟩
theorem find_cases {l : List Rt} {path : List UInt8} (hr : rightB l = true) :
    (∃ j x, findS l path = (j, 0) ∧ l[j]? = some x ∧ underS x.1 path = true ∧ ∀ y ∈ l, underS y.1 path = true → y.1.length ≤ x.1.length) ∨ (findS l path = (0, 41) ∧ ∀ y ∈ l, underS y.1 path = false) := by
  have hf : findS l path = match bestL l (unders l path l.length) with | none => (0, 41) | some j => (j, 0) := by unfold findS; rw [if_pos hr]; rfl
  cases hb : bestL l (unders l path l.length) with
  | none =>
    rw [hb] at hf
    refine .inr ⟨hf, fun y hy => ?_⟩
    obtain ⟨i, hi, rfl⟩ := List.getElem_of_mem hy
    have hn := best_none hb
    rw [← Bool.not_eq_true]
    intro hu
    have := (mem_unders (List.getElem?_eq_getElem hi)).2 hu
    rw [hn] at this
    cases this
  | some j =>
    rw [hb] at hf
    obtain ⟨h1, h2⟩ := best_spec hb
    have hjl := best_lt hb
    have hat : l[j]? = some l[j] := List.getElem?_eq_getElem hjl
    refine .inl ⟨j, l[j], hf, hat, (mem_unders hat).1 h1, fun y hy hu => ?_⟩
    obtain ⟨i, hi, rfl⟩ := List.getElem_of_mem hy
    have hai : l[i]? = some l[i] := List.getElem?_eq_getElem hi
    have := h2 i ((mem_unders hai).2 hu)
    rwa [lenAt_eq hai, lenAt_eq hat] at this
theorem fst_inj : ∀ {l : List Rt}, (fsts l).Nodup → ∀ {x y : Rt}, x ∈ l → y ∈ l → x.1 = y.1 → x = y := by
  intro l
  induction l with
  | nil => intro _ x y hx; cases hx
  | cons z l ih =>
    intro hn x y hx hy he
    have hn' : z.1 ∉ fsts l ∧ (fsts l).Nodup := List.nodup_cons.1 hn
    rcases List.mem_cons.1 hx with hx1 | hx1
    · rcases List.mem_cons.1 hy with hy1 | hy1
      · rw [hx1, hy1]
      · exact absurd (show z.1 ∈ fsts l from List.mem_map.2 ⟨y, hy1, by rw [← he, hx1]⟩) hn'.1
    · rcases List.mem_cons.1 hy with hy1 | hy1
      · exact absurd (show z.1 ∈ fsts l from List.mem_map.2 ⟨x, hx1, by rw [he, hy1]⟩) hn'.1
      · exact ih hn'.2 hx1 hy1 he
def rotR (l : List Rt) (n : Nat) : List Rt := l.drop n ++ l.take n
theorem rot_mem {l : List Rt} {n : Nat} {x : Rt} : x ∈ rotR l n ↔ x ∈ l := by
  unfold rotR
  conv => rhs; rw [← List.take_append_drop n l]
  simp only [List.mem_append]
  exact or_comm
theorem rot_len (l : List Rt) (n : Nat) : (rotR l n).length = l.length := by
  unfold rotR
  rw [List.length_append, List.length_drop, List.length_take]
  omega
theorem rot_right {l : List Rt} (n : Nat) (h : rightB l = true) : rightB (rotR l n) = true := by
  obtain ⟨h1, h2, h3⟩ := rightB_out h
  refine rightB_of (by rw [rot_len]; exact h1) (fun r hr => h2 r (rot_mem.1 hr)) ?_
  have hp : (fsts (rotR l n)).Perm (fsts l) := by
    unfold fsts rotR
    refine List.Perm.map _ ?_
    conv => rhs; rw [← List.take_append_drop n l]
    exact List.perm_append_comm
  exact hp.nodup_iff.2 h3
/-- the order of routes makes no difference, but to places -/
theorem order_law {l : List Rt} {path : List UInt8} (n : Nat) (h : rightB l = true) :
    (∃ a b x, findS l path = (a, 0) ∧ findS (rotR l n) path = (b, 0) ∧ l[a]? = some x ∧ (rotR l n)[b]? = some x ∧ underS x.1 path = true ∧ ∀ y ∈ l, underS y.1 path = true → y.1.length ≤ x.1.length) ∨
    (findS l path = (0, 41) ∧ findS (rotR l n) path = (0, 41) ∧ ∀ y ∈ l, underS y.1 path = false) := by
  have hr := rot_right n h
  rcases find_cases (path := path) h with ⟨a, x, h1, h2, h3, h4⟩ | ⟨h1, h2⟩
  · rcases find_cases (path := path) hr with ⟨b, z, g1, g2, g3, g4⟩ | ⟨g1, g2⟩
    · have hxl := List.mem_of_getElem? h2
      have hzl := rot_mem.1 (List.mem_of_getElem? g2)
      have e1 := h4 z hzl g3
      have e2 := g4 x (rot_mem.2 hxl) h3
      rcases cut_or x.1 path with q | ⟨r1, q1⟩
      · rw [underS_not q] at h3; cases h3
      rcases cut_or z.1 path with q | ⟨r2, q2⟩
      · rw [underS_not q] at g3; cases g3
      have hxz : x.1 = z.1 := (List.append_inj (q1.symm.trans q2) (by omega)).1
      have := fst_inj (rightB_out h).2.2 hxl hzl hxz
      subst this
      exact .inl ⟨a, b, x, h1, g1, h2, g2, h3, h4⟩
    · have := g2 x (rot_mem.2 (List.mem_of_getElem? h2))
      rw [h3] at this
      cases this
  · rcases find_cases (path := path) hr with ⟨b, z, g1, g2, g3, g4⟩ | ⟨g1, g2⟩
    · have := h2 z (rot_mem.1 (List.mem_of_getElem? g2))
      rw [g3] at this
      cases this
    · exact .inr ⟨h1, g1, h2⟩
end Go.Proofs.YtoegjpfngmilhaaDoor
