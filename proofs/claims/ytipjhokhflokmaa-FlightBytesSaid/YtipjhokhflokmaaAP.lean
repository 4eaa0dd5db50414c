/- What the operations leave is small. -/
import Derived.Test.YtipjhokhflokmaaAN
import Derived.Test.YtipjhokhflokmaaAO
set_option linter.unusedVariables false
set_option linter.unusedSimpArgs false
namespace Go.Proofs.Ytipjhokhflokmaa
open Go.RowKit Go.Maps
open Go.Proofs.YtipjhokhflokmaaW.PrintWords

/-- one flight is small -/
def SmX (m : Nat) (x : Fl) : Prop := x.ws.length ≤ m ∧ ∀ t ∈ x.ws, okI t.id
structure SmK (m : Nat) (fs : List Fl) : Prop where
  n : fs.length ≤ m
  x : ∀ x ∈ fs, SmX m x
theorem SmK.sm {m : Nat} {fs : List Fl} (h : SmK m fs) (hm : m ≤ 1000) : SmF fs := ⟨Nat.le_trans h.n hm, fun x hx => Nat.le_trans (h.x x hx).1 hm, fun x hx => (h.x x hx).2⟩
theorem SmX.up {m k : Nat} {x : Fl} (h : SmX m x) (hk : m ≤ k) : SmX k x := ⟨Nat.le_trans h.1 hk, h.2⟩
theorem SmK.up {m k : Nat} {fs : List Fl} (h : SmK m fs) (hk : m ≤ k) : SmK k fs := ⟨Nat.le_trans h.n hk, fun x hx => (h.x x hx).up hk⟩
theorem SmK.nil (m : Nat) : SmK m [] := ⟨Nat.zero_le _, fun x hx => by cases hx⟩
theorem SmK.set {m : Nat} {fs : List Fl} (h : SmK m fs) (k : Nat) {x : Fl} (hx : SmX m x) : SmK m (fs.set k x) :=
  ⟨by rw [List.length_set]; exact h.n, fun y hy => by
    rcases List.mem_or_eq_of_mem_set hy with h1 | rfl
    · exact h.x y h1
    · exact hx⟩
theorem SmK.cut {m : Nat} {fs : List Fl} (h : SmK m fs) (k : Nat) : SmK m (cutAt fs k) := by
  unfold cutAt
  refine ⟨?_, fun y hy => ?_⟩
  · rw [List.length_append, List.length_take, List.length_drop]
    have := h.n
    omega
  · rcases List.mem_append.1 hy with h1 | h1
    · exact h.x y (List.mem_of_mem_take h1)
    · exact h.x y (List.mem_of_mem_drop h1)
theorem SmK.at_ {m : Nat} {fs : List Fl} (h : SmK m fs) {k : Nat} {x : Fl} (hx : fs[k]? = some x) : SmX m x := h.x x (List.mem_of_getElem? hx)
theorem SmK.end_ {m : Nat} {fs : List Fl} (h : SmK m fs) (room next id : Int) : SmK m (endOp room next fs id).1 := by
  unfold endOp
  split
  · exact h
  · split
    · exact h
    · show SmK m (updAt _ _ _)
      unfold updAt
      split
      · rename_i x hx
        exact h.set _ ⟨(h.at_ hx).1, (h.at_ hx).2⟩
      · exact h
theorem SmK.fail {m : Nat} {fs : List Fl} (h : SmK m fs) (room next id most : Int) : SmK m (failOp room next fs id most).1 := by
  unfold failOp
  split
  · exact h
  · split
    · exact h
    · split
      · exact h
      · rename_i x hx
        split
        · exact h.set _ ⟨(h.at_ hx).1, (h.at_ hx).2⟩
        · exact h.cut _
theorem SmK.take {m : Nat} {fs : List Fl} (h : SmK m fs) (room next wt n : Int) : SmK m (takeOp room next fs wt n).1 := by
  unfold takeOp
  split
  · exact h
  · split
    · exact h
    · split
      · exact h
      · rename_i x hx
        split
        · exact h
        · rename_i t ht
          have h1 := h.at_ hx
          refine h.set _ ⟨by show (x.ws.set _ _).length ≤ m; rw [List.length_set]; exact h1.1, fun u hu => ?_⟩
          rcases List.mem_or_eq_of_mem_set hu with h2 | rfl
          · exact h1.2 u h2
          · exact h1.2 t (List.mem_of_getElem? ht)
theorem SmK.leave {m : Nat} {fs : List Fl} (h : SmK m fs) (room next wt : Int) : SmK m (leaveOp room next fs wt).1 := by
  unfold leaveOp
  split
  · exact h
  · split
    · exact h
    · split
      · exact h
      · rename_i x hx
        split
        · exact h.cut _
        · have h1 := h.at_ hx
          refine h.set _ ⟨?_, fun u hu => ?_⟩
          · show (cutAt x.ws _).length ≤ m
            unfold cutAt
            rw [List.length_append, List.length_take, List.length_drop]
            have := h1.1
            omega
          · rcases List.mem_append.1 hu with h2 | h2
            · exact h1.2 u (List.mem_of_mem_take h2)
            · exact h1.2 u (List.mem_of_mem_drop h2)
theorem SmK.join {m : Nat} {fs : List Fl} (h : SmK m fs) (room next : Int) (key : List UInt8) (wt : Int) (share : Bool) (hw : okI wt) : SmK (m + 1) (joinOp room next fs key wt share).fs := by
  have hu := h.up (Nat.le_succ m)
  unfold joinOp
  split
  · exact hu
  · split
    · exact hu
    · split
      · split
        · exact hu
        · split
          · exact hu
          · refine ⟨by simp; exact h.n, fun y hy => ?_⟩
            rcases List.mem_append.1 hy with h2 | h2
            · exact hu.x y h2
            · obtain rfl : y = newF key share next wt := by simpa using h2
              refine ⟨by simp [newF], fun t ht => ?_⟩
              obtain rfl : t = ⟨wt, 0⟩ := by simpa [newF] using ht
              exact hw
      · split
        · exact hu
        · rename_i x hx
          have h1 := h.at_ hx
          refine hu.set _ ⟨?_, fun t ht => ?_⟩
          · show (x.ws ++ [(⟨wt, 0⟩ : Tm)]).length ≤ m + 1
            rw [List.length_append]
            exact Nat.succ_le_succ h1.1
          · rcases List.mem_append.1 ht with h2 | h2
            · exact h1.2 t h2
            · obtain rfl : t = ⟨wt, 0⟩ := by simpa using h2
              exact hw
theorem roomS_ws (x : Fl) : (roomS x).1.ws.length ≤ x.ws.length ∧ ∀ t ∈ (roomS x).1.ws, t ∈ x.ws := by
  unfold roomS
  split
  · exact ⟨Nat.le_refl _, fun t h => h⟩
  · split
    · exact ⟨Nat.le_refl _, fun t h => h⟩
    · exact ⟨List.length_filter_le _ _, fun t h => (List.mem_filter.1 h).1⟩
theorem Goes.ws {room : Int} {s : List UInt8} {a b : FS} (g : Goes room s a b) : b.x.ws.length ≤ a.x.ws.length ∧ ∀ t ∈ b.x.ws, t ∈ a.x.ws := by
  induction g with
  | refl => exact ⟨Nat.le_refl _, fun t h => h⟩
  | step h1 _ ih =>
    rename_i a b c _
    have h2 : b.x.ws.length ≤ a.x.ws.length ∧ ∀ t ∈ b.x.ws, t ∈ a.x.ws := by
      unfold stepF at h1
      split at h1
      · cases h1
      · split at h1
        · injection h1 with h1
          subst h1
          exact ⟨Nat.le_refl _, fun t h => h⟩
        · split at h1
          · injection h1 with h1
            subst h1
            exact roomS_ws a.x
          · cases h1
    exact ⟨Nat.le_trans ih.1 h2.1, fun t ht => h2.2 t (ih.2 t ht)⟩
theorem feedX_ws (room : Int) (s : List UInt8) (x : Fl) : (feedX room s x).x.ws.length ≤ x.ws.length ∧ ∀ t ∈ (feedX room s x).x.ws, t ∈ x.ws := by
  by_cases h : ∃ e, Goes room s ⟨x, 0, []⟩ e ∧ stepF room s e = none
  · obtain ⟨e, g, he⟩ := h
    rw [feedX_eq g he]
    exact g.ws
  · unfold feedX
    rw [dif_neg h]
    exact ⟨Nat.le_refl _, fun t h => h⟩
theorem SmK.feed {m : Nat} {fs : List Fl} (h : SmK m fs) (room next id : Int) (s : List UInt8) : SmK m (feedOp room next fs id s).1 := by
  unfold feedOp
  split
  · exact h
  · split
    · exact h
    · split
      · exact h
      · rename_i x hx
        split
        · exact h
        · have h1 := h.at_ hx
          have h2 := feedX_ws room s x
          exact h.set _ ⟨Nat.le_trans h2.1 h1.1, fun t ht => h1.2 t (h2.2 t ht)⟩
/-- both sides' flights are the same -/
theorem same_sm {w : World} {room next : Int} {A B : Option Addr} {n c m d k : Nat} {ys zs : List FV} {fs : List Fl} (hr : RdF w (.slice A n c) ys) (hs : RdF w (.slice B m d) zs) (he : fls ys = fs) (he2 : fls zs = fs) (hk : SmK k fs) (hk2 : k ≤ 1000) :
    Calls Try.prog 30 #[fv room next (.slice A n c), fv room next (.slice B m d)] w fun e w' => e = .returned (.bool true) ∧ Below w.heap.size w w' := by
  refine same_any w room next A B n c m d ys zs hr hs (he.trans he2.symm) ?_ (fun i y hy => ?_)
  · have h1 := hr.len
    have h2 := hk.n
    rw [← he] at h2
    simp [fls] at h2
    omega
  · have h2 : y.1 ∈ fs := by rw [← he]; exact List.mem_of_getElem? (fls_at hy)
    exact Nat.le_trans (hk.x _ h2).1 hk2
end Go.Proofs.Ytipjhokhflokmaa
