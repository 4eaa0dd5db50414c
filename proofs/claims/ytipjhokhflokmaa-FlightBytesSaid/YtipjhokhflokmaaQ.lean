/- Opening a law's arguments; the law's row. For any program. -/
import Derived.Test.YtipjhokhflokmaaK
import Derived.ProofKit
import Derived.Lib.SmallJoins
import Derived.Deep.Grids
set_option linter.unusedVariables false
namespace Go.Proofs.Ytipjhokhflokmaa
open Go.ChangeShapes Go.WideShapes Go.ChangeAt Go.RowKit Go.Joins
open Go.Proofs.YtipjhokhflokmaaW.PrintWords

variable {H : Type} {enc : TypeId × Value → H} {P : Program} {w : World} {base : Nat} {spare : Nat → Bool} {held : Bool}

theorem rd_of_cells {a : Addr} {n c : Nat} {xs : List Value} (hn : xs.length = n) (hc : n ≤ c) (hm : c ≤ maxLen) (h : ∀ j x, xs[j]? = some x → w.cell? (a.add j) = some x) : Rd w (.slice (some a) n c) xs := by
  subst hn
  refine ⟨_, c, rfl, hc, Nat.le_trans hc (Nat.le_trans hm (by decide)), fun hp => ?_⟩
  have h0 := h 0 _ (List.getElem?_eq_getElem hp)
  obtain ⟨b, off, spot⟩ := a
  have hs : spot = none := by
    cases spot with
    | none => rfl
    | some k =>
      simp only [World.cell?, Addr.add] at h0
      split at h0 <;> simp at h0
  subst hs
  exact ⟨b, off, rfl, World.block_lt_of_cell? w _ h0, fun j x hj => by rw [← h j x hj]; exact congrArg _ (add_at _ _ _).symm⟩

theorem open_rd_ints {t e : TypeId} {k : IntKind} {fuel : Nat} {v : Value} {y : DataW H × List MemPlace} (ht : P.underlying t = some (.slice e)) (he : P.underlying e = some (.int k)) (hc : P.cellsOf e = 1)
    (h : DataW.trod enc P w base spare held fuel t [v] = some y) :
    ∃ (A : Option Addr) (n c : Nat) (xs : List Int), v = .slice A n c ∧ Rd w (.slice A n c) (xs.map (Value.int k)) ∧ ∀ x ∈ xs, (Lit.int k x).wf = true := by
  rcases open_ints ht he hc h with ⟨hcs, _⟩ | ⟨a, n, c, zs, hcs, _, hl, hm, hlen, _, hz, hw⟩
  · injection hcs with hcs _
    exact ⟨_, _, _, [], hcs, Rd.nil _ _ _, by simp⟩
  · injection hcs with hcs _
    refine ⟨_, _, _, zs.take n, hcs, rd_of_cells ?_ hl hm ?_, fun x hx => hw x (List.mem_of_mem_take hx)⟩
    · simp only [List.length_map, List.length_take]
      split at hlen <;> omega
    · intro j x hj
      simp only [List.getElem?_map, Option.map_eq_some_iff] at hj
      obtain ⟨z, hz1, rfl⟩ := hj
      rw [List.getElem?_take] at hz1
      split at hz1
      · have hjl := (List.getElem?_eq_some_iff.1 hz1).1
        rw [hz j hjl, List.getD_eq_getElem?_getD, hz1]
        rfl
      · cases hz1

theorem open_rd_bools {t e : TypeId} {fuel : Nat} {v : Value} {y : DataW H × List MemPlace} (ht : P.underlying t = some (.slice e)) (he : P.underlying e = some .bool) (hc : P.cellsOf e = 1)
    (h : DataW.trod enc P w base (fun _ => true) held fuel t [v] = some y) :
    ∃ (A : Option Addr) (n c : Nat) (xs : List Bool), v = .slice A n c ∧ Rd w (.slice A n c) (xs.map Value.bool) := by
  rcases _root_.Go.Deep.open_bools ht he hc h with ⟨hcs, _⟩ | ⟨a, n, c, B, hcs, _, hl, hm, _, hz⟩
  · injection hcs with hcs _
    exact ⟨_, _, _, [], hcs, Rd.nil _ _ _⟩
  · injection hcs with hcs _
    refine ⟨_, _, _, (List.range n).map B, hcs, rd_of_cells (by simp) hl hm ?_⟩
    intro j x hj
    simp only [List.getElem?_map, Option.map_eq_some_iff, List.getElem?_range', List.getElem?_range] at hj
    obtain ⟨z, ⟨i, hi, rfl⟩, rfl⟩ := hj
    obtain ⟨hi1, hi2⟩ := List.getElem?_eq_some_iff.1 hi
    simp at hi1 hi2
    subst hi2
    exact hz _ (by omega)

/-- all arguments read as they did -/
theorem trodAll_stays {sp' : Nat → Bool} {W W' : World} (hl : laidOutB P = true) (hb : Below W.heap.size W W') :
    ∀ {ts : List TypeId} {vs : List Value} {ds : List (DataW H)} {ps : List MemPlace}, (∀ t ∈ ts, P.readableRec t = true ∧ t < P.types.size) → (∀ p ∈ ps, p.block < W.heap.size) → (∀ p ∈ ps, sp' p.block = true) →
      DataW.TrodAll enc P W 0 (fun _ => true) true ts vs ds ps → DataW.TrodAll enc P W' 0 sp' true ts vs ds ps
  | [], [], [], _, _, _, _, h => h
  | [], [], _ :: _, _, _, _, _, h => h.elim
  | [], _ :: _, _, _, _, _, _, h => h.elim
  | _ :: _, [], _, _, _, _, _, h => h.elim
  | _ :: _, _ :: _, [], _, _, _, _, h => h.elim
  | t :: ts, v :: vs, d :: ds, ps, ht, hlt, hs, h => by
    obtain ⟨p, q, h1, h2, rfl⟩ := h
    have hBelow : ∀ x ∈ p, W.sameAt W' x := fun x hx => hb.same (hlt x (List.mem_append_left _ hx))
    exact ⟨p, q, WideElems.Trod_stays hl (ht t List.mem_cons_self).1 (ht t List.mem_cons_self).2 h1 hBelow fun x hx => hs x (List.mem_append_left _ hx),
      trodAll_stays hl hb (fun t' ht' => ht t' (List.mem_cons_of_mem _ ht')) (fun x hx => hlt x (List.mem_append_right _ hx)) (fun x hx => hs x (List.mem_append_right _ hx)) h2, rfl⟩

/-- THE LAW's POST: true, the arguments read as they did, nothing that was there has turned. -/
theorem law_post {f : Func} {s : ChangeSpec} {W W' : World} {args : Array Value} {ds gs : List (DataW H)} {before : List MemPlace} {T : TypeId} (hl : laidOutB P = true)
    (hts : ∀ t ∈ f.params.toList, P.readableRec t = true ∧ t < P.types.size) (hsv : s.vars = []) (hrt : f.resultTypes = #[T]) (hT : P.underlying T = some .bool)
    (hr : (s.fn H (ds ++ gs)).results = [.lit (.bool true)]) (ha : (s.fn H (ds ++ gs)).args = ds) (hv : (s.fn H (ds ++ gs)).vars = [])
    (hW : DataW.Whole enc P f.params.toList s.vars false W args.toList ds gs before) (hb : Below W.heap.size W W') :
    s.post enc P f false true false false W args (.bool true) W' := by
  have hW0 := hW
  obtain ⟨p, q, hA, hV, rfl, hz, hn⟩ := hW
  rw [hsv] at hV
  obtain ⟨rfl, rfl⟩ := trodVars_none hV
  simp only [List.append_nil] at *
  have hlt : ∀ x ∈ p, x.block < W.heap.size := fun x hx => hA.lt x hx
  have hres : ∀ (b : Nat) (sp : Nat → Bool) (hd : Bool), DataW.TrodAll enc P W' b sp hd f.resultTypes.toList ((Value.bool true).resultList f.resultTypes.size) (s.fn H ds).results [] := by
    intro b sp hd
    rw [hrt, hr]
    exact trodAll_mk1 (shut_bool hT _)
  have hargs : ∀ sp : Nat → Bool, (∀ x ∈ p, sp x.block = true) → DataW.TrodAll enc P W' 0 sp true f.params.toList args.toList (s.fn H ds).args p := by
    intro sp hsp
    rw [ha]
    exact trodAll_stays hl hb hts hlt hsp hA
  have hvars : ∀ sp : Nat → Bool, DataW.TrodVars enc P W' sp s.vars (s.fn H ds).vars [] := by
    intro sp
    rw [hsv, hv]
    rfl
  refine ⟨ds, [], p, [], p, [], hW0, by simpa using hres _ _ _, by simpa using hargs _ (fun x hx => by simpa using hlt x hx), by simpa using hvars _, World.keptBut_mono (fun x hx => ?_) (hb.frame (· ∈ p)), fun h => absurd h (by simp)⟩
  exact ⟨hx, Or.inr (by simpa using hx)⟩
end Go.Proofs.Ytipjhokhflokmaa
