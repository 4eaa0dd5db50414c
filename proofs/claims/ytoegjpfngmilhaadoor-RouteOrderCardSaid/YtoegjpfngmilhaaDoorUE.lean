/- lockageref14.Find. -/
import Derived.Test.YtoegjpfngmilhaaDoorUC
set_option linter.unusedVariables false
set_option linter.unusedSimpArgs false
namespace Go.Proofs.YtoegjpfngmilhaaDoor
open Go.RowKit Go.Lib
open Go.Proofs.YtoegjpfngmilhaaDoorW.PrintWords

def lenAt (l : List Rt) (k : Nat) : Nat := (l.getD k ([], 0)).1.length
theorem lenAt_eq {l : List Rt} {k : Nat} {x : Rt} (h : l[k]? = some x) : lenAt l k = x.1.length := by unfold lenAt; rw [List.getD_eq_getElem?_getD, h]; rfl
def pickF (l : List Rt) (o : Option Nat) (i : Nat) : Option Nat := match o with
  | none => some i
  | some j => if lenAt l j < lenAt l i then some i else some j
def unders (l : List Rt) (path : List UInt8) (k : Nat) : List Nat := (List.range k).filter (fun i => underS (l.getD i ([], 0)).1 path)
def bestL (l : List Rt) (is : List Nat) : Option Nat := is.foldl (pickF l) none
theorem unders_succ {l : List Rt} {path : List UInt8} {k : Nat} {x : Rt} (h : l[k]? = some x) : unders l path (k + 1) = if underS x.1 path = true then unders l path k ++ [k] else unders l path k := by
  unfold unders
  rw [List.range_succ, List.filter_append]
  have h1 : l.getD k ([], 0) = x := by rw [List.getD_eq_getElem?_getD, h]; rfl
  by_cases hu : underS x.1 path = true
  · rw [if_pos hu]
    have : List.filter (fun i => underS (l.getD i ([], 0)).1 path) [k] = [k] := by simp only [List.filter_cons, List.filter_nil, h1, hu, if_true]
    rw [this]
  · rw [if_neg hu]
    have : List.filter (fun i => underS (l.getD i ([], 0)).1 path) [k] = [] := by simp only [List.filter_cons, List.filter_nil, h1, hu, Bool.false_eq_true, if_false]
    rw [this, List.append_nil]
theorem bestL_snoc (l : List Rt) (is : List Nat) (k : Nat) : bestL l (is ++ [k]) = pickF l (bestL l is) k := by simp [bestL, List.foldl_append]
theorem unders_lt {l : List Rt} {path : List UInt8} {k i : Nat} (h : i ∈ unders l path k) : i < k := by
  unfold unders at h
  exact List.mem_range.1 (List.mem_filter.1 h).1
theorem pickF_mem (l : List Rt) (k : Nat) : ∀ (is : List Nat) (o : Option Nat) (j : Nat), (∀ i ∈ is, i < k) → (∀ i, o = some i → i < k) → is.foldl (pickF l) o = some j → j < k := by
  intro is
  induction is with
  | nil => intro o j _ h2 h; exact h2 j h
  | cons x is ih =>
    intro o j h1 h2 h
    rw [List.foldl_cons] at h
    refine ih _ j (fun i hi => h1 i (List.mem_cons_of_mem _ hi)) (fun i hi => ?_) h
    have hx := h1 x (by simp)
    unfold pickF at hi
    split at hi
    · injection hi with hi; omega
    · rename_i j0
      split at hi
      · injection hi with hi; omega
      · injection hi with hi; subst hi; exact h2 _ rfl
theorem best_lt {l : List Rt} {path : List UInt8} {k j : Nat} (h : bestL l (unders l path k) = some j) : j < k :=
  pickF_mem l k _ none j (fun i hi => unders_lt hi) (by simp) h
/-- place and error of a path -/
def findS (l : List Rt) (path : List UInt8) : Nat × Nat := if rightB l = true then (match bestL l (unders l path l.length) with | none => (0, 41) | some j => (j, 0)) else (0, 1)
def optI : Option Nat → Int
  | none => -1
  | some j => (j : Int)

set_option maxRecDepth 100000 in
set_option maxHeartbeats 8000000 in
theorem rfind_any (A : Option Addr) (n c : Nat) (l : List Rt) (path : List UInt8) (w : World) (hr : RdE encR 2 w (.slice A n c) l) (hs : ∀ r ∈ l, r.1.length ≤ 1000000) (hp : path.length ≤ 1000000) :
    Calls Tryd.prog 15 #[.slice A n c, str path] w fun e w' => ∃ f, findS l path = f ∧ e = .returned (.tuple #[.int .i64 f.1, .int .i64 f.2]) ∧ Below w.heap.size w w' := by
  have hn := hr.len
  have HR := Lib.hid hr
  have HS := Lib.hid hs
  have HP := Lib.hid hp
  have HRR := Lib.hid (rright_any A n c l w hr hs)
  clear hr hs hp
  by_cases hrt : rightB l = true
  · have h10 := (rightB_out hrt).1
    rw [hrt] at HRR
    have HF := Lib.hid (show findS l path = match bestL l (unders l path l.length) with | none => (0, 41) | some j => (j, 0) by unfold findS; rw [if_pos hrt])
    have HT := Lib.hid hrt
    clear hrt
    go_enter Tryd.func15, Tryd.ntmps15
    go_wp2_with (go_at_call 16; refine HRR.out.mono ?_; rintro e w1 ⟨rfl, hb1⟩; have HB1 := Lib.hid hb1; clear hb1)
    go_loopg [6, 7] n (fun gg s6 s7 wr => ∃ i : Nat, s7 = .int .i64 i ∧ i ≤ n ∧ n - i ≤ gg ∧ Below w.heap.size w wr ∧ s6 = .int .i64 (optI (bestL l (unders l path i))))
    case atStart => exact ⟨0, rfl, by omega, by omega, HB1.out, rfl⟩
    case round =>
      obtain ⟨i, rfl, hi, hg, hb, hs6⟩ := hrel
      have HB := Lib.hid hb
      clear hb
      by_cases hlt : i < n
      · have h2 : (i : Int) < (n : Int) := by omega
        obtain ⟨b, off, rfl, hbl, hc0⟩ := HR.out.get (by omega)
        have hll : i < l.length := by omega
        have hat : l[i]? = some l[i] := List.getElem?_eq_getElem hll
        have hmem : l[i] ∈ l := List.getElem_mem hll
        have HC := Lib.hid hc0
        have hcs : ∀ j y, (encR l[i])[j]? = some y → w.cell? ⟨b, off + i * 2 + j, none⟩ = some y := fun j y hy => hc0 i j l[i] y hat hy
        clear hc0
        generalize l[i] = x at hat hmem hcs
        clear hll
        obtain ⟨px, bx⟩ := x
        have k0 := (HB.out.cell (p := ⟨b, off + i * 2, none⟩) hbl).trans (hcs 0 _ rfl)
        have HU := Lib.hid (unders_succ (path := path) hat)
        have HAT := Lib.hid hat
        have HM := Lib.hid hmem
        have HBL := Lib.hid hbl
        clear hcs hmem hat hbl
        have HUN := Lib.hid (fun W => runder_any px path W (by have := HS.out _ HM.out; simp only at this; omega) (by have := HP.out; omega))
        by_cases hu : underS px path = true
        · rw [if_pos hu] at HU
          rw [hu] at HUN
          have HHU := Lib.hid hu
          clear hu
          have HPK := Lib.hid (bestL_snoc l (unders l path i) i)
          cases hbest : bestL l (unders l path i) with
          | none =>
            have HBE := Lib.hid hbest
            rw [hbest] at hs6
            have hm1 : optI none = -1 := rfl
            rw [hm1] at hs6
            subst hs6
            clear hm1 hbest
            go_wp2_with fail
            refine wp_region_held_drew (S := fun W' => W'.cell? ⟨b, off + i * 2, none⟩ = some (str px) ∧ Below w.heap.size w W') (by kernel_rfl) (⟨by simpa using k0, below_drew HB.out⟩) (fun hHeld => ?_)
            refine wpAnyH_take (i := 0) (oi := _) (v := ?v0b) rfl (by kernel_rfl) (by kernel_rfl) (by kernel_rfl) (fun _ _ _ h => h) (Or.inl ⟨by kernel_rfl, ?y0b⟩) (by assumption) ?r0b
            case y0b => (intro w hSw; (try dsimp only at hSw); go_simp; try (with_reducible rfl))
            case r0b =>
              simp only [List.getElem_toArray, List.getElem_cons_succ, List.getElem_cons_zero, Act.put, List.setIfInBounds_toArray, List.set_cons_zero, List.set_cons_succ]
              refine wpAnyH_take (i := 1) (oi := _) (v := ?v1b) rfl (by kernel_rfl) (by kernel_rfl) (by kernel_rfl) (fun _ _ _ h => h) (Or.inl ⟨by kernel_rfl, ?y1b⟩) (by assumption) ?r1b
              case y1b => (intro w hSw; (try dsimp only at hSw); go_simp; try (with_reducible rfl))
              case r1b =>
                simp only [List.getElem_toArray, List.getElem_cons_succ, List.getElem_cons_zero, Act.put, List.setIfInBounds_toArray, List.set_cons_zero, List.set_cons_succ]
                refine wpAnyH_take (i := 2) (oi := _) (v := ?v2b) rfl (by kernel_rfl) (by kernel_rfl) (by kernel_rfl) (fun _ _ _ h => h) (Or.inl ⟨by kernel_rfl, ?y2b⟩) (by assumption) ?r2b
                case y2b => (intro w hSw; (try dsimp only at hSw); go_simp; try (with_reducible rfl))
                case r2b =>
                  simp only [List.getElem_toArray, List.getElem_cons_succ, List.getElem_cons_zero, Act.put, List.setIfInBounds_toArray, List.set_cons_zero, List.set_cons_succ]
                  refine wpAnyH_take (i := 3) (oi := _) (v := ?v3b) rfl (by kernel_rfl) (by kernel_rfl) (by kernel_rfl) (fun _ _ _ h => h) (Or.inl ⟨by kernel_rfl, ?y3b⟩) (by assumption) ?r3b
                  case y3b => (intro w hSw; (try dsimp only at hSw); go_simp; try (with_reducible rfl))
                  case r3b =>
                    simp only [List.getElem_toArray, List.getElem_cons_succ, List.getElem_cons_zero, Act.put, List.setIfInBounds_toArray, List.set_cons_zero, List.set_cons_succ]
                    refine wpAnyH_take (i := 4) (oi := _) (v := ?v4b) rfl (by kernel_rfl) (by kernel_rfl) (by kernel_rfl) (fun _ _ _ h => h) (Or.inl ⟨by kernel_rfl, ?y4b⟩) (by assumption) ?r4b
                    case y4b => (intro w hSw; (try dsimp only at hSw); go_simp; try (with_reducible rfl))
                    case r4b =>
                      simp only [List.getElem_toArray, List.getElem_cons_succ, List.getElem_cons_zero, Act.put, List.setIfInBounds_toArray, List.set_cons_zero, List.set_cons_succ]
                      refine wpAnyH_take (i := 5) (oi := _) (v := ?v5b) rfl (by kernel_rfl) (by kernel_rfl) (by kernel_rfl) (fun _ _ _ h => h) (Or.inl ⟨by kernel_rfl, ?y5b⟩) (by assumption) ?r5b
                      case y5b => (intro w hSw; (try dsimp only at hSw); go_simp; try (with_reducible rfl))
                      case r5b =>
                        simp only [List.getElem_toArray, List.getElem_cons_succ, List.getElem_cons_zero, Act.put, List.setIfInBounds_toArray, List.set_cons_zero, List.set_cons_succ]
                        refine wpAnyH_ready (rs := [6]) (by kernel_rfl) (by simp) ?_
                        refine AllReadyH.cons (o := _) rfl (fun K hK => ?_) AllReadyH.nil
                        go_simp
                        (go_at_call 10; refine (HUN.out _).mono ?_; rintro e w2 ⟨rfl, rfl⟩)
                        go_wp2_with fail
                        refine hK.out _ _ (hHeld) (fun hHeld => ?_)
                        clear hK K
                        try simp only [List.getElem_toArray, List.getElem_cons_succ, List.getElem_cons_zero, Act.put, List.setIfInBounds_toArray, List.set_cons_zero, List.set_cons_succ]
                        refine wpAnyH_take (i := 7) (oi := _) (v := ?v7b) rfl (by kernel_rfl) (by kernel_rfl) (by kernel_rfl) (fun _ _ _ h => h) (Or.inl ⟨by kernel_rfl, ?y7b⟩) (by assumption) ?r7b
                        case y7b => (intro w hSw; (try dsimp only at hSw); go_simp; try (with_reducible rfl))
                        case r7b =>
                          simp only [List.getElem_toArray, List.getElem_cons_succ, List.getElem_cons_zero, Act.put, List.setIfInBounds_toArray, List.set_cons_zero, List.set_cons_succ]
                          refine wpAnyH_take (i := 8) (oi := _) (v := ?v8b) rfl (by kernel_rfl) (by kernel_rfl) (by kernel_rfl) (fun _ _ _ h => h) (Or.inl ⟨by kernel_rfl, ?y8b⟩) (by assumption) ?r8b
                          case y8b => (intro w hSw; (try dsimp only at hSw); go_simp; try (with_reducible rfl))
                          case r8b =>
                            simp only [List.getElem_toArray, List.getElem_cons_succ, List.getElem_cons_zero, Act.put, List.setIfInBounds_toArray, List.set_cons_zero, List.set_cons_succ]
                            refine wpAnyH_take (i := 9) (oi := _) (v := ?v9b) rfl (by kernel_rfl) (by kernel_rfl) (by kernel_rfl) (fun _ _ _ h => h) (Or.inl ⟨by kernel_rfl, ?y9b⟩) (by assumption) ?r9b
                            case y9b => (intro w hSw; (try dsimp only at hSw); go_simp; try (with_reducible rfl))
                            case r9b =>
                              simp only [List.getElem_toArray, List.getElem_cons_succ, List.getElem_cons_zero, Act.put, List.setIfInBounds_toArray, List.set_cons_zero, List.set_cons_succ]
                              refine wpAnyH_take (i := 10) (oi := _) (v := ?v10b) rfl (by kernel_rfl) (by kernel_rfl) (by kernel_rfl) (fun _ _ _ h => h) (Or.inl ⟨by kernel_rfl, ?y10b⟩) (by assumption) ?r10b
                              case y10b => (intro w hSw; (try dsimp only at hSw); go_simp; try (with_reducible rfl))
                              case r10b =>
                                simp only [List.getElem_toArray, List.getElem_cons_succ, List.getElem_cons_zero, Act.put, List.setIfInBounds_toArray, List.set_cons_zero, List.set_cons_succ]
                                refine wpAnyH_take (i := 11) (oi := _) (v := undef) rfl (by kernel_rfl) (by kernel_rfl) (by kernel_rfl) (fun _ _ _ h => h) (Or.inr ⟨by kernel_rfl, rfl⟩) (by assumption) ?_
                                simp only [List.getElem_toArray, List.getElem_cons_succ, List.getElem_cons_zero, Act.put, List.setIfInBounds_toArray, List.set_cons_zero, List.set_cons_succ]
                                refine wpAnyH_take (i := 12) (oi := _) (v := undef) rfl (by kernel_rfl) (by kernel_rfl) (by kernel_rfl) (fun _ _ _ h => h) (Or.inr ⟨by kernel_rfl, rfl⟩) (by assumption) ?_
                                simp only [List.getElem_toArray, List.getElem_cons_succ, List.getElem_cons_zero, Act.put, List.setIfInBounds_toArray, List.set_cons_zero, List.set_cons_succ]
                                refine wpAnyH_take (i := 13) (oi := _) (v := undef) rfl (by kernel_rfl) (by kernel_rfl) (by kernel_rfl) (fun _ _ _ h => h) (Or.inr ⟨by kernel_rfl, rfl⟩) (by assumption) ?_
                                simp only [List.getElem_toArray, List.getElem_cons_succ, List.getElem_cons_zero, Act.put, List.setIfInBounds_toArray, List.set_cons_zero, List.set_cons_succ]
                                refine wpAnyH_take (i := 14) (oi := _) (v := undef) rfl (by kernel_rfl) (by kernel_rfl) (by kernel_rfl) (fun _ _ _ h => h) (Or.inr ⟨by kernel_rfl, rfl⟩) (by assumption) ?_
                                simp only [List.getElem_toArray, List.getElem_cons_succ, List.getElem_cons_zero, Act.put, List.setIfInBounds_toArray, List.set_cons_zero, List.set_cons_succ]
                                refine wpAnyH_take (i := 15) (oi := _) (v := undef) rfl (by kernel_rfl) (by kernel_rfl) (by kernel_rfl) (fun _ _ _ h => h) (Or.inr ⟨by kernel_rfl, rfl⟩) (by assumption) ?_
                                simp only [List.getElem_toArray, List.getElem_cons_succ, List.getElem_cons_zero, Act.put, List.setIfInBounds_toArray, List.set_cons_zero, List.set_cons_succ]
                                refine wpAnyH_take (i := 16) (oi := _) (v := undef) rfl (by kernel_rfl) (by kernel_rfl) (by kernel_rfl) (fun _ _ _ h => h) (Or.inr ⟨by kernel_rfl, rfl⟩) (by assumption) ?_
                                simp only [List.getElem_toArray, List.getElem_cons_succ, List.getElem_cons_zero, Act.put, List.setIfInBounds_toArray, List.set_cons_zero, List.set_cons_succ]
                                refine wpAnyH_take (i := 17) (oi := _) (v := undef) rfl (by kernel_rfl) (by kernel_rfl) (by kernel_rfl) (fun _ _ _ h => h) (Or.inr ⟨by kernel_rfl, rfl⟩) (by assumption) ?_
                                simp only [List.getElem_toArray, List.getElem_cons_succ, List.getElem_cons_zero, Act.put, List.setIfInBounds_toArray, List.set_cons_zero, List.set_cons_succ]
                                refine wpAnyH_take (i := 18) (oi := _) (v := undef) rfl (by kernel_rfl) (by kernel_rfl) (by kernel_rfl) (fun _ _ _ h => h) (Or.inr ⟨by kernel_rfl, rfl⟩) (by assumption) ?_
                                simp only [List.getElem_toArray, List.getElem_cons_succ, List.getElem_cons_zero, Act.put, List.setIfInBounds_toArray, List.set_cons_zero, List.set_cons_succ]
                                refine wpAnyH_take (i := 19) (oi := _) (v := undef) rfl (by kernel_rfl) (by kernel_rfl) (by kernel_rfl) (fun _ _ _ h => h) (Or.inr ⟨by kernel_rfl, rfl⟩) (by assumption) ?_
                                simp only [List.getElem_toArray, List.getElem_cons_succ, List.getElem_cons_zero, Act.put, List.setIfInBounds_toArray, List.set_cons_zero, List.set_cons_succ]
                                refine wpAnyH_take (i := 20) (oi := _) (v := undef) rfl (by kernel_rfl) (by kernel_rfl) (by kernel_rfl) (fun _ _ _ h => h) (Or.inr ⟨by kernel_rfl, rfl⟩) (by assumption) ?_
                                simp only [List.getElem_toArray, List.getElem_cons_succ, List.getElem_cons_zero, Act.put, List.setIfInBounds_toArray, List.set_cons_zero, List.set_cons_succ]
                                refine wpAnyH_take (i := 21) (oi := _) (v := undef) rfl (by kernel_rfl) (by kernel_rfl) (by kernel_rfl) (fun _ _ _ h => h) (Or.inr ⟨by kernel_rfl, rfl⟩) (by assumption) ?_
                                simp only [List.getElem_toArray, List.getElem_cons_succ, List.getElem_cons_zero, Act.put, List.setIfInBounds_toArray, List.set_cons_zero, List.set_cons_succ]
                                refine wpAnyH_take (i := 22) (oi := _) (v := undef) rfl (by kernel_rfl) (by kernel_rfl) (by kernel_rfl) (fun _ _ _ h => h) (Or.inr ⟨by kernel_rfl, rfl⟩) (by assumption) ?_
                                simp only [List.getElem_toArray, List.getElem_cons_succ, List.getElem_cons_zero, Act.put, List.setIfInBounds_toArray, List.set_cons_zero, List.set_cons_succ]
                                refine wpAnyH_take (i := 23) (oi := _) (v := undef) rfl (by kernel_rfl) (by kernel_rfl) (by kernel_rfl) (fun _ _ _ h => h) (Or.inr ⟨by kernel_rfl, rfl⟩) (by assumption) ?_
                                simp only [List.getElem_toArray, List.getElem_cons_succ, List.getElem_cons_zero, Act.put, List.setIfInBounds_toArray, List.set_cons_zero, List.set_cons_succ]
                                refine wpAnyH_take (i := 24) (oi := _) (v := ?v24b) rfl (by kernel_rfl) (by kernel_rfl) (by kernel_rfl) (fun _ _ _ h => h) (Or.inl ⟨by kernel_rfl, ?y24b⟩) (by assumption) ?r24b
                                case y24b => (intro w hSw; (try dsimp only at hSw); go_simp; try (with_reducible rfl))
                                case r24b =>
                                  simp only [List.getElem_toArray, List.getElem_cons_succ, List.getElem_cons_zero, Act.put, List.setIfInBounds_toArray, List.set_cons_zero, List.set_cons_succ]
                                  refine wpAnyH_take (i := 25) (oi := _) (v := ?v25b) rfl (by kernel_rfl) (by kernel_rfl) (by kernel_rfl) (fun _ _ _ h => h) (Or.inl ⟨by kernel_rfl, ?y25b⟩) (by assumption) ?r25b
                                  case y25b => (intro w hSw; (try dsimp only at hSw); go_simp; try (with_reducible rfl))
                                  case r25b =>
                                    simp only [List.getElem_toArray, List.getElem_cons_succ, List.getElem_cons_zero, Act.put, List.setIfInBounds_toArray, List.set_cons_zero, List.set_cons_succ]
                                    refine wpAnyH_done (by kernel_rfl) ?_ _
                                    go_wp2_with fail
                                    go_roundg (n - (i + 1))
                                    case measure => omega
                                    case rel => exact ⟨i + 1, by simp [wrap64] <;> omega, by omega, by omega, hHeld.2, by rw [HU.out, HPK.out, HBE.out]; rfl⟩
            
          | some j =>
            have hji := best_lt hbest
            rw [hbest] at hs6
            have hm1 : optI (some j) = (j : Int) := rfl
            rw [hm1] at hs6
            subst hs6
            have hjl : j < l.length := by omega
            have hjn : (j : Int) < (n : Int) := by omega
            have hatj : l[j]? = some l[j] := List.getElem?_eq_getElem hjl
            have kj := (HB.out.cell (p := ⟨b, off + j * 2, none⟩) HBL.out).trans (HC.out j 0 l[j] _ hatj rfl)
            generalize l[j] = y at hatj kj
            clear hjl
            obtain ⟨py, bk⟩ := y
            have hle1 := lenAt_eq hatj
            have hle2 := lenAt_eq HAT.out
            have HBE := Lib.hid hbest
            clear hm1 hbest hatj
            have hpl : px.length ≤ 1000000 := HS.out _ HM.out
            by_cases hlt2 : py.length < px.length
            · have hlt3 : (py.length : Int) < (px.length : Int) := by omega
              have HPP := Lib.hid (show pickF l (some j) i = some i by unfold pickF; simp only [hle1, hle2]; rw [if_pos hlt2])
              clear hle1 hle2 hlt2
              go_wp2_with fail
              refine wp_region_held_drew (S := fun W' => W'.cell? ⟨b, off + i * 2, none⟩ = some (str px) ∧ W'.cell? ⟨b, off + j * 2, none⟩ = some (str py) ∧ Below w.heap.size w W') (by kernel_rfl) (⟨by simpa using k0, by simpa using kj, below_drew HB.out⟩) (fun hHeld => ?_)
              refine wpAnyH_take (i := 0) (oi := _) (v := ?v0c) rfl (by kernel_rfl) (by kernel_rfl) (by kernel_rfl) (fun _ _ _ h => h) (Or.inl ⟨by kernel_rfl, ?y0c⟩) (by assumption) ?r0c
              case y0c => (intro w hSw; (try dsimp only at hSw); go_simp; try (with_reducible rfl))
              case r0c =>
                simp only [List.getElem_toArray, List.getElem_cons_succ, List.getElem_cons_zero, Act.put, List.setIfInBounds_toArray, List.set_cons_zero, List.set_cons_succ]
                refine wpAnyH_take (i := 1) (oi := _) (v := ?v1c) rfl (by kernel_rfl) (by kernel_rfl) (by kernel_rfl) (fun _ _ _ h => h) (Or.inl ⟨by kernel_rfl, ?y1c⟩) (by assumption) ?r1c
                case y1c => (intro w hSw; (try dsimp only at hSw); go_simp; try (with_reducible rfl))
                case r1c =>
                  simp only [List.getElem_toArray, List.getElem_cons_succ, List.getElem_cons_zero, Act.put, List.setIfInBounds_toArray, List.set_cons_zero, List.set_cons_succ]
                  refine wpAnyH_take (i := 2) (oi := _) (v := ?v2c) rfl (by kernel_rfl) (by kernel_rfl) (by kernel_rfl) (fun _ _ _ h => h) (Or.inl ⟨by kernel_rfl, ?y2c⟩) (by assumption) ?r2c
                  case y2c => (intro w hSw; (try dsimp only at hSw); go_simp; try (with_reducible rfl))
                  case r2c =>
                    simp only [List.getElem_toArray, List.getElem_cons_succ, List.getElem_cons_zero, Act.put, List.setIfInBounds_toArray, List.set_cons_zero, List.set_cons_succ]
                    refine wpAnyH_take (i := 3) (oi := _) (v := ?v3c) rfl (by kernel_rfl) (by kernel_rfl) (by kernel_rfl) (fun _ _ _ h => h) (Or.inl ⟨by kernel_rfl, ?y3c⟩) (by assumption) ?r3c
                    case y3c => (intro w hSw; (try dsimp only at hSw); go_simp; try (with_reducible rfl))
                    case r3c =>
                      simp only [List.getElem_toArray, List.getElem_cons_succ, List.getElem_cons_zero, Act.put, List.setIfInBounds_toArray, List.set_cons_zero, List.set_cons_succ]
                      refine wpAnyH_take (i := 4) (oi := _) (v := ?v4c) rfl (by kernel_rfl) (by kernel_rfl) (by kernel_rfl) (fun _ _ _ h => h) (Or.inl ⟨by kernel_rfl, ?y4c⟩) (by assumption) ?r4c
                      case y4c => (intro w hSw; (try dsimp only at hSw); go_simp; try (with_reducible rfl))
                      case r4c =>
                        simp only [List.getElem_toArray, List.getElem_cons_succ, List.getElem_cons_zero, Act.put, List.setIfInBounds_toArray, List.set_cons_zero, List.set_cons_succ]
                        refine wpAnyH_take (i := 5) (oi := _) (v := ?v5c) rfl (by kernel_rfl) (by kernel_rfl) (by kernel_rfl) (fun _ _ _ h => h) (Or.inl ⟨by kernel_rfl, ?y5c⟩) (by assumption) ?r5c
                        case y5c => (intro w hSw; (try dsimp only at hSw); go_simp; try (with_reducible rfl))
                        case r5c =>
                          simp only [List.getElem_toArray, List.getElem_cons_succ, List.getElem_cons_zero, Act.put, List.setIfInBounds_toArray, List.set_cons_zero, List.set_cons_succ]
                          refine wpAnyH_ready (rs := [6]) (by kernel_rfl) (by simp) ?_
                          refine AllReadyH.cons (o := _) rfl (fun K hK => ?_) AllReadyH.nil
                          go_simp
                          (go_at_call 10; refine (HUN.out _).mono ?_; rintro e w2 ⟨rfl, rfl⟩)
                          go_wp2_with fail
                          refine hK.out _ _ (hHeld) (fun hHeld => ?_)
                          clear hK K
                          try simp only [List.getElem_toArray, List.getElem_cons_succ, List.getElem_cons_zero, Act.put, List.setIfInBounds_toArray, List.set_cons_zero, List.set_cons_succ]
                          refine wpAnyH_take (i := 7) (oi := _) (v := ?v7c) rfl (by kernel_rfl) (by kernel_rfl) (by kernel_rfl) (fun _ _ _ h => h) (Or.inl ⟨by kernel_rfl, ?y7c⟩) (by assumption) ?r7c
                          case y7c => (intro w hSw; (try dsimp only at hSw); go_simp; try (with_reducible rfl))
                          case r7c =>
                            simp only [List.getElem_toArray, List.getElem_cons_succ, List.getElem_cons_zero, Act.put, List.setIfInBounds_toArray, List.set_cons_zero, List.set_cons_succ]
                            refine wpAnyH_take (i := 8) (oi := _) (v := ?v8c) rfl (by kernel_rfl) (by kernel_rfl) (by kernel_rfl) (fun _ _ _ h => h) (Or.inl ⟨by kernel_rfl, ?y8c⟩) (by assumption) ?r8c
                            case y8c => (intro w hSw; (try dsimp only at hSw); go_simp; try (with_reducible rfl))
                            case r8c =>
                              simp only [List.getElem_toArray, List.getElem_cons_succ, List.getElem_cons_zero, Act.put, List.setIfInBounds_toArray, List.set_cons_zero, List.set_cons_succ]
                              refine wpAnyH_take (i := 9) (oi := _) (v := ?v9c) rfl (by kernel_rfl) (by kernel_rfl) (by kernel_rfl) (fun _ _ _ h => h) (Or.inl ⟨by kernel_rfl, ?y9c⟩) (by assumption) ?r9c
                              case y9c => (intro w hSw; (try dsimp only at hSw); go_simp; try (with_reducible rfl))
                              case r9c =>
                                simp only [List.getElem_toArray, List.getElem_cons_succ, List.getElem_cons_zero, Act.put, List.setIfInBounds_toArray, List.set_cons_zero, List.set_cons_succ]
                                refine wpAnyH_take (i := 10) (oi := _) (v := ?v10c) rfl (by kernel_rfl) (by kernel_rfl) (by kernel_rfl) (fun _ _ _ h => h) (Or.inl ⟨by kernel_rfl, ?y10c⟩) (by assumption) ?r10c
                                case y10c => (intro w hSw; (try dsimp only at hSw); go_simp; try (with_reducible rfl))
                                case r10c =>
                                  simp only [List.getElem_toArray, List.getElem_cons_succ, List.getElem_cons_zero, Act.put, List.setIfInBounds_toArray, List.set_cons_zero, List.set_cons_succ]
                                  refine wpAnyH_take (i := 11) (oi := _) (v := ?v11c) rfl (by kernel_rfl) (by kernel_rfl) (by kernel_rfl) (fun _ _ _ h => h) (Or.inl ⟨by kernel_rfl, ?y11c⟩) (by assumption) ?r11c
                                  case y11c => (intro w hSw; (try dsimp only at hSw); go_simp; try (with_reducible rfl))
                                  case r11c =>
                                    simp only [List.getElem_toArray, List.getElem_cons_succ, List.getElem_cons_zero, Act.put, List.setIfInBounds_toArray, List.set_cons_zero, List.set_cons_succ]
                                    refine wpAnyH_take (i := 12) (oi := _) (v := ?v12c) rfl (by kernel_rfl) (by kernel_rfl) (by kernel_rfl) (fun _ _ _ h => h) (Or.inl ⟨by kernel_rfl, ?y12c⟩) (by assumption) ?r12c
                                    case y12c => (intro w hSw; (try dsimp only at hSw); go_simp; try (with_reducible rfl))
                                    case r12c =>
                                      simp only [List.getElem_toArray, List.getElem_cons_succ, List.getElem_cons_zero, Act.put, List.setIfInBounds_toArray, List.set_cons_zero, List.set_cons_succ]
                                      refine wpAnyH_take (i := 13) (oi := _) (v := ?v13c) rfl (by kernel_rfl) (by kernel_rfl) (by kernel_rfl) (fun _ _ _ h => h) (Or.inl ⟨by kernel_rfl, ?y13c⟩) (by assumption) ?r13c
                                      case y13c => (intro w hSw; (try dsimp only at hSw); go_simp; try (with_reducible rfl))
                                      case r13c =>
                                        simp only [List.getElem_toArray, List.getElem_cons_succ, List.getElem_cons_zero, Act.put, List.setIfInBounds_toArray, List.set_cons_zero, List.set_cons_succ]
                                        refine wpAnyH_take (i := 14) (oi := _) (v := ?v14c) rfl (by kernel_rfl) (by kernel_rfl) (by kernel_rfl) (fun _ _ _ h => h) (Or.inl ⟨by kernel_rfl, ?y14c⟩) (by assumption) ?r14c
                                        case y14c => (intro w hSw; (try dsimp only at hSw); go_simp; try (with_reducible rfl))
                                        case r14c =>
                                          simp only [List.getElem_toArray, List.getElem_cons_succ, List.getElem_cons_zero, Act.put, List.setIfInBounds_toArray, List.set_cons_zero, List.set_cons_succ]
                                          refine wpAnyH_take (i := 15) (oi := _) (v := ?v15c) rfl (by kernel_rfl) (by kernel_rfl) (by kernel_rfl) (fun _ _ _ h => h) (Or.inl ⟨by kernel_rfl, ?y15c⟩) (by assumption) ?r15c
                                          case y15c => (intro w hSw; (try dsimp only at hSw); go_simp; try (with_reducible rfl))
                                          case r15c =>
                                            simp only [List.getElem_toArray, List.getElem_cons_succ, List.getElem_cons_zero, Act.put, List.setIfInBounds_toArray, List.set_cons_zero, List.set_cons_succ]
                                            refine wpAnyH_take (i := 16) (oi := _) (v := ?v16c) rfl (by kernel_rfl) (by kernel_rfl) (by kernel_rfl) (fun _ _ _ h => h) (Or.inl ⟨by kernel_rfl, ?y16c⟩) (by assumption) ?r16c
                                            case y16c => (intro w hSw; (try dsimp only at hSw); go_simp; try (with_reducible rfl))
                                            case r16c =>
                                              simp only [List.getElem_toArray, List.getElem_cons_succ, List.getElem_cons_zero, Act.put, List.setIfInBounds_toArray, List.set_cons_zero, List.set_cons_succ]
                                              refine wpAnyH_take (i := 17) (oi := _) (v := ?v17c) rfl (by kernel_rfl) (by kernel_rfl) (by kernel_rfl) (fun _ _ _ h => h) (Or.inl ⟨by kernel_rfl, ?y17c⟩) (by assumption) ?r17c
                                              case y17c => (intro w hSw; (try dsimp only at hSw); go_simp; try (with_reducible rfl))
                                              case r17c =>
                                                simp only [List.getElem_toArray, List.getElem_cons_succ, List.getElem_cons_zero, Act.put, List.setIfInBounds_toArray, List.set_cons_zero, List.set_cons_succ]
                                                refine wpAnyH_take (i := 18) (oi := _) (v := ?v18c) rfl (by kernel_rfl) (by kernel_rfl) (by kernel_rfl) (fun _ _ _ h => h) (Or.inl ⟨by kernel_rfl, ?y18c⟩) (by assumption) ?r18c
                                                case y18c => (intro w hSw; (try dsimp only at hSw); go_simp; try (with_reducible rfl))
                                                case r18c =>
                                                  simp only [List.getElem_toArray, List.getElem_cons_succ, List.getElem_cons_zero, Act.put, List.setIfInBounds_toArray, List.set_cons_zero, List.set_cons_succ]
                                                  refine wpAnyH_take (i := 19) (oi := _) (v := ?v19c) rfl (by kernel_rfl) (by kernel_rfl) (by kernel_rfl) (fun _ _ _ h => h) (Or.inl ⟨by kernel_rfl, ?y19c⟩) (by assumption) ?r19c
                                                  case y19c => (intro w hSw; (try dsimp only at hSw); go_simp; try (with_reducible rfl))
                                                  case r19c =>
                                                    simp only [List.getElem_toArray, List.getElem_cons_succ, List.getElem_cons_zero, Act.put, List.setIfInBounds_toArray, List.set_cons_zero, List.set_cons_succ]
                                                    refine wpAnyH_take (i := 20) (oi := _) (v := ?v20c) rfl (by kernel_rfl) (by kernel_rfl) (by kernel_rfl) (fun _ _ _ h => h) (Or.inl ⟨by kernel_rfl, ?y20c⟩) (by assumption) ?r20c
                                                    case y20c => (intro w hSw; (try dsimp only at hSw); go_simp; try (with_reducible rfl))
                                                    case r20c =>
                                                      simp only [List.getElem_toArray, List.getElem_cons_succ, List.getElem_cons_zero, Act.put, List.setIfInBounds_toArray, List.set_cons_zero, List.set_cons_succ]
                                                      refine wpAnyH_take (i := 21) (oi := _) (v := ?v21c) rfl (by kernel_rfl) (by kernel_rfl) (by kernel_rfl) (fun _ _ _ h => h) (Or.inl ⟨by kernel_rfl, ?y21c⟩) (by assumption) ?r21c
                                                      case y21c => (intro w hSw; (try dsimp only at hSw); go_simp; try (with_reducible rfl))
                                                      case r21c =>
                                                        simp only [List.getElem_toArray, List.getElem_cons_succ, List.getElem_cons_zero, Act.put, List.setIfInBounds_toArray, List.set_cons_zero, List.set_cons_succ]
                                                        refine wpAnyH_take (i := 22) (oi := _) (v := ?v22c) rfl (by kernel_rfl) (by kernel_rfl) (by kernel_rfl) (fun _ _ _ h => h) (Or.inl ⟨by kernel_rfl, ?y22c⟩) (by assumption) ?r22c
                                                        case y22c => (intro w hSw; (try dsimp only at hSw); go_simp; try (with_reducible rfl))
                                                        case r22c =>
                                                          simp only [List.getElem_toArray, List.getElem_cons_succ, List.getElem_cons_zero, Act.put, List.setIfInBounds_toArray, List.set_cons_zero, List.set_cons_succ]
                                                          refine wpAnyH_take (i := 23) (oi := _) (v := ?v23c) rfl (by kernel_rfl) (by kernel_rfl) (by kernel_rfl) (fun _ _ _ h => h) (Or.inl ⟨by kernel_rfl, ?y23c⟩) (by assumption) ?r23c
                                                          case y23c => (intro w hSw; (try dsimp only at hSw); go_simp; try (with_reducible rfl))
                                                          case r23c =>
                                                            simp only [List.getElem_toArray, List.getElem_cons_succ, List.getElem_cons_zero, Act.put, List.setIfInBounds_toArray, List.set_cons_zero, List.set_cons_succ]
                                                            refine wpAnyH_take (i := 24) (oi := _) (v := ?v24c) rfl (by kernel_rfl) (by kernel_rfl) (by kernel_rfl) (fun _ _ _ h => h) (Or.inl ⟨by kernel_rfl, ?y24c⟩) (by assumption) ?r24c
                                                            case y24c => (intro w hSw; (try dsimp only at hSw); go_simp; try (with_reducible rfl))
                                                            case r24c =>
                                                              simp only [List.getElem_toArray, List.getElem_cons_succ, List.getElem_cons_zero, Act.put, List.setIfInBounds_toArray, List.set_cons_zero, List.set_cons_succ]
                                                              refine wpAnyH_take (i := 25) (oi := _) (v := ?v25c) rfl (by kernel_rfl) (by kernel_rfl) (by kernel_rfl) (fun _ _ _ h => h) (Or.inl ⟨by kernel_rfl, ?y25c⟩) (by assumption) ?r25c
                                                              case y25c => (intro w hSw; (try dsimp only at hSw); go_simp; try (with_reducible rfl))
                                                              case r25c =>
                                                                simp only [List.getElem_toArray, List.getElem_cons_succ, List.getElem_cons_zero, Act.put, List.setIfInBounds_toArray, List.set_cons_zero, List.set_cons_succ]
                                                                refine wpAnyH_done (by kernel_rfl) ?_ _
                                                                go_wp2_with fail
                                                                go_roundg (n - (i + 1))
                                                                case measure => omega
                                                                case rel => exact ⟨i + 1, by simp [wrap64] <;> omega, by omega, by omega, hHeld.2.2, by rw [HU.out, HPK.out, HBE.out, HPP.out]; rfl⟩
              
            · have hlt3 : ¬ (py.length : Int) < (px.length : Int) := by omega
              have HPP := Lib.hid (show pickF l (some j) i = some j by unfold pickF; simp only [hle1, hle2]; rw [if_neg hlt2])
              clear hle1 hle2 hlt2
              go_wp2_with fail
              refine wp_region_held_drew (S := fun W' => W'.cell? ⟨b, off + i * 2, none⟩ = some (str px) ∧ W'.cell? ⟨b, off + j * 2, none⟩ = some (str py) ∧ Below w.heap.size w W') (by kernel_rfl) (⟨by simpa using k0, by simpa using kj, below_drew HB.out⟩) (fun hHeld => ?_)
              refine wpAnyH_take (i := 0) (oi := _) (v := ?v0d) rfl (by kernel_rfl) (by kernel_rfl) (by kernel_rfl) (fun _ _ _ h => h) (Or.inl ⟨by kernel_rfl, ?y0d⟩) (by assumption) ?r0d
              case y0d => (intro w hSw; (try dsimp only at hSw); go_simp; try (with_reducible rfl))
              case r0d =>
                simp only [List.getElem_toArray, List.getElem_cons_succ, List.getElem_cons_zero, Act.put, List.setIfInBounds_toArray, List.set_cons_zero, List.set_cons_succ]
                refine wpAnyH_take (i := 1) (oi := _) (v := ?v1d) rfl (by kernel_rfl) (by kernel_rfl) (by kernel_rfl) (fun _ _ _ h => h) (Or.inl ⟨by kernel_rfl, ?y1d⟩) (by assumption) ?r1d
                case y1d => (intro w hSw; (try dsimp only at hSw); go_simp; try (with_reducible rfl))
                case r1d =>
                  simp only [List.getElem_toArray, List.getElem_cons_succ, List.getElem_cons_zero, Act.put, List.setIfInBounds_toArray, List.set_cons_zero, List.set_cons_succ]
                  refine wpAnyH_take (i := 2) (oi := _) (v := ?v2d) rfl (by kernel_rfl) (by kernel_rfl) (by kernel_rfl) (fun _ _ _ h => h) (Or.inl ⟨by kernel_rfl, ?y2d⟩) (by assumption) ?r2d
                  case y2d => (intro w hSw; (try dsimp only at hSw); go_simp; try (with_reducible rfl))
                  case r2d =>
                    simp only [List.getElem_toArray, List.getElem_cons_succ, List.getElem_cons_zero, Act.put, List.setIfInBounds_toArray, List.set_cons_zero, List.set_cons_succ]
                    refine wpAnyH_take (i := 3) (oi := _) (v := ?v3d) rfl (by kernel_rfl) (by kernel_rfl) (by kernel_rfl) (fun _ _ _ h => h) (Or.inl ⟨by kernel_rfl, ?y3d⟩) (by assumption) ?r3d
                    case y3d => (intro w hSw; (try dsimp only at hSw); go_simp; try (with_reducible rfl))
                    case r3d =>
                      simp only [List.getElem_toArray, List.getElem_cons_succ, List.getElem_cons_zero, Act.put, List.setIfInBounds_toArray, List.set_cons_zero, List.set_cons_succ]
                      refine wpAnyH_take (i := 4) (oi := _) (v := ?v4d) rfl (by kernel_rfl) (by kernel_rfl) (by kernel_rfl) (fun _ _ _ h => h) (Or.inl ⟨by kernel_rfl, ?y4d⟩) (by assumption) ?r4d
                      case y4d => (intro w hSw; (try dsimp only at hSw); go_simp; try (with_reducible rfl))
                      case r4d =>
                        simp only [List.getElem_toArray, List.getElem_cons_succ, List.getElem_cons_zero, Act.put, List.setIfInBounds_toArray, List.set_cons_zero, List.set_cons_succ]
                        refine wpAnyH_take (i := 5) (oi := _) (v := ?v5d) rfl (by kernel_rfl) (by kernel_rfl) (by kernel_rfl) (fun _ _ _ h => h) (Or.inl ⟨by kernel_rfl, ?y5d⟩) (by assumption) ?r5d
                        case y5d => (intro w hSw; (try dsimp only at hSw); go_simp; try (with_reducible rfl))
                        case r5d =>
                          simp only [List.getElem_toArray, List.getElem_cons_succ, List.getElem_cons_zero, Act.put, List.setIfInBounds_toArray, List.set_cons_zero, List.set_cons_succ]
                          refine wpAnyH_ready (rs := [6]) (by kernel_rfl) (by simp) ?_
                          refine AllReadyH.cons (o := _) rfl (fun K hK => ?_) AllReadyH.nil
                          go_simp
                          (go_at_call 10; refine (HUN.out _).mono ?_; rintro e w2 ⟨rfl, rfl⟩)
                          go_wp2_with fail
                          refine hK.out _ _ (hHeld) (fun hHeld => ?_)
                          clear hK K
                          try simp only [List.getElem_toArray, List.getElem_cons_succ, List.getElem_cons_zero, Act.put, List.setIfInBounds_toArray, List.set_cons_zero, List.set_cons_succ]
                          refine wpAnyH_take (i := 7) (oi := _) (v := ?v7d) rfl (by kernel_rfl) (by kernel_rfl) (by kernel_rfl) (fun _ _ _ h => h) (Or.inl ⟨by kernel_rfl, ?y7d⟩) (by assumption) ?r7d
                          case y7d => (intro w hSw; (try dsimp only at hSw); go_simp; try (with_reducible rfl))
                          case r7d =>
                            simp only [List.getElem_toArray, List.getElem_cons_succ, List.getElem_cons_zero, Act.put, List.setIfInBounds_toArray, List.set_cons_zero, List.set_cons_succ]
                            refine wpAnyH_take (i := 8) (oi := _) (v := ?v8d) rfl (by kernel_rfl) (by kernel_rfl) (by kernel_rfl) (fun _ _ _ h => h) (Or.inl ⟨by kernel_rfl, ?y8d⟩) (by assumption) ?r8d
                            case y8d => (intro w hSw; (try dsimp only at hSw); go_simp; try (with_reducible rfl))
                            case r8d =>
                              simp only [List.getElem_toArray, List.getElem_cons_succ, List.getElem_cons_zero, Act.put, List.setIfInBounds_toArray, List.set_cons_zero, List.set_cons_succ]
                              refine wpAnyH_take (i := 9) (oi := _) (v := ?v9d) rfl (by kernel_rfl) (by kernel_rfl) (by kernel_rfl) (fun _ _ _ h => h) (Or.inl ⟨by kernel_rfl, ?y9d⟩) (by assumption) ?r9d
                              case y9d => (intro w hSw; (try dsimp only at hSw); go_simp; try (with_reducible rfl))
                              case r9d =>
                                simp only [List.getElem_toArray, List.getElem_cons_succ, List.getElem_cons_zero, Act.put, List.setIfInBounds_toArray, List.set_cons_zero, List.set_cons_succ]
                                refine wpAnyH_take (i := 10) (oi := _) (v := ?v10d) rfl (by kernel_rfl) (by kernel_rfl) (by kernel_rfl) (fun _ _ _ h => h) (Or.inl ⟨by kernel_rfl, ?y10d⟩) (by assumption) ?r10d
                                case y10d => (intro w hSw; (try dsimp only at hSw); go_simp; try (with_reducible rfl))
                                case r10d =>
                                  simp only [List.getElem_toArray, List.getElem_cons_succ, List.getElem_cons_zero, Act.put, List.setIfInBounds_toArray, List.set_cons_zero, List.set_cons_succ]
                                  refine wpAnyH_take (i := 11) (oi := _) (v := ?v11d) rfl (by kernel_rfl) (by kernel_rfl) (by kernel_rfl) (fun _ _ _ h => h) (Or.inl ⟨by kernel_rfl, ?y11d⟩) (by assumption) ?r11d
                                  case y11d => (intro w hSw; (try dsimp only at hSw); go_simp; try (with_reducible rfl))
                                  case r11d =>
                                    simp only [List.getElem_toArray, List.getElem_cons_succ, List.getElem_cons_zero, Act.put, List.setIfInBounds_toArray, List.set_cons_zero, List.set_cons_succ]
                                    refine wpAnyH_take (i := 12) (oi := _) (v := ?v12d) rfl (by kernel_rfl) (by kernel_rfl) (by kernel_rfl) (fun _ _ _ h => h) (Or.inl ⟨by kernel_rfl, ?y12d⟩) (by assumption) ?r12d
                                    case y12d => (intro w hSw; (try dsimp only at hSw); go_simp; try (with_reducible rfl))
                                    case r12d =>
                                      simp only [List.getElem_toArray, List.getElem_cons_succ, List.getElem_cons_zero, Act.put, List.setIfInBounds_toArray, List.set_cons_zero, List.set_cons_succ]
                                      refine wpAnyH_take (i := 13) (oi := _) (v := ?v13d) rfl (by kernel_rfl) (by kernel_rfl) (by kernel_rfl) (fun _ _ _ h => h) (Or.inl ⟨by kernel_rfl, ?y13d⟩) (by assumption) ?r13d
                                      case y13d => (intro w hSw; (try dsimp only at hSw); go_simp; try (with_reducible rfl))
                                      case r13d =>
                                        simp only [List.getElem_toArray, List.getElem_cons_succ, List.getElem_cons_zero, Act.put, List.setIfInBounds_toArray, List.set_cons_zero, List.set_cons_succ]
                                        refine wpAnyH_take (i := 14) (oi := _) (v := ?v14d) rfl (by kernel_rfl) (by kernel_rfl) (by kernel_rfl) (fun _ _ _ h => h) (Or.inl ⟨by kernel_rfl, ?y14d⟩) (by assumption) ?r14d
                                        case y14d => (intro w hSw; (try dsimp only at hSw); go_simp; try (with_reducible rfl))
                                        case r14d =>
                                          simp only [List.getElem_toArray, List.getElem_cons_succ, List.getElem_cons_zero, Act.put, List.setIfInBounds_toArray, List.set_cons_zero, List.set_cons_succ]
                                          refine wpAnyH_take (i := 15) (oi := _) (v := ?v15d) rfl (by kernel_rfl) (by kernel_rfl) (by kernel_rfl) (fun _ _ _ h => h) (Or.inl ⟨by kernel_rfl, ?y15d⟩) (by assumption) ?r15d
                                          case y15d => (intro w hSw; (try dsimp only at hSw); go_simp; try (with_reducible rfl))
                                          case r15d =>
                                            simp only [List.getElem_toArray, List.getElem_cons_succ, List.getElem_cons_zero, Act.put, List.setIfInBounds_toArray, List.set_cons_zero, List.set_cons_succ]
                                            refine wpAnyH_take (i := 16) (oi := _) (v := ?v16d) rfl (by kernel_rfl) (by kernel_rfl) (by kernel_rfl) (fun _ _ _ h => h) (Or.inl ⟨by kernel_rfl, ?y16d⟩) (by assumption) ?r16d
                                            case y16d => (intro w hSw; (try dsimp only at hSw); go_simp; try (with_reducible rfl))
                                            case r16d =>
                                              simp only [List.getElem_toArray, List.getElem_cons_succ, List.getElem_cons_zero, Act.put, List.setIfInBounds_toArray, List.set_cons_zero, List.set_cons_succ]
                                              refine wpAnyH_take (i := 17) (oi := _) (v := ?v17d) rfl (by kernel_rfl) (by kernel_rfl) (by kernel_rfl) (fun _ _ _ h => h) (Or.inl ⟨by kernel_rfl, ?y17d⟩) (by assumption) ?r17d
                                              case y17d => (intro w hSw; (try dsimp only at hSw); go_simp; try (with_reducible rfl))
                                              case r17d =>
                                                simp only [List.getElem_toArray, List.getElem_cons_succ, List.getElem_cons_zero, Act.put, List.setIfInBounds_toArray, List.set_cons_zero, List.set_cons_succ]
                                                refine wpAnyH_take (i := 18) (oi := _) (v := ?v18d) rfl (by kernel_rfl) (by kernel_rfl) (by kernel_rfl) (fun _ _ _ h => h) (Or.inl ⟨by kernel_rfl, ?y18d⟩) (by assumption) ?r18d
                                                case y18d => (intro w hSw; (try dsimp only at hSw); go_simp; try (with_reducible rfl))
                                                case r18d =>
                                                  simp only [List.getElem_toArray, List.getElem_cons_succ, List.getElem_cons_zero, Act.put, List.setIfInBounds_toArray, List.set_cons_zero, List.set_cons_succ]
                                                  refine wpAnyH_take (i := 19) (oi := _) (v := ?v19d) rfl (by kernel_rfl) (by kernel_rfl) (by kernel_rfl) (fun _ _ _ h => h) (Or.inl ⟨by kernel_rfl, ?y19d⟩) (by assumption) ?r19d
                                                  case y19d => (intro w hSw; (try dsimp only at hSw); go_simp; try (with_reducible rfl))
                                                  case r19d =>
                                                    simp only [List.getElem_toArray, List.getElem_cons_succ, List.getElem_cons_zero, Act.put, List.setIfInBounds_toArray, List.set_cons_zero, List.set_cons_succ]
                                                    refine wpAnyH_take (i := 20) (oi := _) (v := ?v20d) rfl (by kernel_rfl) (by kernel_rfl) (by kernel_rfl) (fun _ _ _ h => h) (Or.inl ⟨by kernel_rfl, ?y20d⟩) (by assumption) ?r20d
                                                    case y20d => (intro w hSw; (try dsimp only at hSw); go_simp; try (with_reducible rfl))
                                                    case r20d =>
                                                      simp only [List.getElem_toArray, List.getElem_cons_succ, List.getElem_cons_zero, Act.put, List.setIfInBounds_toArray, List.set_cons_zero, List.set_cons_succ]
                                                      refine wpAnyH_take (i := 21) (oi := _) (v := ?v21d) rfl (by kernel_rfl) (by kernel_rfl) (by kernel_rfl) (fun _ _ _ h => h) (Or.inl ⟨by kernel_rfl, ?y21d⟩) (by assumption) ?r21d
                                                      case y21d => (intro w hSw; (try dsimp only at hSw); go_simp; try (with_reducible rfl))
                                                      case r21d =>
                                                        simp only [List.getElem_toArray, List.getElem_cons_succ, List.getElem_cons_zero, Act.put, List.setIfInBounds_toArray, List.set_cons_zero, List.set_cons_succ]
                                                        refine wpAnyH_take (i := 22) (oi := _) (v := ?v22d) rfl (by kernel_rfl) (by kernel_rfl) (by kernel_rfl) (fun _ _ _ h => h) (Or.inl ⟨by kernel_rfl, ?y22d⟩) (by assumption) ?r22d
                                                        case y22d => (intro w hSw; (try dsimp only at hSw); go_simp; try (with_reducible rfl))
                                                        case r22d =>
                                                          simp only [List.getElem_toArray, List.getElem_cons_succ, List.getElem_cons_zero, Act.put, List.setIfInBounds_toArray, List.set_cons_zero, List.set_cons_succ]
                                                          refine wpAnyH_take (i := 23) (oi := _) (v := ?v23d) rfl (by kernel_rfl) (by kernel_rfl) (by kernel_rfl) (fun _ _ _ h => h) (Or.inl ⟨by kernel_rfl, ?y23d⟩) (by assumption) ?r23d
                                                          case y23d => (intro w hSw; (try dsimp only at hSw); go_simp; try (with_reducible rfl))
                                                          case r23d =>
                                                            simp only [List.getElem_toArray, List.getElem_cons_succ, List.getElem_cons_zero, Act.put, List.setIfInBounds_toArray, List.set_cons_zero, List.set_cons_succ]
                                                            refine wpAnyH_take (i := 24) (oi := _) (v := ?v24d) rfl (by kernel_rfl) (by kernel_rfl) (by kernel_rfl) (fun _ _ _ h => h) (Or.inl ⟨by kernel_rfl, ?y24d⟩) (by assumption) ?r24d
                                                            case y24d => (intro w hSw; (try dsimp only at hSw); go_simp; try (with_reducible rfl))
                                                            case r24d =>
                                                              simp only [List.getElem_toArray, List.getElem_cons_succ, List.getElem_cons_zero, Act.put, List.setIfInBounds_toArray, List.set_cons_zero, List.set_cons_succ]
                                                              refine wpAnyH_take (i := 25) (oi := _) (v := ?v25d) rfl (by kernel_rfl) (by kernel_rfl) (by kernel_rfl) (fun _ _ _ h => h) (Or.inl ⟨by kernel_rfl, ?y25d⟩) (by assumption) ?r25d
                                                              case y25d => (intro w hSw; (try dsimp only at hSw); go_simp; try (with_reducible rfl))
                                                              case r25d =>
                                                                simp only [List.getElem_toArray, List.getElem_cons_succ, List.getElem_cons_zero, Act.put, List.setIfInBounds_toArray, List.set_cons_zero, List.set_cons_succ]
                                                                refine wpAnyH_done (by kernel_rfl) ?_ _
                                                                go_wp2_with fail
                                                                go_roundg (n - (i + 1))
                                                                case measure => omega
                                                                case rel => exact ⟨i + 1, by simp [wrap64] <;> omega, by omega, by omega, hHeld.2.2, by rw [HU.out, HPK.out, HBE.out, HPP.out]; rfl⟩
              
        · have hu1 : underS px path = false := Bool.eq_false_iff.2 hu
          rw [if_neg hu] at HU
          rw [hu1] at HUN
          have HHU := Lib.hid hu
          clear hu hu1
          obtain ⟨s, hs⟩ : ∃ s, optI (bestL l (unders l path i)) = s := ⟨_, rfl⟩
          rw [hs] at hs6
          have HSS := Lib.hid hs
          subst hs6
          clear hs
          go_wp2_with fail
          refine wp_region_held_drew (S := fun W' => W'.cell? ⟨b, off + i * 2, none⟩ = some (str px) ∧ Below w.heap.size w W') (by kernel_rfl) (⟨by simpa using k0, below_drew HB.out⟩) (fun hHeld => ?_)
          refine wpAnyH_take (i := 0) (oi := _) (v := ?v0a) rfl (by kernel_rfl) (by kernel_rfl) (by kernel_rfl) (fun _ _ _ h => h) (Or.inl ⟨by kernel_rfl, ?y0a⟩) (by assumption) ?r0a
          case y0a => (intro w hSw; (try dsimp only at hSw); go_simp; try (with_reducible rfl))
          case r0a =>
            simp only [List.getElem_toArray, List.getElem_cons_succ, List.getElem_cons_zero, Act.put, List.setIfInBounds_toArray, List.set_cons_zero, List.set_cons_succ]
            refine wpAnyH_take (i := 1) (oi := _) (v := ?v1a) rfl (by kernel_rfl) (by kernel_rfl) (by kernel_rfl) (fun _ _ _ h => h) (Or.inl ⟨by kernel_rfl, ?y1a⟩) (by assumption) ?r1a
            case y1a => (intro w hSw; (try dsimp only at hSw); go_simp; try (with_reducible rfl))
            case r1a =>
              simp only [List.getElem_toArray, List.getElem_cons_succ, List.getElem_cons_zero, Act.put, List.setIfInBounds_toArray, List.set_cons_zero, List.set_cons_succ]
              refine wpAnyH_take (i := 2) (oi := _) (v := ?v2a) rfl (by kernel_rfl) (by kernel_rfl) (by kernel_rfl) (fun _ _ _ h => h) (Or.inl ⟨by kernel_rfl, ?y2a⟩) (by assumption) ?r2a
              case y2a => (intro w hSw; (try dsimp only at hSw); go_simp; try (with_reducible rfl))
              case r2a =>
                simp only [List.getElem_toArray, List.getElem_cons_succ, List.getElem_cons_zero, Act.put, List.setIfInBounds_toArray, List.set_cons_zero, List.set_cons_succ]
                refine wpAnyH_take (i := 3) (oi := _) (v := ?v3a) rfl (by kernel_rfl) (by kernel_rfl) (by kernel_rfl) (fun _ _ _ h => h) (Or.inl ⟨by kernel_rfl, ?y3a⟩) (by assumption) ?r3a
                case y3a => (intro w hSw; (try dsimp only at hSw); go_simp; try (with_reducible rfl))
                case r3a =>
                  simp only [List.getElem_toArray, List.getElem_cons_succ, List.getElem_cons_zero, Act.put, List.setIfInBounds_toArray, List.set_cons_zero, List.set_cons_succ]
                  refine wpAnyH_take (i := 4) (oi := _) (v := ?v4a) rfl (by kernel_rfl) (by kernel_rfl) (by kernel_rfl) (fun _ _ _ h => h) (Or.inl ⟨by kernel_rfl, ?y4a⟩) (by assumption) ?r4a
                  case y4a => (intro w hSw; (try dsimp only at hSw); go_simp; try (with_reducible rfl))
                  case r4a =>
                    simp only [List.getElem_toArray, List.getElem_cons_succ, List.getElem_cons_zero, Act.put, List.setIfInBounds_toArray, List.set_cons_zero, List.set_cons_succ]
                    refine wpAnyH_take (i := 5) (oi := _) (v := ?v5a) rfl (by kernel_rfl) (by kernel_rfl) (by kernel_rfl) (fun _ _ _ h => h) (Or.inl ⟨by kernel_rfl, ?y5a⟩) (by assumption) ?r5a
                    case y5a => (intro w hSw; (try dsimp only at hSw); go_simp; try (with_reducible rfl))
                    case r5a =>
                      simp only [List.getElem_toArray, List.getElem_cons_succ, List.getElem_cons_zero, Act.put, List.setIfInBounds_toArray, List.set_cons_zero, List.set_cons_succ]
                      refine wpAnyH_ready (rs := [6]) (by kernel_rfl) (by simp) ?_
                      refine AllReadyH.cons (o := _) rfl (fun K hK => ?_) AllReadyH.nil
                      go_simp
                      (go_at_call 10; refine (HUN.out _).mono ?_; rintro e w2 ⟨rfl, rfl⟩)
                      go_wp2_with fail
                      refine hK.out _ _ (hHeld) (fun hHeld => ?_)
                      clear hK K
                      try simp only [List.getElem_toArray, List.getElem_cons_succ, List.getElem_cons_zero, Act.put, List.setIfInBounds_toArray, List.set_cons_zero, List.set_cons_succ]
                      refine wpAnyH_take (i := 7) (oi := _) (v := ?v7a) rfl (by kernel_rfl) (by kernel_rfl) (by kernel_rfl) (fun _ _ _ h => h) (Or.inl ⟨by kernel_rfl, ?y7a⟩) (by assumption) ?r7a
                      case y7a => (intro w hSw; (try dsimp only at hSw); go_simp; try (with_reducible rfl))
                      case r7a =>
                        simp only [List.getElem_toArray, List.getElem_cons_succ, List.getElem_cons_zero, Act.put, List.setIfInBounds_toArray, List.set_cons_zero, List.set_cons_succ]
                        refine wpAnyH_take (i := 8) (oi := _) (v := undef) rfl (by kernel_rfl) (by kernel_rfl) (by kernel_rfl) (fun _ _ _ h => h) (Or.inr ⟨by kernel_rfl, rfl⟩) (by assumption) ?_
                        simp only [List.getElem_toArray, List.getElem_cons_succ, List.getElem_cons_zero, Act.put, List.setIfInBounds_toArray, List.set_cons_zero, List.set_cons_succ]
                        refine wpAnyH_take (i := 9) (oi := _) (v := undef) rfl (by kernel_rfl) (by kernel_rfl) (by kernel_rfl) (fun _ _ _ h => h) (Or.inr ⟨by kernel_rfl, rfl⟩) (by assumption) ?_
                        simp only [List.getElem_toArray, List.getElem_cons_succ, List.getElem_cons_zero, Act.put, List.setIfInBounds_toArray, List.set_cons_zero, List.set_cons_succ]
                        refine wpAnyH_take (i := 10) (oi := _) (v := undef) rfl (by kernel_rfl) (by kernel_rfl) (by kernel_rfl) (fun _ _ _ h => h) (Or.inr ⟨by kernel_rfl, rfl⟩) (by assumption) ?_
                        simp only [List.getElem_toArray, List.getElem_cons_succ, List.getElem_cons_zero, Act.put, List.setIfInBounds_toArray, List.set_cons_zero, List.set_cons_succ]
                        refine wpAnyH_take (i := 11) (oi := _) (v := undef) rfl (by kernel_rfl) (by kernel_rfl) (by kernel_rfl) (fun _ _ _ h => h) (Or.inr ⟨by kernel_rfl, rfl⟩) (by assumption) ?_
                        simp only [List.getElem_toArray, List.getElem_cons_succ, List.getElem_cons_zero, Act.put, List.setIfInBounds_toArray, List.set_cons_zero, List.set_cons_succ]
                        refine wpAnyH_take (i := 12) (oi := _) (v := undef) rfl (by kernel_rfl) (by kernel_rfl) (by kernel_rfl) (fun _ _ _ h => h) (Or.inr ⟨by kernel_rfl, rfl⟩) (by assumption) ?_
                        simp only [List.getElem_toArray, List.getElem_cons_succ, List.getElem_cons_zero, Act.put, List.setIfInBounds_toArray, List.set_cons_zero, List.set_cons_succ]
                        refine wpAnyH_take (i := 13) (oi := _) (v := undef) rfl (by kernel_rfl) (by kernel_rfl) (by kernel_rfl) (fun _ _ _ h => h) (Or.inr ⟨by kernel_rfl, rfl⟩) (by assumption) ?_
                        simp only [List.getElem_toArray, List.getElem_cons_succ, List.getElem_cons_zero, Act.put, List.setIfInBounds_toArray, List.set_cons_zero, List.set_cons_succ]
                        refine wpAnyH_take (i := 14) (oi := _) (v := undef) rfl (by kernel_rfl) (by kernel_rfl) (by kernel_rfl) (fun _ _ _ h => h) (Or.inr ⟨by kernel_rfl, rfl⟩) (by assumption) ?_
                        simp only [List.getElem_toArray, List.getElem_cons_succ, List.getElem_cons_zero, Act.put, List.setIfInBounds_toArray, List.set_cons_zero, List.set_cons_succ]
                        refine wpAnyH_take (i := 15) (oi := _) (v := undef) rfl (by kernel_rfl) (by kernel_rfl) (by kernel_rfl) (fun _ _ _ h => h) (Or.inr ⟨by kernel_rfl, rfl⟩) (by assumption) ?_
                        simp only [List.getElem_toArray, List.getElem_cons_succ, List.getElem_cons_zero, Act.put, List.setIfInBounds_toArray, List.set_cons_zero, List.set_cons_succ]
                        refine wpAnyH_take (i := 16) (oi := _) (v := undef) rfl (by kernel_rfl) (by kernel_rfl) (by kernel_rfl) (fun _ _ _ h => h) (Or.inr ⟨by kernel_rfl, rfl⟩) (by assumption) ?_
                        simp only [List.getElem_toArray, List.getElem_cons_succ, List.getElem_cons_zero, Act.put, List.setIfInBounds_toArray, List.set_cons_zero, List.set_cons_succ]
                        refine wpAnyH_take (i := 17) (oi := _) (v := undef) rfl (by kernel_rfl) (by kernel_rfl) (by kernel_rfl) (fun _ _ _ h => h) (Or.inr ⟨by kernel_rfl, rfl⟩) (by assumption) ?_
                        simp only [List.getElem_toArray, List.getElem_cons_succ, List.getElem_cons_zero, Act.put, List.setIfInBounds_toArray, List.set_cons_zero, List.set_cons_succ]
                        refine wpAnyH_take (i := 18) (oi := _) (v := undef) rfl (by kernel_rfl) (by kernel_rfl) (by kernel_rfl) (fun _ _ _ h => h) (Or.inr ⟨by kernel_rfl, rfl⟩) (by assumption) ?_
                        simp only [List.getElem_toArray, List.getElem_cons_succ, List.getElem_cons_zero, Act.put, List.setIfInBounds_toArray, List.set_cons_zero, List.set_cons_succ]
                        refine wpAnyH_take (i := 19) (oi := _) (v := undef) rfl (by kernel_rfl) (by kernel_rfl) (by kernel_rfl) (fun _ _ _ h => h) (Or.inr ⟨by kernel_rfl, rfl⟩) (by assumption) ?_
                        simp only [List.getElem_toArray, List.getElem_cons_succ, List.getElem_cons_zero, Act.put, List.setIfInBounds_toArray, List.set_cons_zero, List.set_cons_succ]
                        refine wpAnyH_take (i := 20) (oi := _) (v := undef) rfl (by kernel_rfl) (by kernel_rfl) (by kernel_rfl) (fun _ _ _ h => h) (Or.inr ⟨by kernel_rfl, rfl⟩) (by assumption) ?_
                        simp only [List.getElem_toArray, List.getElem_cons_succ, List.getElem_cons_zero, Act.put, List.setIfInBounds_toArray, List.set_cons_zero, List.set_cons_succ]
                        refine wpAnyH_take (i := 21) (oi := _) (v := undef) rfl (by kernel_rfl) (by kernel_rfl) (by kernel_rfl) (fun _ _ _ h => h) (Or.inr ⟨by kernel_rfl, rfl⟩) (by assumption) ?_
                        simp only [List.getElem_toArray, List.getElem_cons_succ, List.getElem_cons_zero, Act.put, List.setIfInBounds_toArray, List.set_cons_zero, List.set_cons_succ]
                        refine wpAnyH_take (i := 22) (oi := _) (v := undef) rfl (by kernel_rfl) (by kernel_rfl) (by kernel_rfl) (fun _ _ _ h => h) (Or.inr ⟨by kernel_rfl, rfl⟩) (by assumption) ?_
                        simp only [List.getElem_toArray, List.getElem_cons_succ, List.getElem_cons_zero, Act.put, List.setIfInBounds_toArray, List.set_cons_zero, List.set_cons_succ]
                        refine wpAnyH_take (i := 23) (oi := _) (v := undef) rfl (by kernel_rfl) (by kernel_rfl) (by kernel_rfl) (fun _ _ _ h => h) (Or.inr ⟨by kernel_rfl, rfl⟩) (by assumption) ?_
                        simp only [List.getElem_toArray, List.getElem_cons_succ, List.getElem_cons_zero, Act.put, List.setIfInBounds_toArray, List.set_cons_zero, List.set_cons_succ]
                        refine wpAnyH_take (i := 24) (oi := _) (v := undef) rfl (by kernel_rfl) (by kernel_rfl) (by kernel_rfl) (fun _ _ _ h => h) (Or.inr ⟨by kernel_rfl, rfl⟩) (by assumption) ?_
                        simp only [List.getElem_toArray, List.getElem_cons_succ, List.getElem_cons_zero, Act.put, List.setIfInBounds_toArray, List.set_cons_zero, List.set_cons_succ]
                        refine wpAnyH_take (i := 25) (oi := _) (v := ?v25a) rfl (by kernel_rfl) (by kernel_rfl) (by kernel_rfl) (fun _ _ _ h => h) (Or.inl ⟨by kernel_rfl, ?y25a⟩) (by assumption) ?r25a
                        case y25a => (intro w hSw; (try dsimp only at hSw); go_simp; try (with_reducible rfl))
                        case r25a =>
                          simp only [List.getElem_toArray, List.getElem_cons_succ, List.getElem_cons_zero, Act.put, List.setIfInBounds_toArray, List.set_cons_zero, List.set_cons_succ]
                          refine wpAnyH_done (by kernel_rfl) ?_ _
                          go_wp2_with fail
                          go_roundg (n - (i + 1))
                          case measure => omega
                          case rel => exact ⟨i + 1, by simp [wrap64] <;> omega, by omega, by omega, hHeld.2, by rw [HU.out, HSS.out]⟩
          
      · have h2 : ¬ (i : Int) < (n : Int) := by omega
        obtain rfl : i = n := by omega
        cases hbest : bestL l (unders l path i) with
        | none =>
          rw [hbest] at hs6
          have hm1 : optI none = -1 := rfl
          rw [hm1] at hs6
          subst hs6
          have HFF := Lib.hid (show findS l path = (0, 41) by rw [HF.out, hn, hbest])
          clear hm1 hbest
          go_wp2_with fail
          go_ret2
          exact ⟨by rw [HFF.out]; rfl, HB.out⟩
        | some j =>
          rw [hbest] at hs6
          have hm1 : optI (some j) = (j : Int) := rfl
          rw [hm1] at hs6
          subst hs6
          have HFF := Lib.hid (show findS l path = (j, 0) by rw [HF.out, hn, hbest])
          clear hm1 hbest
          go_wp2_with fail
          go_ret2
          exact ⟨by rw [HFF.out]; rfl, HB.out⟩
  · have hrt1 : rightB l = false := Bool.eq_false_iff.2 hrt
    rw [hrt1] at HRR
    have HF := Lib.hid (show findS l path = (0, 1) by unfold findS; rw [if_neg hrt])
    have HT := Lib.hid hrt
    clear hrt hrt1
    go_enter Tryd.func15, Tryd.ntmps15
    go_wp2_with (go_at_call 16; refine HRR.out.mono ?_; rintro e w1 ⟨rfl, hb1⟩; have HB1 := Lib.hid hb1; clear hb1)
    go_ret2
    exact ⟨_, HF.out, rfl, HB1.out⟩
end Go.Proofs.YtoegjpfngmilhaaDoor
