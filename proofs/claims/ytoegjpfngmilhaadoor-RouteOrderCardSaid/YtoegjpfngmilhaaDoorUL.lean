/- lockagelaw14.Path (printed by mkUL.py). -/
import Derived.Test.YtoegjpfngmilhaaDoorUH
import Derived.Test.YtoegjpfngmilhaaDoorLU
set_option linter.unusedVariables false
set_option linter.unusedSimpArgs false
namespace Go.Proofs.YtoegjpfngmilhaaDoor
open Go.RowKit Go.Lib
open Go.Proofs.YtoegjpfngmilhaaDoorW.PrintWords

theorem Rd.byte {w : World} {A : Option Addr} {n c i : Nat} {xs : List Nat} (h : Rd w (.slice A n c) (u8s xs)) (hi : i < xs.length) : ∃ ad, A = some ad ∧ w.cell? (ad.add i) = some (.int .u8 (xs[i] : Int)) := by
  have hl := h.len
  rw [u8s_len] at hl
  obtain ⟨b, off, rfl, hb, hc⟩ := h.get (by omega)
  exact ⟨_, rfl, by rw [add_at]; exact hc i _ (by rw [u8s_at hi])⟩
theorem wr8 {x : Nat} (h : x < 256) : wrap64 (x : Int) = (x : Int) := by unfold wrap64; omega
theorem tmodN {t u : Nat} (k : Nat) (h : t % k = u) : (t : Int).tmod (k : Int) = (u : Int) := by rw [← h]; exact (Int.ofNat_tmod t k).symm
theorem mod5 (t : Nat) : t % 5 = 0 ∨ t % 5 = 1 ∨ t % 5 = 2 ∨ t % 5 = 3 ∨ t % 5 = 4 := by omega
def tP : List (List UInt8) := [[97], [98], [], [97, 98], [37, 50, 70]]
def segP (x : Nat) : List UInt8 := tP.getD (x % 5) []
def segsP (xs : List Nat) : List (List UInt8) := (xs.take 4).map segP
/-- a path by numbers -/
def pathS (xs : List Nat) : List UInt8 := if segsP xs = [] then [47] else joinS (segsP xs)
theorem segsP_snoc {xs : List Nat} {i : Nat} {x : Nat} (h : xs[i]? = some x) : (xs.take (i + 1)).map segP = (xs.take i).map segP ++ [segP x] := by
  obtain ⟨hl, rfl⟩ := List.getElem?_eq_some_iff.1 h
  rw [List.take_succ_eq_append_getElem hl, List.map_append]
  rfl

set_option maxRecDepth 100000 in
set_option maxHeartbeats 4000000 in
theorem path_any (A : Option Addr) (n c : Nat) (xs : List Nat) (w : World) (hr : Rd w (.slice A n c) (u8s xs)) (hb8 : ∀ x ∈ xs, x < 256) :
    Calls Tryd.prog 12 #[.slice A n c] w fun e w' => e = .returned (str (pathS xs)) ∧ Below w.heap.size w w' := by
  have hn := hr.len
  rw [u8s_len] at hn
  have HR := Lib.hid hr
  have H8 := Lib.hid hb8
  clear hr hb8
  go_enter Tryd.func12, Tryd.ntmps12
  go_wp2_with fail
  go_loopg [3, 4] 4 (fun gg s3 s4 wr => ∃ (l : List UInt8) (i : Nat), s3 = str l ∧ s4 = .int .i64 i ∧ i ≤ 4 ∧ i ≤ n ∧ 4 - i ≤ gg ∧ l.length ≤ 5 * i ∧ Below w.heap.size w wr ∧ Aside (l = joinS ((xs.take i).map segP)))
  case atStart => exact ⟨[], 0, rfl, rfl, by omega, by omega, by omega, by simp, Below.refl _ _, rfl⟩
  case round =>
    obtain ⟨l, i, rfl, rfl, hi, hin0, hg, hl, hb, HA⟩ := hrel
    have HA := Lib.hid HA.out
    have HB := Lib.hid hb
    clear hb
    by_cases hin : i < xs.length ∧ i < 4
    · have h1 : (i : Int) < (n : Int) := by omega
      have h2 : (i : Int) < 4 := by omega
      have hi4 : i < 4 := hin.2
      obtain ⟨ad, rfl, hat⟩ := (HR.out.below HB.out).byte hin.1
      have hx256 : xs[i] < 256 := H8.out _ (List.getElem_mem hin.1)
      have hsn := segsP_snoc (List.getElem?_eq_getElem hin.1)
      generalize xs[i] = x at hat hx256 hsn
      have hwx := wr8 hx256
      have hat0 := pw_cell_below ((Below.refl wr.heap.size wr).alloc (Nat.le_refl _) (.cells #[str [97], str [98], str [], str [97, 98], str [37, 50, 70]] 9)) hat
      have hca : (⟨l.toArray⟩ : ByteArray) ++ ⟨#[47]⟩ = ⟨(l ++ [47]).toArray⟩ := bytes_app l [47]
      have HSN := Lib.hid hsn
      have HIN := Lib.hid hin
      clear hsn hin hx256
      rcases mod5 x with h5 | h5 | h5 | h5 | h5
      · have h52 : (x : Int).tmod 5 = 0 := tmodN 5 h5
        have hcb : (⟨(l ++ [47]).toArray⟩ : ByteArray) ++ ⟨#[97]⟩ = ⟨(l ++ 47 :: [97]).toArray⟩ := (bytes_app (l ++ [47]) [97]).trans (by simp)
        have HS := Lib.hid (show segP x = [97] by unfold segP; rw [h5]; rfl)
        clear h5
        go_wp2_with fail
        go_roundg (4 - (i + 1))
        case measure => omega
        case rel =>
          refine ⟨l ++ 47 :: [97], i + 1, rfl, by simp [wrap64] <;> omega, by omega, by omega, by omega, by simp only [List.length_append, List.length_cons, List.length_nil]; omega, HB.out.alloc HB.out.size _, ?_⟩
          show _ = joinS _
          rw [HSN.out, joinS_app, joinS_one, HS.out, HA.out]
      · have h52 : (x : Int).tmod 5 = 1 := tmodN 5 h5
        have hcb : (⟨(l ++ [47]).toArray⟩ : ByteArray) ++ ⟨#[98]⟩ = ⟨(l ++ 47 :: [98]).toArray⟩ := (bytes_app (l ++ [47]) [98]).trans (by simp)
        have HS := Lib.hid (show segP x = [98] by unfold segP; rw [h5]; rfl)
        clear h5
        go_wp2_with fail
        go_roundg (4 - (i + 1))
        case measure => omega
        case rel =>
          refine ⟨l ++ 47 :: [98], i + 1, rfl, by simp [wrap64] <;> omega, by omega, by omega, by omega, by simp only [List.length_append, List.length_cons, List.length_nil]; omega, HB.out.alloc HB.out.size _, ?_⟩
          show _ = joinS _
          rw [HSN.out, joinS_app, joinS_one, HS.out, HA.out]
      · have h52 : (x : Int).tmod 5 = 2 := tmodN 5 h5
        have hcb : (⟨(l ++ [47]).toArray⟩ : ByteArray) ++ ⟨#[]⟩ = ⟨(l ++ 47 :: []).toArray⟩ := (bytes_app (l ++ [47]) []).trans (by simp)
        have HS := Lib.hid (show segP x = [] by unfold segP; rw [h5]; rfl)
        clear h5
        go_wp2_with fail
        go_roundg (4 - (i + 1))
        case measure => omega
        case rel =>
          refine ⟨l ++ 47 :: [], i + 1, rfl, by simp [wrap64] <;> omega, by omega, by omega, by omega, by simp only [List.length_append, List.length_cons, List.length_nil]; omega, HB.out.alloc HB.out.size _, ?_⟩
          show _ = joinS _
          rw [HSN.out, joinS_app, joinS_one, HS.out, HA.out]
      · have h52 : (x : Int).tmod 5 = 3 := tmodN 5 h5
        have hcb : (⟨(l ++ [47]).toArray⟩ : ByteArray) ++ ⟨#[97, 98]⟩ = ⟨(l ++ 47 :: [97, 98]).toArray⟩ := (bytes_app (l ++ [47]) [97, 98]).trans (by simp)
        have HS := Lib.hid (show segP x = [97, 98] by unfold segP; rw [h5]; rfl)
        clear h5
        go_wp2_with fail
        go_roundg (4 - (i + 1))
        case measure => omega
        case rel =>
          refine ⟨l ++ 47 :: [97, 98], i + 1, rfl, by simp [wrap64] <;> omega, by omega, by omega, by omega, by simp only [List.length_append, List.length_cons, List.length_nil]; omega, HB.out.alloc HB.out.size _, ?_⟩
          show _ = joinS _
          rw [HSN.out, joinS_app, joinS_one, HS.out, HA.out]
      · have h52 : (x : Int).tmod 5 = 4 := tmodN 5 h5
        have hcb : (⟨(l ++ [47]).toArray⟩ : ByteArray) ++ ⟨#[37, 50, 70]⟩ = ⟨(l ++ 47 :: [37, 50, 70]).toArray⟩ := (bytes_app (l ++ [47]) [37, 50, 70]).trans (by simp)
        have HS := Lib.hid (show segP x = [37, 50, 70] by unfold segP; rw [h5]; rfl)
        clear h5
        go_wp2_with fail
        go_roundg (4 - (i + 1))
        case measure => omega
        case rel =>
          refine ⟨l ++ 47 :: [37, 50, 70], i + 1, rfl, by simp [wrap64] <;> omega, by omega, by omega, by omega, by simp only [List.length_append, List.length_cons, List.length_nil]; omega, HB.out.alloc HB.out.size _, ?_⟩
          show _ = joinS _
          rw [HSN.out, joinS_app, joinS_one, HS.out, HA.out]
    · have hex : ¬ (i : Int) < (n : Int) ∨ ((i : Int) < (n : Int) ∧ ¬ (i : Int) < 4) := by omega
      have hsg : (xs.take i).map segP = segsP xs := by
        unfold segsP
        by_cases h : i = 4
        · rw [h]
        · rw [List.take_of_length_le (by omega), List.take_of_length_le (by omega)]
      have hA := HA.out
      rw [hsg] at hA
      have HEX := Lib.hid hex
      have HIN := Lib.hid hin
      clear hex hin hsg
      by_cases hl0 : l = []
      · subst hl0
        have hs0 : segsP xs = [] := by
          cases h : segsP xs with
          | nil => rfl
          | cons y ys => rw [h, joinS_cons] at hA; cases hA
        have HP := Lib.hid (show pathS xs = [47] by unfold pathS; rw [if_pos hs0])
        clear hs0 hA
        rcases HEX.out with h1 | ⟨h1, h2⟩
        all_goals
          go_wp2_with fail
          go_ret
          exact ⟨by rw [HP.out]; rfl, HB.out⟩
      · have hs0 : ¬ segsP xs = [] := by
          intro h
          rw [h] at hA
          exact hl0 hA
        have HP := Lib.hid (show pathS xs = l by unfold pathS; rw [if_neg hs0, hA])
        have hl1 : (l == []) = false := by simpa using hl0
        have HL := Lib.hid hl0
        clear hs0 hA hl0
        rcases HEX.out with h1 | ⟨h1, h2⟩
        all_goals
          go_wp2_with fail
          go_ret
          exact ⟨by rw [HP.out]; rfl, HB.out⟩

/-! ### what paths are -/
theorem segP_six (x : Nat) : Units (segP x) ∧ (47 : UInt8) ∉ segP x ∧ dotB (segP x) = false ∧ (segP x).length ≤ 3 := by
  unfold segP
  rcases mod5 x with h | h | h | h | h
  all_goals rw [h]
  · exact ⟨units_one (by decide) (by decide) (by decide), by decide, by decide, by decide⟩
  · exact ⟨units_one (by decide) (by decide) (by decide), by decide, by decide, by decide⟩
  · exact ⟨.nil, by decide, by decide, by decide⟩
  · exact ⟨.one 97 [98] (by decide) (by decide) (by decide) (units_one (by decide) (by decide) (by decide)), by decide, by decide, by decide⟩
  · exact ⟨.three 47 [] (by decide) (by decide) (by decide) .nil, by decide, by decide, by decide⟩
theorem segsP_len (xs : List Nat) : (segsP xs).length ≤ 4 := by
  unfold segsP
  rw [List.length_map, List.length_take]
  omega
theorem joinS_le : ∀ (l : List (List UInt8)), (∀ y ∈ l, y.length ≤ 3) → (joinS l).length ≤ 4 * l.length := by
  intro l
  induction l with
  | nil => intro _; simp [joinS]
  | cons x l ih =>
    intro h
    have h1 := ih (fun y hy => h y (List.mem_cons_of_mem _ hy))
    have h2 := h x (by simp)
    rw [joinS_cons]
    simp only [List.length_append, List.length_cons]
    omega
theorem pathS_len (xs : List Nat) : (pathS xs).length ≤ 16 := by
  unfold pathS
  split
  · decide
  · have h1 := joinS_le (segsP xs) (fun y hy => by
      obtain ⟨x, _, rfl⟩ := List.mem_map.1 hy
      exact (segP_six x).2.2.2)
    have h2 := segsP_len xs
    omega
theorem pathS_head (xs : List Nat) : ∃ r, pathS xs = 47 :: r := by
  unfold pathS
  split
  · exact ⟨[], rfl⟩
  · rename_i h
    cases hs : segsP xs with
    | nil => exact absurd hs h
    | cons y ys => rw [joinS_cons]; exact ⟨_, rfl⟩
theorem pathS_norm (xs : List Nat) : normS (pathS xs) = (pathS xs, [], 0) := by
  have hl := pathS_len xs
  unfold pathS at hl ⊢
  split
  · exact norm_r
  · rename_i h
    rw [if_neg h] at hl
    refine norm_join h (fun y hy => ?_) (by omega)
    obtain ⟨x, _, rfl⟩ := List.mem_map.1 hy
    have := segP_six x
    exact ⟨this.1, this.2.1, this.2.2.1⟩
theorem pathS_pre (xs : List Nat) : prefixB (pathS xs) = true := by unfold prefixB; rw [pathS_norm]; exact decide_eq_true rfl
end Go.Proofs.YtoegjpfngmilhaaDoor
