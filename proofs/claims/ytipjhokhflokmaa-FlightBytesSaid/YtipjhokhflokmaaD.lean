/- find, Index, has, ids, waits. -/
import Derived.Test.YtipjhokhflokmaaC
set_option linter.unusedVariables false
set_option linter.unusedSimpArgs false
namespace Go.Proofs.Ytipjhokhflokmaa
open Go.RowKit
open Go.Proofs.YtipjhokhflokmaaW.PrintWords

def ienc (a : Int) : List Value := [.int .i64 a]
theorem iencL : ∀ a, (ienc a).length = 1 := fun _ => rfl
theorem ienc1 : ∀ a, ∀ u ∈ ienc a, u.oneCell' = true := by
  intro a u hu
  simp [ienc] at hu
  subst hu
  rfl
theorem Try.info3 : (Try.prog.info? 3).map (fun i => (i.zero, i.size, i.bytes)) = some (some (.int .i64 0), 1, 8) := by kernel_rfl
theorem RdE.int {w : World} {A : Option Addr} {n c : Nat} {xs : List Int} (h : RdE ienc 1 w (.slice A n c) xs) {i : Nat} (hi : i < xs.length) : ∃ b off, A = some ⟨b, off, none⟩ ∧ b < w.heap.size ∧ w.cell? ⟨b, off + i, none⟩ = some (.int .i64 xs[i]) := by
  have hl := h.len
  obtain ⟨b, off, rfl, hb, hc⟩ := h.get (by omega)
  have := hc i 0 xs[i] _ (List.getElem?_eq_getElem hi) rfl
  rw [Nat.mul_one, Nat.add_zero] at this
  exact ⟨b, off, rfl, hb, this⟩
/-- a place among anything -/
def findG {α : Type} (p : α → Bool) : List α → Int
  | [] => -1
  | x :: r => if p x then 0 else if findG p r < 0 then -1 else findG p r + 1
theorem findG_is {α : Type} {p : α → Bool} {xs : List α} {r : Int} (h : IdxIs p xs r) : r = findG p xs := by
  induction xs generalizing r with
  | nil =>
    rcases h with ⟨rfl, _⟩ | ⟨k, y, _, hy, _⟩
    · rfl
    · simp at hy
  | cons a l ih =>
    unfold findG
    by_cases ha : p a = true
    · rw [if_pos ha]
      rcases h with ⟨_, h⟩ | ⟨k, y, rfl, hy, hp, hb⟩
      · rw [h 0 a rfl] at ha; cases ha
      · cases k with
        | zero => rfl
        | succ k => rw [hb 0 a (by omega) rfl] at ha; cases ha
    · rw [if_neg ha]
      rcases h with ⟨rfl, h⟩ | ⟨k, y, rfl, hy, hp, hb⟩
      · have := ih (r := -1) (.inl ⟨rfl, fun j x hx => h (j + 1) x hx⟩)
        rw [← this]
        rfl
      · cases k with
        | zero =>
          simp only [List.getElem?_cons_zero, Option.some.injEq] at hy
          subst hy
          exact absurd hp ha
        | succ k =>
          have := ih (r := (k : Int)) (.inr ⟨k, y, rfl, hy, hp, fun j x hj hx => hb (j + 1) x (by omega) hx⟩)
          rw [← this, if_neg (by omega)]
          omega
theorem findG_lt {α : Type} {p : α → Bool} {xs : List α} : findG p xs < (xs.length : Int) ∧ -1 ≤ findG p xs := by
  induction xs with
  | nil => simp [findG]
  | cons a l ih =>
    unfold findG
    simp only [List.length_cons]
    split
    · omega
    · split <;> omega
theorem findG_at {α : Type} {p : α → Bool} {xs : List α} (h : ¬ findG p xs < 0) : ∃ (k : Nat) (x : α), findG p xs = k ∧ xs[k]? = some x ∧ p x = true := by
  induction xs with
  | nil => simp [findG] at h
  | cons a l ih =>
    unfold findG at h ⊢
    by_cases ha : p a = true
    · rw [if_pos ha]
      exact ⟨0, a, rfl, rfl, ha⟩
    · rw [if_neg ha] at h ⊢
      by_cases hl : findG p l < 0
      · rw [if_pos hl] at h; omega
      · rw [if_neg hl]
        obtain ⟨k, x, hk, hx, hp⟩ := ih hl
        exact ⟨k + 1, x, by rw [hk]; rfl, hx, hp⟩
theorem findG_map {α β : Type} (f : α → β) (p : β → Bool) (xs : List α) : findG p (xs.map f) = findG (fun x => p (f x)) xs := by
  induction xs with
  | nil => rfl
  | cons a l ih => simp only [List.map_cons, findG, ih]

set_option maxHeartbeats 400000 in
/-- slices.Index -/
theorem index_any (w : World) (A : Option Addr) (n c : Nat) (xs : List Int) (id : Int) (hr : RdE ienc 1 w (.slice A n c) xs) (hn : n ≤ 100000) :
    Calls Try.prog 47 #[.slice A n c, .int .i64 id] w fun e w' => e = .returned (.int .i64 (findG (fun x => x == id) xs)) ∧ w' = w := by
  have hl := hr.len
  have HR := Lib.hid hr
  clear hr
  go_enter Try.func47, Try.ntmps47
  go_wp2_with fail
  go_loopg [8] n (fun gg s8 wr => ∃ kk : Nat, kk ≤ n ∧ n - kk ≤ gg ∧ s8 = .int .i64 kk ∧ wr = w ∧ Aside (∀ j x, j < kk → xs[j]? = some x → (x == id) = false))
  case atStart => exact ⟨0, Nat.zero_le _, by omega, rfl, rfl, by show Aside _; exact fun j x hj => absurd hj (Nat.not_lt_zero _)⟩
  case round =>
    obtain ⟨kk, hkk, hg, rfl, rfl, HA⟩ := hrel
    by_cases hlt : kk < n
    · have h1 : (kk : Int) < (n : Int) := by omega
      obtain ⟨b, off, rfl, _, hc⟩ := HR.out.int (i := kk) (by omega)
      have hx : xs[kk]? = some xs[kk] := List.getElem?_eq_getElem (by omega)
      generalize xs[kk]'(by omega) = x at hc hx
      have HX := Lib.hid hx
      clear hx
      by_cases he : x = id
      · have he1 : (id == x) = true := by simp [he]
        have HE := Lib.hid he
        clear he
        go_wp2_with fail
        go_ret
        exact ⟨ret_int (findG_is (.inr ⟨kk, x, rfl, HX.out, by simp [HE.out], HA.out⟩)), rfl⟩
      · have he1 : (id == x) = false := by simp; exact fun h => he h.symm
        have HE := Lib.hid he
        clear he
        go_wp2_with fail
        go_roundg (n - (kk + 1))
        case measure => omega
        case rel =>
          refine ⟨kk + 1, by omega, by omega, by go_num, rfl, (show Aside _ from fun j y hj hy => ?_)⟩
          rcases Nat.lt_or_ge j kk with h | h
          · exact HA.out j y h hy
          · obtain rfl : j = kk := by omega
            rw [HX.out] at hy
            injection hy with hy
            subst hy
            simpa using HE.out
    · have h1 : ¬ (kk : Int) < (n : Int) := by omega
      go_wp2_with fail
      go_ret
      exact ⟨ret_int (findG_is (.inl ⟨rfl, fun j x hx => HA.out j x (by have := (List.getElem?_eq_some_iff.1 hx).1; omega) hx⟩)), rfl⟩

set_option maxHeartbeats 400000 in
/-- lockageref18.has -/
theorem has_any (w : World) (A : Option Addr) (n c : Nat) (xs : List Int) (id : Int) (hr : RdE ienc 1 w (.slice A n c) xs) (hn : n ≤ 100000) :
    Calls Try.prog 56 #[.slice A n c, .int .i64 id] w fun e w' => e = .returned (.bool (xs.contains id)) ∧ w' = w := by
  have hl := hr.len
  have HR := Lib.hid hr
  clear hr
  go_enter Try.func56, Try.ntmps56
  go_wp2_with fail
  go_loopg [5] n (fun gg s5 wr => ∃ kk : Nat, kk ≤ n ∧ n - kk ≤ gg ∧ s5 = .int .i64 kk ∧ wr = w ∧ Aside (∀ j x, j < kk → xs[j]? = some x → ¬ x = id))
  case atStart => exact ⟨0, Nat.zero_le _, by omega, rfl, rfl, by show Aside _; exact fun j x hj => absurd hj (Nat.not_lt_zero _)⟩
  case round =>
    obtain ⟨kk, hkk, hg, rfl, rfl, HA⟩ := hrel
    by_cases hlt : kk < n
    · have h1 : (kk : Int) < (n : Int) := by omega
      obtain ⟨b, off, rfl, _, hc⟩ := HR.out.int (i := kk) (by omega)
      have hx : xs[kk]? = some xs[kk] := List.getElem?_eq_getElem (by omega)
      generalize xs[kk]'(by omega) = x at hc hx
      have HX := Lib.hid hx
      clear hx
      by_cases he : x = id
      · have he1 : (x == id) = true := by simp [he]
        have HE := Lib.hid he
        clear he
        go_wp2_with fail
        go_ret
        have hm := List.mem_of_getElem? HX.out
        rw [HE.out] at hm
        exact ⟨ret_bool (by symm; simpa using hm), rfl⟩
      · have he1 : (x == id) = false := by simpa using he
        have HE := Lib.hid he
        clear he
        go_wp2_with fail
        go_roundg (n - (kk + 1))
        case measure => omega
        case rel =>
          refine ⟨kk + 1, by omega, by omega, by go_num, rfl, (show Aside _ from fun j y hj hy => ?_)⟩
          rcases Nat.lt_or_ge j kk with h | h
          · exact HA.out j y h hy
          · obtain rfl : j = kk := by omega
            rw [HX.out] at hy
            injection hy with hy
            subst hy
            exact HE.out
    · have h1 : ¬ (kk : Int) < (n : Int) := by omega
      go_wp2_with fail
      go_ret
      refine ⟨ret_bool ?_, rfl⟩
      symm
      rw [Bool.eq_false_iff]
      intro hm
      obtain ⟨j, hj⟩ := List.getElem?_of_mem (by simpa using hm)
      exact HA.out j id (by have := (List.getElem?_eq_some_iff.1 hj).1; omega) hj rfl

set_option maxHeartbeats 800000 in
/-- who waits for a flight -/
theorem ids_any (w : World) (b o : Nat) (y : FV) (h : FlAt w b o y) (hn : y.1.ws.length ≤ 1000) :
    Calls Try.prog 29 #[.agg #[.pointer (some ⟨b, o, none⟩)]] w fun e w' => ∃ A n c, e = .returned (.slice A n c) ∧ OwE ienc 1 3 w' w.heap.size (.slice A n c) (y.1.ws.map Tm.id) ∧ Below w.heap.size w w' := by
  obtain ⟨⟨fk, fs, fi, fb, fd, ft, fo, ws⟩, ⟨A, n, c⟩⟩ := y
  have hr : RdE tenc 2 w (.slice A n c) ws := h.r
  simp only at hn
  have hl : ws.length = n := hr.len
  have c7 : (w.alloc (.cells #[.pointer (some ⟨b, o, none⟩)] 61)).cell? ⟨b, o + 7, none⟩ = some (.slice A n c) := (h.below ((Below.refl _ _).alloc (Nat.le_refl _) (.cells #[.pointer (some ⟨b, o, none⟩)] 61))).c7
  have HR := Lib.hid hr
  have hal : Below w.heap.size w (w.alloc (.cells #[.pointer (some ⟨b, o, none⟩)] 61)) := (Below.refl _ _).alloc (Nat.le_refl _) _
  have hx := heap_alloc_new w (.cells #[.pointer (some ⟨b, o, none⟩)] 61)
  have x0 := box_at hx 0 _ rfl
  clear hr h
  go_enter Try.func29, Try.ntmps29
  go_upto_region 2 with fail
  generalize w.alloc (.cells #[.pointer (some ⟨b, o, none⟩)] 61) = W1 at *
  clear c7 hx x0
  have HW := Lib.hid hal
  clear hal
  go_loopg [2, 11] n (fun gg s2 s11 wr => ∃ (kk : Nat) (B : Option Addr) (m d : Nat), kk ≤ n ∧ n - kk ≤ gg ∧ s2 = .slice B m d ∧ s11 = .int .i64 kk ∧ Below w.heap.size w wr ∧ Aside (OwE ienc 1 3 wr w.heap.size (.slice B m d) ((ws.take kk).map Tm.id)))
  case atStart => exact ⟨0, none, 0, 0, Nat.zero_le _, by omega, rfl, rfl, HW.out, (show Aside _ from OwE.nil iencL _ _ _)⟩
  case round =>
    obtain ⟨kk, B, m, d, hkk, hg, rfl, rfl, hB, HA⟩ := hrel
    by_cases hlt : kk < n
    · have h1 : (kk : Int) < (n : Int) := by omega
      obtain ⟨bb, off, rfl, hbl, hc⟩ := (HR.out.below hB).get (by omega)
      have hx : ws[kk]? = some (ws[kk]'(by omega)) := List.getElem?_eq_getElem _
      have hk := hc kk
      have hte : ws.take (kk + 1) = ws.take kk ++ [ws[kk]'(by omega)] := List.take_succ_eq_append_getElem (by omega)
      generalize ws[kk]'(by omega) = t at hx hte
      obtain ⟨ti, ta⟩ := t
      have k0 : wr.cell? ⟨bb, off + kk * 2, none⟩ = some (.int .i64 ti) := hk 0 _ _ hx rfl
      have k1 : wr.cell? ⟨bb, off + kk * 2 + 1, none⟩ = some (.int .i64 ta) := hk 1 _ _ hx rfl
      have HTE := Lib.hid hte
      clear hc hk hx hte
      go_upto_region 4 with fail
      have hal : Below wr.heap.size wr (wr.alloc (.cells #[.int .i64 ti, .int .i64 ta] 47)) := (Below.refl _ _).alloc (Nat.le_refl _) _
      have ht := heap_alloc_new wr (.cells #[.int .i64 ti, .int .i64 ta] 47)
      have t0 := box_at ht 0 _ rfl
      have HO := Lib.hid (HA.out.below hal)
      have HBU := Lib.hid (hB.trans (hal.mono hB.size))
      clear HA hal ht k0 k1
      generalize wr.alloc (.cells #[.int .i64 ti, .int .i64 ta] 47) = U at *
      have hol := HO.out.rd.len
      rw [List.length_map, List.length_take] at hol
      go_wp2_with (at_builtin; refine wp_appE w.heap.size rfl _ _ 34 3 (.int .i64 0) 8 rfl Try.underlying34 Try.info3 rfl (by omega) (by omega) (.slice B m d) (.slice (some ⟨U.heap.size, 0, none⟩) 1 1) _ [ti] rfl rfl (HO.out.below ((Below.refl _ _).alloc (Nat.le_refl _) _)) (rd_boxE (enc := ienc) U ti 3) ienc1 ?c3 ?c4 ?c5)
      case c3 => rw [List.length_map, List.length_take]; simp; omega
      case c4 => have := HBU.out.size; simp; omega
      case c5 =>
        intro v1 w7 hv1 hg1 hat1
        obtain ⟨F1, f1, g1, rfl⟩ := hv1.slice'
        have hb7 : Below w.heap.size w w7 := (HBU.out.alloc HBU.out.size _).grown hg1 (by have := HBU.out.size; simp; omega) (fun k hk => by
          have := (HO.out.below ((Below.refl _ _).alloc (Nat.le_refl _) (.cells #[.int .i64 ti] 3))).lo k hk
          omega)
        have HV := Lib.hid hv1
        have HB7 := Lib.hid hb7
        clear hv1 hg1 hat1 hb7
        go_wp2_with fail
        go_roundg (n - (kk + 1))
        case measure => omega
        case rel =>
          refine ⟨kk + 1, F1, f1, g1, by omega, by omega, rfl, by go_num, HB7.out, (show Aside _ from ?_)⟩
          rw [HTE.out, List.map_append]
          have hv := HV.out
          rw [← List.map_take] at hv
          exact hv
    · have h1 : ¬ (kk : Int) < (n : Int) := by omega
      go_wp2_with fail
      go_ret
      have := HA.out
      rw [List.take_of_length_le (by omega)] at this
      exact ⟨B, m, d, rfl, this, hB⟩

set_option maxHeartbeats 800000 in
/-- flight.find -/
theorem find_any (w : World) (room next : Int) (A : Option Addr) (n c : Nat) (ys : List FV) (id : Int) (hr : RdF w (.slice A n c) ys) :
    Calls Try.prog 41 #[fv room next (.slice A n c), .int .i64 id] w fun e w' => e = .returned (.int .i64 (findG (fun x => x.id == id) (fls ys))) ∧ Below w.heap.size w w' := by
  have eg : ∀ args w, (callFunc 59 args).run Try.prog w = .ok (.enter 59 args) w := enters_of Try.func59 (by kernel_rfl) rfl
  have hal : Below w.heap.size w ((w.alloc (.cells #[.int .i64 room, .int .i64 next, .slice A n c] 26)).alloc (.cells #[.int .i64 id] 3)) := ((Below.refl _ _).alloc (Nat.le_refl _) _).alloc (by simp) _
  have x1 : ((w.alloc (.cells #[.int .i64 room, .int .i64 next, .slice A n c] 26)).alloc (.cells #[.int .i64 id] 3)).heap[w.heap.size]? = some (.cells #[.int .i64 room, .int .i64 next, .slice A n c] 26 (0, 0)) := keep ((Below.refl _ _).alloc (Nat.le_refl _) _) (heap_alloc_new w _)
  have x2 := heap_alloc_new (w.alloc (.cells #[.int .i64 room, .int .i64 next, .slice A n c] 26)) (.cells #[.int .i64 id] 3)
  have s1 : (w.alloc (.cells #[.int .i64 room, .int .i64 next, .slice A n c] 26)).heap.size = w.heap.size + 1 := by simp
  rw [s1] at x2
  clear s1
  have HR := Lib.hid (hr.below hal)
  clear hr
  go_enter Try.func41, Try.ntmps41
  go_upto_region 1 with fail
  generalize hU : (w.alloc (.cells #[.int .i64 room, .int .i64 next, .slice A n c] 26)).alloc (.cells #[.int .i64 id] 3) = U at *
  have z2 := box_at x1 2 _ rfl
  go_wp2_with (go_at_call 58; refine (indexFunc_fls 59 _ eg (fun y => y.1.id == id) U _ ys HR.out.o (find1_any U _ id x2)).mono ?_; rintro e w' ⟨r, rfl, hi, hb⟩)
  go_ret
  refine ⟨ret_int ?_, hal.trans (hb.mono hal.size)⟩
  rw [findG_map]
  exact findG_is hi
end Go.Proofs.Ytipjhokhflokmaa
