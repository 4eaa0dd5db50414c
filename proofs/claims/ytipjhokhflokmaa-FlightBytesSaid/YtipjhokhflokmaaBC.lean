/- The plain law of FlightOne. -/
import Derived.Test.YtipjhokhflokmaaAT
set_option linter.unusedVariables false
set_option linter.unusedSimpArgs false
namespace Go.Proofs.Ytipjhokhflokmaa
open Go.RowKit

/-- who waits: m of them, of whom the first j have had one byte more than t -/
def wsO (m j : Nat) (t : Int) : List Tm := (List.range m).map (fun (i : Nat) => (⟨(i : Int), if i < j then t + 1 else t⟩ : Tm))
theorem wsO_len (m j : Nat) (t : Int) : (wsO m j t).length = m := by simp [wsO]
theorem wsO_at {m j : Nat} {t : Int} {i : Nat} (h : i < m) : (wsO m j t)[i]? = some ⟨(i : Int), if i < j then t + 1 else t⟩ := by simp [wsO, h]
theorem wsO_mem {m j : Nat} {t : Int} {u : Tm} (h : u ∈ wsO m j t) : ∃ i : Nat, i < m ∧ u = ⟨(i : Int), if i < j then t + 1 else t⟩ := by
  obtain ⟨i, hi, rfl⟩ := List.mem_map.1 h
  exact ⟨i, List.mem_range.1 hi, rfl⟩
theorem wsO_ids (m j : Nat) (t : Int) : (wsO m j t).map Tm.id = (List.range m).map (fun (i : Nat) => (i : Int)) := by simp [wsO, List.map_map, Function.comp_def]
theorem wsO_set {m j : Nat} {t : Int} (h : j < m) : (wsO m j t).set j ⟨(j : Int), t + 1⟩ = wsO m (j + 1) t := by
  apply List.ext_getElem?
  intro i
  by_cases hi : i < m
  · rw [wsO_at hi]
    by_cases hij : i = j
    · subst hij
      rw [List.getElem?_set_self (by rw [wsO_len]; exact h), if_pos (Nat.lt_succ_self i)]
    · rw [List.getElem?_set_ne (Ne.symm hij), wsO_at hi]
      by_cases h2 : i < j
      · rw [if_pos h2, if_pos (by omega)]
      · rw [if_neg h2, if_neg (by omega)]
  · rw [List.getElem?_eq_none (by rw [List.length_set, wsO_len]; omega), List.getElem?_eq_none (by rw [wsO_len]; omega)]
theorem wsO_full (m : Nat) (t : Int) : wsO m m t = wsO m 0 (t + 1) := by
  unfold wsO
  refine List.map_congr_left fun i hi => ?_
  have := List.mem_range.1 hi
  rw [if_pos this, if_neg (by omega)]
theorem wsO_snoc (m : Nat) : wsO m 0 0 ++ [⟨(m : Int), 0⟩] = wsO (m + 1) 0 0 := by
  unfold wsO
  rw [List.range_succ, List.map_append]
  rfl
/-- the flight -/
def xO (m j : Nat) (t base : Int) (data : List UInt8) (done : Bool) : Fl := ⟨[107], true, 0, base, data, 1, done, wsO m j t⟩
structure OkO (room : Int) (m j : Nat) (t base : Int) (data : List UInt8) : Prop where
  r1 : 1 ≤ room
  r2 : room ≤ 4096
  m1 : 1 ≤ m
  m8 : m ≤ 8
  b : 0 ≤ base
  d : (data.length : Int) ≤ room
  t0 : base ≤ t
  t1 : t + (if j = 0 then 0 else 1) ≤ base + data.length
  tm : base + data.length ≤ 1000
theorem right_xO {room : Int} {m j : Nat} {t base : Int} {data : List UInt8} {done : Bool} (h : OkO room m j t base data) : rightS room 1 [xO m j t base data done] = true := by
  obtain ⟨r1, r2, m1, m8, b, d, t0, t1, tm⟩ := h
  refine rightS_yes ?_ (fun x hx => ?_) (by simp) ?_
  · unfold badR
    simp only [List.length_cons, List.length_nil]
    omega
  · have : x = xO m j t base data done := by simpa using hx
    subst this
    have hb : ¬ badF room 1 (xO m j t base data done) := by
      unfold badF xO
      simp only [wsO_len, List.length_cons, List.length_nil]
      omega
    rw [rightF_ok hb, Bool.not_eq_true']
    refine List.any_eq_false.2 fun u hu => ?_
    obtain ⟨i, hi, rfl⟩ := wsO_mem hu
    unfold oddB endS xO
    simp only
    by_cases hij : i < j
    · rw [if_pos hij]
      rw [if_neg (by omega)] at t1
      simp
      omega
    · rw [if_neg hij]
      simp
      split at t1 <;> omega
  · unfold allw xO
    simp only [List.flatMap_cons, List.flatMap_nil, List.append_nil, wsO_ids]
    exact List.pairwise_map.2 (List.nodup_range.imp (fun h he => h (by omega)))
theorem waits_one {x : Fl} {id : Int} {k : Nat} {t : Tm} (hk : x.ws[k]? = some t) (hid : t.id = id) (h : ∀ (j : Nat) (u : Tm), j < k → x.ws[j]? = some u → u.id ≠ id) : waitsS [x] id = (0, (k : Int)) := by
  have h1 : idxW id x = (k : Int) := findG_some hk (by simpa using hid) (fun j u hj hu => by simpa using h j u hj hu)
  unfold waitsS
  have h2 : findG (hasW id) [x] = ((0 : Nat) : Int) := findG_some (k := 0) (x := x) rfl (by unfold hasW; rw [h1]; simp) (fun j y hj => absurd hj (Nat.not_lt_zero _))
  rw [h2]
  simp [h1]
theorem waits_none {x : Fl} {id : Int} (h : ∀ (j : Nat) (u : Tm), x.ws[j]? = some u → u.id ≠ id) : (waitsS [x] id).1 < 0 := by
  have h1 : idxW id x < 0 := findG_none (fun j u hu => by simpa using h j u hu)
  unfold waitsS
  have h2 : findG (hasW id) [x] < 0 := findG_none (fun j y hy => by
    have : y = x := by
      have := List.mem_of_getElem? hy
      simpa using this
    rw [this]
    unfold hasW
    simpa using h1)
  exact h2
theorem join0 {room : Int} (h1 : 1 ≤ room) (h2 : room ≤ 4096) : joinOp room 0 [] [107] 0 true = ⟨[xO 1 0 0 0 [] false], 1, 0, true, 0⟩ := by
  have hr : rightS room 0 [] = true := rightS_yes (by unfold badR; simp only [List.length_nil]; omega) (by simp) (by simp) (by simp [allw])
  have hb : ¬ badJ room 0 [] [107] 0 := by
    rintro (h | h | h)
    · rw [hr] at h; cases h
    · omega
    · simp at h
  rw [joinOpN hb (by decide) (by decide)]
  rfl
theorem joinI {room : Int} {m : Nat} (h1 : 1 ≤ room) (h2 : room ≤ 4096) (hm : 1 ≤ m) (hm8 : m < 8) : joinOp room 1 [xO m 0 0 0 [] false] [107] (m : Int) true = ⟨[xO (m + 1) 0 0 0 [] false], 1, 0, false, 0⟩ := by
  have hr : rightS room 1 [xO m 0 0 0 [] false] = true := right_xO ⟨h1, h2, hm, by omega, by omega, by simp; omega, by omega, by simp, by simp⟩
  have hb : ¬ badJ room 1 [xO m 0 0 0 [] false] [107] (m : Int) := by
    rintro (h | h | h)
    · rw [hr] at h; cases h
    · omega
    · simp at h
  have hw : ¬ 0 ≤ (waitsS [xO m 0 0 0 [] false] (m : Int)).1 := by
    have := waits_none (x := xO m 0 0 0 [] false) (id := (m : Int)) (fun j u hu => by
      obtain ⟨i, hi, rfl⟩ := wsO_mem (List.mem_of_getElem? (show (wsO m 0 0)[j]? = some u from hu))
      simp only
      omega)
    omega
  have ho : openF [xO m 0 0 0 [] false] [107] true = ((0 : Nat) : Int) := findG_some (k := 0) (x := xO m 0 0 0 [] false) rfl (by simp [joinsF, xO, wsO_len]; omega) (fun j y hj => absurd hj (Nat.not_lt_zero _))
  rw [joinOpJ hb hw ho (x := xO m 0 0 0 [] false) rfl]
  unfold xO
  simp only [List.set_cons_zero]
  rw [wsO_snoc]
theorem takeI {room : Int} {m j : Nat} {t base : Int} {data : List UInt8} (h : OkO room m j t base data) (hj : j < m) (ht : t + 1 ≤ base + data.length) :
    ∃ (sx : List UInt8) (la : Bool), takeOp room 1 [xO m j t base data false] (j : Int) 1 = ([xO m (j + 1) t base data false], sx, la, 0) := by
  have hat : (xO m j t base data false).ws[j]? = some ⟨(j : Int), t⟩ := by
    show (wsO m j t)[j]? = _
    rw [wsO_at hj, if_neg (Nat.lt_irrefl j)]
  have hw := waits_one (x := xO m j t base data false) (id := (j : Int)) hat rfl (fun i u hi hu => by
    have : (wsO m j t)[i]? = some u := hu
    rw [wsO_at (by omega)] at this
    injection this with this
    subst this
    simp only
    omega)
  have hn : ¬ (rightS room 1 [xO m j t base data false] = false ∨ (1 : Int) < 0) := by
    rw [right_xO h]
    simp
  have hl : ((takeX (xO m j t base data false) ⟨(j : Int), t⟩ 1).length : Int) = 1 := by
    unfold takeX xO
    simp only [List.length_take, List.length_drop]
    have := h.t0
    omega
  have hop := takeOp0 hn (i := 0) (k := j) hw rfl hat
  rw [hl] at hop
  simp only [List.set_cons_zero] at hop
  have he : ({ xO m j t base data false with ws := (xO m j t base data false).ws.set j ⟨(j : Int), t + 1⟩ } : Fl) = xO m (j + 1) t base data false := by
    unfold xO
    simp only
    rw [wsO_set hj]
  rw [he] at hop
  exact ⟨_, _, hop⟩
theorem leastO {m : Nat} {t base : Int} {data : List UInt8} {done : Bool} (h : t = base + data.length) : leastS (xO m 0 t base data done) = t := by
  have h1 := leastS_le (xO m 0 t base data done)
  have h2 : endS (xO m 0 t base data done) = t := h.symm
  have h3 : t ≤ leastS (xO m 0 t base data done) := leastF_ge _ _ _ (by rw [h2]; exact Int.le_refl _) (fun u hu => by
    obtain ⟨i, hi, rfl⟩ := wsO_mem (show u ∈ wsO m 0 t from hu)
    rw [if_neg (by omega)]
    exact Int.le_refl _)
  omega
theorem findO {room : Int} {x : Fl} (h : x.id = 0) : findF [x] 0 = ((0 : Nat) : Int) := findG_some (k := 0) (x := x) rfl (by rw [h]; rfl) (fun j y hj => absurd hj (Nat.not_lt_zero _))
theorem feedO {room : Int} {m : Nat} {t base : Int} {data : List UInt8} (c : UInt8) (h : OkO room m 0 t base data) (ht : t = base + data.length) (h9 : t + 1 ≤ 1000) :
    ∃ (base' : Int) (data' : List UInt8), feedOp room 1 [xO m 0 t base data false] 0 [c] = ([xO m 0 t base' data' false], 1, [], 0) ∧ base' + data'.length = t + 1 ∧ (data'.length : Int) ≤ room ∧ base ≤ base' ∧ base' ≤ t := by
  have hr := right_xO (done := false) h
  have hf : findF [xO m 0 t base data false] 0 = ((0 : Nat) : Int) := findO (room := room) rfl
  have hd : ¬ ((xO m 0 t base data false).done = true ∨ 9007199254740992 - (([c] : List UInt8).length : Int) < endS (xO m 0 t base data false)) := by
    have he : endS (xO m 0 t base data false) = base + data.length := rfl
    rw [he]
    simp only [xO, List.length_cons, List.length_nil]
    rintro (h1 | h1)
    · cases h1
    · omega
  by_cases hlt : (data.length : Int) < room
  · have g : Goes room [c] ⟨xO m 0 t base data false, 0, []⟩ ⟨xO m 0 t base (data ++ [c]) false, 1, []⟩ := .step (stepF_byte (t := ⟨xO m 0 t base data false, 0, []⟩) (c := c) rfl hlt) (.refl _)
    refine ⟨base, data ++ [c], feedOp0 hr hf rfl hd g (stepF_end (by simp)), ?_, ?_, Int.le_refl _, ?_⟩
    · rw [List.length_append]; simp; omega
    · rw [List.length_append]; simp; omega
    · omega
  · have hb := h.d
    have hr1 := h.r1
    have hle := leastO (m := m) (done := false) ht
    have hro : roomS (xO m 0 t base data false) = (xO m 0 t t [] false, [], true) := by
      unfold roomS
      rw [if_pos (by rw [hle]; show base < t; omega)]
      unfold trimS
      rw [hle]
      refine Prod.ext ?_ rfl
      unfold xO
      simp only
      rw [List.drop_of_length_le (by omega)]
    have g1 : stepF room [c] ⟨xO m 0 t base data false, 0, []⟩ = some ⟨xO m 0 t t [] false, 0, []⟩ := by
      rw [stepF_room (by simp) hlt, hro]
      rfl
    have g : Goes room [c] ⟨xO m 0 t base data false, 0, []⟩ ⟨xO m 0 t t [c] false, 1, []⟩ := .step g1 (.step (stepF_byte (t := ⟨xO m 0 t t [] false, 0, []⟩) (c := c) rfl (by simp [xO]; omega)) (.refl _))
    refine ⟨t, [c], feedOp0 hr hf rfl hd g (stepF_end (by simp)), by simp, by simp; omega, h.t0, Int.le_refl _⟩
theorem endO {room : Int} {m : Nat} {t base : Int} {data : List UInt8} (h : OkO room m 0 t base data) : endOp room 1 [xO m 0 t base data false] 0 = ([xO m 0 t base data true], 0) := endOp0 (right_xO h) (findO (room := room) rfl) rfl
/-- the last one who asks -/
theorem last_yes {room : Int} {m : Nat} {t base : Int} {data : List UInt8} {done : Bool} (h : OkO room m 0 t base data) (hc : done = true ∨ 0 < base ∨ m = 8) : ∃ fs, joinOp room 1 [xO m 0 t base data done] [107] 99 true = ⟨fs, 2, 1, true, 0⟩ := by
  have hr := right_xO (done := done) h
  have hb : ¬ badJ room 1 [xO m 0 t base data done] [107] 99 := by
    rintro (h | h | h)
    · rw [hr] at h; cases h
    · omega
    · simp at h
  have h8 := h.m8
  have hw : ¬ 0 ≤ (waitsS [xO m 0 t base data done] 99).1 := by
    have := waits_none (x := xO m 0 t base data done) (id := 99) (fun j u hu => by
      obtain ⟨i, hi, rfl⟩ := wsO_mem (List.mem_of_getElem? (show (wsO m 0 t)[j]? = some u from hu))
      simp only
      omega)
    omega
  have ho : openF [xO m 0 t base data done] [107] true < 0 := findG_none (fun j y hy => by
    have hy2 : y = xO m 0 t base data done := by
      have := List.mem_of_getElem? hy
      simpa using this
    rw [hy2]
    rcases hc with h1 | h1 | h1
    · simp [joinsF, xO, h1]
    · have : ¬ base = 0 := by omega
      simp [joinsF, xO, this]
    · simp [joinsF, xO, wsO_len, h1])
  rw [joinOpN hb hw ho]
  exact ⟨_, rfl⟩
theorem last_no {room : Int} {m : Nat} {t base : Int} {data : List UInt8} (h : OkO room m 0 t base data) (hb0 : base = 0) (h8 : m < 8) : ∃ fs, joinOp room 1 [xO m 0 t base data false] [107] 99 true = ⟨fs, 1, 0, false, 0⟩ := by
  have hr := right_xO (done := false) h
  have hb : ¬ badJ room 1 [xO m 0 t base data false] [107] 99 := by
    rintro (h | h | h)
    · rw [hr] at h; cases h
    · omega
    · simp at h
  have hw : ¬ 0 ≤ (waitsS [xO m 0 t base data false] 99).1 := by
    have := waits_none (x := xO m 0 t base data false) (id := 99) (fun j u hu => by
      obtain ⟨i, hi, rfl⟩ := wsO_mem (List.mem_of_getElem? (show (wsO m 0 t)[j]? = some u from hu))
      simp only
      omega)
    omega
  have ho : openF [xO m 0 t base data false] [107] true = ((0 : Nat) : Int) := findG_some (k := 0) (x := xO m 0 t base data false) rfl (by simp [joinsF, xO, wsO_len, hb0]; omega) (fun j y hj => absurd hj (Nat.not_lt_zero _))
  rw [joinOpJ hb hw ho (x := xO m 0 t base data false) rfl]
  exact ⟨_, rfl⟩
theorem sm_xO {m j : Nat} {t base : Int} {data : List UInt8} {done : Bool} (h : m ≤ 8) : SmF [xO m j t base data done] := sm1 _ ⟨by show (wsO m j t).length ≤ 1000; rw [wsO_len]; omega, fun u hu => by
  obtain ⟨i, hi, rfl⟩ := wsO_mem (show u ∈ wsO m j t from hu)
  unfold okI
  simp only
  omega⟩
end Go.Proofs.Ytipjhokhflokmaa
