/- The plain law of FlightBytes. -/
import Derived.Test.YtipjhokhflokmaaBC
set_option linter.unusedVariables false
set_option linter.unusedSimpArgs false
namespace Go.Proofs.Ytipjhokhflokmaa
open Go.RowKit

/-- one flight, who waits for it (some of whom are just told to wait no longer), and what these had -/
structure BI (room : Int) (all : List UInt8) (had : List (List UInt8)) (inn : List Bool) (out : List Int) (x : Fl) : Prop where
  r1 : 1 ≤ room
  r2 : room ≤ 12
  key : x.key = [107]
  sh : x.sh = true
  id : x.id = 0
  tries : x.tries = 1
  done : x.done = false
  n : inn.length = had.length
  h1 : 1 ≤ had.length
  base : ∃ b : Nat, x.base = b ∧ b ≤ all.length ∧ x.data = all.drop b
  room : (x.data.length : Int) ≤ room
  w1 : 1 ≤ x.ws.length
  w8 : x.ws.length ≤ 8
  nd : (out ++ x.ws.map Tm.id).Nodup
  wst : ∀ t ∈ x.ws, ∃ (w : Nat) (h : List UInt8), t.id = w ∧ inn[w]? = some true ∧ had[w]? = some h ∧ t.at' = h.length ∧ x.base ≤ t.at'
  ost : ∀ o ∈ out, ∃ w : Nat, o = w ∧ inn[w]? = some true
  inn : ∀ w : Nat, inn[w]? = some true → (w : Int) ∈ out ∨ ∃ t ∈ x.ws, t.id = w
  pre : ∀ h ∈ had, h <+: all
  sz : all.length ≤ 2000
  hn : had.length ≤ 100
section
variable {room : Int} {all : List UInt8} {had : List (List UInt8)} {inn : List Bool} {out : List Int} {x : Fl}
theorem BI.start (h1 : 1 ≤ room) (h2 : room ≤ 12) : BI room [] [[]] [true] [] (xO 1 0 0 0 [] false) := by
  refine ⟨h1, h2, rfl, rfl, rfl, rfl, rfl, rfl, Nat.le_refl _, ⟨0, rfl, Nat.le_refl _, rfl⟩, by simp [xO]; omega, by simp [xO, wsO_len], by simp [xO, wsO_len], by simp [xO, wsO_ids], fun t ht => ?_, fun o ho => (by cases ho), fun w hw => .inr ?_, fun h hh => ?_, by simp, by simp⟩
  · obtain ⟨i, hi, rfl⟩ := wsO_mem (show t ∈ wsO 1 0 0 from ht)
    obtain rfl : i = 0 := by omega
    exact ⟨0, [], rfl, rfl, rfl, rfl, Int.le_refl _⟩
  · have : w = 0 := by
      have := (List.getElem?_eq_some_iff.1 hw).1
      simp at this
      exact this
    subst this
    exact ⟨⟨0, 0⟩, by simp [xO, wsO], rfl⟩
  · obtain rfl : h = [] := by simpa using hh
    exact List.prefix_refl _
theorem BI.data (h : BI room all had inn out x) : x.base + x.data.length = all.length := by
  obtain ⟨b, hb, hl, hd⟩ := h.base
  rw [hb, hd, List.length_drop]
  omega
theorem BI.at_ (h : BI room all had inn out x) : ∀ t ∈ x.ws, 0 ≤ t.id ∧ x.base ≤ t.at' ∧ t.at' ≤ all.length := by
  intro t ht
  obtain ⟨w, g, h1, h2, h3, h4, h5⟩ := h.wst t ht
  have h6 := (h.pre g (List.mem_of_getElem? h3)).length_le
  omega
theorem BI.right (h : BI room all had inn out x) : rightS room 1 [x] = true := by
  have hd := h.data
  have hr := h.room
  have h1 := h.r1
  have h2 := h.r2
  have hid := h.id
  have htr := h.tries
  have hw1 := h.w1
  have hw8 := h.w8
  have hsz := h.sz
  obtain ⟨b, hb, hl, _⟩ := h.base
  refine rightS_yes ?_ (fun y hy => ?_) (by simp) ?_
  · unfold badR
    simp only [List.length_cons, List.length_nil]
    omega
  · have : y = x := by simpa using hy
    subst this
    have hk : (y.key.length : Int) = 1 := by rw [h.key]; rfl
    have hbd : ¬ badF room 1 y := by
      unfold badF
      omega
    rw [rightF_ok hbd, Bool.not_eq_true']
    refine List.any_eq_false.2 fun u hu => ?_
    have := h.at_ u hu
    unfold oddB endS
    simp
    omega
  · have hnd := h.nd
    rw [List.nodup_append] at hnd
    unfold allw
    simpa using hnd.2.1
theorem BI.open_ (h : BI room all had inn [] x) (hb : x.base = 0) (h8 : x.ws.length < 8) : joinOp room 1 [x] [107] (had.length : Int) true = ⟨[{ x with ws := x.ws ++ [⟨(had.length : Int), 0⟩] }], 1, 0, false, 0⟩ := by
  have hbj : ¬ badJ room 1 [x] [107] (had.length : Int) := by
    rintro (h1 | h1 | h1)
    · rw [h.right] at h1; cases h1
    · omega
    · simp at h1
  have hw : ¬ 0 ≤ (waitsS [x] (had.length : Int)).1 := by
    have := waits_none (x := x) (id := (had.length : Int)) (fun j u hu => by
      obtain ⟨w, g, h1, h2, _⟩ := h.wst u (List.mem_of_getElem? hu)
      have h3 := (List.getElem?_eq_some_iff.1 h2).1
      have h4 := h.n
      omega)
    omega
  have ho : openF [x] [107] true = ((0 : Nat) : Int) := findG_some (k := 0) (x := x) rfl (by simp [joinsF, h.sh, h.key, hb, h.done, h8]) (fun j y hj => absurd hj (Nat.not_lt_zero _))
  rw [joinOpJ hbj hw ho (x := x) rfl, h.id]
  rfl
theorem BI.shut (h : BI room all had inn [] x) (hb : ¬ (x.base = 0 ∧ x.ws.length < 8)) : ∃ fs, joinOp room 1 [x] [107] (had.length : Int) true = ⟨fs, 2, 1, true, 0⟩ := by
  have hbj : ¬ badJ room 1 [x] [107] (had.length : Int) := by
    rintro (h1 | h1 | h1)
    · rw [h.right] at h1; cases h1
    · omega
    · simp at h1
  have hw : ¬ 0 ≤ (waitsS [x] (had.length : Int)).1 := by
    have := waits_none (x := x) (id := (had.length : Int)) (fun j u hu => by
      obtain ⟨w, g, h1, h2, _⟩ := h.wst u (List.mem_of_getElem? hu)
      have h3 := (List.getElem?_eq_some_iff.1 h2).1
      have h4 := h.n
      omega)
    omega
  have ho : openF [x] [107] true < 0 := findG_none (fun j y hy => by
    have hy2 : y = x := by
      have := List.mem_of_getElem? hy
      simpa using this
    rw [hy2]
    by_cases hb0 : x.base = 0
    · have : ¬ x.ws.length < 8 := fun h8 => hb ⟨hb0, h8⟩
      simp [joinsF, this]
    · simp [joinsF, hb0])
  rw [joinOpN hbj hw ho]
  exact ⟨_, rfl⟩
theorem BI.join (h : BI room all had inn [] x) (hb : x.base = 0) (h8 : x.ws.length < 8) (hn : had.length < 100) : BI room all (had ++ [[]]) (inn ++ [true]) [] { x with ws := x.ws ++ [⟨(had.length : Int), 0⟩] } := by
  have hlen := h.n
  refine ⟨h.r1, h.r2, h.key, h.sh, h.id, h.tries, h.done, by simp [hlen], by simp, h.base, h.room, by simp, by simp; omega, ?_, fun t ht => ?_, fun o ho => (by cases ho), fun w hw => .inr ?_, fun g hg => ?_, h.sz, by simp; omega⟩
  · have hnd := h.nd
    simp only [List.nil_append, List.map_append, List.map_cons, List.map_nil] at hnd ⊢
    rw [List.nodup_append]
    refine ⟨hnd, by simp, fun a ha b hb2 => ?_⟩
    obtain ⟨t, ht, rfl⟩ := List.mem_map.1 ha
    obtain ⟨w, g, h1, h2, _⟩ := h.wst t ht
    have h3 := (List.getElem?_eq_some_iff.1 h2).1
    obtain rfl : b = (had.length : Int) := by simpa using hb2
    omega
  · rcases List.mem_append.1 ht with ht | ht
    · obtain ⟨w, g, h1, h2, h3, h4, h5⟩ := h.wst t ht
      refine ⟨w, g, h1, ?_, ?_, h4, h5⟩
      · rw [List.getElem?_append_left (List.getElem?_eq_some_iff.1 h2).1]; exact h2
      · rw [List.getElem?_append_left (List.getElem?_eq_some_iff.1 h3).1]; exact h3
    · obtain rfl : t = ⟨(had.length : Int), 0⟩ := by simpa using ht
      refine ⟨had.length, [], rfl, ?_, ?_, rfl, ?_⟩
      · rw [← hlen]; simp
      · simp
      · show x.base ≤ 0
        omega
  · by_cases hw2 : w < inn.length
    · rw [List.getElem?_append_left hw2] at hw
      rcases h.inn w hw with h1 | ⟨t, ht, h1⟩
      · cases h1
      · exact ⟨t, List.mem_append_left _ ht, h1⟩
    · have := (List.getElem?_eq_some_iff.1 hw).1
      simp at this
      refine ⟨⟨(had.length : Int), 0⟩, List.mem_append_right _ (by simp), ?_⟩
      show (had.length : Int) = w
      omega
  · rcases List.mem_append.1 hg with hg | hg
    · exact h.pre g hg
    · obtain rfl : g = [] := by simpa using hg
      exact List.nil_prefix
/-- one who waits no longer takes nothing -/
theorem BI.none (h : BI room all had inn [] x) {w : Nat} (hw : inn[w]? = some false) {n : Int} (hn : 0 ≤ n) : takeOp room 1 [x] (w : Int) n = ([x], [], false, 5) := by
  refine takeOp5 (by rw [h.right]; simp; omega) (waits_none fun j u hu => ?_)
  obtain ⟨v, g, h1, h2, _⟩ := h.wst u (List.mem_of_getElem? hu)
  intro he
  have : v = w := by omega
  subst this
  rw [hw] at h2
  cases h2
theorem nodup_at {ws : List Tm} (hn : (ws.map Tm.id).Nodup) {k j : Nat} {t u : Tm} (hk : ws[k]? = some t) (hj : ws[j]? = some u) (he : t.id = u.id) : k = j := by
  have hk1 := (List.getElem?_eq_some_iff.1 hk).1
  have hj1 := (List.getElem?_eq_some_iff.1 hj).1
  refine (List.getElem_inj (h₀ := by simpa using hk1) (h₁ := by simpa using hj1) hn).1 ?_
  rw [List.getElem_map, List.getElem_map, (List.getElem?_eq_some_iff.1 hk).2, (List.getElem?_eq_some_iff.1 hj).2]
  exact he
/-- one who waits takes some -/
theorem BI.take (h : BI room all had inn [] x) {w : Nat} (hw : inn[w]? = some true) {g : List UInt8} (hg : had[w]? = some g) {n : Int} (hn : 0 ≤ n) :
    ∃ (x' : Fl) (s : List UInt8) (la : Bool), takeOp room 1 [x] (w : Int) n = ([x'], s, la, 0) ∧ s = (all.drop g.length).take n.toNat ∧ BI room all (had.set w (g ++ s)) inn [] x' := by
  rcases h.inn w hw with h1 | ⟨t, ht, hid⟩
  · cases h1
  obtain ⟨k, hk⟩ := List.getElem?_of_mem ht
  have hnd : (x.ws.map Tm.id).Nodup := by simpa using h.nd
  obtain ⟨v, g2, h1, h2, h3, h4, h5⟩ := h.wst t ht
  have hv : v = w := by omega
  subst hv
  rw [hg] at h3
  injection h3 with h3
  subst h3
  have hwt := waits_one (x := x) (id := (v : Int)) hk hid (fun j u hj hu he => by
    have := nodup_at hnd hk hu (by omega)
    omega)
  have hop := takeOp0 (room := room) (next := 1) (fs := [x]) (n := n) (by rw [h.right]; simp; omega) (i := 0) hwt rfl hk
  obtain ⟨b, hb, hl, hd⟩ := h.base
  have hpre := h.pre g (List.mem_of_getElem? hg)
  have hgl := hpre.length_le
  have hs : takeX x t n = (all.drop g.length).take n.toNat := by
    unfold takeX
    have e1 : x.data.drop (t.at' - x.base).toNat = all.drop g.length := by
      rw [hd, List.drop_drop]
      congr 1
      omega
    rw [e1]
    rcases Int.le_total n ((all.drop g.length).length : Int) with h6 | h6
    · rw [Int.min_eq_left h6]
    · rw [Int.min_eq_right h6, Int.toNat_natCast, List.take_of_length_le (Nat.le_refl _), List.take_of_length_le (by omega)]
  rw [hs] at hop
  refine ⟨_, _, _, hop, rfl, ?_⟩
  have hpp : g ++ (all.drop g.length).take n.toNat <+: all := by
    obtain ⟨r, hr⟩ := hpre
    have : all.drop g.length = r := by rw [← hr]; simp
    rw [this, ← hr]
    exact List.prefix_append_right_inj _ |>.2 (List.take_prefix _ _)
  have hids : (x.ws.set k { t with at' := t.at' + ((all.drop g.length).take n.toNat).length }).map Tm.id = x.ws.map Tm.id := by
    rw [List.map_set]
    obtain ⟨hk1, hk2⟩ := List.getElem?_eq_some_iff.1 hk
    have h9 := @List.set_getElem_self _ (x.ws.map Tm.id) k (by simpa using hk1)
    rw [List.getElem_map, hk2] at h9
    exact h9
  refine ⟨h.r1, h.r2, h.key, h.sh, h.id, h.tries, h.done, by rw [List.length_set]; exact h.n, by rw [List.length_set]; exact h.h1, h.base, h.room, by simp only [List.length_set]; exact h.w1, by simp only [List.length_set]; exact h.w8, ?_, fun u hu => ?_, fun o ho => (by cases ho), fun q hq => .inr ?_, fun f hf => ?_, h.sz, by rw [List.length_set]; exact h.hn⟩
  · simp only [List.nil_append, hids]
    exact hnd
  · obtain ⟨j, hj⟩ := List.getElem?_of_mem hu
    simp only at hj
    by_cases hjk : j = k
    · subst hjk
      rw [List.getElem?_set_self (List.getElem?_eq_some_iff.1 hk).1] at hj
      injection hj with hj
      subst hj
      refine ⟨v, g ++ (all.drop g.length).take n.toNat, hid, hw, ?_, ?_, ?_⟩
      · rw [List.getElem?_set_self (List.getElem?_eq_some_iff.1 hg).1]
      · simp only [List.length_append]
        omega
      · show x.base ≤ t.at' + _
        omega
    · rw [List.getElem?_set_ne (Ne.symm hjk)] at hj
      obtain ⟨v2, g2, a1, a2, a3, a4, a5⟩ := h.wst u (List.mem_of_getElem? hj)
      refine ⟨v2, g2, a1, a2, ?_, a4, a5⟩
      rw [List.getElem?_set_ne]
      · exact a3
      · intro he
        subst he
        exact hjk (nodup_at hnd hk hj (by omega)).symm
  · rcases h.inn q hq with h6 | ⟨u, hu, h6⟩
    · cases h6
    · have h7 : u.id ∈ x.ws.map Tm.id := List.mem_map_of_mem hu
      rw [← hids] at h7
      obtain ⟨u2, hu2, h8⟩ := List.mem_map.1 h7
      exact ⟨u2, hu2, by omega⟩
  · rcases List.mem_or_eq_of_mem_set hf with h6 | rfl
    · exact h.pre f h6
    · exact hpp
/-- one is told to wait no longer -/
theorem BI.strike {o : Int} {r : List Int} (h : BI room all had inn (o :: r) x) : ∃ w : Nat, o = w ∧ inn[w]? = some true ∧ BI room all had (inn.set w false) r x := by
  obtain ⟨w, hw, hi⟩ := h.ost o (List.mem_cons_self ..)
  have hnd := h.nd
  rw [List.cons_append, List.nodup_cons] at hnd
  have hne : ∀ q : Nat, (q : Int) ∈ r ++ x.ws.map Tm.id → w ≠ q := fun q hq he => hnd.1 (by rw [hw, he]; exact hq)
  refine ⟨w, hw, hi, h.r1, h.r2, h.key, h.sh, h.id, h.tries, h.done, by rw [List.length_set]; exact h.n, h.h1, h.base, h.room, h.w1, h.w8, hnd.2, fun t ht => ?_, fun p hp => ?_, fun q hq => ?_, h.pre, h.sz, h.hn⟩
  · obtain ⟨v, g, a1, a2, a3⟩ := h.wst t ht
    refine ⟨v, g, a1, ?_, a3⟩
    rw [List.getElem?_set_ne (hne v (List.mem_append_right _ (by rw [← a1]; exact List.mem_map_of_mem ht)))]
    exact a2
  · obtain ⟨v, a1, a2⟩ := h.ost p (List.mem_cons_of_mem _ hp)
    refine ⟨v, a1, ?_⟩
    rw [List.getElem?_set_ne (hne v (List.mem_append_left _ (by rw [← a1]; exact hp)))]
    exact a2
  · have hqw : w ≠ q := by
      rintro rfl
      rw [List.getElem?_set_self (List.getElem?_eq_some_iff.1 hi).1] at hq
      cases hq
    rw [List.getElem?_set_ne hqw] at hq
    rcases h.inn q hq with h1 | h1
    · rcases List.mem_cons.1 h1 with h2 | h2
      · omega
      · exact .inl h2
    · exact .inr h1
end
/-- one byte -/
theorem BI.byte {room : Int} {all : List UInt8} {had : List (List UInt8)} {inn : List Bool} {out : List Int} {x : Fl} (h : BI room all had inn out x) (c : UInt8) (hl : (x.data.length : Int) < room) (hs : all.length < 2000) : BI room (all ++ [c]) had inn out { x with data := x.data ++ [c] } := by
  obtain ⟨b, hb, hbl, hd⟩ := h.base
  refine ⟨h.r1, h.r2, h.key, h.sh, h.id, h.tries, h.done, h.n, h.h1, ⟨b, hb, by simp; omega, ?_⟩, by simp; omega, h.w1, h.w8, h.nd, h.wst, h.ost, h.inn, fun g hg => (h.pre g hg).trans (List.prefix_append _ _), by simp; omega, h.hn⟩
  show x.data ++ [c] = _
  rw [List.drop_append_of_le_length hbl, hd]
/-- room is made -/
theorem BI.made {room : Int} {all : List UInt8} {had : List (List UInt8)} {inn : List Bool} {out : List Int} {x : Fl} (h : BI room all had inn out x) (hr : (roomS x).2.2 = true) : BI room all had inn (out ++ (roomS x).2.1) (roomS x).1 := by
  obtain ⟨b, hb, hbl, hd⟩ := h.base
  have hdt := h.data
  have hle := leastS_le x
  have hee : endS x = x.base + x.data.length := rfl
  by_cases h1 : x.base < leastS x
  · have he : roomS x = (trimS x, [], true) := if_pos h1
    rw [he]
    simp only [List.append_nil]
    have hb2 : (trimS x).base = leastS x := rfl
    have hdd : (trimS x).data = all.drop (leastS x).toNat := by
      show x.data.drop _ = _
      rw [hd, List.drop_drop]
      congr 1
      omega
    refine ⟨h.r1, h.r2, h.key, h.sh, h.id, h.tries, h.done, h.n, h.h1, ⟨(leastS x).toNat, by omega, by omega, hdd⟩, ?_, h.w1, h.w8, h.nd, fun t ht => ?_, h.ost, h.inn, h.pre, h.sz, h.hn⟩
    · rw [hdd, List.length_drop]
      have := h.room
      omega
    · obtain ⟨w, g, a1, a2, a3, a4, a5⟩ := h.wst t ht
      exact ⟨w, g, a1, a2, a3, a4, by rw [hb2]; exact leastF_all (endS x) x.ws t ht⟩
  · by_cases hfa : fastS x = []
    · have he : roomS x = (x, [], false) := (if_neg h1).trans (if_pos hfa)
      rw [he] at hr
      cases hr
    · have he : roomS x = ({ x with ws := fastS x }, (slowS x).map Tm.id, true) := (if_neg h1).trans (if_neg hfa)
      rw [he]
      have hp : (slowS x ++ fastS x).Perm x.ws := by
        have := List.filter_append_perm (fun t : Tm => t.at' == x.base) x.ws
        exact this
      have hpi : (out ++ (slowS x).map Tm.id ++ (fastS x).map Tm.id).Perm (out ++ x.ws.map Tm.id) := by
        rw [List.append_assoc, ← List.map_append]
        exact (List.Perm.refl out).append (hp.map _)
      have hfp : 0 < (fastS x).length := List.length_pos_iff.2 hfa
      have hsf := slow_fast x
      have h8 := h.w8
      have fm : ∀ t ∈ fastS x, t ∈ x.ws := fun t ht => (List.mem_filter.1 ht).1
      have sm : ∀ t ∈ slowS x, t ∈ x.ws := fun t ht => (List.mem_filter.1 ht).1
      refine ⟨h.r1, h.r2, h.key, h.sh, h.id, h.tries, h.done, h.n, h.h1, ⟨b, hb, hbl, hd⟩, h.room, hfp, by show (fastS x).length ≤ 8; omega, hpi.nodup_iff.2 h.nd, fun t ht => h.wst t (fm t ht), fun o ho => ?_, fun w hw => ?_, h.pre, h.sz, h.hn⟩
      · rcases List.mem_append.1 ho with h2 | h2
        · exact h.ost o h2
        · obtain ⟨t, ht, rfl⟩ := List.mem_map.1 h2
          obtain ⟨w, g, a1, a2, _⟩ := h.wst t (sm t ht)
          exact ⟨w, a1, a2⟩
      · rcases h.inn w hw with h2 | ⟨t, ht, h2⟩
        · exact .inl (List.mem_append_left _ h2)
        · rcases List.mem_append.1 (hp.mem_iff.2 ht) with h3 | h3
          · exact .inl (List.mem_append_right _ (by rw [← h2]; exact List.mem_map_of_mem h3))
          · exact .inr ⟨t, h3, h2⟩
theorem BI.goes {room : Int} {s : List UInt8} {a e : FS} (g : Goes room s a e) {all : List UInt8} {had : List (List UInt8)} {inn : List Bool} (hz : all.length + s.length ≤ 2000) (h : BI room (all ++ s.take a.n) had inn a.out a.x) : BI room (all ++ s.take e.n) had inn e.out e.x := by
  induction g with
  | refl => exact h
  | step h1 _ ih =>
    rename_i a b c _
    refine ih ?_
    unfold stepF at h1
    split at h1
    · cases h1
    · rename_i c0 hc
      split at h1
      · rename_i hl
        injection h1 with h1
        subst h1
        have hn := (List.getElem?_eq_some_iff.1 hc).1
        have he : all ++ s.take (a.n + 1) = (all ++ s.take a.n) ++ [c0] := by
          rw [List.take_succ_eq_append_getElem hn, (List.getElem?_eq_some_iff.1 hc).2, List.append_assoc]
        show BI room (all ++ s.take (a.n + 1)) had inn a.out _
        rw [he]
        exact h.byte c0 hl (by rw [List.length_append, List.length_take]; omega)
      · split at h1
        · rename_i hr
          injection h1 with h1
          subst h1
          exact h.made hr
        · cases h1
theorem BI.feed {room : Int} {all : List UInt8} {had : List (List UInt8)} {inn : List Bool} {x : Fl} (h : BI room all had inn [] x) {s : List UInt8} (hz : all.length + s.length ≤ 2000) :
    ∃ (x' : Fl) (n : Nat) (out : List Int), feedOp room 1 [x] 0 s = ([x'], (n : Int), out, 0) ∧ n ≤ s.length ∧ out.length ≤ 8 ∧ BI room (all ++ s.take n) had inn out x' := by
  have hr := h.right
  have hee : endS x = x.base + x.data.length := rfl
  have hdt := h.data
  have hd : ¬ (x.done = true ∨ 9007199254740992 - (s.length : Int) < endS x) := by
    rw [h.done]
    simp
    omega
  have hF := FI.start (s := s) (right_n hr) (right_x hr (i := 0) rfl) (fun h1 => hd (.inr h1))
  obtain ⟨g, he⟩ := feedX_goes hF
  have hop := feedOp0 hr (findO (room := room) h.id) rfl hd g he
  have hFe := hF.goes g
  refine ⟨_, _, _, hop, hFe.n, by have := hFe.w2; omega, BI.goes g hz (by simpa using h)⟩
end Go.Proofs.Ytipjhokhflokmaa
