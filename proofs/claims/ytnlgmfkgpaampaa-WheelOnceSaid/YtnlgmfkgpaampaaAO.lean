/- The plain law of WheelOnce: each timer that is set is told once, at its time, unless it was cancelled. -/
import Derived.Test.YtnlgmfkgpaampaaAI
set_option linter.unusedVariables false
set_option linter.unusedSimpArgs false
namespace Go.Proofs.Ytnlgmfkgpaampaa

theorem nodup_lt : ∀ (N : Nat) (l : List Nat), l.Nodup → (∀ x ∈ l, x < N) → l.length ≤ N
  | 0, l, _, h => by
    cases l with
    | nil => simp
    | cons a r => exact absurd (h a (by simp)) (by omega)
  | N + 1, l, hd, h => by
    have h1 := nodup_lt N (l.erase N) (hd.erase N) (fun x hx => by
      have h2 := (hd.mem_erase_iff).1 hx
      have := h x h2.2
      have := h2.1
      omega)
    by_cases hN : N ∈ l
    · rw [List.length_erase_of_mem hN] at h1
      omega
    · rw [List.erase_of_not_mem hN] at h1
      omega

theorem nodup_allT (ts : Nat → List Tm) : ∀ k, (idsOf (allT ts k)).Nodup ↔ (∀ i, i < k → (idsOf (ts i)).Nodup) ∧ ∀ i j, i < k → j < k → i ≠ j → ∀ t ∈ ts i, ∀ u ∈ ts j, t.id ≠ u.id
  | 0 => by simp [allT, idsOf]
  | k + 1 => by
    rw [allT_succ]
    have ih := nodup_allT ts k
    unfold idsOf at ih ⊢
    rw [List.map_append, List.nodup_append, ih]
    constructor
    · rintro ⟨⟨h1, h2⟩, h3, h4⟩
      refine ⟨fun i hi => ?_, fun i j hi hj hij t ht u hu => ?_⟩
      · rcases Nat.lt_or_ge i k with h | h
        · exact h1 i h
        · obtain rfl : i = k := by omega
          exact h3
      · rcases Nat.lt_or_ge i k with h | h
        · rcases Nat.lt_or_ge j k with h' | h'
          · exact h2 i j h h' hij t ht u hu
          · obtain rfl : j = k := by omega
            exact h4 _ (List.mem_map.2 ⟨t, List.mem_flatMap.2 ⟨i, List.mem_range.2 h, ht⟩, rfl⟩) _ (List.mem_map.2 ⟨u, hu, rfl⟩)
        · obtain rfl : i = k := by omega
          exact fun he => h4 _ (List.mem_map.2 ⟨u, List.mem_flatMap.2 ⟨j, List.mem_range.2 (by omega), hu⟩, rfl⟩) _ (List.mem_map.2 ⟨t, ht, rfl⟩) he.symm
    · rintro ⟨h1, h2⟩
      refine ⟨⟨fun i hi => h1 i (by omega), fun i j hi hj => h2 i j (by omega) (by omega)⟩, h1 k (by omega), fun x hx y hy => ?_⟩
      obtain ⟨t, ht, rfl⟩ := List.mem_map.1 hx
      obtain ⟨u, hu, rfl⟩ := List.mem_map.1 hy
      obtain ⟨i, hi, ht⟩ := List.mem_flatMap.1 ht
      have hi := List.mem_range.1 hi
      exact h2 i k (by omega) (by omega) (by omega) t ht u hu

structure Inv (k : Nat) (nw : Int) (ts : Nat → List Tm) (due' : Nat → Int) : Prop where
  right : RightW nw ts
  n : nw ≤ k
  id : ∀ i, i < 8 → ∀ t ∈ ts i, t.id < 16 ∧ due' t.id.toNat = t.at'
  has : ∀ j : Nat, j < 16 → 0 < due' j → ∃ i, i < 8 ∧ ∃ t ∈ ts i, t.id = (j : Int)
  pos : ∀ j, 0 ≤ due' j

theorem Inv.more {k m : Nat} {nw : Int} {ts : Nat → List Tm} {d : Nat → Int} (h : Inv k nw ts d) (hm : k ≤ m) : Inv m nw ts d := ⟨h.right, by have := h.n; omega, h.id, h.has, h.pos⟩
theorem Inv.start : Inv 0 0 (fun _ => []) (fun _ => 0) :=
  ⟨⟨by omega, by decide, by simp, by decide⟩, by omega, by simp, by simp, by simp⟩
theorem mem_all8 {ts : Nat → List Tm} {t : Tm} : t ∈ allT ts 8 ↔ ∃ i, i < 8 ∧ t ∈ ts i := by
  unfold allT
  rw [List.mem_flatMap]
  simp
theorem allT_cnt (ts : Nat → List Tm) : (allT ts 8).length = cnt ts := allT_len (n := fun i => (ts i).length) (fun _ _ => rfl) 8 (Nat.le_refl _)
theorem Inv.len {k : Nat} {nw : Int} {ts : Nat → List Tm} {d : Nat → Int} (h : Inv k nw ts d) : (allT ts 8).length ≤ 16 := by
  have hd := h.right.2.2.2
  have h1 : ((idsOf (allT ts 8)).map Int.toNat).Nodup := by
    rw [List.nodup_iff_pairwise_ne, List.pairwise_map]
    rw [List.nodup_iff_pairwise_ne] at hd
    refine List.Pairwise.imp_of_mem (fun {a b} ha hb hab he => ?_) hd
    obtain ⟨t, ht, rfl⟩ := List.mem_map.1 ha
    obtain ⟨u, hu, rfl⟩ := List.mem_map.1 hb
    obtain ⟨i, hi, ht⟩ := mem_all8.1 ht
    obtain ⟨j, hj, hu⟩ := mem_all8.1 hu
    have := (h.right.2.2.1 i hi t ht).1
    have := (h.right.2.2.1 j hj u hu).1
    omega
  have := nodup_lt 16 _ h1 (fun x hx => by
    obtain ⟨y, hy, rfl⟩ := List.mem_map.1 hx
    obtain ⟨t, ht, rfl⟩ := List.mem_map.1 hy
    obtain ⟨i, hi, ht⟩ := mem_all8.1 ht
    have := (h.right.2.2.1 i hi t ht).1
    have := (h.id i hi t ht).1
    omega)
  simpa [idsOf] using this

/-- is a timer of this id there? -/
theorem Inv.is {k : Nat} {nw : Int} {ts : Nat → List Tm} {d : Nat → Int} (h : Inv k nw ts d) {j : Nat} (hj : j < 16) : 0 < d j ↔ ∃ t ∈ allT ts 8, t.id = (j : Int) := by
  constructor
  · intro hp
    obtain ⟨i, hi, t, ht, hid⟩ := h.has j hj hp
    exact ⟨t, mem_all8.2 ⟨i, hi, ht⟩, hid⟩
  · rintro ⟨t, ht, hid⟩
    obtain ⟨i, hi, ht⟩ := mem_all8.1 ht
    have h1 := (h.id i hi t ht).2
    have h2 := h.right.2.2.1 i hi t ht
    have h0 := h.right.1.1
    rw [hid, Int.toNat_natCast] at h1
    have := h2.2.1
    omega

theorem Inv.set {k : Nat} {nw : Int} {ts : Nat → List Tm} {d : Nat → Int} (h : Inv k nw ts d) (hk : k ≤ 100) {j m : Nat} (hj : j < 16) (hm : m < 19) :
    (d j ≤ 0 → setE nw ts j (nw + 1 + m) = 0 ∧ Inv (k + 1) nw (setT nw ts j (nw + 1 + m)) (upd d j (nw + 1 + m))) ∧ (0 < d j → setE nw ts j (nw + 1 + m) = 6 ∧ setT nw ts j (nw + 1 + m) = ts) := by
  have hn0 := h.right.1.1
  have hnk := h.n
  have hg : RightW nw ts ∧ 0 ≤ (j : Int) ∧ nw < nw + 1 + m ∧ nw + 1 + m ≤ 9007199254740992 := ⟨h.right, by omega, by omega, by omega⟩
  constructor
  · intro h0
    have hno : ¬ ∃ t ∈ allT ts 8, t.id = (j : Int) := fun he => by have := (h.is hj).2 he; omega
    have hln := h.len
    obtain ⟨e1, e2⟩ := setE_ok hg hno (by omega)
    refine ⟨e1, ?_⟩
    rw [e2]
    obtain ⟨s, hs⟩ : ∃ s, (nw + 1 + (m : Int)).toNat % 8 = s := ⟨_, rfl⟩
    have hs8 : s < 8 := by rw [← hs]; exact Nat.mod_lt _ (by omega)
    rw [hs]
    have hok : okT nw s ⟨j, nw + 1 + m⟩ := ⟨by simp only; omega, by simp only; omega, by simp only; omega, by
      show (nw + 1 + (m : Int)).tmod 8 = (s : Int)
      rw [Int.tmod_eq_emod_of_nonneg (by omega)]
      omega⟩
    have hnd := (nodup_allT ts 8).1 h.right.2.2.2
    have hmem : ∀ i, i < 8 → ∀ t, t ∈ upd ts s (ts s ++ [⟨j, nw + 1 + m⟩]) i ↔ t ∈ ts i ∨ (i = s ∧ t = ⟨j, nw + 1 + m⟩) := by
      intro i hi t
      by_cases his : i = s
      · subst his
        rw [upd_at, List.mem_append, List.mem_singleton]
        simp
      · rw [upd_ne _ _ his]
        simp [his]
    have hnotin : ∀ i, i < 8 → ∀ t ∈ ts i, t.id ≠ (j : Int) := fun i hi t ht he => hno ⟨t, mem_all8.2 ⟨i, hi, ht⟩, he⟩
    refine ⟨⟨h.right.1, ?_, ?_, (nodup_allT _ 8).2 ⟨fun i hi => ?_, fun i i' hi hi' hij t ht u hu => ?_⟩⟩, by omega, fun i hi t ht => ?_, fun q hq hp => ?_, fun q => ?_⟩
    · rw [allT_cnt] at hln ⊢
      have hc := cnt_upd (ts := ts) (i := s) (us := ts s ++ [⟨j, nw + 1 + m⟩]) hs8
      rw [List.length_append] at hc
      simp only [List.length_cons, List.length_nil] at hc
      omega
    · intro i hi t ht
      rcases (hmem i hi t).1 ht with ht | ⟨rfl, rfl⟩
      · exact h.right.2.2.1 i hi t ht
      · exact hok
    · by_cases his : i = s
      · subst his
        rw [upd_at, idsOf_app, List.nodup_append]
        refine ⟨hnd.1 i hi, by simp [idsOf], fun x hx y hy => ?_⟩
        obtain ⟨t, ht, rfl⟩ := List.mem_map.1 hx
        simp [idsOf] at hy
        subst hy
        exact hnotin i hi t ht
      · rw [upd_ne _ _ his]
        exact hnd.1 i hi
    · rcases (hmem i hi t).1 ht with ht1 | ⟨his, htj⟩
      · rcases (hmem i' hi' u).1 hu with hu1 | ⟨his', huj⟩
        · exact hnd.2 i i' hi hi' hij t ht1 u hu1
        · rw [huj]
          exact hnotin i hi t ht1
      · rcases (hmem i' hi' u).1 hu with hu1 | ⟨his', huj⟩
        · rw [htj]
          exact fun he => hnotin i' hi' u hu1 he.symm
        · exact absurd (his.trans his'.symm) hij
    · rcases (hmem i hi t).1 ht with ht | ⟨rfl, rfl⟩
      · obtain ⟨h1, h2⟩ := h.id i hi t ht
        have h3 := hnotin i hi t ht
        have h4 := (h.right.2.2.1 i hi t ht).1
        exact ⟨h1, by rw [upd_ne _ _ (by omega)]; exact h2⟩
      · exact ⟨by simp only; omega, by simp [upd_at]⟩
    · by_cases hqj : q = j
      · subst hqj
        exact ⟨s, hs8, _, (hmem s hs8 _).2 (.inr ⟨rfl, rfl⟩), rfl⟩
      · rw [upd_ne _ _ hqj] at hp
        obtain ⟨i, hi, t, ht, hid⟩ := h.has q hq hp
        exact ⟨i, hi, t, (hmem i hi t).2 (.inl ht), hid⟩
    · by_cases hqj : q = j
      · subst hqj
        rw [upd_at]
        omega
      · rw [upd_ne _ _ hqj]
        exact h.pos q
  · intro hp
    exact setE_busy hg ((h.is hj).1 hp)

theorem find_has {ts : Nat → List Tm} {id : Int} (h : ∃ t ∈ allT ts 8, t.id = id) : ∃ (i k : Nat) (t : Tm), FindIs ts id i k ∧ i < 8 ∧ (ts i)[k]? = some t ∧ t.id = id := by
  have hex : ∃ i, i < 8 ∧ ∃ t ∈ ts i, t.id = id := by
    obtain ⟨t, ht, hid⟩ := h
    obtain ⟨i, hi, ht⟩ := mem_all8.1 ht
    exact ⟨i, hi, t, ht, hid⟩
  obtain ⟨i, ⟨hi, t, ht, hid⟩, hmin⟩ : ∃ i, (i < 8 ∧ ∃ t ∈ ts i, t.id = id) ∧ ∀ i', i' < i → ¬ (i' < 8 ∧ ∃ t ∈ ts i', t.id = id) := by
    obtain ⟨i0, h0⟩ := hex
    induction i0 using Nat.strongRecOn with
    | _ i0 ih =>
      by_cases hx : ∃ i', i' < i0 ∧ (i' < 8 ∧ ∃ t ∈ ts i', t.id = id)
      · obtain ⟨i', hlt, h'⟩ := hx
        exact ih i' hlt h'
      · exact ⟨i0, h0, fun i' hlt h' => hx ⟨i', hlt, h'⟩⟩
  obtain ⟨k0, hk0, rfl⟩ := List.getElem_of_mem ht
  obtain ⟨k, ⟨x, hx, hxid⟩, hkmin⟩ : ∃ k : Nat, (∃ x : Tm, (ts i)[k]? = some x ∧ x.id = id) ∧ ∀ k' : Nat, k' < k → ¬ ∃ x : Tm, (ts i)[k']? = some x ∧ x.id = id := by
    have h0 : ∃ x : Tm, (ts i)[k0]? = some x ∧ x.id = id := ⟨_, List.getElem?_eq_getElem hk0, hid⟩
    clear hid hk0 ht
    induction k0 using Nat.strongRecOn with
    | _ k0 ih =>
      by_cases hx : ∃ k' : Nat, k' < k0 ∧ ∃ x : Tm, (ts i)[k']? = some x ∧ x.id = id
      · obtain ⟨k', hlt, h'⟩ := hx
        exact ih k' hlt h'
      · exact ⟨k0, h0, fun k' hlt h' => hx ⟨k', hlt, h'⟩⟩
  exact ⟨i, k, x, .inr ⟨i, k, x, rfl, rfl, hi, hx, hxid, fun j y hj hy he => hkmin j hj ⟨y, hy, he⟩, fun i' hi' t ht he => hmin i' hi' ⟨by omega, t, ht, he⟩⟩, hi, hx, hxid⟩

/-- what stays of a wheel of which some are taken away -/
theorem RightW.sub {nw : Int} {ts us : Nat → List Tm} (h : RightW nw ts) (hs : ∀ i, i < 8 → (us i).Sublist (ts i)) : RightW nw us := by
  obtain ⟨h1, h2, h3, h4⟩ := h
  have hnd := (nodup_allT ts 8).1 h4
  refine ⟨h1, ?_, fun i hi t ht => h3 i hi t ((hs i hi).subset ht), (nodup_allT us 8).2 ⟨fun i hi => (hnd.1 i hi).sublist ((hs i hi).map _), fun i j hi hj hij t ht u hu => hnd.2 i j hi hj hij t ((hs i hi).subset ht) u ((hs j hj).subset hu)⟩⟩
  rw [allT_cnt] at h2 ⊢
  unfold cnt at h2 ⊢
  have hle : ∀ k, k ≤ 8 → tot (fun i => (us i).length) k ≤ tot (fun i => (ts i).length) k := by
    intro k
    induction k with
    | zero => intro _; exact Nat.le_refl _
    | succ k ih =>
      intro hk
      simp only [tot]
      have := ih (by omega)
      have := (hs k (by omega)).length_le
      omega
  have := hle 8 (Nat.le_refl _)
  omega

theorem Inv.cancel {k : Nat} {nw : Int} {ts : Nat → List Tm} {d : Nat → Int} (h : Inv k nw ts d) {j : Nat} (hj : j < 16) :
    ((canE nw ts j = 0 ∧ 0 < d j) ∨ (canE nw ts j = 5 ∧ d j ≤ 0)) ∧ Inv (k + 1) nw (canT nw ts j) (upd d j 0) := by
  by_cases hp : 0 < d j
  · obtain ⟨i, q, t, hf, hi, hq, hid⟩ := find_has ((h.is hj).1 hp)
    obtain ⟨e1, e2⟩ := canE_ok h.right hf
    refine ⟨.inl ⟨e1, hp⟩, ?_⟩
    rw [e2]
    obtain ⟨hql, hqe⟩ := List.getElem?_eq_some_iff.1 hq
    have hsp : ts i = (ts i).take q ++ t :: (ts i).drop (q + 1) := by
      conv => lhs; rw [← List.take_append_drop q (ts i)]
      rw [List.drop_eq_getElem_cons hql, hqe]
    have hsub : ∀ i', i' < 8 → (upd ts i ((ts i).take q ++ (ts i).drop (q + 1)) i').Sublist (ts i') := by
      intro i' hi'
      by_cases he : i' = i
      · subst he
        rw [upd_at]
        conv => rhs; rw [hsp]
        exact (List.Sublist.refl _).append (List.sublist_cons_self _ _)
      · rw [upd_ne _ _ he]
        exact List.Sublist.refl _
    have hnd := (nodup_allT ts 8).1 h.right.2.2.2
    have hgone : ∀ i', i' < 8 → ∀ u ∈ upd ts i ((ts i).take q ++ (ts i).drop (q + 1)) i', u.id ≠ (j : Int) := by
      intro i' hi' u hu
      by_cases he : i' = i
      · subst he
        rw [upd_at] at hu
        have h1 := hnd.1 i' hi'
        rw [hsp] at h1
        unfold idsOf at h1
        rw [List.map_append, List.map_cons, List.nodup_append, List.nodup_cons] at h1
        obtain ⟨_, ⟨hn, _⟩, hx⟩ := h1
        rcases List.mem_append.1 hu with hu | hu
        · intro he
          exact hx u.id (List.mem_map.2 ⟨u, hu, rfl⟩) t.id (by simp) (by rw [he, hid])
        · intro he
          exact hn (List.mem_map.2 ⟨u, hu, by rw [he, hid]⟩)
      · rw [upd_ne _ _ he] at hu
        intro hx
        exact hnd.2 i' i hi' hi he u hu t (by rw [← hqe]; exact List.getElem_mem hql) (by rw [hx, hid])
    have hin : ∀ i', i' < 8 → ∀ u ∈ ts i', u.id ≠ (j : Int) → u ∈ upd ts i ((ts i).take q ++ (ts i).drop (q + 1)) i' := by
      intro i' hi' u hu hne
      by_cases he : i' = i
      · subst he
        rw [upd_at]
        rw [hsp] at hu
        rcases List.mem_append.1 hu with hu | hu
        · exact List.mem_append_left _ hu
        · rcases List.mem_cons.1 hu with rfl | hu
          · exact absurd hid hne
          · exact List.mem_append_right _ hu
      · rw [upd_ne _ _ he]
        exact hu
    refine ⟨h.right.sub hsub, by have := h.n; omega, fun i' hi' u hu => ?_, fun q' hq' hp' => ?_, fun q' => ?_⟩
    · obtain ⟨h1, h2⟩ := h.id i' hi' u ((hsub i' hi').subset hu)
      have h3 := hgone i' hi' u hu
      have h4 := (h.right.2.2.1 i' hi' u ((hsub i' hi').subset hu)).1
      exact ⟨h1, by rw [upd_ne _ _ (by omega)]; exact h2⟩
    · by_cases hqj : q' = j
      · subst hqj
        rw [upd_at] at hp'
        omega
      · rw [upd_ne _ _ hqj] at hp'
        obtain ⟨i', hi', u, hu, huid⟩ := h.has q' hq' hp'
        exact ⟨i', hi', u, hin i' hi' u hu (by omega), huid⟩
    · by_cases hqj : q' = j
      · subst hqj
        rw [upd_at]
        omega
      · rw [upd_ne _ _ hqj]
        exact h.pos q'
  · have hno : ∀ i, i < 8 → ∀ t ∈ ts i, t.id ≠ (j : Int) := fun i hi t ht he => hp ((h.is hj).2 ⟨t, mem_all8.2 ⟨i, hi, ht⟩, he⟩)
    obtain ⟨e1, e2⟩ := canE_none (id := (j : Int)) h.right (.inl ⟨rfl, rfl, hno⟩) (by omega)
    have hd : upd d j 0 = d := by
      funext q
      by_cases hq : q = j
      · subst hq
        rw [upd_at]
        have := h.pos q
        omega
      · rw [upd_ne _ _ hq]
    refine ⟨.inr ⟨e1, by omega⟩, ?_⟩
    rw [e2, hd]
    exact h.more (by omega)

/-- what was told is struck -/
def struck (d : Nat → Int) (fs : List Int) : Nat → Int := fun j => if (j : Int) ∈ fs then 0 else d j
theorem struck_nil (d : Nat → Int) : struck d [] = d := by funext j; simp [struck]
theorem struck_snoc {d : Nat → Int} {fs : List Int} {x : Nat} : struck d (fs ++ [(x : Int)]) = upd (struck d fs) x 0 := by
  funext j
  by_cases hj : j = x
  · subst hj
    rw [upd_at]
    simp [struck]
  · rw [upd_ne _ _ hj]
    simp [struck]
    by_cases hm : (j : Int) ∈ fs
    · simp [hm]
    · simp only [hm, false_or, if_false]
      rw [if_neg (by omega)]

theorem Inv.tick {k : Nat} {nw : Int} {ts : Nat → List Tm} {d : Nat → Int} (h : Inv k nw ts d) (hk : k ≤ 100) :
    tickE nw ts = 0 ∧ tickN nw ts = nw + 1 ∧ Inv (k + 1) (nw + 1) (tickT nw ts) (struck d (tickF nw ts)) ∧ (tickF nw ts).length ≤ 64 ∧
    (∀ q x, (tickF nw ts)[q]? = some x → 0 ≤ x ∧ x < 16 ∧ struck d ((tickF nw ts).take q) x.toNat = nw + 1) ∧
    (∀ j : Nat, j < 16 → 0 < struck d (tickF nw ts) j → nw + 1 < struck d (tickF nw ts) j) := by
  have hn0 := h.right.1.1
  have hnk := h.n
  obtain ⟨s, hs⟩ : ∃ s, (nw + 1).toNat % 8 = s := ⟨_, rfl⟩
  have hs8 : s < 8 := by rw [← hs]; exact Nat.mod_lt _ (by omega)
  obtain ⟨e1, e2, e3, e4⟩ := tick_ok h.right (by omega) hs
  rw [e3, e4]
  have hnd := (nodup_allT ts 8).1 h.right.2.2.2
  have hfn : (((ts s).filter (due nw)).map Tm.id).Nodup := (hnd.1 s hs8).sublist (List.filter_sublist.map _)
  have hfm : ∀ x ∈ ((ts s).filter (due nw)).map Tm.id, ∃ t ∈ ts s, t.id = x ∧ t.at' = nw + 1 := by
    intro x hx
    obtain ⟨t, ht, rfl⟩ := List.mem_map.1 hx
    obtain ⟨h1, h2⟩ := List.mem_filter.1 ht
    exact ⟨t, h1, rfl, by simpa [due] using h2⟩
  have hsub : ∀ i, i < 8 → (upd ts s ((ts s).filter (fun t => !due nw t)) i).Sublist (ts i) := by
    intro i hi
    by_cases he : i = s
    · subst he
      rw [upd_at]
      exact List.filter_sublist
    · rw [upd_ne _ _ he]
      exact List.Sublist.refl _
  have hdue : ∀ i, i < 8 → ∀ t ∈ ts i, t.at' = nw + 1 → i = s := by
    intro i hi t ht he
    have := (h.right.2.2.1 i hi t ht).2.2.2
    rw [he, Int.tmod_eq_emod_of_nonneg (by omega)] at this
    omega
  have hnew : ∀ i, i < 8 → ∀ t ∈ upd ts s ((ts s).filter (fun t => !due nw t)) i, t.at' ≠ nw + 1 := by
    intro i hi t ht he
    have := hdue i hi t ((hsub i hi).subset ht) he
    subst this
    rw [upd_at] at ht
    have := (List.mem_filter.1 ht).2
    simp [due, he] at this
  have hin : ∀ i, i < 8 → ∀ t ∈ ts i, t.at' ≠ nw + 1 → t ∈ upd ts s ((ts s).filter (fun t => !due nw t)) i := by
    intro i hi t ht hne
    by_cases he : i = s
    · subst he
      rw [upd_at]
      exact List.mem_filter.2 ⟨ht, by simp [due, hne]⟩
    · rw [upd_ne _ _ he]
      exact ht
  have hout : ∀ i, i < 8 → ∀ t ∈ upd ts s ((ts s).filter (fun t => !due nw t)) i, t.id ∉ ((ts s).filter (due nw)).map Tm.id := by
    intro i hi t ht hx
    obtain ⟨u, hu, huid, huat⟩ := hfm _ hx
    have ht' := (hsub i hi).subset ht
    have h1 := (h.id i hi t ht').2
    have h2 := (h.id s hs8 u hu).2
    rw [huid, h1] at h2
    exact hnew i hi t ht (by omega)
  refine ⟨e1, e2, ⟨?_, by omega, fun i hi t ht => ?_, fun j hj hp => ?_, fun j => ?_⟩, ?_, fun q x hq => ?_, fun j hj hp => ?_⟩
  · obtain ⟨g1, g2, g3, g4⟩ := h.right.sub hsub
    refine ⟨by omega, g2, fun i hi t ht => ?_, g4⟩
    obtain ⟨a1, a2, a3, a4⟩ := g3 i hi t ht
    have := hnew i hi t ht
    exact ⟨a1, by omega, a3, a4⟩
  · have ht' := (hsub i hi).subset ht
    obtain ⟨h1, h2⟩ := h.id i hi t ht'
    have h3 := (h.right.2.2.1 i hi t ht').1
    have h4 := hout i hi t ht
    refine ⟨h1, ?_⟩
    unfold struck
    rw [if_neg (by rwa [Int.toNat_of_nonneg h3])]
    exact h2
  · unfold struck at hp
    split at hp
    · omega
    · rename_i hno
      obtain ⟨i, hi, t, ht, hid⟩ := h.has j hj hp
      refine ⟨i, hi, t, hin i hi t ht fun he => hno ?_, hid⟩
      have := hdue i hi t ht he
      subst this
      exact List.mem_map.2 ⟨t, List.mem_filter.2 ⟨ht, by simp [due, he]⟩, hid⟩
  · unfold struck
    split
    · exact Int.le_refl _
    · exact h.pos j
  · rw [List.length_map]
    have h1 := List.length_filter_le (due nw) (ts s)
    have h2 := h.right.2.1
    rw [allT_cnt] at h2
    unfold cnt at h2
    have : tot (fun i => (ts i).length) s + (ts s).length ≤ tot (fun i => (ts i).length) 8 := tot_mono _ (show s + 1 ≤ 8 by omega)
    omega
  · obtain ⟨hql, hqe⟩ := List.getElem?_eq_some_iff.1 hq
    obtain ⟨t, ht, hid, hat⟩ := hfm x (hqe ▸ List.getElem_mem hql)
    obtain ⟨h1, h2⟩ := h.id s hs8 t ht
    have h3 := (h.right.2.2.1 s hs8 t ht).1
    refine ⟨by omega, by omega, ?_⟩
    unfold struck
    rw [if_neg, ← hid, h2, hat]
    rw [Int.toNat_of_nonneg (by omega)]
    intro hm
    obtain ⟨p, hp, hpe⟩ := List.getElem_of_mem hm
    rw [List.length_take] at hp
    rw [List.getElem_take] at hpe
    have := (List.getElem_inj (i := p) (j := q) (h₀ := by omega) (h₁ := hql) hfn).1 (by rw [hpe, hqe])
    omega
  · unfold struck at hp ⊢
    split at hp
    · omega
    · rename_i hno
      rw [if_neg hno]
      obtain ⟨i, hi, t, ht, hid⟩ := h.has j hj hp
      obtain ⟨h1, h2⟩ := h.id i hi t ht
      rw [hid, Int.toNat_natCast] at h2
      have h3 := (h.right.2.2.1 i hi t ht).2.1
      have : t.at' ≠ nw + 1 := fun he => hno (by
        have := hdue i hi t ht he
        subst this
        exact List.mem_map.2 ⟨t, List.mem_filter.2 ⟨ht, by simp [due, he]⟩, hid⟩)
      omega
end Go.Proofs.Ytnlgmfkgpaampaa
