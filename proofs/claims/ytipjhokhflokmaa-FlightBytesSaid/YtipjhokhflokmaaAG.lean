/- The plain law of Feed. -/
import Derived.Test.YtipjhokhflokmaaAF
set_option linter.unusedVariables false
set_option linter.unusedSimpArgs false
namespace Go.Proofs.Ytipjhokhflokmaa
open Go.RowKit Go.Maps
open Go.Proofs.YtipjhokhflokmaaW.PrintWords

theorem leastF_all (n : Int) (ws : List Tm) : ∀ t ∈ ws, leastF n ws ≤ t.at' := by
  induction ws generalizing n with
  | nil => intro t h; cases h
  | cons a r ih =>
    intro t h
    show leastF (min n a.at') r ≤ t.at'
    rcases List.mem_cons.1 h with rfl | h
    · have := leastF_le (min n t.at') r
      omega
    · exact ih _ t h
theorem leastF_ge (n m : Int) (ws : List Tm) (hn : m ≤ n) (h : ∀ t ∈ ws, m ≤ t.at') : m ≤ leastF n ws := by
  induction ws generalizing n with
  | nil => exact hn
  | cons a r ih =>
    show m ≤ leastF (min n a.at') r
    have := h a (List.mem_cons_self ..)
    exact ih _ (by omega) (fun t ht => h t (List.mem_cons_of_mem _ ht))
theorem leastF_ex (n : Int) (ws : List Tm) : leastF n ws = n ∨ ∃ t ∈ ws, leastF n ws = t.at' := by
  induction ws generalizing n with
  | nil => exact .inl rfl
  | cons a r ih =>
    have he : leastF n (a :: r) = leastF (min n a.at') r := rfl
    rcases ih (min n a.at') with h | ⟨t, ht, h⟩
    · rcases Int.le_total n a.at' with h2 | h2
      · left; omega
      · right; exact ⟨a, List.mem_cons_self .., by omega⟩
    · right
      exact ⟨t, List.mem_cons_of_mem _ ht, by omega⟩
/-- behind some bytes: the flight, how many were taken, who waits no longer -/
structure FS where
  x : Fl
  n : Nat
  out : List Int
def stepF (room : Int) (s : List UInt8) (t : FS) : Option FS :=
  match s[t.n]? with
  | none => none
  | some c => if (t.x.data.length : Int) < room then some ⟨{ t.x with data := t.x.data ++ [c] }, t.n + 1, t.out⟩
    else if (roomS t.x).2.2 = true then some ⟨(roomS t.x).1, t.n, t.out ++ (roomS t.x).2.1⟩ else none
theorem stepF_end {room : Int} {s : List UInt8} {t : FS} (h : s.length ≤ t.n) : stepF room s t = none := by unfold stepF; rw [List.getElem?_eq_none h]
theorem stepF_byte {room : Int} {s : List UInt8} {t : FS} {c : UInt8} (h : s[t.n]? = some c) (hd : (t.x.data.length : Int) < room) : stepF room s t = some ⟨{ t.x with data := t.x.data ++ [c] }, t.n + 1, t.out⟩ := by unfold stepF; rw [h]; exact if_pos hd
theorem stepF_room {room : Int} {s : List UInt8} {t : FS} (h : t.n < s.length) (hd : ¬ (t.x.data.length : Int) < room) : stepF room s t = if (roomS t.x).2.2 = true then some ⟨(roomS t.x).1, t.n, t.out ++ (roomS t.x).2.1⟩ else none := by unfold stepF; rw [List.getElem?_eq_getElem h]; exact if_neg hd
inductive Goes (room : Int) (s : List UInt8) : FS → FS → Prop where
  | refl (t : FS) : Goes room s t t
  | step {a b c : FS} (h : stepF room s a = some b) (g : Goes room s b c) : Goes room s a c
theorem Goes.trans {room : Int} {s : List UInt8} {a b c : FS} (h : Goes room s a b) (g : Goes room s b c) : Goes room s a c := by
  induction h with
  | refl => exact g
  | step h1 _ ih => exact .step h1 (ih g)
theorem Goes.snoc {room : Int} {s : List UInt8} {a b c : FS} (h : Goes room s a b) (g : stepF room s b = some c) : Goes room s a c := h.trans (.step g (.refl _))
theorem Goes.uniq {room : Int} {s : List UInt8} {a b c : FS} (h : Goes room s a b) (g : Goes room s a c) (hb : stepF room s b = none) (hc : stepF room s c = none) : b = c := by
  induction h with
  | refl =>
    cases g with
    | refl => rfl
    | step h1 _ => rw [hb] at h1; cases h1
  | step h1 _ ih =>
    cases g with
    | refl => rw [hc] at h1; cases h1
    | step h2 g2 =>
      rw [h1] at h2
      injection h2 with h2
      subst h2
      exact ih g2 hb
/-- several bytes at once -/
theorem Goes.bytes {room : Int} {s : List UInt8} {a t : FS} (g : Goes room s a t) (m : Nat) (hm : t.n + m ≤ s.length) (hr : (t.x.data.length : Int) + m ≤ room) : Goes room s a ⟨{ t.x with data := t.x.data ++ (s.drop t.n).take m }, t.n + m, t.out⟩ := by
  induction m with
  | zero =>
    simpa using g
  | succ m ih =>
    have h1 := ih (by omega) (by omega)
    have hc : s[t.n + m]? = some (s[t.n + m]'(by omega)) := List.getElem?_eq_getElem _
    have h2 := h1.snoc (stepF_byte (t := ⟨{ t.x with data := t.x.data ++ (s.drop t.n).take m }, t.n + m, t.out⟩) hc (by simp; omega))
    have he : (s.drop t.n).take (m + 1) = (s.drop t.n).take m ++ [s[t.n + m]'(by omega)] := by
      rw [List.take_succ_eq_append_getElem (by rw [List.length_drop]; omega)]
      simp
    simp only [List.append_assoc] at h2
    rw [he]
    exact h2
open Classical in
noncomputable def feedX (room : Int) (s : List UInt8) (x : Fl) : FS := if h : ∃ e, Goes room s ⟨x, 0, []⟩ e ∧ stepF room s e = none then Classical.choose h else ⟨x, 0, []⟩
theorem feedX_eq {room : Int} {s : List UInt8} {x : Fl} {e : FS} (h : Goes room s ⟨x, 0, []⟩ e) (he : stepF room s e = none) : feedX room s x = e := by
  have hex : ∃ e, Goes room s ⟨x, 0, []⟩ e ∧ stepF room s e = none := ⟨e, h, he⟩
  unfold feedX
  rw [dif_pos hex]
  exact (Classical.choose_spec hex).1.uniq h (Classical.choose_spec hex).2 he
/-- what holds while bytes come -/
structure FI (room : Int) (s : List UInt8) (t : FS) : Prop where
  n : t.n ≤ s.length
  r1 : 1 ≤ room
  r2 : room ≤ 4096
  b : 0 ≤ t.x.base
  d : (t.x.data.length : Int) ≤ room
  e : t.x.base + t.x.data.length + ((s.length : Int) - t.n) ≤ 9007199254740992
  w1 : 1 ≤ t.x.ws.length
  w2 : t.out.length + t.x.ws.length ≤ 8
  w : ∀ u ∈ t.x.ws, 0 ≤ u.id ∧ t.x.base ≤ u.at' ∧ u.at' ≤ t.x.base + t.x.data.length
theorem FI.ok {room : Int} {s : List UInt8} {t : FS} (h : FI room s t) : okN t.x := by
  have h1 := h.r2
  have h2 := h.d
  have h3 := h.e
  have h4 := h.n
  exact ⟨h.b, by omega, by omega⟩
theorem FI.bytes {room : Int} {s : List UInt8} {t : FS} (h : FI room s t) (m : Nat) (hm : t.n + m ≤ s.length) (hr : (t.x.data.length : Int) + m ≤ room) : FI room s ⟨{ t.x with data := t.x.data ++ (s.drop t.n).take m }, t.n + m, t.out⟩ := by
  have hl : (t.x.data ++ (s.drop t.n).take m).length = t.x.data.length + m := by simp; omega
  obtain ⟨h1, h2, h3, h4, h5, h6, h7, h8, h9⟩ := h
  refine ⟨hm, h2, h3, h4, ?_, ?_, h7, h8, fun u hu => ?_⟩
  · show ((t.x.data ++ (s.drop t.n).take m).length : Int) ≤ room
    rw [hl]
    omega
  · show t.x.base + ((t.x.data ++ (s.drop t.n).take m).length : Int) + ((s.length : Int) - ((t.n + m : Nat) : Int)) ≤ _
    rw [hl]
    omega
  · have := h9 u hu
    show 0 ≤ u.id ∧ t.x.base ≤ u.at' ∧ u.at' ≤ t.x.base + ((t.x.data ++ (s.drop t.n).take m).length : Int)
    rw [hl]
    omega
theorem slow_fast (x : Fl) : (slowS x).length + (fastS x).length = x.ws.length := by
  unfold slowS fastS
  induction x.ws with
  | nil => rfl
  | cons a r ih =>
    simp only [List.filter_cons]
    cases a.at' == x.base <;> simp <;> omega
theorem FI.room {room : Int} {s : List UInt8} {t : FS} (h : FI room s t) (hf : ¬ (t.x.data.length : Int) < room) (hr : (roomS t.x).2.2 = true) :
    FI room s ⟨(roomS t.x).1, t.n, t.out ++ (roomS t.x).2.1⟩ ∧ (((roomS t.x).1.ws.length = t.x.ws.length ∧ ((roomS t.x).1.data.length : Int) < room) ∨ ((roomS t.x).1.ws.length < t.x.ws.length)) := by
  obtain ⟨h1, h2, h3, h4, h5, h6, h7, h8, h9⟩ := h
  have hle := leastS_le t.x
  have hge : t.x.base ≤ leastS t.x := leastF_ge _ _ _ (by unfold endS; omega) (fun u hu => (h9 u hu).2.1)
  have hend : endS t.x = t.x.base + t.x.data.length := rfl
  by_cases hb : t.x.base < leastS t.x
  · have he : roomS t.x = (trimS t.x, [], true) := if_pos hb
    rw [he]
    have hl : (trimS t.x).data.length = t.x.data.length - (leastS t.x - t.x.base).toNat := List.length_drop ..
    have hb2 : (trimS t.x).base = leastS t.x := rfl
    have hw2 : (trimS t.x).ws = t.x.ws := rfl
    refine ⟨⟨h1, h2, h3, ?_, ?_, ?_, ?_, ?_, fun u hu => ?_⟩, .inl ⟨hw2 ▸ rfl, ?_⟩⟩
    · show 0 ≤ (trimS t.x).base
      omega
    · show ((trimS t.x).data.length : Int) ≤ room
      omega
    · show (trimS t.x).base + ((trimS t.x).data.length : Int) + ((s.length : Int) - t.n) ≤ _
      omega
    · exact h7
    · rw [hw2]
      simpa using h8
    · have h10 := h9 u hu
      have h11 := leastF_all (endS t.x) t.x.ws u hu
      have h12 : leastF (endS t.x) t.x.ws = leastS t.x := rfl
      show 0 ≤ u.id ∧ (trimS t.x).base ≤ u.at' ∧ u.at' ≤ (trimS t.x).base + ((trimS t.x).data.length : Int)
      omega
    · show ((trimS t.x).data.length : Int) < room
      omega
  · by_cases hfa : fastS t.x = []
    · exfalso
      have he : roomS t.x = (t.x, [], false) := (if_neg hb).trans (if_pos hfa)
      rw [he] at hr
      cases hr
    · have he : roomS t.x = ({ t.x with ws := fastS t.x }, (slowS t.x).map Tm.id, true) := (if_neg hb).trans (if_neg hfa)
      rw [he]
      have hsf := slow_fast t.x
      have hlb : leastS t.x = t.x.base := by omega
      have hslow : 0 < (slowS t.x).length := by
        rcases leastF_ex (endS t.x) t.x.ws with h | ⟨u, hu, h⟩
        · exfalso
          have h12 : leastF (endS t.x) t.x.ws = leastS t.x := rfl
          omega
        · have h12 : leastF (endS t.x) t.x.ws = leastS t.x := rfl
          exact List.length_pos_of_mem (a := u) (List.mem_filter.2 ⟨hu, by simp; omega⟩)
      have hfp : 0 < (fastS t.x).length := List.length_pos_iff.2 hfa
      refine ⟨⟨h1, h2, h3, h4, h5, h6, hfp, ?_, fun u hu => h9 u (List.mem_filter.1 hu).1⟩, .inr ?_⟩
      · show (t.out ++ (slowS t.x).map Tm.id).length + (fastS t.x).length ≤ 8
        rw [List.length_append, List.length_map]
        omega
      · show (fastS t.x).length < t.x.ws.length
        omega
/-- steps that are left -/
def measF (room : Int) (s : List UInt8) (t : FS) : Nat := 2 * (s.length - t.n) + 2 * t.x.ws.length + (if (t.x.data.length : Int) < room then 0 else 1)
theorem measF_bytes {room : Int} {s : List UInt8} {t : FS} {m : Nat} (hm : t.n + m ≤ s.length) (h0 : 0 < m) (hd : (t.x.data.length : Int) < room) : measF room s ⟨{ t.x with data := t.x.data ++ (s.drop t.n).take m }, t.n + m, t.out⟩ < measF room s t := by
  unfold measF
  rw [if_pos hd]
  simp only
  split <;> omega
theorem measF_room {room : Int} {s : List UInt8} {t : FS} (h : FI room s t) (hf : ¬ (t.x.data.length : Int) < room) (hr : (roomS t.x).2.2 = true) : measF room s ⟨(roomS t.x).1, t.n, t.out ++ (roomS t.x).2.1⟩ < measF room s t := by
  unfold measF
  rw [if_neg hf]
  simp only
  rcases (h.room hf hr).2 with ⟨h1, h2⟩ | h1
  · rw [if_pos h2]
    omega
  · split <;> omega
theorem FI.step {room : Int} {s : List UInt8} {t t' : FS} (h : FI room s t) (hs : stepF room s t = some t') : FI room s t' ∧ measF room s t' < measF room s t := by
  rcases Nat.lt_or_ge t.n s.length with hn | hn
  · by_cases hd : (t.x.data.length : Int) < room
    · rw [stepF_byte (List.getElem?_eq_getElem hn) hd] at hs
      injection hs with hs
      have h1 := h.bytes 1 (by omega) (by omega)
      have h2 := measF_bytes (m := 1) (by omega) (by omega) hd (s := s)
      have he : (s.drop t.n).take 1 = [s[t.n]] := by
        rw [List.drop_eq_getElem_cons hn]
        rfl
      rw [he] at h1 h2
      subst hs
      exact ⟨h1, h2⟩
    · rw [stepF_room hn hd] at hs
      by_cases hr : (roomS t.x).2.2 = true
      · rw [if_pos hr] at hs
        injection hs with hs
        subst hs
        exact ⟨(h.room hd hr).1, measF_room h hd hr⟩
      · rw [if_neg hr] at hs
        cases hs
  · rw [stepF_end hn] at hs
    cases hs
theorem FI.goes {room : Int} {s : List UInt8} {t t' : FS} (h : FI room s t) (g : Goes room s t t') : FI room s t' := by
  induction g with
  | refl => exact h
  | step h1 _ ih => exact ih (h.step h1).1
theorem FI.ends {room : Int} {s : List UInt8} (k : Nat) : ∀ {t : FS}, FI room s t → measF room s t ≤ k → ∃ e, Goes room s t e ∧ stepF room s e = none := by
  induction k with
  | zero =>
    intro t h hm
    refine ⟨t, .refl _, ?_⟩
    cases hs : stepF room s t with
    | none => rfl
    | some t' =>
      have := (h.step hs).2
      omega
  | succ k ih =>
    intro t h hm
    cases hs : stepF room s t with
    | none => exact ⟨t, .refl _, hs⟩
    | some t' =>
      have := (h.step hs).2
      obtain ⟨e, g, he⟩ := ih (h.step hs).1 (by omega)
      exact ⟨e, .step hs g, he⟩
/-- where a right flight's end comes -/
theorem feedX_goes {room : Int} {s : List UInt8} {x : Fl} (h : FI room s ⟨x, 0, []⟩) : Goes room s ⟨x, 0, []⟩ (feedX room s x) ∧ stepF room s (feedX room s x) = none := by
  obtain ⟨e, g, he⟩ := FI.ends _ h (Nat.le_refl _)
  rw [feedX_eq g he]
  exact ⟨g, he⟩
theorem FI.start {room next : Int} {fs : List Fl} {x : Fl} {s : List UInt8} (hn : ¬ badR room next fs.length) (hx : rightF room next x = true) (he : ¬ 9007199254740992 - (s.length : Int) < endS x) : FI room s ⟨x, 0, []⟩ := by
  have h1 := rightF_num hx
  unfold badF at h1
  unfold badR at hn
  unfold endS at he
  refine ⟨Nat.zero_le _, by omega, by omega, ?_, ?_, ?_, ?_, ?_, fun u hu => ?_⟩
  · show 0 ≤ x.base
    omega
  · show (x.data.length : Int) ≤ room
    omega
  · show x.base + x.data.length + ((s.length : Int) - ((0 : Nat) : Int)) ≤ _
    omega
  · show 1 ≤ x.ws.length
    omega
  · show ([] : List Int).length + x.ws.length ≤ 8
    simp
    omega
  · obtain ⟨k, hk⟩ := List.getElem?_of_mem hu
    exact right_t hx hk
noncomputable def feedOp (room next : Int) (fs : List Fl) (id : Int) (s : List UInt8) : List Fl × Int × List Int × Int :=
  if rightS room next fs = false then (fs, 0, [], 1) else if findF fs id < 0 then (fs, 0, [], 5) else
  match fs[(findF fs id).toNat]? with
  | none => (fs, 0, [], 5)
  | some x => if x.done = true ∨ 9007199254740992 - (s.length : Int) < endS x then (fs, 0, [], 1) else (fs.set (findF fs id).toNat (feedX room s x).x, (feedX room s x).n, (feedX room s x).out, 0)
theorem feedOp1 {room next : Int} {fs : List Fl} (h : rightS room next fs = false) (id : Int) (s : List UInt8) : feedOp room next fs id s = (fs, 0, [], 1) := if_pos h
theorem feedOp5 {room next : Int} {fs : List Fl} (h : rightS room next fs = true) {id : Int} (hf : findF fs id < 0) (s : List UInt8) : feedOp room next fs id s = (fs, 0, [], 5) := by unfold feedOp; rw [if_neg (by rw [h]; decide), if_pos hf]
theorem feedOpE {room next : Int} {fs : List Fl} (h : rightS room next fs = true) {id : Int} {k : Nat} {x : Fl} (hf : findF fs id = (k : Int)) (hx : fs[k]? = some x) {s : List UInt8} (hd : x.done = true ∨ 9007199254740992 - (s.length : Int) < endS x) : feedOp room next fs id s = (fs, 0, [], 1) := by
  unfold feedOp
  rw [if_neg (by rw [h]; decide), hf, if_neg (by omega), Int.toNat_natCast, hx]
  exact if_pos hd
theorem feedOp0 {room next : Int} {fs : List Fl} (h : rightS room next fs = true) {id : Int} {k : Nat} {x : Fl} (hf : findF fs id = (k : Int)) (hx : fs[k]? = some x) {s : List UInt8} (hd : ¬ (x.done = true ∨ 9007199254740992 - (s.length : Int) < endS x)) {e : FS} (g : Goes room s ⟨x, 0, []⟩ e) (he : stepF room s e = none) : feedOp room next fs id s = (fs.set k e.x, (e.n : Int), e.out, 0) := by
  unfold feedOp
  rw [if_neg (by rw [h]; decide), hf, if_neg (by omega), Int.toNat_natCast, hx]
  simp only
  rw [if_neg hd, feedX_eq g he]
/-- what Feed leaves -/
def FeedPost (w : World) (room next : Int) (r : List Fl × Int × List Int × Int) (e : Ending) (w' : World) : Prop :=
  ∃ A n c zs L l d, e = .returned (.tuple #[fv room next (.slice A n c), .int .i64 r.2.1, .slice L l d, .int .i64 r.2.2.2]) ∧ fls zs = r.1 ∧ OwF w' w.heap.size (.slice A n c) zs ∧ OwE ienc 1 3 w' w.heap.size (.slice L l d) r.2.2.1 ∧ Below w.heap.size w w'
end Go.Proofs.Ytipjhokhflokmaa
