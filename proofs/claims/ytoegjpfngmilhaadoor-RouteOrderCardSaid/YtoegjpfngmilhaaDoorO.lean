/- target.Normal. -/
import Derived.Test.YtoegjpfngmilhaaDoorN
set_option linter.unusedVariables false
set_option linter.unusedSimpArgs false
namespace Go.Proofs.YtoegjpfngmilhaaDoor
open Go.RowKit Go.Lib
open Go.Proofs.YtoegjpfngmilhaaDoorW.PrintWords

def cutQ (l : List UInt8) : List UInt8 × List UInt8 := (l.takeWhile (· != 63), l.dropWhile (· != 63))
theorem cutQ_app (l : List UInt8) : (cutQ l).1 ++ (cutQ l).2 = l := List.takeWhile_append_dropWhile
theorem cutQ_none {l : List UInt8} (h : (63 : UInt8) ∉ l) : cutQ l = (l, []) := by
  have h1 : ∀ x ∈ l, (x != 63) = true := fun x hx => by
    rw [bne_iff_ne]
    rintro rfl
    exact h hx
  have h2 := List.takeWhile_append_of_pos (l₂ := []) h1
  have h3 := List.dropWhile_append_of_pos (l₂ := []) h1
  simp only [List.append_nil, List.takeWhile_nil, List.dropWhile_nil] at h2 h3
  unfold cutQ
  rw [h2, h3]
theorem cutQ_some {a : List UInt8} (h : (63 : UInt8) ∉ a) (r : List UInt8) : cutQ (a ++ 63 :: r) = (a, 63 :: r) := by
  have h1 : ∀ x ∈ a, (x != 63) = true := fun x hx => by
    rw [bne_iff_ne]
    rintro rfl
    exact h hx
  unfold cutQ
  rw [List.takeWhile_append_of_pos h1, List.dropWhile_append_of_pos h1]
  simp
def joinS (xs : List (List UInt8)) : List UInt8 := xs.flatMap (fun s => 47 :: s)
/-- a target's normal form: path, query, error -/
def normS (l : List UInt8) : List UInt8 × List UInt8 × Nat :=
  if 200 < l.length then ([], [], 2) else
  match plainS (cutQ l).1 with
  | none => ([], [], 40)
  | some r => if r.head? = some 47 ∧ mayB (cutQ l).2 = true then (joinS (keptS (pieces 47 r.tail)), (cutQ l).2, 0) else ([], [], 40)
theorem plainR_S (l : List UInt8) : (∃ q, plainR l = (q, true) ∧ plainS l = some q) ∨ (∃ q, plainR l = (q, false) ∧ plainS l = none) := by
  rw [plain_of_raw]
  unfold plainR
  cases rawS l with
  | none => exact .inr ⟨_, rfl, rfl⟩
  | some r =>
    cases h : mayB r with
    | true => exact .inl ⟨r, by simp [h]⟩
    | false => exact .inr ⟨r, by simp [h]⟩
/-- where the query begins -/
theorem cutQ_at (l : List UInt8) : ∃ p qy, cutQ l = (p, qy) ∧ l = p ++ qy ∧ ((indexByte l 63 = -1 ∧ p.length = l.length) ∨ indexByte l 63 = (p.length : Int)) := by
  rcases index1 63 l with ⟨h, hi⟩ | ⟨a, r, rfl, h, hi⟩
  · exact ⟨l, [], cutQ_none h, by simp, .inl ⟨hi, rfl⟩⟩
  · exact ⟨a, 63 :: r, cutQ_some h r, rfl, .inr hi⟩
theorem prefix1 (q : List UInt8) : Lib.hasPrefix q [47] = decide (q.head? = some 47) := by
  cases q with
  | nil => rfl
  | cons c r =>
    by_cases h : c = 47
    · subst h
      rfl
    · have h' : ¬ (47 : UInt8) = c := fun e => h e.symm
      simp [Lib.hasPrefix, List.isPrefixOf, h, h']

/-- the loop over the segments -/
structure Nb (w wr : World) (b8 : Nat) (v : Value) (segs : List (List UInt8)) (i : Nat) : Prop where
  pm : Pm w wr b8 (joinS (segs.take i))
  ow : Ow 9 wr (b8 + 1) v (strs segs)
theorem Nb.at_ {w wr : World} {b8 i n c : Nat} {A : Option Addr} {segs : List (List UInt8)} (h : Nb w wr b8 (.slice A n c) segs i) (hi : i < segs.length) : ∃ ad, A = some ad ∧ wr.cell? (ad.add i) = some (str segs[i]) := by
  have hr := h.ow.rd
  have hl := hr.len
  rw [strs_len] at hl
  obtain ⟨b, off, rfl, hb, hc⟩ := hr.get (by omega)
  exact ⟨_, rfl, by rw [add_at]; exact hc i _ (by simp [strs, hi])⟩
theorem joinS_take {segs : List (List UInt8)} {i : Nat} (hi : i < segs.length) : joinS (segs.take (i + 1)) = joinS (segs.take i) ++ 47 :: segs[i] := by
  unfold joinS
  rw [List.take_succ_eq_append_getElem hi, List.flatMap_append]
  simp
theorem joinS_app (xs ys : List (List UInt8)) : joinS (xs ++ ys) = joinS xs ++ joinS ys := by simp [joinS]
theorem joinS_one (x : List UInt8) : joinS [x] = 47 :: x := by simp [joinS]
theorem joinS_cons (x : List UInt8) (xs : List (List UInt8)) : joinS (x :: xs) = 47 :: x ++ joinS xs := by simp [joinS]
theorem joinS_pieces (l : List UInt8) : joinS (pieces 47 l) = 47 :: l := by
  induction l with
  | nil => rfl
  | cons x r ih =>
    by_cases h : x = 47
    · subst h
      unfold pieces
      rw [if_pos rfl, joinS_cons, ih]
      rfl
    · rw [pieces_cons h]
      cases hp : pieces 47 r with
      | nil => exact absurd hp (pieces_ne 47 r)
      | cons p ps =>
        rw [hp, joinS_cons] at ih
        simp only [List.cons_append, List.cons.injEq, true_and] at ih
        simp only [joinS_cons, List.cons_append, ih]
theorem joinS_drop (out : List (List UInt8)) : (joinS out.dropLast).length ≤ (joinS out).length := by
  rcases List.eq_nil_or_concat out with rfl | ⟨a, b, rfl⟩
  · simp
  · simp [joinS_app]
theorem joinS_fold (xs : List (List UInt8)) : ∀ out, (joinS (xs.foldl stepK out)).length ≤ (joinS out).length + (joinS xs).length := by
  induction xs with
  | nil => simp [joinS]
  | cons x xs ih =>
    intro out
    have h1 := ih (stepK out x)
    have h2 : (joinS (stepK out x)).length ≤ (joinS out).length + (47 :: x).length := by
      unfold stepK
      split
      · have := joinS_drop out; omega
      · split
        · omega
        · rw [joinS_app, joinS_one, List.length_append]
          exact Nat.le_refl _
    rw [List.foldl_cons, joinS_cons, List.length_append]
    omega
theorem joinS_keptX {xs : List (List UInt8)} (hne : xs ≠ []) : (joinS (keptS xs)).length ≤ (joinS xs).length := by
  obtain ⟨pre, x, rfl⟩ : ∃ pre x, xs = pre ++ [x] := by
    rcases List.eq_nil_or_concat xs with rfl | ⟨a, b, rfl⟩
    · exact absurd rfl hne
    · exact ⟨a, b, by simp⟩
  have h1 := joinS_fold pre []
  have hj : (joinS ([] : List (List UInt8))).length = 0 := rfl
  have h3 := joinS_fold (pre ++ [x]) []
  unfold keptS
  split
  · rename_i hd
    have hx : (pre ++ [x]).getLastD [] = x := by simp
    rw [hx] at hd
    have hs : (joinS (foldK (pre ++ [x]))).length ≤ (joinS (foldK pre)).length := by
      rw [foldK_snoc]
      unfold stepK
      have : x = [46] ∨ x = [46, 46] := by simpa [dotB] using hd
      rcases this with rfl | rfl
      · simp
      · exact joinS_drop _
    rw [joinS_app, joinS_app, joinS_one, joinS_one, List.length_append, List.length_append]
    have : (joinS (foldK pre)).length ≤ (joinS pre).length := by
      have : foldK pre = pre.foldl stepK [] := rfl
      rw [this]
      omega
    simp only [List.length_cons, List.length_nil]
    omega
  · have : foldK (pre ++ [x]) = (pre ++ [x]).foldl stepK [] := rfl
    rw [this]
    omega
theorem joinS_kept (l : List UInt8) : (joinS (keptS (pieces 47 l))).length ≤ l.length + 1 := by
  have := joinS_keptX (pieces_ne 47 l)
  rw [joinS_pieces] at this
  simpa using this
theorem plainS_len : ∀ (n : Nat) (l q : List UInt8), l.length ≤ n → plainS l = some q → q.length ≤ l.length := by
  intro n
  induction n with
  | zero =>
    intro l q hl h
    obtain rfl : l = [] := List.eq_nil_of_length_eq_zero (by omega)
    rw [plainS_nil] at h
    injection h with h
    subst h
    simp
  | succ n ih =>
    intro l q hl h
    cases l with
    | nil =>
      rw [plainS_nil] at h
      injection h with h
      subst h
      simp
    | cons c r =>
      simp only [List.length_cons] at hl
      by_cases h37 : c = 37
      · subst h37
        rw [plainS_esc] at h
        by_cases he : esc r = 0
        · rw [if_pos he] at h
          cases h
        · rw [if_neg he] at h
          obtain ⟨q', hq', rfl⟩ := Option.map_eq_some_iff.1 h
          have h2 := esc_two he
          have h3 := ih (r.drop 2) q' (by rw [List.length_drop]; omega) hq'
          have hu := (unit_ok ⟨esc r, esc_lt r⟩).2.1
          simp only at hu
          rw [List.length_drop] at h3
          rw [List.length_append, List.length_cons]
          omega
      · rw [plainS_cons h37] at h
        by_cases hk : okC c = true
        · rw [if_pos hk] at h
          obtain ⟨q', hq', rfl⟩ := Option.map_eq_some_iff.1 h
          have h3 := ih r q' (by omega) hq'
          simp only [List.length_cons]
          omega
        · rw [if_neg hk] at h
          cases h
theorem nb_step {w wr : World} {b8 i : Nat} {v : Value} {segs : List (List UInt8)} (h : Nb w wr b8 v segs i) (hi : i < segs.length) (hl : (joinS segs).length ≤ 1000000) :
    Calls Tryd.prog 31 #[.pointer (some ⟨b8, 0, none⟩), str (47 :: segs[i])] wr fun e w' => e = .returned (.tuple #[.int .i64 ((47 :: segs[i]).length : Nat), .nilIface]) ∧ Nb w w' b8 v segs (i + 1) := by
  have hj := joinS_take hi
  have hjl : (joinS (segs.take (i + 1))).length ≤ (joinS segs).length := by
    conv => rhs; rw [← List.take_append_drop (i + 1) segs]
    rw [joinS_app, List.length_append]
    omega
  rw [hj, List.length_append] at hjl
  refine (ws_any b8 _ (47 :: segs[i]) wr h.pm.bl (by omega) h.pm.hw).mono ?_
  rintro e w' ⟨rfl, h1, h2, h3⟩
  refine ⟨rfl, ?_, h.ow.move fun k hk => ?_⟩
  · rw [hj]
    exact h.pm.put h1 h2
  · obtain ⟨cs, hcs⟩ := h.ow.typed k hk
    rw [hcs]
    refine h3 k _ hcs (fun e => ?_) (fun c fz e => by cases e)
    have := h.ow.base k hk
    injection e with e
    omega

theorem nb_start {w W W5 : World} {v : Value} {segs : List (List UInt8)} (hb : Below w.heap.size w W) (hO : Ow 9 W5 (W.alloc (.cells #[.pointer none, .slice none 0 0] 55)).heap.size v (strs segs)) (h5 : Below (W.alloc (.cells #[.pointer none, .slice none 0 0] 55)).heap.size (W.alloc (.cells #[.pointer none, .slice none 0 0] 55)) W5) : Nb w W5 W.heap.size v segs 0 := by
  have hp := (Pm.fresh W).below h5
  refine ⟨⟨hb.size, hp.bl, hp.hw, hb.trans (hp.bw.mono hb.size)⟩, ?_⟩
  rw [World.size_alloc] at hO
  exact hO
theorem joinS_count (segs : List (List UInt8)) : segs.length ≤ (joinS segs).length := by
  induction segs with
  | nil => simp
  | cons x xs ih =>
    rw [joinS_cons, List.length_append]
    simp only [List.length_cons]
    omega
theorem seg_len2 {segs : List (List UInt8)} {i : Nat} (h : i < segs.length) : segs[i].length ≤ (joinS segs).length := by
  have h1 := joinS_take h
  have h2 : (joinS (segs.take (i + 1))).length ≤ (joinS segs).length := by
    conv => rhs; rw [← List.take_append_drop (i + 1) segs]
    rw [joinS_app, List.length_append]
    omega
  rw [h1, List.length_append, List.length_cons] at h2
  omega

set_option maxRecDepth 100000 in
set_option maxHeartbeats 4000000 in
theorem normal_any (l : List UInt8) (w : World) (m : Int) (hm : w.cell? ⟨0, 0, none⟩ = some (.int .i64 m)) (hsz : l.length ≤ 1000000) (A B : List UInt8) (c : Nat) (hq : normS l = (A, B, c)) :
    Calls Tryd.prog 19 #[str l] w fun e w' => e = .returned (.tuple #[str A, str B, .int .i64 c]) ∧ Below w.heap.size w w' := by
  by_cases h2 : 200 < l.length
  · have h2' : (200 : Int) < (l.length : Int) := by omega
    unfold normS at hq
    rw [if_pos h2] at hq
    injection hq with e1 e2
    injection e2 with e2 e3
    subst e1 e2 e3
    go_enter Tryd.func19, Tryd.ntmps19
    go_wp2_with fail
    go_ret3
    exact ⟨rfl, Below.refl _ _⟩
  · have h2' : ¬ (200 : Int) < (l.length : Int) := by omega
    unfold normS at hq
    rw [if_neg h2] at hq
    obtain ⟨p, qy, hcut, happ, hidx⟩ := cutQ_at l
    rw [hcut] at hq
    simp only at hq
    have hlen : l.length = p.length + qy.length := by rw [happ]; simp
    have hx1 : (⟨l.toArray⟩ : ByteArray).extract 0 p.length = ⟨p.toArray⟩ := by
      apply ByteArray.ext
      apply Array.ext'
      rw [ByteArray.data_extract]
      simp [happ]
    have hx2 : (⟨l.toArray⟩ : ByteArray).extract p.length l.length = ⟨qy.toArray⟩ := by
      apply ByteArray.ext
      apply Array.ext'
      rw [ByteArray.data_extract]
      simp [happ]
    obtain ⟨j, hj⟩ : ∃ j, indexByte l 63 = j := ⟨_, rfl⟩
    rw [hj] at hidx
    have HJ := Lib.hid hj
    have HM := Lib.hid hm
    have HAPP := Lib.hid happ
    have hpl : (p.length : Int) ≤ (l.length : Int) := by omega
    clear happ hcut hj hm
    have hps : p.length ≤ 1000 := by omega
    have hqs : qy.length ≤ 1000 := by omega
    have arm1 : ∀ W, Calls Tryd.prog 26 #[str l, .int .u8 63] W fun e w' => e = .returned (.int .i64 j) ∧ w' = W := fun W => by
      refine (Tryd.strings_IndexByte ⟨l.toArray⟩ 63 W).mono ?_
      rintro e w' ⟨rfl, rfl⟩
      exact ⟨by rw [← HJ.out]; rfl, rfl⟩
    rcases plainR_S p with ⟨q, hpq, hS⟩ | ⟨q, hpq, hS⟩
    · rw [hS] at hq
      simp only at hq
      have arm2 := plain_any ⟨p.toArray⟩ w m HM.out (by simpa [ByteArray.size] using hps) q true hpq
      have hpre := prefix1 q
      have hql := plainS_len p.length p q (Nat.le_refl _) hS
      have arm3 : ∀ W, Calls Tryd.prog 28 #[str q, .string ⟨#[47]⟩] W fun e w' => e = .returned (.bool (decide (q.head? = some 47))) ∧ w' = W := fun W => by
        refine (Tryd.strings_HasPrefix ⟨q.toArray⟩ ⟨#[47]⟩ W).mono ?_
        rintro e w' ⟨rfl, rfl⟩
        exact ⟨by rw [← hpre], rfl⟩
      have arm4 : ∀ W, Calls Tryd.prog 29 #[str qy] W fun e w' => e = .returned (.bool (mayB qy)) ∧ w' = W := fun W => mayL_any qy W (by omega)
      have hj0 : ¬ (p.length : Int) < 0 := by omega
      rcases hidx with ⟨hj1, hj2⟩ | hj1
      · subst hj1
        have hq0 : qy = [] := List.eq_nil_of_length_eq_zero (by omega)
        obtain rfl : p = l := by have := HAPP.out; rw [hq0, List.append_nil] at this; exact this.symm
        have arm4 : ∀ W, Calls Tryd.prog 29 #[.string ByteArray.empty] W fun e w' => e = .returned (.bool (mayB qy)) ∧ w' = W := fun W => by
          have := arm4 W
          rwa [show str qy = .string ByteArray.empty by rw [hq0]; rfl] at this
        have HQ0 := Lib.hid hq0
        clear hlen hj2 hpl hj0 hq0
        by_cases hh : q.head? = some 47
        · rw [decide_eq_true hh] at arm3
          cases hmq : mayB qy with
          | true =>
            rw [hmq] at arm4
            rw [if_pos ⟨hh, hmq⟩] at hq
            injection hq with e1 e2
            injection e2 with e2 e3
            obtain ⟨q2, rfl⟩ : ∃ q2, q = 47 :: q2 := by
              cases q with
              | nil => cases hh
              | cons a r =>
                injection hh with hh
                exact ⟨r, by rw [hh]⟩
            subst e2 e3
            have HE := Lib.hid e1
            simp only [List.length_cons] at hql
            have hjl := joinS_kept q2
            obtain ⟨segs, hsg⟩ : ∃ segs, keptS (pieces 47 q2) = segs := ⟨_, rfl⟩
            simp only [List.tail_cons] at HE
            rw [hsg] at HE hjl
            have HSG := Lib.hid hsg
            clear e1 hh hsg hmq hpre hpq hS
            go_enter Tryd.func19, Tryd.ntmps19
            go_wp2_with first
              | (go_at_call 26; refine (arm1 _).mono ?_; rintro e w1 ⟨rfl, hw1⟩; have hw1 := hw1.symm; subst hw1)
              | (go_at_call 27; refine arm2.mono ?_; rintro e w2 ⟨rfl, hb2⟩)
              | (go_at_call 28; refine (arm3 _).mono ?_; rintro e w3 ⟨rfl, rfl⟩)
              | (go_at_call 29; refine (arm4 _).mono ?_; rintro e w4 ⟨rfl, rfl⟩)
              | (go_at_call 30; refine (kept_any _ 47 q2 (by omega)).mono ?_; rw [HSG.out]; rintro e w5 ⟨v, rfl, hOw, hb5⟩; obtain ⟨Av, nv, cv, rfl⟩ := hOw.slice'; have hnv := hOw.rd.len; rw [strs_len] at hnv; have HNB := Lib.hid (And.intro hOw hb5); clear hOw hb5)
            have HNB0 := Lib.hid (nb_start hb2 HNB.out.1 HNB.out.2)
            clear HNB hb2 arm1 arm2 arm3 arm4
            generalize w4.heap.size = b8 at *
            go_loopg [44] segs.length (fun gg s44 wr => ∃ i : Nat, s44 = .int .i64 i ∧ i ≤ segs.length ∧ segs.length - i ≤ gg ∧ Nb w wr b8 (.slice Av nv cv) segs i)
            case atStart => exact ⟨0, rfl, Nat.zero_le _, by omega, HNB0.out⟩
            case round =>
              obtain ⟨i, rfl, hi, hg, hNb⟩ := hrel
              clear HNB0
              by_cases hlt : i < segs.length
              · have hlt1 : (i : Int) < (nv : Int) := by omega
                obtain ⟨ad, rfl, hat⟩ := hNb.at_ hlt
                have hcat : (⟨#[47]⟩ : ByteArray) ++ ⟨segs[i].toArray⟩ = ⟨(47 :: segs[i]).toArray⟩ := bytes_app [47] segs[i]
                have hsl := seg_len2 hlt
                have hsc := joinS_count segs
                have HSTEP := Lib.hid (nb_step hNb hlt (by omega))
                clear hNb
                generalize segs[i] = sg at *
                go_wp2_with (go_at_call 31; refine HSTEP.out.mono ?_; rintro e w6 ⟨rfl, hNb6⟩)
                go_roundg (segs.length - (i + 1))
                case measure => omega
                case rel => exact ⟨i + 1, by simp [wrap64] <;> omega, by omega, by omega, hNb6⟩
              · have hlt1 : ¬ (i : Int) < (nv : Int) := by omega
                have hti : segs.take i = segs := List.take_of_length_le (by omega)
                have hpm := hNb.pm
                rw [hti, HE.out] at hpm
                have HPM := Lib.hid hpm
                have HPD := Lib.hid (hpm.drewN 1)
                clear hNb hpm hti
                go_wp2_with fail
                go_region_with (go_at_call 32; refine (str_pm HPD.out).mono ?_; rintro e w7 ⟨rfl, hP7⟩)
                all_goals
                  go_wp2_with fail
                  go_ret3
                  exact ⟨by first | rfl | (rw [HQ0.out]; rfl), hP7.bw⟩
          | false =>
            rw [hmq] at arm4
            rw [if_neg (fun h => by rw [hmq] at h; cases h.2)] at hq
            injection hq with e1 e2
            injection e2 with e2 e3
            subst e1 e2 e3
            clear hh
            go_enter Tryd.func19, Tryd.ntmps19
            go_wp2_with first
              | (go_at_call 26; refine (arm1 _).mono ?_; rintro e w1 ⟨rfl, hw1⟩; have hw1 := hw1.symm; subst hw1)
              | (go_at_call 27; refine arm2.mono ?_; rintro e w2 ⟨rfl, hb2⟩)
              | (go_at_call 28; refine (arm3 _).mono ?_; rintro e w3 ⟨rfl, rfl⟩)
              | (go_at_call 29; refine (arm4 _).mono ?_; rintro e w4 ⟨rfl, rfl⟩)
            go_ret3
            exact ⟨rfl, hb2⟩
        · rw [decide_eq_false hh] at arm3
          rw [if_neg (fun h => hh h.1)] at hq
          injection hq with e1 e2
          injection e2 with e2 e3
          subst e1 e2 e3
          clear hh hpre
          go_enter Tryd.func19, Tryd.ntmps19
          go_wp2_with first
            | (go_at_call 26; refine (arm1 _).mono ?_; rintro e w1 ⟨rfl, hw1⟩; have hw1 := hw1.symm; subst hw1)
            | (go_at_call 27; refine arm2.mono ?_; rintro e w2 ⟨rfl, hb2⟩)
            | (go_at_call 28; refine (arm3 _).mono ?_; rintro e w3 ⟨rfl, rfl⟩)
          go_ret3
          exact ⟨rfl, hb2⟩
      · subst hj1
        clear hlen
        by_cases hh : q.head? = some 47
        · rw [decide_eq_true hh] at arm3
          cases hmq : mayB qy with
          | true =>
            rw [hmq] at arm4
            rw [if_pos ⟨hh, hmq⟩] at hq
            injection hq with e1 e2
            injection e2 with e2 e3
            obtain ⟨q2, rfl⟩ : ∃ q2, q = 47 :: q2 := by
              cases q with
              | nil => cases hh
              | cons a r =>
                injection hh with hh
                exact ⟨r, by rw [hh]⟩
            subst e2 e3
            have HE := Lib.hid e1
            simp only [List.length_cons] at hql
            have hjl := joinS_kept q2
            obtain ⟨segs, hsg⟩ : ∃ segs, keptS (pieces 47 q2) = segs := ⟨_, rfl⟩
            simp only [List.tail_cons] at HE
            rw [hsg] at HE hjl
            have HSG := Lib.hid hsg
            clear e1 hh hsg hmq hpre hpq hS
            go_enter Tryd.func19, Tryd.ntmps19
            go_wp2_with first
              | (go_at_call 26; refine (arm1 _).mono ?_; rintro e w1 ⟨rfl, hw1⟩; have hw1 := hw1.symm; subst hw1)
              | (go_at_call 27; refine arm2.mono ?_; rintro e w2 ⟨rfl, hb2⟩)
              | (go_at_call 28; refine (arm3 _).mono ?_; rintro e w3 ⟨rfl, rfl⟩)
              | (go_at_call 29; refine (arm4 _).mono ?_; rintro e w4 ⟨rfl, rfl⟩)
              | (go_at_call 30; refine (kept_any _ 47 q2 (by omega)).mono ?_; rw [HSG.out]; rintro e w5 ⟨v, rfl, hOw, hb5⟩; obtain ⟨Av, nv, cv, rfl⟩ := hOw.slice'; have hnv := hOw.rd.len; rw [strs_len] at hnv; have HNB := Lib.hid (And.intro hOw hb5); clear hOw hb5)
            have HNB0 := Lib.hid (nb_start hb2 HNB.out.1 HNB.out.2)
            clear HNB hb2 arm1 arm2 arm3 arm4
            generalize w4.heap.size = b8 at *
            go_loopg [44] segs.length (fun gg s44 wr => ∃ i : Nat, s44 = .int .i64 i ∧ i ≤ segs.length ∧ segs.length - i ≤ gg ∧ Nb w wr b8 (.slice Av nv cv) segs i)
            case atStart => exact ⟨0, rfl, Nat.zero_le _, by omega, HNB0.out⟩
            case round =>
              obtain ⟨i, rfl, hi, hg, hNb⟩ := hrel
              clear HNB0
              by_cases hlt : i < segs.length
              · have hlt1 : (i : Int) < (nv : Int) := by omega
                obtain ⟨ad, rfl, hat⟩ := hNb.at_ hlt
                have hcat : (⟨#[47]⟩ : ByteArray) ++ ⟨segs[i].toArray⟩ = ⟨(47 :: segs[i]).toArray⟩ := bytes_app [47] segs[i]
                have hsl := seg_len2 hlt
                have hsc := joinS_count segs
                have HSTEP := Lib.hid (nb_step hNb hlt (by omega))
                clear hNb
                generalize segs[i] = sg at *
                go_wp2_with (go_at_call 31; refine HSTEP.out.mono ?_; rintro e w6 ⟨rfl, hNb6⟩)
                go_roundg (segs.length - (i + 1))
                case measure => omega
                case rel => exact ⟨i + 1, by simp [wrap64] <;> omega, by omega, by omega, hNb6⟩
              · have hlt1 : ¬ (i : Int) < (nv : Int) := by omega
                have hti : segs.take i = segs := List.take_of_length_le (by omega)
                have hpm := hNb.pm
                rw [hti, HE.out] at hpm
                have HPM := Lib.hid hpm
                have HPD := Lib.hid (hpm.drewN 1)
                clear hNb hpm hti
                go_wp2_with fail
                go_region_with (go_at_call 32; refine (str_pm HPD.out).mono ?_; rintro e w7 ⟨rfl, hP7⟩)
                all_goals
                  go_wp2_with fail
                  go_ret3
                  exact ⟨by first | rfl | (rw [HQ0.out]; rfl), hP7.bw⟩
          | false =>
            rw [hmq] at arm4
            rw [if_neg (fun h => by rw [hmq] at h; cases h.2)] at hq
            injection hq with e1 e2
            injection e2 with e2 e3
            subst e1 e2 e3
            clear hh
            go_enter Tryd.func19, Tryd.ntmps19
            go_wp2_with first
              | (go_at_call 26; refine (arm1 _).mono ?_; rintro e w1 ⟨rfl, hw1⟩; have hw1 := hw1.symm; subst hw1)
              | (go_at_call 27; refine arm2.mono ?_; rintro e w2 ⟨rfl, hb2⟩)
              | (go_at_call 28; refine (arm3 _).mono ?_; rintro e w3 ⟨rfl, rfl⟩)
              | (go_at_call 29; refine (arm4 _).mono ?_; rintro e w4 ⟨rfl, rfl⟩)
            go_ret3
            exact ⟨rfl, hb2⟩
        · rw [decide_eq_false hh] at arm3
          rw [if_neg (fun h => hh h.1)] at hq
          injection hq with e1 e2
          injection e2 with e2 e3
          subst e1 e2 e3
          clear hh hpre
          go_enter Tryd.func19, Tryd.ntmps19
          go_wp2_with first
            | (go_at_call 26; refine (arm1 _).mono ?_; rintro e w1 ⟨rfl, hw1⟩; have hw1 := hw1.symm; subst hw1)
            | (go_at_call 27; refine arm2.mono ?_; rintro e w2 ⟨rfl, hb2⟩)
            | (go_at_call 28; refine (arm3 _).mono ?_; rintro e w3 ⟨rfl, rfl⟩)
          go_ret3
          exact ⟨rfl, hb2⟩
    · rw [hS] at hq
      simp only at hq
      injection hq with e1 e2
      injection e2 with e2 e3
      subst e1 e2 e3
      have arm2 := plain_any ⟨p.toArray⟩ w m HM.out (by simpa [ByteArray.size] using hps) q false hpq
      rcases hidx with ⟨hj1, hj2⟩ | hj1
      · subst hj1
        obtain rfl : p = l := by have := HAPP.out; rw [List.eq_nil_of_length_eq_zero (show qy.length = 0 by omega), List.append_nil] at this; exact this.symm
        clear hlen hj2 hpl
        go_enter Tryd.func19, Tryd.ntmps19
        go_wp2_with first
          | (go_at_call 26; refine (arm1 _).mono ?_; rintro e w1 ⟨rfl, hw1⟩; have hw1 := hw1.symm; subst hw1)
          | (go_at_call 27; refine arm2.mono ?_; rintro e w2 ⟨rfl, hb2⟩)
        go_ret3
        exact ⟨rfl, hb2⟩
      · subst hj1
        clear hlen
        have hj0 : ¬ (p.length : Int) < 0 := by omega
        go_enter Tryd.func19, Tryd.ntmps19
        go_wp2_with first
          | (go_at_call 26; refine (arm1 _).mono ?_; rintro e w1 ⟨rfl, hw1⟩; have hw1 := hw1.symm; subst hw1)
          | (go_at_call 27; refine arm2.mono ?_; rintro e w2 ⟨rfl, hb2⟩)
        go_ret3
        exact ⟨rfl, hb2⟩
end Go.Proofs.YtoegjpfngmilhaaDoor
