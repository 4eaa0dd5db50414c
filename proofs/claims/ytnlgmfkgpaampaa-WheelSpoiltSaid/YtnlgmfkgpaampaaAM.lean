/- Contract of lockagelaw04.WheelSpoilt. -/
import Derived.Test.YtnlgmfkgpaampaaAJ
import Derived.Test.YtnlgmfkgpaampaaAE
import Derived.Deep.RegionLaw
import Derived.Deep.RegionWith
set_option linter.unusedVariables false
set_option linter.unusedSimpArgs false
namespace Go.Proofs.Ytnlgmfkgpaampaa
open Go.RowKit
open Go.Proofs.YtnlgmfkgpaampaaW.PrintWords

/-- what is spoilt till now -/
structure Sp (w W : World) (bx : Nat) (nw : Int) (A : Nat → Option Addr) (n c : Nat → Nat) (ts : Nat → List Tm) : Prop where
  b : BoxW W bx nw (fun i => .slice (A i) (n i) (c i))
  o : WhO W w.heap.size A n c ts
  bw : Below w.heap.size w W
  lo : w.heap.size ≤ bx
  i : ∀ i, i < 8 → ∀ t ∈ ts i, t.id ≤ 9223372036854775807
theorem Sp.below {w W W1 : World} {bx : Nat} {nw : Int} {A : Nat → Option Addr} {n c : Nat → Nat} {ts : Nat → List Tm} (h : Sp w W bx nw A n c ts) (hb : Below W.heap.size W W1) : Sp w W1 bx nw A n c ts :=
  ⟨h.b.below hb, h.o.below hb, h.bw.trans (hb.mono h.bw.size), h.lo, h.i⟩
theorem BoxW.nb {W : World} {bx : Nat} {nw : Int} {S : Nat → Value} (h : BoxW W bx nw S) {base : Nat} {v : Value} {es : List Tm} (hv : OwE tenc 2 34 W base v es) : ∀ k, v.ownBlock = some k → k ≠ bx := by
  intro k hk
  obtain ⟨cur, hc, _⟩ := h
  obtain ⟨cur', hc'⟩ := hv.typed k hk
  exact blocks_ne (by decide) hc' hc
/-- one slot of it put anew, out of new memory -/
theorem Sp.put {w W W1 : World} {bx : Nat} {nw : Int} {A : Nat → Option Addr} {n c : Nat → Nat} {ts : Nat → List Tm} (h : Sp w W bx nw A n c ts) (hb : Below W.heap.size W W1) {k : Nat} (hk : k < 8) {B : Option Addr} {m d : Nat} {us : List Tm} (hv : OwE tenc 2 34 W1 W.heap.size (.slice B m d) us) (hu : ∀ t ∈ us, t.id ≤ 9223372036854775807) :
    Sp w (W1.setCell ⟨bx, 1 + k, none⟩ (.slice B m d)) bx nw (upd A k B) (upd n k m) (upd c k d) (upd ts k us) := by
  have h1 := h.below hb
  have far : ∀ {v : Value} {es : List Tm} {base : Nat}, OwE tenc 2 34 W1 base v es → OwE tenc 2 34 (W1.setCell ⟨bx, 1 + k, none⟩ (.slice B m d)) base v es := fun hv => hv.far (h1.b.nb hv) _
  refine ⟨?_, ⟨fun i hi => ?_, fun i j hi hj hij q hq => ?_⟩, h1.bw.setCell h.lo _, h.lo, upd_ok h.i hu⟩
  · have := h1.b.set hk (.slice B m d)
    have he : (fun j => if j = k then Value.slice B m d else Value.slice (A j) (n j) (c j)) = fun i => Value.slice (upd A k B i) (upd n k m i) (upd c k d i) := by
      funext j
      by_cases hj : j = k
      · subst hj; simp [upd_at]
      · rw [if_neg hj, upd_ne _ _ hj, upd_ne _ _ hj, upd_ne _ _ hj]
    rw [he] at this
    exact this
  · by_cases hik : i = k
    · subst hik
      rw [upd_at, upd_at, upd_at, upd_at]
      exact far (hv.lower h.bw.size)
    · rw [upd_ne _ _ hik, upd_ne _ _ hik, upd_ne _ _ hik, upd_ne _ _ hik]
      exact far (h1.o.o i hi)
  · by_cases hik : i = k
    · subst hik
      have hji : j ≠ i := Ne.symm hij
      rw [upd_at, upd_at, upd_at] at hq
      rw [upd_ne _ _ hji, upd_ne _ _ hji, upd_ne _ _ hji]
      intro he
      have h2 := hv.lo _ hq
      have h3 := (h.o.o j hj).lt _ he
      omega
    · rw [upd_ne _ _ hik, upd_ne _ _ hik, upd_ne _ _ hik] at hq
      by_cases hjk : j = k
      · subst hjk
        rw [upd_at, upd_at, upd_at]
        intro he
        have h2 := hv.lo _ he
        have h3 := (h.o.o i hi).lt _ hq
        omega
      · rw [upd_ne _ _ hjk, upd_ne _ _ hjk, upd_ne _ _ hjk]
        exact h.o.ne i j hi hj hij q hq
/-- its time put anew -/
theorem Sp.now {w W : World} {bx : Nat} {nw : Int} {A : Nat → Option Addr} {n c : Nat → Nat} {ts : Nat → List Tm} (h : Sp w W bx nw A n c ts) (m : Int) : Sp w (W.setCell ⟨bx, 0, none⟩ (.int .i64 m)) bx m A n c ts :=
  ⟨h.b.setNow m, ⟨fun i hi => (h.o.o i hi).far (h.b.nb (h.o.o i hi)) _, h.o.ne⟩, h.bw.setCell h.lo _, h.lo, h.i⟩
/-- the first timer of one slot put another time -/
theorem Sp.first {w W : World} {bx : Nat} {nw : Int} {A : Nat → Option Addr} {n c : Nat → Nat} {ts : Nat → List Tm} (h : Sp w W bx nw A n c ts) {k : Nat} (hk : k < 8) {b off : Nat} {t : Tm} (hA : A k = some ⟨b, off, none⟩) (ht : (ts k)[0]? = some t) (x : Int) :
    Sp w (W.setCell ⟨b, off + 1, none⟩ (.int .i64 x)) bx nw A n c (upd ts k ((ts k).set 0 ⟨t.id, x⟩)) := by
  have hok := h.o.o k hk
  rw [hA] at hok
  have hS := hok.set (y' := (⟨t.id, x⟩ : Tm)) ht (show 1 < 2 by decide) (x := .int .i64 x) rfl
  rw [Nat.zero_mul, Nat.add_zero] at hS
  have hob : (Value.slice (A k) (n k) (c k)).ownBlock = some b := by rw [hA]; rfl
  have hbn := (h.b.nb (h.o.o k hk)) b hob
  have hlo := (h.o.o k hk).lo b hob
  refine ⟨h.b.far (by simpa using Ne.symm hbn) _, ⟨fun i hi => ?_, h.o.ne⟩, h.bw.setCell (by simpa using hlo) _, h.lo, upd_ok h.i fun u hu => ?_⟩
  · by_cases hik : i = k
    · subst hik
      rw [upd_at, hA]
      exact hS
    · rw [upd_ne _ _ hik]
      exact (h.o.o i hi).far (fun q hq => by
        rintro rfl
        exact h.o.ne i k hi hk hik _ hq hob) _
  · rcases List.mem_or_eq_of_mem_set hu with hu | rfl
    · exact h.i k hk u hu
    · exact h.i k hk t (List.mem_of_getElem? ht)
theorem box_all {W : World} {bx : Nat} {nw mw : Int} {S : Nat → Value} {B : Nat → Option Addr} {m d : Nat → Nat} (h : BoxW W bx nw S) : BoxW (((((((((W.setCell ⟨bx, 0, none⟩ (.int .i64 mw)).setCell ⟨bx, 1, none⟩ (.slice (B 0) (m 0) (d 0))).setCell ⟨bx, 2, none⟩ (.slice (B 1) (m 1) (d 1))).setCell ⟨bx, 3, none⟩ (.slice (B 2) (m 2) (d 2))).setCell ⟨bx, 4, none⟩ (.slice (B 3) (m 3) (d 3))).setCell ⟨bx, 5, none⟩ (.slice (B 4) (m 4) (d 4))).setCell ⟨bx, 6, none⟩ (.slice (B 5) (m 5) (d 5))).setCell ⟨bx, 7, none⟩ (.slice (B 6) (m 6) (d 6))).setCell ⟨bx, 8, none⟩ (.slice (B 7) (m 7) (d 7))) bx mw (fun i => .slice (B i) (m i) (d i)) := h.sets
def SQ (W : World) (p q : Addr) (v u : Value) (w' : World) : Prop := w'.cell? p = some v ∧ w'.cell? q = some u ∧ Below W.heap.size W w'
theorem SQ.step {W w1 w2 : World} {p q : Addr} {v u : Value} (h : SQ W p q v u w1) (hp : p.block < W.heap.size) (hq : q.block < W.heap.size) {row : Option Nat} (hg : w1.grownBy w2 row) (hr : ∀ k, row = some k → W.heap.size ≤ k) : SQ W p q v u w2 :=
  have hb := h.2.2.grown hg h.2.2.size hr
  ⟨(hb.cell hp).trans ((h.2.2.cell hp).symm.trans h.1), (hb.cell hq).trans ((h.2.2.cell hq).symm.trans h.2.1), hb⟩
theorem SQ.alloc {W w1 : World} {p q : Addr} {v u : Value} (h : SQ W p q v u w1) (hp : p.block < W.heap.size) (hq : q.block < W.heap.size) (o : Obj) : SQ W p q v u (w1.alloc o) :=
  have hb := h.2.2.alloc h.2.2.size o
  ⟨(hb.cell hp).trans ((h.2.2.cell hp).symm.trans h.1), (hb.cell hq).trans ((h.2.2.cell hq).symm.trans h.2.1), hb⟩

set_option maxRecDepth 4000 in
set_option maxHeartbeats 16000000 in
theorem wheelSpoilt_any (w : World) (Al : Option Addr) (nl cl : Nat) (l : List Nat) (how at' : Nat) (x0 : Int) (hl : Rd w (.slice Al nl cl) (u8s l)) (h8 : ∀ x ∈ l, x < 256) (hhow : how < 256) (hat : at' < 256) (hx0 : -9223372036854775808 ≤ x0 ∧ x0 ≤ 9223372036854775807) :
    Calls Try.prog 5 #[.slice Al nl cl, .int .u8 how, .int .u8 at', .int .i64 x0] w fun e w' => e = .returned (.bool true) ∧ Below w.heap.size w w' := by
  have hm := Lib.hid (made_any w Al nl cl l hl h8)
  have hok := OkW.run (l.take 60) OkW.start
  have htk : (l.take 60).length ≤ 60 := by rw [List.length_take]; omega
  rw [show (l.take 60).foldl stepW (0, fun _ => []) = madeW l from rfl] at hok
  generalize madeW l = st at hm hok
  obtain ⟨nw, ts⟩ := st
  have hnw0 : 0 ≤ nw := hok.n.1
  have hnw6 : nw ≤ 60 := by have := hok.n.2; simp only at this; omega
  have hcn : cnt ts ≤ 60 := by have := hok.c; simp only at this; omega
  have HI := Lib.hid (show ∀ i, i < 8 → ∀ t ∈ ts i, t.id ≤ 9223372036854775807 from fun i hi t ht => by have := hok.i i hi t ht; omega)
  clear hl h8 hok htk
  go_enter Try.func5, Try.ntmps5
  go_wp2_with fail
  refine hm.out.mono ?_
  rintro e w1 ⟨A, n, c, rfl, hO, hB1⟩
  simp only at hO
  have HO := Lib.hid hO
  have HB1 := Lib.hid hB1
  clear hm hO hB1
  obtain ⟨kq, hkq⟩ : ∃ k : Nat, at' % 8 = k := ⟨_, rfl⟩
  obtain ⟨k9, hk9⟩ : ∃ k : Nat, at' % 9 = k := ⟨_, rfl⟩
  obtain ⟨k3, hk3⟩ : ∃ k : Nat, at' % 3 = k := ⟨_, rfl⟩
  have hwa : IntKind.i64.wrap (at' : Int) = (at' : Int) := by rw [IntKind.wrap_i64]; omega
  have t8 : (at' : Int).tmod 8 = (kq : Int) := by rw [Int.tmod_eq_emod_of_nonneg (by omega)]; omega
  have t9 : (at' : Int).tmod 9 = (k9 : Int) := by rw [Int.tmod_eq_emod_of_nonneg (by omega)]; omega
  have t3 : (at' : Int).tmod 3 = (k3 : Int) := by rw [Int.tmod_eq_emod_of_nonneg (by omega)]; omega
  have e8 : (at' : Int) % 8 = (kq : Int) := by omega
  have e9 : (at' : Int) % 9 = (k9 : Int) := by omega
  have e3 : (at' : Int) % 3 = (k3 : Int) := by omega
  have hk8 : kq < 8 := by omega
  have hk8' : (kq : Int) < 8 := by omega
  have hk99 : k9 < 9 := by omega
  have hk33 : k3 < 3 := by omega
  have wkq : IntKind.i64.wrap (kq : Int) = (kq : Int) := by rw [IntKind.wrap_i64]; omega
  clear hkq hk9 hk3
  go_upto_region 2 with fail
  have hal : Below w1.heap.size w1 (w1.alloc (.cells #[.int .i64 nw, .slice (A 0) (n 0) (c 0), .slice (A 1) (n 1) (c 1), .slice (A 2) (n 2) (c 2), .slice (A 3) (n 3) (c 3), .slice (A 4) (n 4) (c 4), .slice (A 5) (n 5) (c 5), .slice (A 6) (n 6) (c 6), .slice (A 7) (n 7) (c 7)] 25)) := (Below.refl _ _).alloc (Nat.le_refl _) _
  have hlo : w.heap.size ≤ w1.heap.size := HB1.out.size
  have HS := Lib.hid (show Sp w (w1.alloc (.cells #[.int .i64 nw, .slice (A 0) (n 0) (c 0), .slice (A 1) (n 1) (c 1), .slice (A 2) (n 2) (c 2), .slice (A 3) (n 3) (c 3), .slice (A 4) (n 4) (c 4), .slice (A 5) (n 5) (c 5), .slice (A 6) (n 6) (c 6), .slice (A 7) (n 7) (c 7)] 25)) w1.heap.size nw A n c ts from ⟨BoxW.alloc w1 nw (fun i => .slice (A i) (n i) (c i)), HO.out.below hal, HB1.out.trans (hal.mono hlo), hlo, HI.out⟩)
  clear hal HO HI HB1
  generalize w1.alloc (.cells #[.int .i64 nw, .slice (A 0) (n 0) (c 0), .slice (A 1) (n 1) (c 1), .slice (A 2) (n 2) (c 2), .slice (A 3) (n 3) (c 3), .slice (A 4) (n 4) (c 4), .slice (A 5) (n 5) (c 5), .slice (A 6) (n 6) (c 6), .slice (A 7) (n 7) (c 7)] 25) = W at *
  generalize w1.heap.size = bx at *
  go_upto_block 0 with fail
  obtain ⟨m5, hm5⟩ : ∃ m, how % 5 = m := ⟨_, rfl⟩
  have q5 : (how : Int) % 5 = (m5 : Int) := by omega
  have hm55 : m5 < 5 := by omega
  clear hm5
  go_cut [] from 11 to 97 (fun wx => ∃ A n c mw us, Aside (Sp w wx bx mw A n c us ∧ cnt us ≤ 200))
  case first =>
    have z0 := HS.out.b.now
    have zf := HS.out.b.free
    obtain rfl | rfl | rfl | rfl | rfl : m5 = 0 ∨ m5 = 1 ∨ m5 = 2 ∨ m5 = 3 ∨ m5 = 4 := by omega
    · have q5' : (how : Int) % 5 = (0 : Int) := q5
      clear q5
      go_wp2_with fail
      go_meet
      refine ⟨A, n, c, x0, ts, ?_⟩
      show Aside _
      exact ⟨HS.out.now x0, by omega⟩
    · have q5' : (how : Int) % 5 = (1 : Int) := q5
      clear q5
      have zk := HS.out.b.slot hk8
      have hbx := HS.out.b.lt
      have hln := (HS.out.o.o kq hk8).rd.len
      have hlc : (ts kq).length ≤ 200 := by
        have := cnt_upd (ts := ts) (i := kq) (us := []) hk8
        simp at this
        omega
      have HK := Lib.hid (HS.out.o.o kq hk8).rd
      obtain ⟨q8, hq8⟩ : ∃ q : Int, nw.tmod 8 = q := ⟨_, rfl⟩
      have hq8' : nw % 8 = q8 := by rw [← hq8, Int.tmod_eq_emod_of_nonneg hnw0]
      have hq80 : 0 ≤ q8 ∧ q8 < 8 := by omega
      have v1' : IntKind.i64.wrap (nw + 8) = nw + 8 := by rw [IntKind.wrap_i64]; omega
      have v2' : IntKind.i64.wrap q8 = q8 := by rw [IntKind.wrap_i64]; omega
      have v3' : IntKind.i64.wrap (nw + 8 - q8) = nw + 8 - q8 := by rw [IntKind.wrap_i64]; omega
      have v4' : IntKind.i64.wrap (nw + 8 - q8 + (kq : Int)) = nw + 8 - q8 + (kq : Int) := by rw [IntKind.wrap_i64]; omega
      go_upto_region 8 with fail
      go_region_law (first
        | (refine wp_app_stepE W.heap.size (by rfl) _ _ 22 34 (.agg #[.int .i64 0, .int .i64 0]) 16 (by rfl) Try.underlying22 Try.info34 rfl (by omega) (by omega) (.slice none 0 0) (.slice (A kq) (n kq) (c kq)) [] (ts kq) (by rfl) (by rfl) (OwE.nil tencL _ _ _) (HK.out.below (by first | exact below_drew (Below.refl _ _) | exact (below_drew (Below.refl _ _)).alloc (by simp) _)) tenc1 (by simp; omega) (by simp) ?_; intro v1 w5 hv1 hg1 hat1; obtain ⟨A5, n5, c5, rfl⟩ := hv1.slice'; have hb5 : Below W.heap.size W w5 := (by first | exact (below_drew (Below.refl _ _)).grown hg1 (by simp) (fun k hk => by cases hk) | exact ((below_drew (Below.refl _ _)).alloc (by simp) _).grown hg1 (by simp) (fun k hk => by cases hk)); have y0 : w5.cell? ⟨bx, 0, none⟩ = some (.int .i64 nw) := (hb5.cell hbx).trans z0; clear hat1)
        | (refine wp_app_stepE W.heap.size (by rfl) _ _ 22 34 (.agg #[.int .i64 0, .int .i64 0]) 16 (by rfl) Try.underlying22 Try.info34 rfl (by omega) (by omega) (.slice A5 n5 c5) (.slice (some ⟨_, 0, none⟩) 1 1) ([] ++ ts kq) [(⟨x0, nw + 8 - q8 + (kq : Int)⟩ : Tm)] (by rfl) (by rfl) (by first | exact hv1 | exact hv1.below ((Below.refl _ _).alloc (Nat.le_refl _) _)) (by first | exact rd_boxE _ (⟨x0, nw + 8 - q8 + (kq : Int)⟩ : Tm) _ | exact (rd_boxE W (⟨x0, nw + 8 - q8 + (kq : Int)⟩ : Tm) 34).below ((below_drew (Below.refl _ _)).trans (below_of_grown hg1))) tenc1 (by simp; omega) (by have := hb5.size; first | exact this | (simp; omega)) ?_; intro v2 w6 hv2 hg2 hat2; obtain ⟨A6, n6, c6, rfl⟩ := hv2.slice'; have hb6 : Below W.heap.size W w6 := (by first | exact hb5.grown hg2 hb5.size (fun k hk => hv1.lo k hk) | exact (hb5.alloc hb5.size _).grown hg2 (by have := hb5.size; simp; omega) (fun k hk => hv1.lo k hk)); have yk : w6.cell? ⟨bx, 1 + kq, none⟩ = some (.slice (A kq) (n kq) (c kq)) := (hb6.cell hbx).trans zk; have yf : ∀ j, w6.frozen? ⟨bx, j, none⟩ = false := fun j => (hb6.frozen (p := ⟨bx, j, none⟩) hbx).trans (zf j); clear hat2))
      all_goals clear HK y0 yk yf
      all_goals go_wp2_with fail
      all_goals go_meet
      all_goals refine ⟨upd A kq A6, upd n kq n6, upd c kq c6, nw, upd ts kq ([] ++ ts kq ++ [(⟨x0, nw + 8 - q8 + (kq : Int)⟩ : Tm)]), ?_⟩
      all_goals show Aside _
      all_goals
        refine ⟨HS.out.put hb6 hk8 hv2 (fun t ht => ?_), ?_⟩
        · simp only [List.nil_append] at ht
          rcases List.mem_append.1 ht with ht | ht
          · exact HS.out.i kq hk8 t ht
          · rw [List.mem_singleton.1 ht]
            exact hx0.2
        · have := cnt_upd (ts := ts) (i := kq) (us := [] ++ ts kq ++ [(⟨x0, nw + 8 - q8 + (kq : Int)⟩ : Tm)]) hk8
          rw [List.length_append, List.length_append] at this
          simp only [List.length_cons, List.length_nil] at this
          omega
    · have q5' : (how : Int) % 5 = (2 : Int) := q5
      clear q5
      have zk := HS.out.b.slot hk8
      by_cases hn0 : n kq = 0
      · have hn0' : ¬ (0 : Int) < (n kq : Int) := by omega
        go_wp2_with fail
        go_meet
        refine ⟨A, n, c, nw, ts, ?_⟩
        show Aside _
        exact ⟨HS.out, by omega⟩
      · have hn0' : (0 : Int) < (n kq : Int) := by omega
        obtain ⟨b, off, hA, hb0, hcur, hnc, hcell, hfz⟩ := (HS.out.o.o kq hk8).form (by omega)
        have hln := (HS.out.o.o kq hk8).rd.len
        have ht0 : (ts kq)[0]? = some ((ts kq)[0]'(by omega)) := List.getElem?_eq_getElem _
        generalize (ts kq)[0]'(by omega) = t at ht0
        have d1 := hcell 0 1 _ _ ht0 rfl
        have HF := Lib.hid (HS.out.first hk8 hA ht0 x0)
        have HT := Lib.hid ht0
        clear hcell hcur ht0
        rw [hA] at zk
        have hnk : 0 < n kq := by omega
        generalize n kq = nk at *
        generalize c kq = ck at *
        go_wp2_with fail
        go_meet
        refine ⟨A, n, c, nw, upd ts kq ((ts kq).set 0 ⟨t.id, x0⟩), ?_⟩
        show Aside _
        refine ⟨HF.out, ?_⟩
        have := cnt_upd (ts := ts) (i := kq) (us := (ts kq).set 0 ⟨t.id, x0⟩) hk8
        rw [List.length_set] at this
        omega
    · have q5' : (how : Int) % 5 = (3 : Int) := q5
      clear q5 z0 zf
      have wk9 : IntKind.i64.wrap (k9 : Int) = (k9 : Int) := by rw [IntKind.wrap_i64]; omega
      have wk60 : IntKind.i64.wrap (60 + (k9 : Int)) = 60 + (k9 : Int) := by rw [IntKind.wrap_i64]; omega
      go_wp2_with fail
      simp only [q5']
      clear q5'
      go_loopg [11] (60 + k9) (fun gg s11 wr => ∃ kk : Nat, kk ≤ 60 + k9 ∧ 60 + k9 - kk ≤ gg ∧ s11 = .int .i64 kk ∧ ∃ A n c us, Aside (Sp w wr bx nw A n c us ∧ cnt us ≤ 60 + kk))
      case atStart =>
        refine ⟨0, by omega, by omega, rfl, A, n, c, ts, ?_⟩
        show Aside _
        exact ⟨HS.out, by omega⟩
      case round =>
        clear HS
        obtain ⟨kk, hkk, hg, rfl, A, n, c, us, HA⟩ := hrel
        have HS := Lib.hid HA.out.1
        have hcu := HA.out.2
        clear HA
        by_cases hlt : kk < 60 + k9
        · have hlt1 : (kk : Int) < 60 + (k9 : Int) := by omega
          have wkk : IntKind.i64.wrap (100 + (kk : Int)) = 100 + (kk : Int) := by rw [IntKind.wrap_i64]; omega
          have z0 := HS.out.b.now
          have zf := HS.out.b.free
          have zk := HS.out.b.slot hk8
          have hbx := HS.out.b.lt
          have hln := (HS.out.o.o kq hk8).rd.len
          have hlc : (us kq).length ≤ 200 := by
            have := cnt_upd (ts := us) (i := kq) (us := []) hk8
            simp at this
            omega
          have HK := Lib.hid (HS.out.o.o kq hk8).rd
          obtain ⟨q8, hq8⟩ : ∃ q : Int, nw.tmod 8 = q := ⟨_, rfl⟩
          have hq8' : nw % 8 = q8 := by rw [← hq8, Int.tmod_eq_emod_of_nonneg hnw0]
          have hq80 : 0 ≤ q8 ∧ q8 < 8 := by omega
          have v1' : IntKind.i64.wrap (nw + 8) = nw + 8 := by rw [IntKind.wrap_i64]; omega
          have v2' : IntKind.i64.wrap q8 = q8 := by rw [IntKind.wrap_i64]; omega
          have v3' : IntKind.i64.wrap (nw + 8 - q8) = nw + 8 - q8 := by rw [IntKind.wrap_i64]; omega
          have v4' : IntKind.i64.wrap (nw + 8 - q8 + (kq : Int)) = nw + 8 - q8 + (kq : Int) := by rw [IntKind.wrap_i64]; omega
          go_upto_region 16 with fail
          go_region_law (first
            | (refine wp_app_stepE wr.heap.size (by rfl) _ _ 22 34 (.agg #[.int .i64 0, .int .i64 0]) 16 (by rfl) Try.underlying22 Try.info34 rfl (by omega) (by omega) (.slice none 0 0) (.slice (A kq) (n kq) (c kq)) [] (us kq) (by rfl) (by rfl) (OwE.nil tencL _ _ _) (HK.out.below (by first | exact below_drew (Below.refl _ _) | exact (below_drew (Below.refl _ _)).alloc (by simp) _)) tenc1 (by simp; omega) (by simp) ?_; intro v1 w5 hv1 hg1 hat1; obtain ⟨A5, n5, c5, rfl⟩ := hv1.slice'; have hb5 : Below wr.heap.size wr w5 := (by first | exact (below_drew (Below.refl _ _)).grown hg1 (by simp) (fun k hk => by cases hk) | exact ((below_drew (Below.refl _ _)).alloc (by simp) _).grown hg1 (by simp) (fun k hk => by cases hk)); have y0 : w5.cell? ⟨bx, 0, none⟩ = some (.int .i64 nw) := (hb5.cell hbx).trans z0; clear hat1)
            | (refine wp_app_stepE wr.heap.size (by rfl) _ _ 22 34 (.agg #[.int .i64 0, .int .i64 0]) 16 (by rfl) Try.underlying22 Try.info34 rfl (by omega) (by omega) (.slice A5 n5 c5) (.slice (some ⟨_, 0, none⟩) 1 1) ([] ++ us kq) [(⟨100 + (kk : Int), nw + 8 - q8 + (kq : Int)⟩ : Tm)] (by rfl) (by rfl) (by first | exact hv1 | exact hv1.below ((Below.refl _ _).alloc (Nat.le_refl _) _)) (by first | exact rd_boxE _ (⟨100 + (kk : Int), nw + 8 - q8 + (kq : Int)⟩ : Tm) _ | exact (rd_boxE wr (⟨100 + (kk : Int), nw + 8 - q8 + (kq : Int)⟩ : Tm) 34).below ((below_drew (Below.refl _ _)).trans (below_of_grown hg1))) tenc1 (by simp; omega) (by have := hb5.size; first | exact this | (simp; omega)) ?_; intro v2 w6 hv2 hg2 hat2; obtain ⟨A6, n6, c6, rfl⟩ := hv2.slice'; have hb6 : Below wr.heap.size wr w6 := (by first | exact hb5.grown hg2 hb5.size (fun k hk => hv1.lo k hk) | exact (hb5.alloc hb5.size _).grown hg2 (by have := hb5.size; simp; omega) (fun k hk => hv1.lo k hk)); have yk : w6.cell? ⟨bx, 1 + kq, none⟩ = some (.slice (A kq) (n kq) (c kq)) := (hb6.cell hbx).trans zk; have yf : ∀ j, w6.frozen? ⟨bx, j, none⟩ = false := fun j => (hb6.frozen (p := ⟨bx, j, none⟩) hbx).trans (zf j); clear hat2))
          all_goals clear HK y0 yk yf
          all_goals go_wp2_with fail
          all_goals go_roundg (60 + k9 - (kk + 1))
          all_goals first
            | omega
            | (refine ⟨kk + 1, by omega, by omega, by simp, upd A kq A6, upd n kq n6, upd c kq c6, upd us kq ([] ++ us kq ++ [(⟨100 + (kk : Int), nw + 8 - q8 + (kq : Int)⟩ : Tm)]), ?_⟩
               show Aside _
               refine ⟨HS.out.put hb6 hk8 hv2 (fun t ht => ?_), ?_⟩
               · simp only [List.nil_append] at ht
                 rcases List.mem_append.1 ht with ht | ht
                 · exact HS.out.i kq hk8 t ht
                 · rw [List.mem_singleton.1 ht]
                   simp only
                   omega
               · have := cnt_upd (ts := us) (i := kq) (us := [] ++ us kq ++ [(⟨100 + (kk : Int), nw + 8 - q8 + (kq : Int)⟩ : Tm)]) hk8
                 rw [List.length_append, List.length_append] at this
                 simp only [List.length_cons, List.length_nil] at this
                 omega)
        · have hlt1 : ¬ (kk : Int) < 60 + (k9 : Int) := by omega
          go_wp2_with fail
          go_meet
          refine ⟨A, n, c, nw, us, ?_⟩
          show Aside _
          exact ⟨HS.out, by omega⟩
    · have q5' : (how : Int) % 5 = (4 : Int) := q5
      clear q5
      have z1 : W.cell? ⟨bx, 1, none⟩ = some (.slice (A 0) (n 0) (c 0)) := HS.out.b.slot (show 0 < 8 by omega)
      have z2 : W.cell? ⟨bx, 2, none⟩ = some (.slice (A 1) (n 1) (c 1)) := HS.out.b.slot (show 1 < 8 by omega)
      have z3 : W.cell? ⟨bx, 3, none⟩ = some (.slice (A 2) (n 2) (c 2)) := HS.out.b.slot (show 2 < 8 by omega)
      have z4 : W.cell? ⟨bx, 4, none⟩ = some (.slice (A 3) (n 3) (c 3)) := HS.out.b.slot (show 3 < 8 by omega)
      have z5 : W.cell? ⟨bx, 5, none⟩ = some (.slice (A 4) (n 4) (c 4)) := HS.out.b.slot (show 4 < 8 by omega)
      have z6 : W.cell? ⟨bx, 6, none⟩ = some (.slice (A 5) (n 5) (c 5)) := HS.out.b.slot (show 5 < 8 by omega)
      have z7 : W.cell? ⟨bx, 7, none⟩ = some (.slice (A 6) (n 6) (c 6)) := HS.out.b.slot (show 6 < 8 by omega)
      have z8 : W.cell? ⟨bx, 8, none⟩ = some (.slice (A 7) (n 7) (c 7)) := HS.out.b.slot (show 7 < 8 by omega)
      have wk3 : IntKind.i64.wrap (k3 : Int) = (k3 : Int) := by rw [IntKind.wrap_i64]; omega
      have wk4 : IntKind.i64.wrap (9007199254740992 - (k3 : Int)) = 9007199254740992 - (k3 : Int) := by rw [IntKind.wrap_i64]; omega
      go_wp2_with fail
      go_meet
      refine ⟨fun _ => none, fun _ => 0, fun _ => 0, 9007199254740992 - (k3 : Int), fun _ => [], ?_⟩
      show Aside _
      have hbw := HS.out.bw
      have hlo := HS.out.lo
      refine ⟨⟨box_all (B := fun _ => none) (m := fun _ => 0) (d := fun _ => 0) HS.out.b, ⟨fun i hi => OwE.nil tencL _ _ _, fun i j _ _ _ k hk => by simp [Value.ownBlock] at hk⟩, ?_, HS.out.lo, by simp⟩, by decide⟩
      exact ((((((((hbw.setCell (by simpa using hlo) _).setCell (by simpa using hlo) _).setCell (by simpa using hlo) _).setCell (by simpa using hlo) _).setCell (by simpa using hlo) _).setCell (by simpa using hlo) _).setCell (by simpa using hlo) _).setCell (by simpa using hlo) _).setCell (by simpa using hlo) _
  case rest =>
    clear HS
    obtain ⟨A, n, c, mw, us, HA⟩ := hcut
    have HX := Lib.hid HA.out.1
    have hcu := HA.out.2
    clear HA
    have htot : tot n 8 ≤ 1000 := by have := cnt_tot HX.out.o.rd; omega
    obtain ⟨a3, ha3⟩ : ∃ a : Int, IntKind.i64.wrap (mw + 3) = a := ⟨_, rfl⟩
    go_wp2_with (first
      | (go_at_call 7; refine (awake_any _).mono ?_; rintro e w5 ⟨rfl, hb5⟩; replace HX := Lib.hid (HX.out.below hb5); clear hb5; have z0 := HX.out.b.now; have z1 := HX.out.b.slot (show 0 < 8 by omega); have z2 := HX.out.b.slot (show 1 < 8 by omega); have z3 := HX.out.b.slot (show 2 < 8 by omega); have z4 := HX.out.b.slot (show 3 < 8 by omega); have z5 := HX.out.b.slot (show 4 < 8 by omega); have z6 := HX.out.b.slot (show 5 < 8 by omega); have z7 := HX.out.b.slot (show 6 < 8 by omega); have z8 := HX.out.b.slot (show 7 < 8 by omega))
      | (go_at_call_of 9 (Value.int .i64 8); refine (told_any _ mw A n c us 8 a3 HX.out.o.rd htot HX.out.i).mono ?_; rintro e w6 ⟨rfl, hb6⟩; replace HX := Lib.hid (HX.out.below hb6); clear hb6 z0 z1 z2 z3 z4 z5 z6 z7 z8; have z0 := HX.out.b.now; have z1 := HX.out.b.slot (show 0 < 8 by omega); have z2 := HX.out.b.slot (show 1 < 8 by omega); have z3 := HX.out.b.slot (show 2 < 8 by omega); have z4 := HX.out.b.slot (show 3 < 8 by omega); have z5 := HX.out.b.slot (show 4 < 8 by omega); have z6 := HX.out.b.slot (show 5 < 8 by omega); have z7 := HX.out.b.slot (show 6 < 8 by omega); have z8 := HX.out.b.slot (show 7 < 8 by omega))
      | (go_at_call 9; refine (told_any _ mw A n c us x0 x0 HX.out.o.rd htot HX.out.i).mono ?_; rintro e w7 ⟨rfl, hb7⟩; replace HX := Lib.hid (HX.out.below hb7); clear hb7 z0 z1 z2 z3 z4 z5 z6 z7 z8))
    go_ret
    exact ⟨by simp, HX.out.bw⟩
end Go.Proofs.Ytnlgmfkgpaampaa
