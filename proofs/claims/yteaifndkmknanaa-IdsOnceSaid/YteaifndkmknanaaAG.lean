/- Contract of lockagelaw02.Made. -/
import Derived.Test.YteaifndkmknanaaAF
import Derived.Test.YteaifndkmknanaaAC
import Derived.StillTailTactics
set_option linter.unusedVariables false
set_option linter.unusedSimpArgs false
namespace Go.Proofs.Yteaifndkmknanaa
open Go.RowKit
open Go.Proofs.YteaifndkmknanaaW.PrintWords

def u8s (xs : List Nat) : List Value := xs.map (fun x : Nat => Value.int .u8 (x : Int))
theorem u8s_len (xs : List Nat) : (u8s xs).length = xs.length := by simp [u8s]
theorem u8s_at {xs : List Nat} {i : Nat} (h : i < xs.length) : (u8s xs)[i]? = some (.int .u8 (xs[i] : Int)) := by simp [u8s, h]

theorem Ow.cap {e : TypeId} {w : World} {base n c : Nat} {A : Option Addr} {xs : List Value} (h : Ow e w base (.slice A n c) xs) : n ≤ c := by
  have hl := h.rd.len
  obtain ⟨A', c', he, hc⟩ := h.slice
  injection he with _ _ h3
  omega
theorem ne25 {e : TypeId} {W : World} {b base : Nat} {cs : Array Value} {v : Value} {xs : List Value} (he : e ≠ 25) (hx : W.heap[b]? = some (.cells cs 25 (0, 0))) (h : Ow e W base v xs) : ∀ k, v.ownBlock = some k → k ≠ b := by
  intro k hk
  obtain ⟨cur, hcur⟩ := h.typed k hk
  exact blocks_ne he hcur hx
def SM (w w' : World) : Prop := w.heap.size ≤ w'.heap.size ∧ Below w.heap.size w w'
theorem SM.start (w : World) : SM w w.drew := ⟨Nat.le_refl _, below_drew (Below.refl _ _)⟩
theorem SM.step {w w1 w2 : World} (h : SM w w1) {row : Option Nat} (hg : w1.grownBy w2 row) (hr : ∀ k, row = some k → w.heap.size ≤ k) : SM w w2 := ⟨Nat.le_trans h.1 hg.size, h.2.grown hg h.1 hr⟩
/-- a table that no row of is the list's -/
def NeT (vg vf vi : Value) : Prop := ∀ k, vi.ownBlock = some k → vg.ownBlock ≠ some k ∧ vf.ownBlock ≠ some k

def MadePost (w : World) (s : Tab × List Int) (e : Ending) (w' : World) : Prop :=
  ∃ Ag ng cg Ab nb cb Af nf cf Ai ni ci, e = .returned (.tuple #[.agg #[.slice Ag ng cg, .slice Ab nb cb, .slice Af nf cf], .slice Ai ni ci]) ∧
    TabO w' w.heap.size (.slice Ag ng cg) (.slice Ab nb cb) (.slice Af nf cf) s.1 ∧ Rd w' (.slice Ai ni ci) (ints s.2) ∧ Below w.heap.size w w'

/-- a table's box stored into: what stays -/
theorem step_box {w w2 : World} {bt base' B : Nat} {c4 : Array Value} {x y z vg vb vf vi : Value} {u : Tab} {xs : List Value} (hB : Below w.heap.size w w2) (h4 : w2.heap[w.heap.size]? = some (.cells c4 25 (0, 0))) (h6 : w2.heap[bt]? = some (.cells #[x, y, z] 25 (0, 0)))
    (hlt : w.heap.size < bt) (hO : TabO w2 base' vg vb vf u) (hI : Ow 3 w2 B vi xs) :
    Below w.heap.size w (((w2.setCell ⟨bt, 0, none⟩ vg).setCell ⟨bt, 1, none⟩ vb).setCell ⟨bt, 2, none⟩ vf) ∧
    (((w2.setCell ⟨bt, 0, none⟩ vg).setCell ⟨bt, 1, none⟩ vb).setCell ⟨bt, 2, none⟩ vf).heap[w.heap.size]? = some (.cells c4 25 (0, 0)) ∧
    (((w2.setCell ⟨bt, 0, none⟩ vg).setCell ⟨bt, 1, none⟩ vb).setCell ⟨bt, 2, none⟩ vf).heap[bt]? = some (.cells #[vg, vb, vf] 25 (0, 0)) ∧
    TabO (((w2.setCell ⟨bt, 0, none⟩ vg).setCell ⟨bt, 1, none⟩ vb).setCell ⟨bt, 2, none⟩ vf) base' vg vb vf u ∧
    Ow 3 (((w2.setCell ⟨bt, 0, none⟩ vg).setCell ⟨bt, 1, none⟩ vb).setCell ⟨bt, 2, none⟩ vf) B vi xs ∧
    (((w2.setCell ⟨bt, 0, none⟩ vg).setCell ⟨bt, 1, none⟩ vb).setCell ⟨bt, 2, none⟩ vf).heap.size = w2.heap.size := by
  have nb : ∀ {e : TypeId} {v : Value} {b : Nat} {ys : List Value}, e ≠ 25 → Ow e w2 b v ys → ∀ k, v.ownBlock = some k → k ≠ bt := by
    intro e v b ys he h k hk
    obtain ⟨cur, hcur⟩ := h.typed k hk
    exact blocks_ne he hcur h6
  refine ⟨((hB.setCell (by simp; omega) _).setCell (by simp; omega) _).setCell (by simp; omega) _, ?_, box_set3 h6, ⟨?_, ?_, ?_, hO.ne⟩, ?_, by simp⟩
  · rw [Below.heap_setCell _ _ _ _ (by simp; omega), Below.heap_setCell _ _ _ _ (by simp; omega), Below.heap_setCell _ _ _ _ (by simp; omega)]
    exact h4
  · exact ((hO.g.far (nb (by decide) hO.g) _).far (nb (by decide) hO.g) _).far (nb (by decide) hO.g) _
  · exact ((hO.b.far (nb (by decide) hO.b) _).far (nb (by decide) hO.b) _).far (nb (by decide) hO.b) _
  · exact ((hO.f.far (nb (by decide) hO.f) _).far (nb (by decide) hO.f) _).far (nb (by decide) hO.f) _
  · exact ((hI.far (nb (by decide) hI) _).far (nb (by decide) hI) _).far (nb (by decide) hI) _

/-- the list of ids appended to: what stays -/
theorem step_app {w W w4 : World} {bt base' : Nat} {c4 c6 : Array Value} {vg vb vf vi v1 : Value} {u : Tab} {xs : List Value} {o : Obj} (hB : Below w.heap.size w W) (h4 : W.heap[w.heap.size]? = some (.cells c4 25 (0, 0))) (h6 : W.heap[bt]? = some (.cells c6 25 (0, 0)))
    (hO : TabO W base' vg vb vf u) (hI : Ow 3 W w.heap.size vi xs) (hlo : ∀ k, vi.ownBlock = some k → k < base') (hg : (W.alloc o).grownBy w4 vi.ownBlock)
    (hat : v1.ownBlock = vi.ownBlock ∨ ∃ b, v1.ownBlock = some b ∧ W.heap.size ≤ b) :
    Below w.heap.size w w4 ∧ w4.heap[w.heap.size]? = some (.cells c4 25 (0, 0)) ∧ w4.heap[bt]? = some (.cells c6 25 (0, 0)) ∧ TabO w4 base' vg vb vf u ∧ NeT vg vf v1 := by
  have hne : ∀ {e : TypeId} {v : Value} {zs : List Value}, Ow e W base' v zs → ∀ k, v.ownBlock = some k → some k ≠ vi.ownBlock := by
    intro e v zs h k hk he
    have h1 := h.base k hk
    have h2 := hlo k he.symm
    omega
  refine ⟨(hB.alloc hB.size _).grown hg (by have := hB.size; simp; omega) (fun k hk => hI.base k hk), app_stays (by decide) h4 hI hg, app_stays (by decide) h6 hI hg,
    ⟨app_other hO.g (hne hO.g) hg, app_other hO.b (hne hO.b) hg, app_other hO.f (hne hO.f) hg, hO.ne⟩, fun k hk => ?_⟩
  rcases hat with h | ⟨b, h, hb⟩
  · rw [h] at hk
    have h2 := hlo k hk
    constructor
    · intro h3; have := hO.g.base k h3; omega
    · intro h3; have := hO.f.base k h3; omega
  · rw [h] at hk
    injection hk with hk
    subst hk
    constructor
    · intro h3; have := hO.g.lt _ h3; omega
    · intro h3; have := hO.f.lt _ h3; omega

theorem ne_lo {W : World} {base' : Nat} {vg vb vf vi : Value} {u : Tab} (hO : TabO W base' vg vb vf u) (hlo : ∀ k, vi.ownBlock = some k → k < base') : NeT vg vf vi := by
  intro k hk
  have h2 := hlo k hk
  constructor
  · intro h3; have := hO.g.base k h3; omega
  · intro h3; have := hO.f.base k h3; omega

set_option maxHeartbeats 4000000 in
theorem made_any (w : World) (room : Nat) (Al : Option Addr) (nl cl : Nat) (l : List Nat) (hr : room < 256) (hl : Rd w (.slice Al nl cl) (u8s l)) (h8 : ∀ x ∈ l, x < 256) :
    Calls Try.prog 12 #[.int .u8 room, .slice Al nl cl] w (MadePost w (madeS room l)) := by
  have ll := hl.len
  rw [u8s_len] at ll
  have hlm : l.length ≤ 9223372036854775807 := by obtain ⟨_, _, _, _, hm, _⟩ := hl; rwa [u8s_len] at hm
  have HL := Lib.hid hl
  clear hl
  go_enter Try.func12, Try.ntmps12
  go_wp2_with fail
  refine (rnew_any _ (1 + (room % 8 : Nat))).mono ?_
  generalize hS : newS (1 + (room % 8 : Nat)) = S0
  rintro e w1 ⟨A1, n1, c1, A2, n2, c2, A3, n3, c3, rfl, hO1, hb1⟩
  obtain ⟨hB1, x4⟩ := alloc1 hb1
  have HO1 := Lib.hid hO1
  have X4 := Lib.hid x4
  have l4 := (Array.getElem?_eq_some_iff.1 x4).1
  clear hb1 hO1 x4
  go_wp2_with fail
  go_loopg [7, 8] (min nl 60) (fun gg s7 s8 wr => ∃ kk : Nat, kk ≤ min nl 60 ∧ min nl 60 - kk ≤ gg ∧ s8 = .int .i64 kk ∧ ∃ Ai ni ci, s7 = .slice Ai ni ci ∧ Below w.heap.size w wr ∧ ∃ A1 n1 c1 A2 n2 c2 A3 n3 c3,
    Aside (wr.heap[w.heap.size]? = some (.cells #[.slice none 0 0, .slice none 0 0, .slice none 0 0] 25 (0, 0)) ∧ wr.heap[w1.heap.size]? = some (.cells #[.slice A1 n1 c1, .slice A2 n2 c2, .slice A3 n3 c3] 25 (0, 0)) ∧
      TabO wr w.heap.size (.slice A1 n1 c1) (.slice A2 n2 c2) (.slice A3 n3 c3) ((l.take kk).foldl stepM (S0, [])).1 ∧ Ow 3 wr w.heap.size (.slice Ai ni ci) (ints ((l.take kk).foldl stepM (S0, [])).2) ∧ NeT (.slice A1 n1 c1) (.slice A3 n3 c3) (.slice Ai ni ci)))
  case atStart =>
    refine ⟨0, Nat.zero_le _, by omega, rfl, none, 0, 0, rfl, hB1.alloc hB1.size _, A1, n1, c1, A2, n2, c2, A3, n3, c3, ?_⟩
    show Aside _
    have al : Below w1.heap.size w1 (w1.alloc (.cells #[.slice A1 n1 c1, .slice A2 n2 c2, .slice A3 n3 c3] 25)) := (Below.refl _ _).alloc (Nat.le_refl _) _
    exact ⟨keep al X4.out, heap_alloc_new _ _, ((HO1.out.below al).lower (by simp)), Ow.nil _ _ _, fun k hk => by simp [Value.ownBlock] at hk⟩
  case round =>
    obtain ⟨kk, hkk, hg, rfl, Ai, ni, ci, rfl, hB, A1, n1, c1, A2, n2, c2, A3, n3, c3, HA⟩ := hrel
    obtain ⟨h4, h6, hO, hI, hN⟩ := HA.out
    have hok : OkM kk ((l.take kk).foldl stepM (S0, [])) := by
      have := OkM.run (l.take kk) (OkM.start room)
      rw [hS] at this
      simpa [Nat.min_eq_left (show kk ≤ l.length by omega)] using this
    generalize hst : (l.take kk).foldl stepM (S0, []) = st at *
    have lI := hI.rd.len
    rw [ints_len] at lI
    have hs : st.1.small := hok.small (by omega)
    have hBs := hB.size
    clear HA
    have HI := Lib.hid hI
    have HO := Lib.hid hO
    have H6 := Lib.hid h6
    have H4 := Lib.hid h4
    have HN := Lib.hid hN
    have HOK := Lib.hid hok
    clear hI hO h4 hN hok
    by_cases hlt : kk < min nl 60
    · have hlt1 : (kk : Int) < (nl : Int) := by omega
      have hlt2 : (kk : Int) < 60 := by omega
      obtain ⟨bl, ol, rfl, hbl, hlc⟩ := HL.out.get (by omega)
      have hkl : kk < l.length := by omega
      have hc := (hB.cell (p := ⟨bl, ol + kk, none⟩) hbl).trans (hlc kk _ (u8s_at hkl))
      have hnx : (l.take (kk + 1)).foldl stepM (S0, []) = stepM st l[kk] := by rw [run_take_succ hkl, hst]
      have hx8 := h8 l[kk] (List.getElem_mem hkl)
      generalize l[kk] = x at hc hnx hx8
      have HNX := Lib.hid hnx
      clear hnx hlc hst
      have z0 := box_at h6 0 _ rfl
      have z1 := box_at h6 1 _ rfl
      have z2 := box_at h6 2 _ rfl
      have zf := box_free h6
      clear h6
      by_cases hx3 : 0 < x % 3
      · have hx3' : (0 : Int) < (x : Int) % 3 := by omega
        have hst1 : stepM st x = ((takeS st.1).1, if (takeS st.1).2.2 = 0 then st.2 ++ [(takeS st.1).2.1] else st.2) := by unfold stepM; rw [if_pos hx3]
        generalize htk : takeS st.1 = r at hst1
        obtain ⟨u, id, e⟩ := r
        have HTK := Lib.hid htk
        have HST := Lib.hid hst1
        clear htk hst1
        by_cases he : e = 0
        · subst he
          go_wp2_with fail
          refine (rtake_any _ A1 n1 c1 A2 n2 c2 A3 n3 c3 st.1 HO.out.r hs).mono ?_
          rw [HTK.out]
          rintro e w2 ⟨B1, m1, d1, B2, m2, d2, B3, m3, d3, rfl, hO2, hb2⟩
          have hB2 := hB.trans (hb2.mono hB.size)
          have H4' := Lib.hid (keep hb2 H4.out)
          have h6' := keep hb2 H6.out
          have HO2 := Lib.hid hO2
          have HI2 := Lib.hid (HI.out.below hb2)
          have HS2 := Lib.hid hb2.size
          clear hb2 hO2 z0 z1 z2 zf
          have z0 := box_at h6' 0 _ rfl
          have z1 := box_at h6' 1 _ rfl
          have z2 := box_at h6' 2 _ rfl
          have zf := box_free h6'
          have H6' := Lib.hid h6'
          have l6 := (Array.getElem?_eq_some_iff.1 h6').1
          clear h6'
          have hlo : ∀ k, (Value.slice Ai ni ci).ownBlock = some k → k < wr.heap.size := HI.out.lt
          have HK := Lib.hid (step_box hB2 H4'.out H6'.out l4 HO2.out HI2.out)
          go_wp2_with (at_builtin; generalize hW : (((w2.setCell ⟨w1.heap.size, 0, none⟩ (.slice B1 m1 d1)).setCell ⟨w1.heap.size, 1, none⟩ (.slice B2 m2 d2)).setCell ⟨w1.heap.size, 2, none⟩ (.slice B3 m3 d3)) = W at *; have HW := Lib.hid (show W.heap.size = w2.heap.size by rw [← hW]; simp); clear hW z0 z1 z2 zf; refine wp_app w.heap.size rfl _ _ 22 3 (.int .i64 0) 8 rfl Try.underlying22 Try.info3 rfl (by omega) (.slice Ai ni ci) (.slice (some ⟨w2.heap.size + 1, 0, none⟩) 1 1) (ints st.2) [.int .i64 id] rfl rfl ?d1 ?d0 ?d2 ?d3 ?d4 ?d5)
          case d0 =>
            have := rd_box (W.alloc (.cells #[.slice B1 m1 d1, .slice B2 m2 d2, .slice B3 m3 d3] 25)) (.int .i64 id) 3
            rwa [World.size_alloc, HW.out] at this
          case d1 => exact (HK.out.2.2.2.2.1.below ((Below.refl _ _).alloc (Nat.le_refl _) _)).below ((Below.refl _ _).alloc (Nat.le_refl _) _)
          case d2 => simp [Value.oneCell']
          case d3 => have := HOK.out.i; simp [ints_len]; omega
          case d4 => have := HK.out.1.size; simp; omega
          case d5 =>
            intro v1 w4 hv1 hg1 hat
            obtain ⟨Aj, nj, cj, rfl⟩ := hv1.slice'
            have al : Below W.heap.size W (W.alloc (.cells #[.slice B1 m1 d1, .slice B2 m2 d2, .slice B3 m3 d3] 25)) := (Below.refl _ _).alloc (Nat.le_refl _) _
            obtain ⟨k1, k2, k3, k4, k5, k6⟩ := HK.out
            obtain ⟨p1, p2, p3, p4, p5⟩ := step_app (k1.trans (al.mono k1.size)) (keep al k2) (keep al k3) (k4.below al) (k5.below al) hlo hg1 (by rcases hat with h | ⟨b, h, hb⟩; exact .inl h; exact .inr ⟨b, h, by simp at hb ⊢; omega⟩)
            have HV := Lib.hid hv1
            have HP := Lib.hid (show _ ∧ _ ∧ _ from ⟨p2, p3, p4⟩)
            have HN' := Lib.hid p5
            have hBn := p1
            clear HK k1 k2 k3 k4 k5 k6 p1 p2 p3 p4 p5 hv1 hg1 hat al HI HO HI2 HO2 H4 H6 H4' H6' HN
            go_wp2_with fail
            go_roundg (min nl 60 - (kk + 1))
            case measure => omega
            case rel =>
              refine ⟨kk + 1, by omega, by omega, by simp, _, _, _, rfl, hBn, B1, m1, d1, B2, m2, d2, B3, m3, d3, ?_⟩
              show Aside _
              rw [HNX.out, HST.out]
              refine ⟨HP.out.1, HP.out.2.1, ?_, ?_, HN'.out⟩
              · exact HP.out.2.2.lower hBs
              · have := HV.out
                rwa [show ints st.2 ++ [Value.int .i64 id] = ints (st.2 ++ [id]) by simp [ints]] at this
        · have he' : (e == (0 : Int)) = false := by simp [he]
          go_wp2_with fail
          refine (rtake_any _ A1 n1 c1 A2 n2 c2 A3 n3 c3 st.1 HO.out.r hs).mono ?_
          rw [HTK.out]
          rintro e w2 ⟨B1, m1, d1, B2, m2, d2, B3, m3, d3, rfl, hO2, hb2⟩
          have hB2 := hB.trans (hb2.mono hB.size)
          have H4' := Lib.hid (keep hb2 H4.out)
          have h6' := keep hb2 H6.out
          have HO2 := Lib.hid hO2
          have HI2 := Lib.hid (HI.out.below hb2)
          clear hb2 hO2 z0 z1 z2 zf
          have z0 := box_at h6' 0 _ rfl
          have z1 := box_at h6' 1 _ rfl
          have z2 := box_at h6' 2 _ rfl
          have zf := box_free h6'
          have H6' := Lib.hid h6'
          have l6 := (Array.getElem?_eq_some_iff.1 h6').1
          clear h6'
          have hlo : ∀ k, (Value.slice Ai ni ci).ownBlock = some k → k < wr.heap.size := HI.out.lt
          have HK := Lib.hid (step_box hB2 H4'.out H6'.out l4 HO2.out HI2.out)
          go_wp2_with fail
          go_roundg (min nl 60 - (kk + 1))
          case measure => omega
          case rel =>
            obtain ⟨k1, k2, k3, k4, k5, k6⟩ := HK.out
            refine ⟨kk + 1, by omega, by omega, by simp, _, _, _, rfl, k1.alloc k1.size _, B1, m1, d1, B2, m2, d2, B3, m3, d3, ?_⟩
            show Aside _
            rw [HNX.out, HST.out, if_neg he]
            generalize (((w2.setCell ⟨w1.heap.size, 0, none⟩ (.slice B1 m1 d1)).setCell ⟨w1.heap.size, 1, none⟩ (.slice B2 m2 d2)).setCell ⟨w1.heap.size, 2, none⟩ (.slice B3 m3 d3)) = W at *
            have al : Below W.heap.size W (W.alloc (.cells #[.slice B1 m1 d1, .slice B2 m2 d2, .slice B3 m3 d3] 25)) := (Below.refl _ _).alloc (Nat.le_refl _) _
            exact ⟨keep al k2, keep al k3, (k4.below al).lower hBs, k5.below al, ne_lo k4 hlo⟩
      · have hx3' : (x : Int) % 3 ≤ 0 := by omega
        by_cases hni : ni = 0
        · subst hni
          go_wp2_with fail
          go_roundg (min nl 60 - (kk + 1))
          case measure => omega
          case rel =>
            refine ⟨kk + 1, by omega, by omega, by simp, _, _, _, rfl, hB, A1, n1, c1, A2, n2, c2, A3, n3, c3, ?_⟩
            show Aside _
            rw [HNX.out, show stepM st x = st by unfold stepM; rw [if_neg hx3, if_neg (by omega)]]
            exact ⟨H4.out, H6.out, HO.out, HI.out, HN.out⟩
        · have hni1 : (0 : Int) < (ni : Int) := by omega
          have hni2 : ¬ (ni : Int) = 0 := by omega
          obtain ⟨kq, hkq⟩ : ∃ kq, x / 3 % ni = kq := ⟨_, rfl⟩
          have hq : (x : Int) / 3 % (ni : Int) = (kq : Int) := by rw [← hkq]; simp
          have hkl' : kq < ni := by rw [← hkq]; exact Nat.mod_lt _ (by omega)
          have hkq2 : (kq : Int) < (ni : Int) := by omega
          have hst1 : stepM st x = ((giveS st.1 (st.2.getD kq 0)).1, st.2.take kq ++ st.2.drop (kq + 1)) := by
            unfold stepM
            rw [if_neg hx3, if_pos (by omega), lI, hkq]
          have hid : st.2.getD kq 0 ≤ 9223372036854775807 := by
            have hl : kq < st.2.length := by omega
            rw [List.getD_eq_getElem?_getD, List.getElem?_eq_getElem hl]
            have := HOK.out.id _ (List.getElem_mem hl)
            simp; omega
          obtain ⟨bi, oi, rfl, hbi, hic⟩ := HI.out.rd.get (by omega)
          have hic1 : wr.cell? ⟨bi, oi + kq, none⟩ = some (.int .i64 (st.2.getD kq 0)) := hic _ _ (by
            have hl : kq < st.2.length := by omega
            rw [ints_at hl, List.getD_eq_getElem?_getD, List.getElem?_eq_getElem hl]; rfl)
          generalize st.2.getD kq 0 = id at *
          have HST := Lib.hid hst1
          have HKQ := Lib.hid hkq
          clear hst1 hkq hic
          have hlo : ∀ k, (Value.slice (some ⟨bi, oi, none⟩) ni ci).ownBlock = some k → k < wr.heap.size := HI.out.lt
          go_upto_region 13 with fail
          simp only [hq]
          go_cut [] from 18 to 76 (fun wx => ∃ B1 m1 d1 B2 m2 d2 B3 m3 d3, Aside (Below w.heap.size w wx ∧ wr.heap.size ≤ wx.heap.size ∧ wx.heap[w.heap.size]? = some (.cells #[.slice none 0 0, .slice none 0 0, .slice none 0 0] 25 (0, 0)) ∧ wx.heap[w1.heap.size]? = some (.cells #[.slice B1 m1 d1, .slice B2 m2 d2, .slice B3 m3 d3] 25 (0, 0)) ∧
            TabO wx wr.heap.size (.slice B1 m1 d1) (.slice B2 m2 d2) (.slice B3 m3 d3) (giveS st.1 id).1 ∧ Ow 3 wx w.heap.size (.slice (some ⟨bi, oi, none⟩) ni ci) (ints st.2)))
          case first =>
            go_region_with (go_at_call 18; refine (rgive_any _ A1 n1 c1 A2 n2 c2 A3 n3 c3 st.1 id (HO.out.r.below (below_drew (Below.refl _ _))) hs hid).mono ?_; rintro e w2 ⟨B1, m1, d1, B2, m2, d2, B3, m3, d3, rfl, hO2, hb2⟩; have hB2 : Below w.heap.size w w2 := (below_drew hB).trans (hb2.mono hBs); have H4' := Lib.hid (keep hb2 H4.out); have h6' := keep hb2 H6.out; have HO2 := Lib.hid (hO2.lower (base' := wr.heap.size) (Nat.le_refl _)); have HI2 := Lib.hid (HI.out.below ((below_drew (Below.refl _ _)).trans hb2)); have HS2 := Lib.hid (show wr.heap.size ≤ w2.heap.size from hb2.size); clear hb2 hO2 z0 z1 z2 zf; have z0 := box_at h6' 0 _ rfl; have z1 := box_at h6' 1 _ rfl; have z2 := box_at h6' 2 _ rfl; have zf := box_free h6'; have H6' := Lib.hid h6'; have l6 := (Array.getElem?_eq_some_iff.1 h6').1; clear h6')
            all_goals go_wp2_with fail
            all_goals go_meet
            all_goals
              obtain ⟨k1, k2, k3, k4, k5, k6⟩ := step_box hB2 H4'.out H6'.out l4 HO2.out HI2.out
              refine ⟨B1, m1, d1, B2, m2, d2, B3, m3, d3, ?_⟩
              show Aside _
              have := HS2.out
              exact ⟨k1, by rw [k6]; exact this, k2, k3, k4, k5⟩
          case rest =>
            obtain ⟨B1, m1, d1, B2, m2, d2, B3, m3, d3, HA⟩ := hcut
            obtain ⟨hBx, hsx, h4x, h6x, hOx, hIx⟩ := HA.out
            have HAX := Lib.hid HA.out
            clear HA h4x h6x hOx z0 z1 z2 zf hic1 hc
            have hi3' := Try.info3
            obtain ⟨i3, hi3⟩ : ∃ i, Try.prog.info? 3 = some i := by
              cases h : Try.prog.info? 3 with
              | none => rw [h] at hi3'; simp at hi3'
              | some i => exact ⟨i, rfl⟩
            clear hi3'
            have hsl := cut_from (P := Try.prog) 22 3 .i64 Try.underlying22 hi3 1 (by have := Try.info3; rw [hi3] at this; simp at this; exact this.2.1) (some ⟨bi, oi, none⟩) ni ci ((kq : Int) + 1) (by omega) (by omega)
            have hfd := hIx.drop (kq + 1) (by omega)
            have htk := Lib.hid (hIx.take kq (by omega)).rd
            rw [show ((kq : Int) + 1).toNat = kq + 1 by omega, Nat.mul_one] at hsl
            generalize (if ci = kq + 1 then some (⟨bi, oi, none⟩ : Addr) else (some (⟨bi, oi, none⟩ : Addr)).map (fun x => x.add (kq + 1))) = A6 at hsl hfd
            have HFD := Lib.hid hfd.rd
            have hni60 : ni ≤ 60 := by have := HOK.out.i; omega
            have HW64 := Lib.hid (w64 (x := (kq : Int) + 1) (by omega) (by omega))
            have hcap : (kq : Int) ≤ (ci : Int) := by have := hIx.cap; omega
            have hkq3 : (kq : Int) + 1 ≤ (ni : Int) := by omega
            have hbytes := Lib.hid HOK.out.i
            clear hi3 hfd hIx
            go_wp2_with fail
            have hw64 : IntKind.i64.wrap ((kq : Int) + 1) = (kq : Int) + 1 := by simp [IntKind.wrap, IntKind.bits, IntKind.signed]; omega
            go_region_held3 (fun w' => wc.heap.size ≤ w'.heap.size ∧ Below wc.heap.size wc w')
              (first | exact SM.start _ | (refine SM.step (row := none) ‹SM wc _› ‹_› ?_; intro k hk; cases hk) | (refine SM.step ‹SM wc _› ‹_› ?_; intro k hk; exact hv1.base k hk))
              (first
               | (refine wp_app_step wc.heap.size (by rfl) _ _ 22 3 (.int .i64 0) 8 (by rfl) Try.underlying22 Try.info3 rfl (by omega) (.slice none 0 0) (.slice (some ⟨bi, oi, none⟩) kq ci) [] ((ints st.2).take kq) (by rfl) (by rfl) (Ow.nil _ _ _) (htk.out.below (‹SM wc _›).2) (fun u hu => ints_one _ u (List.mem_of_mem_take hu)) (by have := hbytes.out; simp [ints_len]; omega) (‹SM wc _›).1 ?_; intro v1 w3 hv1 hg1 hat1; obtain ⟨A5, n5, c5, rfl⟩ := hv1.slice')
               | (refine wp_app_step wc.heap.size (by rfl) _ _ 22 3 (.int .i64 0) 8 (by rfl) Try.underlying22 Try.info3 rfl (by omega) (.slice A5 n5 c5) (.slice A6 (ni - (kq + 1)) (ci - (kq + 1))) ([] ++ (ints st.2).take kq) ((ints st.2).drop (kq + 1)) (by rfl) (by rfl) hv1 (HFD.out.below (‹SM wc _›).2) (fun u hu => ints_one _ u (List.mem_of_mem_drop hu)) (by have := hbytes.out; simp [ints_len]; omega) (‹SM wc _›).1 ?_; intro v2 w4 hv2 hg2 hat2; obtain ⟨A7, n7, c7, rfl⟩ := hv2.slice'))
            go_wp2_with fail
            go_roundg (min nl 60 - (kk + 1))
            case measure => omega
            case rel =>
              obtain ⟨hBx, hsx, h4x, h6x, hOx, hIx⟩ := HAX.out
              have b1 : Below wc.heap.size wc w3 := (below_drew (Below.refl _ _)).trans (below_of_grown hg1)
              have b4 : Below wc.heap.size wc w4 := b1.grown hg2 b1.size (fun k hk => hv1.base k hk)
              refine ⟨kk + 1, by omega, by omega, by simp, _, _, _, rfl, hBx.trans (b4.mono hBx.size), B1, m1, d1, B2, m2, d2, B3, m3, d3, ?_⟩
              show Aside _
              rw [HNX.out, HST.out]
              refine ⟨keep b4 h4x, keep b4 h6x, (hOx.below b4).lower hBs, ?_, fun k hk => ?_⟩
              · have := hv2.lower (base' := w.heap.size) hBx.size
                rwa [show [] ++ (ints st.2).take kq ++ (ints st.2).drop (kq + 1) = ints (st.2.take kq ++ st.2.drop (kq + 1)) by simp [ints, List.map_take, List.map_drop]] at this
              · have h3 := hv2.base k hk
                constructor
                · intro h5; have := hOx.g.lt k h5; omega
                · intro h5; have := hOx.f.lt k h5; omega
    · have hkm : kk = min nl 60 := by omega
      have hfin : madeS room l = st := by
        unfold madeS
        rw [hS, ← hst, hkm]
        congr 1
        by_cases h : nl ≤ 60
        · rw [Nat.min_eq_left h, List.take_of_length_le (by omega), List.take_of_length_le (by omega)]
        · rw [Nat.min_eq_right (by omega)]
      have HF := Lib.hid hfin
      have z0 := box_at h6 0 _ rfl
      have z1 := box_at h6 1 _ rfl
      have z2 := box_at h6 2 _ rfl
      have r0 := box_at H4.out 0 _ rfl
      have r1 := box_at H4.out 1 _ rfl
      have r2 := box_at H4.out 2 _ rfl
      have rf := box_free H4.out
      clear hfin h6 hst
      by_cases hlt1 : (kk : Int) < (nl : Int)
      · have hlt2 : ¬ (kk : Int) < 60 := by omega
        go_wp2_with fail
        refine bodyPost_ret (v := .tuple #[.agg #[.slice A1 n1 c1, .slice A2 n2 c2, .slice A3 n3 c3], .slice Ai ni ci]) (by simp [results, Try.results12, go_sem, r0, r1, r2]) rfl ?_
        rw [HF.out]
        refine ⟨A1, n1, c1, A2, n2, c2, A3, n3, c3, Ai, ni, ci, rfl, ?_, ?_, ?_⟩
        · exact ⟨((HO.out.g.far (ne25 (by decide) H4.out HO.out.g) _).far (ne25 (by decide) H4.out HO.out.g) _).far (ne25 (by decide) H4.out HO.out.g) _, ((HO.out.b.far (ne25 (by decide) H4.out HO.out.b) _).far (ne25 (by decide) H4.out HO.out.b) _).far (ne25 (by decide) H4.out HO.out.b) _, ((HO.out.f.far (ne25 (by decide) H4.out HO.out.f) _).far (ne25 (by decide) H4.out HO.out.f) _).far (ne25 (by decide) H4.out HO.out.f) _, HO.out.ne⟩
        · exact (((HI.out.far (ne25 (by decide) H4.out HI.out) _).far (ne25 (by decide) H4.out HI.out) _).far (ne25 (by decide) H4.out HI.out) _).rd
        · exact ((hB.setCell (by simp) _).setCell (by simp) _).setCell (by simp) _
      · go_wp2_with fail
        refine bodyPost_ret (v := .tuple #[.agg #[.slice A1 n1 c1, .slice A2 n2 c2, .slice A3 n3 c3], .slice Ai ni ci]) (by simp [results, Try.results12, go_sem, r0, r1, r2]) rfl ?_
        rw [HF.out]
        refine ⟨A1, n1, c1, A2, n2, c2, A3, n3, c3, Ai, ni, ci, rfl, ?_, ?_, ?_⟩
        · exact ⟨((HO.out.g.far (ne25 (by decide) H4.out HO.out.g) _).far (ne25 (by decide) H4.out HO.out.g) _).far (ne25 (by decide) H4.out HO.out.g) _, ((HO.out.b.far (ne25 (by decide) H4.out HO.out.b) _).far (ne25 (by decide) H4.out HO.out.b) _).far (ne25 (by decide) H4.out HO.out.b) _, ((HO.out.f.far (ne25 (by decide) H4.out HO.out.f) _).far (ne25 (by decide) H4.out HO.out.f) _).far (ne25 (by decide) H4.out HO.out.f) _, HO.out.ne⟩
        · exact (((HI.out.far (ne25 (by decide) H4.out HI.out) _).far (ne25 (by decide) H4.out HI.out) _).far (ne25 (by decide) H4.out HI.out) _).rd
        · exact ((hB.setCell (by simp) _).setCell (by simp) _).setCell (by simp) _
end Go.Proofs.Yteaifndkmknanaa
