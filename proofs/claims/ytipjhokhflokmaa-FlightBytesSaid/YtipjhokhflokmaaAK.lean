/- flight.Feed (printed by mkAK.py). -/
import Derived.Test.YtipjhokhflokmaaAJ
set_option linter.unusedVariables false
set_option linter.unusedSimpArgs false
namespace Go.Proofs.Ytipjhokhflokmaa
open Go.RowKit Go.Maps
open Go.Proofs.YtipjhokhflokmaaW.PrintWords

theorem OfS.grown {w W W1 : World} {t6 b off n c : Nat} {room next : Int} {zs zs' : List FV} {pa : Option Addr} (h : OfS w W t6 room next (.slice (some ⟨b, off, none⟩) n c) zs pa) (hg : W.grownBy W1 (some b)) (ho : OwF W1 w.heap.size (.slice (some ⟨b, off, none⟩) n c) zs') : OfS w W1 t6 room next (.slice (some ⟨b, off, none⟩) n c) zs' pa := by
  obtain ⟨cb, hcb⟩ := h.ow.o.typed b rfl
  have nb : ∀ {k : Nat} {cs : Array Value} {T : TypeId}, T ≠ 45 → W.heap[k]? = some (.cells cs T (0, 0)) → W1.heap[k]? = some (.cells cs T (0, 0)) := fun hT hk => gb_box hg hk (fun he => blocks_ne hT hk hcb (Option.some.inj he))
  exact ⟨nb (by decide) h.bx, nb (by decide) h.bz, nb (by decide) h.tp, ho, h.bw.grown hg h.bw.size (fun q hq => by cases hq; exact h.ow.o.lo b rfl), h.t6⟩
theorem ext_sub (l : List UInt8) (i m : Nat) : (⟨l.toArray⟩ : ByteArray).extract i (i + m) = ⟨((l.drop i).take m).toArray⟩ := by
  apply ByteArray.ext
  rw [ByteArray.data_extract]
  apply Array.ext'
  rw [Array.toList_extract, List.extract_eq_take_drop, show i + m - i = m by omega]
theorem roomS_no {x : Fl} (h : (roomS x).2.2 = false) : (roomS x).1 = x := by
  unfold roomS at h ⊢
  by_cases h1 : x.base < leastS x
  · rw [if_pos h1] at h
    cases h
  · rw [if_neg h1] at h ⊢
    by_cases h2 : fastS x = []
    · rw [if_pos h2]
    · rw [if_neg h2] at h
      cases h
theorem is_grownB {W W1 : World} {b : Nat} {base : Nat} {L : Value} {out : List Int} (h : OwE ienc 1 3 W base L out) (hg : W.grownBy W1 (some b)) (hb : ∃ cs, W.heap[b]? = some (.cells cs 45 (0, 0))) : OwE ienc 1 3 W1 base L out :=
  h.grown hg (fun q hq he => by
    obtain ⟨c1, h1⟩ := h.typed q hq
    obtain ⟨c2, h2⟩ := hb
    cases he
    exact blocks_ne (by decide) h1 h2 rfl)
/-- while bytes come -/
structure FdO (w W : World) (t6 : Nat) (room next : Int) (b off n c : Nat) (zs : List FV) (k : Nat) (S : Sl) (x : Fl) (L : Value) (out : List Int) : Prop where
  of : OfS w W t6 room next (.slice (some ⟨b, off, none⟩) n c) (zs.set k (x, S)) (some ⟨b, off + k * 8, none⟩)
  is : OwE ienc 1 3 W w.heap.size L out
theorem FdO.below {w W W1 : World} {t6 : Nat} {room next : Int} {b off n c : Nat} {zs : List FV} {k : Nat} {S : Sl} {x : Fl} {L : Value} {out : List Int} (h : FdO w W t6 room next b off n c zs k S x L out) (hb : Below W.heap.size W W1) : FdO w W1 t6 room next b off n c zs k S x L out := ⟨h.of.below hb, h.is.below hb⟩
theorem FdO.put1 {w W : World} {t6 : Nat} {room next : Int} {b off n c : Nat} {zs : List FV} {k : Nat} {S : Sl} {x x' : Fl} {L : Value} {out : List Int} (h : FdO w W t6 room next b off n c zs k S x L out) (hk : k < zs.length) (j : Nat) (hj : j < 8) {v : Value} (hx : fenc (x', S) = (fenc (x, S)).set j v) (hw : x'.ws = x.ws) : FdO w (W.setCell ⟨b, off + k * 8 + j, none⟩ v) t6 room next b off n c zs k S x' L out := by
  obtain ⟨cb, hcb⟩ := h.of.ow.o.typed b rfl
  have h1 := h.of.ow.put1 (k := k) (x := x) (x' := x') (S := S) (List.getElem?_set_self hk) j hj hx hw
  rw [List.set_set] at h1
  exact ⟨h.of.put rfl hcb (h.of.ow.o.lo b rfl) h1, ints_far h.is hcb (by decide) _ _⟩
theorem FdO.room {w W W1 : World} {t6 : Nat} {room next : Int} {b off n c : Nat} {zs : List FV} {k : Nat} {S S' : Sl} {x x' : Fl} {L : Value} {out : List Int} (h : FdO w W t6 room next b off n c zs k S x L out) (hg : W.grownBy W1 (some b)) (ho : OwF W1 w.heap.size (.slice (some ⟨b, off, none⟩) n c) ((zs.set k (x, S)).set k (x', S'))) : FdO w W1 t6 room next b off n c zs k S' x' L out := by
  rw [List.set_set] at ho
  exact ⟨h.of.grown hg ho, is_grownB h.is hg (h.of.ow.o.typed b rfl)⟩
theorem FdO.app {w W W1 : World} {t6 : Nat} {room next : Int} {b off n c : Nat} {zs : List FV} {k : Nat} {S : Sl} {x : Fl} {L L' : Value} {out out' : List Int} (h : FdO w W t6 room next b off n c zs k S x L out) (hg : W.grownBy W1 L.ownBlock) (h1 : OwE ienc 1 3 W1 w.heap.size L' out') : FdO w W1 t6 room next b off n c zs k S x L' out' := by
  have ne : ∀ (q : Nat) (T : TypeId) (cs : Array Value), T ≠ 3 → W.heap[q]? = some (.cells cs T (0, 0)) → some q ≠ L.ownBlock := fun q T cs hT hq he => by
    obtain ⟨c1, hc1⟩ := h.is.typed q he.symm
    exact blocks_ne hT hq hc1 rfl
  have nb : ∀ {q : Nat} {cs : Array Value} {T : TypeId}, T ≠ 3 → W.heap[q]? = some (.cells cs T (0, 0)) → W1.heap[q]? = some (.cells cs T (0, 0)) := fun hT hq => gb_box hg hq (ne _ _ _ hT hq)
  have ho : OwF W1 w.heap.size (.slice (some ⟨b, off, none⟩) n c) (zs.set k (x, S)) := ⟨h.of.ow.o.grown hg (fun q hq => by
      obtain ⟨c2, hc2⟩ := h.of.ow.o.typed q hq
      exact ne _ _ _ (by decide) hc2), fun i y hy => (h.of.ow.r i y hy).grown hg (fun q hq => by
      obtain ⟨c2, hc2⟩ := (h.of.ow.r i y hy).typed q hq
      exact ne _ _ _ (by decide) hc2), h.of.ow.ne⟩
  exact ⟨⟨nb (by decide) h.of.bx, nb (by decide) h.of.bz, nb (by decide) h.of.tp, ho, h.of.bw.grown hg h.of.bw.size (fun q hq => h.is.lo q hq), h.of.t6⟩, h1⟩

set_option maxRecDepth 100000 in
set_option maxHeartbeats 8000000 in
theorem feed_any (w : World) (room next : Int) (A : Option Addr) (n c : Nat) (ys : List FV) (id : Int) (s : List UInt8) (hr : RdF w (.slice A n c) ys) (hs : SmF (fls ys)) (hsl : s.length ≤ 1000) :
    Calls Try.prog 12 #[fv room next (.slice A n c), .int .i64 id, str s] w (FeedPost w room next (feedOp room next (fls ys) id s)) := by
  have hl : ys.length = n := hr.len
  have hn : n ≤ 1000 := by have := hs.n; rw [← hl]; simpa [fls] using this
  have hal1 : Below w.heap.size w (w.alloc (.cells #[.int .i64 room, .int .i64 next, .slice A n c] 26)) := (Below.refl _ _).alloc (Nat.le_refl _) _
  have hal2 : Below w.heap.size w ((w.alloc (.cells #[.int .i64 room, .int .i64 next, .slice A n c] 26)).alloc (.cells #[.int .i64 0, .int .i64 0, .slice none 0 0] 26)) := hal1.alloc (by simp) _
  have x1 : ((w.alloc (.cells #[.int .i64 room, .int .i64 next, .slice A n c] 26)).alloc (.cells #[.int .i64 0, .int .i64 0, .slice none 0 0] 26)).heap[w.heap.size]? = some (.cells #[.int .i64 room, .int .i64 next, .slice A n c] 26 (0, 0)) := keep ((Below.refl _ _).alloc (Nat.le_refl _) _) (heap_alloc_new w _)
  have x2 : ((w.alloc (.cells #[.int .i64 room, .int .i64 next, .slice A n c] 26)).alloc (.cells #[.int .i64 0, .int .i64 0, .slice none 0 0] 26)).heap[w.heap.size + 1]? = some (.cells #[.int .i64 0, .int .i64 0, .slice none 0 0] 26 (0, 0)) := by
    have := heap_alloc_new (w.alloc (.cells #[.int .i64 room, .int .i64 next, .slice A n c] 26)) (.cells #[.int .i64 0, .int .i64 0, .slice none 0 0] 26)
    rwa [show (w.alloc (.cells #[.int .i64 room, .int .i64 next, .slice A n c] 26)).heap.size = w.heap.size + 1 by simp] at this
  have HR0 := Lib.hid hr
  have HR := Lib.hid (hr.below hal2)
  have HS := Lib.hid hs
  clear hal1 hr hs
  go_enter Try.func12, Try.ntmps12
  go_upto_region 1 with fail
  generalize (w.alloc (.cells #[.int .i64 room, .int .i64 next, .slice A n c] 26)).alloc (.cells #[.int .i64 0, .int .i64 0, .slice none 0 0] 26) = U at *
  have HX1 := Lib.hid x1
  have HX2 := Lib.hid x2
  have HAL := Lib.hid hal2
  clear x1 x2 hal2
  have z0 : U.cell? ⟨w.heap.size, 0, none⟩ = some (.int .i64 room) := box_at HX1.out 0 _ rfl
  have z1 : U.cell? ⟨w.heap.size, 1, none⟩ = some (.int .i64 next) := box_at HX1.out 1 _ rfl
  have z2 : U.cell? ⟨w.heap.size, 2, none⟩ = some (.slice A n c) := box_at HX1.out 2 _ rfl
  have c26 := Lib.hid (of_any2 U room next A n c ys id HR.out HS.out)
  go_upto_region 2 with (go_at_call 26; refine c26.out.mono ?_; rintro e w2 ⟨A2, n2, c2, zs, pa, er, rfl, hfz, hO2, hb2, hcase⟩; have hb2a : Below U.heap.size U (w2.alloc (.cells #[.pointer none] 61)) := hb2.alloc hb2.size _; have hO2a := hO2.below (((Below.refl _ _).alloc (Nat.le_refl _) (.cells #[.pointer none] 61))); have y0 : (w2.alloc (.cells #[.pointer none] 61)).cell? ⟨w.heap.size, 0, none⟩ = some (.int .i64 room) := box_at (keep hb2a HX1.out) 0 _ rfl; have y1 : (w2.alloc (.cells #[.pointer none] 61)).cell? ⟨w.heap.size, 1, none⟩ = some (.int .i64 next) := box_at (keep hb2a HX1.out) 1 _ rfl; have y2 : (w2.alloc (.cells #[.pointer none] 61)).cell? ⟨w.heap.size, 2, none⟩ = some (.slice A n c) := box_at (keep hb2a HX1.out) 2 _ rfl; have yf : ∀ j, (w2.alloc (.cells #[.pointer none] 61)).frozen? ⟨w.heap.size, j, none⟩ = false := box_free (keep hb2a HX1.out); have hx6 := heap_alloc_new w2 (.cells #[.pointer none] 61); have hs2 := hb2.size; have ne6 : ¬ w2.heap.size = w.heap.size := (by have := HAL.out.size; have := (Array.getElem?_eq_some_iff.1 HX2.out).1; omega))
  have hS := of_setup pa HAL.out HX1.out HX2.out hO2 hb2
  clear y0 y1 y2 yf z0 z1 z2 hO2 hb2 hb2a hO2a hx6 hs2 ne6 HX1 HX2 HAL HR c26
  unfold st3 at hS
  generalize ((((w2.alloc (.cells #[.pointer none] 61)).setCell ⟨w.heap.size, 0, none⟩ (.int .i64 room)).setCell ⟨w.heap.size, 1, none⟩ (.int .i64 next)).setCell ⟨w.heap.size, 2, none⟩ (.slice A2 n2 c2)).setCell ⟨w2.heap.size, 0, none⟩ (.pointer pa) = W3 at *
  generalize w2.heap.size = t6 at *
  have HSS := Lib.hid hS
  have HFZ := Lib.hid hfz
  clear hS hfz
  have y0 : W3.cell? ⟨w.heap.size, 0, none⟩ = some (.int .i64 room) := box_at HSS.out.bx 0 _ rfl
  have y1 : W3.cell? ⟨w.heap.size, 1, none⟩ = some (.int .i64 next) := box_at HSS.out.bx 1 _ rfl
  have y2 : W3.cell? ⟨w.heap.size, 2, none⟩ = some (.slice A2 n2 c2) := box_at HSS.out.bx 2 _ rfl
  have s0 : W3.cell? ⟨w.heap.size + 1, 0, none⟩ = some (.int .i64 0) := box_at HSS.out.bz 0 _ rfl
  have s1 : W3.cell? ⟨w.heap.size + 1, 1, none⟩ = some (.int .i64 0) := box_at HSS.out.bz 1 _ rfl
  have s2 : W3.cell? ⟨w.heap.size + 1, 2, none⟩ = some (.slice none 0 0) := box_at HSS.out.bz 2 _ rfl
  have sf := box_free HSS.out.bz
  have p0 : W3.cell? ⟨t6, 0, none⟩ = some (.pointer pa) := box_at HSS.out.tp 0 _ rfl
  rcases hcase with ⟨hq, rfl, rfl⟩ | ⟨hq, hf, rfl, rfl⟩ | ⟨hq, b, off, k, x, rfl, hf, hx, hpi, rfl, rfl⟩
  · have HE := Lib.hid (feedOp1 hq id s)
    go_wp2_with fail
    have hfin := ret_own (room := room) (next := next) HSS.out.ow HSS.out.bw HSS.out.bz (Nat.le_succ _)
    refine bodyPost_ret (v := .tuple #[fv room next (.slice A2 n2 c2), .int .i64 0, .slice none 0 0, .int .i64 1]) (by simp [results, Try.results12, go_sem, s0, s1, s2]) rfl ?_
    rw [HE.out]
    exact ⟨A2, n2, c2, zs, none, 0, 0, rfl, HFZ.out, hfin.1, OwE.nil iencL _ _ _, hfin.2⟩
  · have HE := Lib.hid (feedOp5 hq hf s)
    clear hf
    go_wp2_with fail
    have hfin := ret_own (room := room) (next := next) HSS.out.ow HSS.out.bw HSS.out.bz (Nat.le_succ _)
    refine bodyPost_ret (v := .tuple #[fv room next (.slice A2 n2 c2), .int .i64 0, .slice none 0 0, .int .i64 5]) (by simp [results, Try.results12, go_sem, s0, s1, s2]) rfl ?_
    rw [HE.out]
    exact ⟨A2, n2, c2, zs, none, 0, 0, rfl, HFZ.out, hfin.1, OwE.nil iencL _ _ _, hfin.2⟩
  · have HFE := Lib.hid (fun (hd : x.done = true ∨ 9007199254740992 - (s.length : Int) < endS x) => feedOpE hq hf hx hd)
    have HF0 := Lib.hid (fun (hd : ¬ (x.done = true ∨ 9007199254740992 - (s.length : Int) < endS x)) (e : FS) (g : Goes room s ⟨x, 0, []⟩ e) (he : stepF room s e = none) => feedOp0 hq hf hx hd g he)
    have hrx := right_x hq hx
    have HFI := Lib.hid (fun (he : ¬ 9007199254740992 - (s.length : Int) < endS x) => FI.start (right_n hq) hrx he)
    have hok := right_ok hq hrx
    have hxw : x.ws.length ≤ 1000 := HS.out.w x (List.mem_of_getElem? hx)
    obtain ⟨S, hzk⟩ := fls_get HFZ.out hx
    obtain ⟨b', off', hA2, hlob, hF⟩ := HSS.out.ow.at_ hzk
    injection hA2 with hA2
    injection hA2 with h1 h2
    subst h1; subst h2
    have C25 := Lib.hid (end_any W3 b (off + k * 8) (x, S) hF hok)
    have hzl0 : zs.length = n2 := HSS.out.ow.rd.len
    have hkn : k < n2 := by have := (List.getElem?_eq_some_iff.1 hzk).1; omega
    have hkz : k < zs.length := by omega
    have hn2 : n2 ≤ 1000 := by have := HS.out.n; have h2 := fls_len HFZ.out; omega
    have HLOB := Lib.hid hlob
    have HZK := Lib.hid hzk
    have hsl1 : (s.length : Int) ≤ 1000 := by omega
    have k6 : W3.cell? ⟨b, off + k * 8 + 6, none⟩ = some (.bool x.done) := hF.c6
    have hw64 : IntKind.i64.wrap (9007199254740992 - (s.length : Int)) = 9007199254740992 - (s.length : Int) := by rw [IntKind.wrap_i64]; omega
    clear hf hx hpi hq hrx hzk hF hlob hok
    obtain ⟨en, hen⟩ : ∃ en, endS x = en := ⟨_, rfl⟩
    rw [hen] at HFE HF0 HFI
    simp only [hen] at C25
    clear hen
    cases hdn : x.done with
    | true =>
      rw [hdn] at k6
      have HE := Lib.hid (HFE.out (.inl hdn))
      clear HFE HF0 HFI hdn C25
      go_wp2_with fail
      have hfin := ret_own (room := room) (next := next) HSS.out.ow HSS.out.bw HSS.out.bz (Nat.le_succ _)
      refine bodyPost_ret (v := .tuple #[fv room next (.slice (some ⟨b, off, none⟩) n2 c2), .int .i64 0, .slice none 0 0, .int .i64 1]) (by simp [results, Try.results12, go_sem, s0, s1, s2]) rfl ?_
      rw [HE.out]
      exact ⟨_, n2, c2, zs, none, 0, 0, rfl, HFZ.out, hfin.1, OwE.nil iencL _ _ _, hfin.2⟩
    | false =>
      rw [hdn] at k6
      by_cases hb : 9007199254740992 - (s.length : Int) < en
      · have HE := Lib.hid (HFE.out (.inr hb))
        clear HFE HF0 HFI hdn y0 y1 y2 s0 s1 s2 sf
        go_upto_region 5 with (go_at_call 25; refine C25.out.mono ?_; rintro e w4 ⟨rfl, hb4⟩; have HS4 := Lib.hid (HSS.out.below hb4); clear hb4)
        have y0 : w4.cell? ⟨w.heap.size, 0, none⟩ = some (.int .i64 room) := box_at HS4.out.bx 0 _ rfl
        have y1 : w4.cell? ⟨w.heap.size, 1, none⟩ = some (.int .i64 next) := box_at HS4.out.bx 1 _ rfl
        have y2 : w4.cell? ⟨w.heap.size, 2, none⟩ = some (.slice (some ⟨b, off, none⟩) n2 c2) := box_at HS4.out.bx 2 _ rfl
        have s0 : w4.cell? ⟨w.heap.size + 1, 0, none⟩ = some (.int .i64 0) := box_at HS4.out.bz 0 _ rfl
        have s1 : w4.cell? ⟨w.heap.size + 1, 1, none⟩ = some (.int .i64 0) := box_at HS4.out.bz 1 _ rfl
        have s2 : w4.cell? ⟨w.heap.size + 1, 2, none⟩ = some (.slice none 0 0) := box_at HS4.out.bz 2 _ rfl
        have sf := box_free HS4.out.bz
        go_wp2_with fail
        have hfin := ret_own (room := room) (next := next) HS4.out.ow HS4.out.bw HS4.out.bz (Nat.le_succ _)
        refine bodyPost_ret (v := .tuple #[fv room next (.slice (some ⟨b, off, none⟩) n2 c2), .int .i64 0, .slice none 0 0, .int .i64 1]) (by simp [results, Try.results12, go_sem, s0, s1, s2]) rfl ?_
        rw [HE.out]
        exact ⟨_, n2, c2, zs, none, 0, 0, rfl, HFZ.out, hfin.1, OwE.nil iencL _ _ _, hfin.2⟩
      · have HI0 := Lib.hid (HFI.out (by omega))
        have HF1 := Lib.hid (HF0.out (by rw [hdn]; rintro (h | h); cases h; omega))
        have hnb : ¬ 9007199254740992 - (s.length : Int) < en := by omega
        clear HFE HF0 HFI hdn y0 y1 y2 s0 s1 s2 sf hb
        go_upto_region 6 with (go_at_call 25; refine C25.out.mono ?_; rintro e w4 ⟨rfl, hb4⟩; have HS4 := Lib.hid (HSS.out.below hb4); clear hb4)
        clear k6 hnb hw64 C25 HSS p0
        go_wp2_with fail
        have hst : FdO w w4 t6 room next b off n2 c2 zs k S x (.slice none 0 0) [] := ⟨by rw [set_self HZK.out]; exact HS4.out, OwE.nil iencL _ _ _⟩
        have HST := Lib.hid hst
        clear hst
        go_loopg [12, 13] (measF room s ⟨x, 0, []⟩) (fun gg s12 s13 wr => ∃ (t : FS) (S : Sl) (L : Option Addr) (l dl : Nat), s12 = .slice L l dl ∧ s13 = .int .i64 (t.n : Int) ∧ Aside (Goes room s ⟨x, 0, []⟩ t ∧ FI room s t ∧ measF room s t ≤ gg ∧ FdO w wr t6 room next b off n2 c2 zs k S t.x (.slice L l dl) t.out))
        case atStart => exact ⟨⟨x, 0, []⟩, S, none, 0, 0, rfl, rfl, (show Aside _ from ⟨.refl _, HI0.out, Nat.le_refl _, HST.out⟩)⟩
        case round =>
          clear HST HS4
          obtain ⟨t, S1, L, l, dl, rfl, rfl, HA⟩ := hrel
          have HG := Lib.hid HA.out.1
          have HI := Lib.hid HA.out.2.1
          have HM := Lib.hid HA.out.2.2.1
          have HD := Lib.hid HA.out.2.2.2
          clear HA
          obtain ⟨⟨xk, xs, xi, xb, xd, xt, xo, xw⟩, tn, out⟩ := t
          have i1 := HI.out.n
          have i2 := HI.out.r2
          have i3 := HI.out.d
          simp only at i1 i3
          have hzs : (zs.set k (⟨xk, xs, xi, xb, xd, xt, xo, xw⟩, S1))[k]? = some (⟨xk, xs, xi, xb, xd, xt, xo, xw⟩, S1) := List.getElem?_set_self hkz
          have HZS := Lib.hid hzs
          clear hzs
          have y0 : wr.cell? ⟨w.heap.size, 0, none⟩ = some (.int .i64 room) := box_at HD.out.of.bx 0 _ rfl
          have p0 : wr.cell? ⟨t6, 0, none⟩ = some (.pointer (some ⟨b, off + k * 8, none⟩)) := box_at HD.out.of.tp 0 _ rfl
          have k4 : wr.cell? ⟨b, off + k * 8 + 4, none⟩ = some (str xd) := (HD.out.of.ow.cell HZS.out (j := 4) rfl).1
          by_cases hlt : tn < s.length
          · have hltz : (tn : Int) < (s.length : Int) := by omega
            obtain ⟨m, hm⟩ := Int.eq_ofNat_of_zero_le (show 0 ≤ min (room - (xd.length : Int)) ((s.length : Int) - (tn : Int)) by omega)
            have HMM := Lib.hid hm
            clear hm
            go_upto_region 9 with fail
            go_cut [14] from 46 to 59 (fun s14 wx => s14 = .int .i64 (m : Int) ∧ Aside (Below wr.heap.size wr wx))
            case first =>
              have hm := HMM.out
              have hw1 : IntKind.i64.wrap (room - (xd.length : Int)) = room - (xd.length : Int) := by rw [IntKind.wrap_i64]; omega
              have hw2 : IntKind.i64.wrap ((s.length : Int) - (tn : Int)) = (s.length : Int) - (tn : Int) := by rw [IntKind.wrap_i64]; omega
              by_cases hmn : room - (xd.length : Int) ≤ (s.length : Int) - (tn : Int)
              · have hm2 : (m : Int) = room - (xd.length : Int) := by omega
                have HM2 := Lib.hid hm2
                clear hm hm2
                go_quiet (fail)
                go_wp2_with fail
                go_meet
                exact ⟨by rw [HM2.out], pw_below_drewN (Below.refl _ _) _⟩
              · have hm2 : (m : Int) = (s.length : Int) - (tn : Int) := by omega
                have HM2 := Lib.hid hm2
                clear hm hm2
                go_quiet (fail)
                go_wp2_with fail
                go_meet
                exact ⟨by rw [HM2.out], pw_below_drewN (Below.refl _ _) _⟩
            case rest =>
              obtain ⟨rfl, hcut⟩ := hcut
              have HDc := Lib.hid (HD.out.below hcut.out)
              clear hcut y0 p0 k4
              have p0 : wc.cell? ⟨t6, 0, none⟩ = some (.pointer (some ⟨b, off + k * 8, none⟩)) := box_at HDc.out.of.tp 0 _ rfl
              have hm := HMM.out
              by_cases hm0 : 0 < m
              · --<<
                have hfu : (xd.length : Int) < room := by omega
                have htm : tn + m ≤ s.length := by omega
                have hrm : (xd.length : Int) + m ≤ room := by omega
                have hex1 : (⟨s.toArray⟩ : ByteArray).extract tn ((tn : Int) + (m : Int)).toNat = ⟨((s.drop tn).take m).toArray⟩ := by rw [show ((tn : Int) + (m : Int)).toNat = tn + m by omega]; exact ext_sub s tn m
                have hsubl : ((s.drop tn).take m).length = m := by rw [List.length_take, List.length_drop]; omega
                have hms2 := measF_bytes (s := s) (t := ⟨⟨xk, xs, xi, xb, xd, xt, xo, xw⟩, tn, out⟩) (m := m) htm hm0 hfu
                have hi2 := HI.out.bytes m htm hrm
                have hg2 := HG.out.bytes m htm hrm
                simp only at hms2 hi2 hg2
                generalize (s.drop tn).take m = sub at *
                have hcat : (⟨xd.toArray⟩ : ByteArray) ++ (⟨sub.toArray⟩ : ByteArray) = ⟨(xd ++ sub).toArray⟩ := cat_bytes xd sub
                have hgl : xd.length ≤ 4096 := by omega
                have hsl2 : sub.length ≤ 4096 := by omega
                have htn1 : (tn : Int) + (m : Int) ≤ (s.length : Int) := by omega
                have hwt : IntKind.i64.wrap ((tn : Int) + (m : Int)) = (tn : Int) + (m : Int) := by rw [IntKind.wrap_i64]; omega
                have h10 : 0 ≤ (tn : Int) + (m : Int) := by omega
                have h11 : (tn : Int) ≤ (tn : Int) + (m : Int) := by omega
                have h12 : ¬ 9223372036854775807 < xd.length + sub.length := by omega
                have h13 : ¬ 9223372036854775807 < xd.length + (((tn : Int) + (m : Int)).toNat - tn) := by omega
                have hmz : (0 : Int) < (m : Int) := by omega
                have HM3 := Lib.hid hms2
                have HI3 := Lib.hid hi2
                have HG3 := Lib.hid hg2
                have k4 := HDc.out.of.ow.cell HZS.out (j := 4) (v := str xd) rfl
                have f4 := k4.2
                replace k4 := k4.1
                clear hm hm0 hms2 hi2 hg2 hsubl
                go_upto_region 11 with fail
                clear hmz
                go_cut [] from 61 to 75 (fun wx => Aside (FdO w wx t6 room next b off n2 c2 zs k S1 ⟨xk, xs, xi, xb, xd ++ sub, xt, xo, xw⟩ (.slice L l dl) out))
                case first =>
                  go_region_law (fail)
                  all_goals go_wp2_with fail
                  all_goals go_meet
                  all_goals
                    refine (show Aside (FdO w _ t6 room next b off n2 c2 zs k S1 ⟨xk, xs, xi, xb, xd ++ sub, xt, xo, xw⟩ (.slice L l dl) out) from (?_ : FdO w _ t6 room next b off n2 c2 zs k S1 ⟨xk, xs, xi, xb, xd ++ sub, xt, xo, xw⟩ (.slice L l dl) out))
                    exact (HDc.out.below (below_drew (Below.refl _ _))).put1 hkz 4 (by decide) (v := str (xd ++ sub)) rfl rfl
                case rest =>
                  have HD2 := Lib.hid hcut.out
                  clear hcut p0 k4 f4 hex1 hcat h10 h11 h12 h13 hgl HDc
                  go_wp2_with fail
                  go_roundg (measF room s ⟨⟨xk, xs, xi, xb, xd ++ sub, xt, xo, xw⟩, tn + m, out⟩)
                  case measure => exact Nat.lt_of_lt_of_le HM3.out HM.out
                  case rel => exact ⟨⟨⟨xk, xs, xi, xb, xd ++ sub, xt, xo, xw⟩, tn + m, out⟩, S1, L, l, dl, rfl, by go_num, (show Aside _ from ⟨HG3.out, HI3.out, Nat.le_refl _, HD2.out⟩)⟩
                -->>
              · obtain rfl : m = 0 := by omega
                have hfu : ¬ (xd.length : Int) < room := by omega
                have hst := stepF_room (s := s) (t := ⟨⟨xk, xs, xi, xb, xd, xt, xo, xw⟩, tn, out⟩) hlt hfu
                have hro := HI.out.room hfu
                have hms := measF_room HI.out hfu
                have HST2 := Lib.hid hst
                have HRO := Lib.hid hro
                have HMS := Lib.hid hms
                have hwl8 : xw.length ≤ 8 := by have := HI.out.w2; simp only at this; omega
                have C27 := Lib.hid (room_any wc w.heap.size b off n2 c2 _ k _ S1 HDc.out.of.ow HZS.out HI.out.ok (by simp only; omega) HDc.out.of.bw.size)
                clear hst hro hms hm hm0
                go_upto_region 14 with (go_at_call 27; refine C27.out.mono ?_; rintro e w5 ⟨S5, L5, l5, dl5, rfl, hO5, hL5, hg5⟩; have HD5 := Lib.hid (HDc.out.room hg5 hO5); have HL5 := Lib.hid hL5; clear hO5 hL5 hg5)
                clear p0 C27
                cases his : (roomS ⟨xk, xs, xi, xb, xd, xt, xo, xw⟩).2.2 with
                | false =>
                  have HIS := Lib.hid his
                  have HN := Lib.hid (show stepF room s ⟨⟨xk, xs, xi, xb, xd, xt, xo, xw⟩, tn, out⟩ = none from HST2.out.trans (if_neg (by rw [his]; decide)))
                  go_upto_region 16 with fail
                  clear his
                  have hsame := roomS_no HIS.out
                  have hHD := HD5.out
                  rw [hsame] at hHD
                  have HDe := Lib.hid hHD
                  have HE := Lib.hid (HF1.out _ HG.out HN.out)
                  clear hsame hHD
                  have y0 : w5.cell? ⟨w.heap.size, 0, none⟩ = some (.int .i64 room) := box_at HDe.out.of.bx 0 _ rfl
                  have y1 : w5.cell? ⟨w.heap.size, 1, none⟩ = some (.int .i64 next) := box_at HDe.out.of.bx 1 _ rfl
                  have y2 : w5.cell? ⟨w.heap.size, 2, none⟩ = some (.slice (some ⟨b, off, none⟩) n2 c2) := box_at HDe.out.of.bx 2 _ rfl
                  have s0 : w5.cell? ⟨w.heap.size + 1, 0, none⟩ = some (.int .i64 0) := box_at HDe.out.of.bz 0 _ rfl
                  have s1 : w5.cell? ⟨w.heap.size + 1, 1, none⟩ = some (.int .i64 0) := box_at HDe.out.of.bz 1 _ rfl
                  have s2 : w5.cell? ⟨w.heap.size + 1, 2, none⟩ = some (.slice none 0 0) := box_at HDe.out.of.bz 2 _ rfl
                  have sf := box_free HDe.out.of.bz
                  go_wp2_with fail
                  have HFS := Lib.hid (fls_set HFZ.out k ⟨xk, xs, xi, xb, xd, xt, xo, xw⟩ S5)
                  have hfin := ret_own (room := room) (next := next) HDe.out.of.ow HDe.out.of.bw HDe.out.of.bz (Nat.le_succ _)
                  refine bodyPost_ret (v := .tuple #[fv room next (.slice (some ⟨b, off, none⟩) n2 c2), .int .i64 tn, .slice L l dl, .int .i64 0]) (by simp [results, Try.results12, go_sem, s0, s1, s2]) rfl ?_
                  rw [HE.out]
                  exact ⟨_, n2, c2, _, L, l, dl, rfl, HFS.out, hfin.1, (ints_st3 HDe.out.is HDe.out.of.bz), hfin.2⟩
                | true =>
                  have HIS := Lib.hid his
                  have hr2 := HRO.out his
                  have hm2 := HMS.out his
                  have hst2 := HST2.out.trans (if_pos his)
                  have HR2 := Lib.hid hr2.1
                  have HM2 := Lib.hid hm2
                  have HG2 := Lib.hid (HG.out.snoc hst2)
                  have hol : out.length + xw.length ≤ 8 := HI.out.w2
                  have hol2 := hr2.1.w2
                  have hwl2 := hr2.1.w1
                  simp only [List.length_append] at hol2 hwl2
                  clear hr2 hm2 hst2
                  go_upto_region 15 with fail
                  clear his
                  go_wp2_with (at_builtin; refine wp_appE w.heap.size rfl _ _ 34 3 (.int .i64 0) 8 rfl Try.underlying34 Try.info3 rfl (by omega) (by omega) (.slice L l dl) (.slice L5 l5 dl5) _ _ rfl rfl HD5.out.is HL5.out ienc1 ?c3 ?c4 ?c5)
                  case c3 => omega
                  case c4 => exact HD5.out.of.bw.size
                  case c5 =>
                    intro v1 w7 hv1 hg1 hat1
                    obtain ⟨F1, f1, g1, rfl⟩ := hv1.slice'
                    have HD7 := Lib.hid (HD5.out.app hg1 hv1)
                    clear hv1 hg1 hat1
                    go_wp2_with fail
                    go_roundg (measF room s ⟨(roomS ⟨xk, xs, xi, xb, xd, xt, xo, xw⟩).1, tn, out ++ (roomS ⟨xk, xs, xi, xb, xd, xt, xo, xw⟩).2.1⟩)
                    case measure => exact Nat.lt_of_lt_of_le HM2.out HM.out
                    case rel => exact ⟨⟨(roomS ⟨xk, xs, xi, xb, xd, xt, xo, xw⟩).1, tn, out ++ (roomS ⟨xk, xs, xi, xb, xd, xt, xo, xw⟩).2.1⟩, S5, F1, f1, g1, rfl, rfl, (show Aside _ from ⟨HG2.out, HR2.out, Nat.le_refl _, HD7.out⟩)⟩
          · have hltz : ¬ (tn : Int) < (s.length : Int) := by omega
            have HN := Lib.hid (stepF_end (room := room) (s := s) (t := ⟨⟨xk, xs, xi, xb, xd, xt, xo, xw⟩, tn, out⟩) (by simp only; omega))
            go_upto_region 16 with fail
            clear k4 p0 y0
            have HDe := HD
            have HE := Lib.hid (HF1.out _ HG.out HN.out)
            have y0 : wr.cell? ⟨w.heap.size, 0, none⟩ = some (.int .i64 room) := box_at HDe.out.of.bx 0 _ rfl
            have y1 : wr.cell? ⟨w.heap.size, 1, none⟩ = some (.int .i64 next) := box_at HDe.out.of.bx 1 _ rfl
            have y2 : wr.cell? ⟨w.heap.size, 2, none⟩ = some (.slice (some ⟨b, off, none⟩) n2 c2) := box_at HDe.out.of.bx 2 _ rfl
            have s0 : wr.cell? ⟨w.heap.size + 1, 0, none⟩ = some (.int .i64 0) := box_at HDe.out.of.bz 0 _ rfl
            have s1 : wr.cell? ⟨w.heap.size + 1, 1, none⟩ = some (.int .i64 0) := box_at HDe.out.of.bz 1 _ rfl
            have s2 : wr.cell? ⟨w.heap.size + 1, 2, none⟩ = some (.slice none 0 0) := box_at HDe.out.of.bz 2 _ rfl
            have sf := box_free HDe.out.of.bz
            go_wp2_with fail
            have HFS := Lib.hid (fls_set HFZ.out k ⟨xk, xs, xi, xb, xd, xt, xo, xw⟩ S1)
            have hfin := ret_own (room := room) (next := next) HDe.out.of.ow HDe.out.of.bw HDe.out.of.bz (Nat.le_succ _)
            refine bodyPost_ret (v := .tuple #[fv room next (.slice (some ⟨b, off, none⟩) n2 c2), .int .i64 tn, .slice L l dl, .int .i64 0]) (by simp [results, Try.results12, go_sem, s0, s1, s2]) rfl ?_
            rw [HE.out]
            exact ⟨_, n2, c2, _, L, l, dl, rfl, HFS.out, hfin.1, (ints_st3 HDe.out.is HDe.out.of.bz), hfin.2⟩
end Go.Proofs.Ytipjhokhflokmaa
