/- lockagelaw18.FlightFull. -/
import Derived.Test.YtipjhokhflokmaaAT
set_option linter.unusedVariables false
set_option linter.unusedSimpArgs false
namespace Go.Proofs.Ytipjhokhflokmaa
open Go.RowKit Go.Maps
open Go.Proofs.YtipjhokhflokmaaW.PrintWords

/-- a box with flights of one's own -/
structure FB (w W : World) (b : Nat) (nx : Int) (V : Value) (zs : List FV) (k : Nat) : Prop where
  x : W.heap[b]? = some (.cells #[.int .i64 4, .int .i64 nx, V] 26 (0, 0))
  o : OwF W w.heap.size V zs
  s : SmK k (fls zs)
  bw : Below w.heap.size w W
  lo : w.heap.size ≤ b
theorem FB.below {w W W1 : World} {b : Nat} {nx : Int} {V : Value} {zs : List FV} {k : Nat} (h : FB w W b nx V zs k) (hb : Below W.heap.size W W1) : FB w W1 b nx V zs k :=
  ⟨keep hb h.x, h.o.below hb, h.s, h.bw.trans (hb.mono h.bw.size), h.lo⟩
theorem FB.next {w W w2 : World} {b : Nat} {nx nx' : Int} {V V' : Value} {zs zs' : List FV} {k k' : Nat} (h : FB w W b nx V zs k) (hO : OwF w2 W.heap.size V' zs') (hs : SmK k' (fls zs')) (hb : Below W.heap.size W w2) : FB w (st3 w2 b (.int .i64 4) (.int .i64 nx') V') b nx' V' zs' k' :=
  ⟨st3_box (keep hb h.x), st3_own (hO.lower h.bw.size) (keep hb h.x), hs, st3_below (h.bw.trans (hb.mono h.bw.size)) h.lo, h.lo⟩
theorem FB.other {w W : World} {b b' : Nat} {nx : Int} {V : Value} {zs : List FV} {k : Nat} {cs : Array Value} {r x V' : Value} (h : FB w W b nx V zs k) (hx : W.heap[b']? = some (.cells cs 26 (0, 0))) (hne : b ≠ b') (hlo : w.heap.size ≤ b') : FB w (st3 W b' r x V') b nx V zs k :=
  ⟨(st3_other hne).trans h.x, st3_own h.o hx, h.s, st3_below h.bw hlo, h.lo⟩
theorem tmodZ {k q r : Nat} (h : k % q = r) : (k : Int).tmod (q : Int) = (r : Int) := by rw [Int.tmod_eq_emod_of_nonneg (by omega), ← h]; rfl
theorem wrapZ {x : Int} (h0 : -1000000 ≤ x) (h : x ≤ 1000000) : IntKind.i64.wrap x = x := by rw [IntKind.wrap_i64]; omega
theorem okI_n {x : Nat} (h : x ≤ 1000) : okI (x : Int) := by unfold okI; omega

set_option maxRecDepth 100000 in
set_option maxHeartbeats 8000000 in
theorem flightFull_any (w : World) (nb mb : Nat) (big : Bool) (hn : nb < 256) (hm : mb < 256) :
    Calls Try.prog 7 #[.int .u8 nb, .int .u8 mb, .bool big] w fun e w' => e = .returned (.bool true) ∧ Below w.heap.size w w' := by
  obtain ⟨n10, hn10⟩ : ∃ q, nb % 10 = q := ⟨_, rfl⟩
  obtain ⟨m18, hm18⟩ : ∃ q, mb % 18 = q := ⟨_, rfl⟩
  have tn : (nb : Int).tmod 10 = (n10 : Int) := tmodZ (q := 10) hn10
  have tm : (mb : Int).tmod 18 = (m18 : Int) := tmodZ (q := 18) hm18
  have ln : n10 < 10 := by omega
  have lm : m18 < 18 := by omega
  have wn : IntKind.i64.wrap (nb : Int) = (nb : Int) := wrapZ (by omega) (by omega)
  have wm : IntKind.i64.wrap (mb : Int) = (mb : Int) := wrapZ (by omega) (by omega)
  have wn1 : IntKind.i64.wrap (n10 : Int) = (n10 : Int) := wrapZ (by omega) (by omega)
  have wm1 : IntKind.i64.wrap (m18 : Int) = (m18 : Int) := wrapZ (by omega) (by omega)
  clear hn10 hm18
  have hal : Below w.heap.size w (w.alloc (.cells #[.int .i64 4, .int .i64 0, .slice none 0 0] 26)) := (Below.refl _ _).alloc (Nat.le_refl _) _
  have hx0 := heap_alloc_new w (.cells #[.int .i64 4, .int .i64 0, .slice none 0 0] 26)
  have HF0 := Lib.hid (show FB w (w.alloc (.cells #[.int .i64 4, .int .i64 0, .slice none 0 0] 26)) w.heap.size 0 (.slice none 0 0) [] 0 from ⟨hx0, OwF.nil _ _, SmK.nil 0, hal, Nat.le_refl _⟩)
  clear hal hx0
  go_enter Try.func7, Try.ntmps7
  go_upto_region 2 with fail
  generalize w.alloc (.cells #[.int .i64 4, .int .i64 0, .slice none 0 0] 26) = V at *
  have y1 : V.cell? ⟨w.heap.size, 1, none⟩ = some (.int .i64 0) := box_at HF0.out.x 1 _ rfl
  have yf := box_free HF0.out.x
  have w9 : IntKind.i64.wrap (9007199254740992 - (n10 : Int)) = 9007199254740992 - (n10 : Int) := by rw [IntKind.wrap_i64]; omega
  obtain ⟨V1, nx0, hV1, HF1, hVb⟩ : ∃ (V1 : World) (nx0 : Int), (V1 = if big then V.setCell ⟨w.heap.size, 1, none⟩ (.int .i64 (9007199254740992 - (n10 : Int))) else V) ∧ Hid (FB w V1 w.heap.size nx0 (.slice none 0 0) [] 0) ∧ True := by
    cases big with
    | false => exact ⟨V, 0, rfl, HF0, trivial⟩
    | true => exact ⟨_, 9007199254740992 - (n10 : Int), rfl, Lib.hid ⟨heap_set HF0.out.x _, OwF.nil _ _, SmK.nil 0, HF0.out.bw.setCell (p := ⟨w.heap.size, 1, none⟩) (Nat.le_refl _) _, Nat.le_refl _⟩, trivial⟩
  clear hVb HF0
  cases big
  all_goals
    go_upto_region 4 with fail
    clear y1 yf w9
    simp only [Bool.false_eq_true, if_false, if_true] at hV1
    rw [← hV1]
    clear hV1
    go_upto_region 5 with fail
    go_loopg [8] n10 (fun gg s8 wr => ∃ kk : Nat, kk ≤ n10 ∧ n10 - kk ≤ gg ∧ s8 = .int .i64 kk ∧ ∃ (nx : Int) (A : Option Addr) (n c : Nat) (zs : List FV), Aside (FB w wr w.heap.size nx (.slice A n c) zs kk))
    case atStart =>
      refine ⟨0, by omega, by omega, rfl, nx0, none, 0, 0, [], ?_⟩
      show Aside _
      exact HF1.out
    case round =>
      clear HF1
      obtain ⟨kk, hkk, hg, rfl, nx, A, n, c, zs, HA⟩ := hrel
      have HF := Lib.hid HA.out
      clear HA
      have y0 : wr.cell? ⟨w.heap.size, 0, none⟩ = some (.int .i64 4) := box_at HF.out.x 0 _ rfl
      have y1 : wr.cell? ⟨w.heap.size, 1, none⟩ = some (.int .i64 nx) := box_at HF.out.x 1 _ rfl
      have y2 : wr.cell? ⟨w.heap.size, 2, none⟩ = some (.slice A n c) := box_at HF.out.x 2 _ rfl
      by_cases hlt : kk < n10
      · have hltz : (kk : Int) < (n10 : Int) := by omega
        have HSJ := Lib.hid (HF.out.s.join 4 nx [107] (kk : Int) false (okI_n (by omega)))
        go_wp2_with (go_at_call 17; refine (rjoin_any wr 4 nx A n c zs [107] (kk : Int) false HF.out.o.rd (HF.out.s.sm (by omega)) (by decide)).mono ?_; unfold JoinPost OpPost; rintro e w2 ⟨A2, n2, c2, z2, rfl, hf, hO, hb⟩; have HN := Lib.hid (HF.out.next hO (by rw [hf]; exact HSJ.out) hb (nx' := (joinOp 4 nx (fls zs) [107] (kk : Int) false).next)); have hbx := keep hb HF.out.x; clear y0 y1 y2 hO hf hb; have y0 : w2.cell? ⟨w.heap.size, 0, none⟩ = some (.int .i64 4) := box_at hbx 0 _ rfl; have y1 : w2.cell? ⟨w.heap.size, 1, none⟩ = some (.int .i64 nx) := box_at hbx 1 _ rfl; have y2 : w2.cell? ⟨w.heap.size, 2, none⟩ = some (.slice A n c) := box_at hbx 2 _ rfl; have yf := box_free hbx; clear hbx)
        go_roundg (n10 - (kk + 1))
        case measure => omega
        case rel =>
          refine ⟨kk + 1, by omega, by omega, by go_num, (joinOp 4 nx (fls zs) [107] (kk : Int) false).next, A2, n2, c2, z2, ?_⟩
          show Aside _
          exact HN.out
      · have hltz : ¬ (kk : Int) < (n10 : Int) := by omega
        go_upto_region 9 with fail
        clear y0 y1 y2 hltz hlt
        have hal : Below wr.heap.size wr (wr.alloc (.cells #[.int .i64 4, .int .i64 0, .slice none 0 0] 26)) := (Below.refl _ _).alloc (Nat.le_refl _) _
        have hx9 := heap_alloc_new wr (.cells #[.int .i64 4, .int .i64 0, .slice none 0 0] 26)
        have hne9 : w.heap.size < wr.heap.size := (Array.getElem?_eq_some_iff.1 HF.out.x).1
        have HFa := Lib.hid (HF.out.below hal)
        have HG0 := Lib.hid (show FB w (wr.alloc (.cells #[.int .i64 4, .int .i64 0, .slice none 0 0] 26)) wr.heap.size 0 (.slice none 0 0) [] 0 from ⟨hx9, OwF.nil _ _, SmK.nil 0, HF.out.bw.trans (hal.mono HF.out.bw.size), by omega⟩)
        clear hal hx9 HF
        generalize wr.alloc (.cells #[.int .i64 4, .int .i64 0, .slice none 0 0] 26) = U at *
        generalize wr.heap.size = b9 at *
        go_upto_region 10 with fail
        go_loopg [10] m18 (fun gg s10 wr2 => ∃ kg : Nat, kg ≤ m18 ∧ m18 - kg ≤ gg ∧ s10 = .int .i64 kg ∧ ∃ (ny : Int) (B : Option Addr) (m d : Nat) (us : List FV), Aside (FB w wr2 w.heap.size nx (.slice A n c) zs kk ∧ FB w wr2 b9 ny (.slice B m d) us kg))
        case atStart =>
          refine ⟨0, by omega, by omega, rfl, 0, none, 0, 0, [], ?_⟩
          show Aside _
          exact ⟨HFa.out, HG0.out⟩
        case round =>
          clear HFa HG0
          obtain ⟨kg, hkg, hgg, rfl, ny, B, m, d, us, HA⟩ := hrel
          have HF := Lib.hid HA.out.1
          have HG := Lib.hid HA.out.2
          clear HA
          by_cases hlt : kg < m18
          · have hltz : (kg : Int) < (m18 : Int) := by omega
            have y0 : wr.cell? ⟨b9, 0, none⟩ = some (.int .i64 4) := box_at HG.out.x 0 _ rfl
            have y1 : wr.cell? ⟨b9, 1, none⟩ = some (.int .i64 ny) := box_at HG.out.x 1 _ rfl
            have y2 : wr.cell? ⟨b9, 2, none⟩ = some (.slice B m d) := box_at HG.out.x 2 _ rfl
            have HSJ := Lib.hid (HG.out.s.join 4 ny [107] (kg : Int) true (okI_n (by omega)))
            go_wp2_with (go_at_call 17; refine (rjoin_any wr 4 ny B m d us [107] (kg : Int) true HG.out.o.rd (HG.out.s.sm (by omega)) (by decide)).mono ?_; unfold JoinPost OpPost; rintro e w2 ⟨A2, n2, c2, z2, rfl, hf, hO, hb⟩; have HN := Lib.hid (HG.out.next hO (by rw [hf]; exact HSJ.out) hb (nx' := (joinOp 4 ny (fls us) [107] (kg : Int) true).next)); have hbx := keep hb HG.out.x; have HF2 := Lib.hid ((HF.out.below hb).other (r := .int .i64 4) (x := .int .i64 (joinOp 4 ny (fls us) [107] (kg : Int) true).next) (V' := .slice A2 n2 c2) hbx (by omega) HG.out.lo); clear y0 y1 y2 hO hf hb; have y0 : w2.cell? ⟨b9, 0, none⟩ = some (.int .i64 4) := box_at hbx 0 _ rfl; have y1 : w2.cell? ⟨b9, 1, none⟩ = some (.int .i64 ny) := box_at hbx 1 _ rfl; have y2 : w2.cell? ⟨b9, 2, none⟩ = some (.slice B m d) := box_at hbx 2 _ rfl; have yf := box_free hbx; clear hbx)
            go_roundg (m18 - (kg + 1))
            case measure => omega
            case rel =>
              refine ⟨kg + 1, by omega, by omega, by go_num, (joinOp 4 ny (fls us) [107] (kg : Int) true).next, A2, n2, c2, z2, ?_⟩
              show Aside _
              exact ⟨HF2.out, HN.out⟩
          · have hltz : ¬ (kg : Int) < (m18 : Int) := by omega
            have K1 := Lib.hid (HF.out.s.up (k := 900) (by omega))
            have K2 := Lib.hid (HG.out.s.up (k := 900) (by omega))
            go_wp2_with (first
              | (go_at_call 9; refine (awake_any wr).mono ?_; rintro e w5 ⟨rfl, hb5⟩; have HF5 := Lib.hid (HF.out.below hb5); have HG5 := Lib.hid (HG.out.below hb5); clear hb5; have y0 : w5.cell? ⟨w.heap.size, 0, none⟩ = some (.int .i64 4) := box_at HF5.out.x 0 _ rfl; have y1 : w5.cell? ⟨w.heap.size, 1, none⟩ = some (.int .i64 nx) := box_at HF5.out.x 1 _ rfl; have y2 : w5.cell? ⟨w.heap.size, 2, none⟩ = some (.slice A n c) := box_at HF5.out.x 2 _ rfl)
              | (go_at_call 15; (with_reducible show Calls Try.prog 15 #[.agg #[_, _, .slice A n c], _, _, _, _, _] _ _); refine (told_any w5 4 nx A n c zs [107] 0 20 1 [120] HF5.out.o.rd K1.out (by decide) (by decide) (okI_n (x := 20) (by omega))).mono ?_; rintro e w6 ⟨rfl, hb6⟩; have HG6 := Lib.hid (HG5.out.below hb6); clear hb6 y0 y1 y2; have y0 : w6.cell? ⟨b9, 0, none⟩ = some (.int .i64 4) := box_at HG6.out.x 0 _ rfl; have y1 : w6.cell? ⟨b9, 1, none⟩ = some (.int .i64 ny) := box_at HG6.out.x 1 _ rfl; have y2 : w6.cell? ⟨b9, 2, none⟩ = some (.slice B m d) := box_at HG6.out.x 2 _ rfl)
              | (go_at_call 15; (with_reducible show Calls Try.prog 15 #[_, _, .int .i64 0, _, _, _] _ _); refine (told_any w6 4 ny B m d us [107] 0 20 1 [120] HG6.out.o.rd K2.out (by decide) (by decide) (okI_n (x := 20) (by omega))).mono ?_; rintro e w7 ⟨rfl, hb7⟩; have HG7 := Lib.hid (HG6.out.below hb7); clear hb7 y0 y1 y2; have y0 : w7.cell? ⟨b9, 0, none⟩ = some (.int .i64 4) := box_at HG7.out.x 0 _ rfl; have y1 : w7.cell? ⟨b9, 1, none⟩ = some (.int .i64 ny) := box_at HG7.out.x 1 _ rfl; have y2 : w7.cell? ⟨b9, 2, none⟩ = some (.slice B m d) := box_at HG7.out.x 2 _ rfl)
              | (go_at_call 15; refine (told_any w7 4 ny B m d us [106] 1 3 1 [97, 98, 99, 100, 101, 102] HG7.out.o.rd K2.out (by decide) (by decide) (okI_n (x := 3) (by omega))).mono ?_; rintro e w8 ⟨rfl, hb8⟩; have HB8 := Lib.hid (HG7.out.bw.trans (hb8.mono HG7.out.bw.size)); clear hb8))
            go_ret
            exact ⟨by simp, HB8.out⟩
end Go.Proofs.Ytipjhokhflokmaa
