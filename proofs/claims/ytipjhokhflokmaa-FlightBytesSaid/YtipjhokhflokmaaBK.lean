/- lockagelaw18.FlightBytes, under way. -/
import Derived.Test.YtipjhokhflokmaaBJ
import Derived.Test.YtipjhokhflokmaaLU
set_option linter.unusedVariables false
set_option linter.unusedSimpArgs false
namespace Go.Proofs.Ytipjhokhflokmaa
open Go.RowKit Go.Maps
open Go.Proofs.YtipjhokhflokmaaW.PrintWords

theorem lt_min {i a : Nat} (h1 : i < a) (h2 : i < 80) : i < min a 80 := by omega
theorem rem4 (b : Nat) : b % 4 = 0 ∨ b % 4 = 1 ∨ b % 4 = 2 ∨ b % 4 = 3 := by omega
theorem tm4 {b r : Nat} (h : b % 4 = r) : (b : Int) % 4 = (r : Int) := by omega
theorem tdiv4 {b k : Nat} (h : b / 4 = k) : (b : Int).tdiv 4 = (k : Int) := by rw [Int.tdiv_eq_ediv_of_nonneg (by omega)]; omega
theorem tmodN {k q r : Nat} (h : k % q = r) : (k : Int).tmod (q : Int) = (r : Int) := by rw [Int.tmod_eq_emod_of_nonneg (by omega), ← h]; rfl
theorem wrapN {x : Int} (h0 : -1000000 ≤ x) (h : x ≤ 1000000) : IntKind.i64.wrap x = x := by rw [IntKind.wrap_i64]; omega

set_option maxRecDepth 100000 in
set_option maxHeartbeats 16000000 in
theorem flightBytes_any (w : World) (r8 : Nat) (Al : Option Addr) (nl cl : Nat) (l : List Nat) (Am : Option Addr) (nm cm : Nat) (ml : List Nat) (hr8 : r8 < 256) (hl : Rd w (.slice Al nl cl) (u8s l)) (h8 : ∀ x ∈ l, x < 256) (hm : Rd w (.slice Am nm cm) (u8s ml)) (hm8 : ∀ x ∈ ml, x < 256) :
    Calls Try.prog 3 #[.int .u8 r8, .slice Al nl cl, .slice Am nm cm] w fun e w' => e = .returned (.bool true) ∧ Below w.heap.size w w' := by
  obtain ⟨rm, hrm⟩ : ∃ q, r8 % 12 = q := ⟨_, rfl⟩
  have tr : (r8 : Int).tmod 12 = (rm : Int) := tmodN (q := 12) hrm
  have lr : rm < 12 := by omega
  have wr0 : IntKind.i64.wrap (r8 : Int) = (r8 : Int) := wrapN (by omega) (by omega)
  have wr1 : IntKind.i64.wrap (rm : Int) = (rm : Int) := wrapN (by omega) (by omega)
  have wr2 : IntKind.i64.wrap (1 + (rm : Int)) = 1 + (rm : Int) := wrapN (by omega) (by omega)
  obtain ⟨room, hroom⟩ : ∃ q : Int, 1 + (rm : Int) = q := ⟨_, rfl⟩
  have hro1 : 1 ≤ room := by omega
  have hro2 : room ≤ 12 := by omega
  rw [hroom] at wr2
  clear hrm hr8
  have ll := hl.len
  rw [u8s_len] at ll
  have lm := hm.len
  rw [u8s_len] at lm
  have hlm : l.length ≤ 9223372036854775807 := by obtain ⟨_, _, _, _, hm, _⟩ := hl; rwa [u8s_len] at hm
  have hmm : ml.length ≤ 9223372036854775807 := by obtain ⟨_, _, _, _, hm, _⟩ := hm; rwa [u8s_len] at hm
  have HL := Lib.hid hl
  have HL8 := Lib.hid h8
  have HM := Lib.hid hm
  have HM8 := Lib.hid hm8
  clear hl h8 hm hm8
  have HAW := Lib.hid (awake_any w)
  go_enter Try.func3, Try.ntmps3
  go_upto_region 4 with (go_at_call 9; refine HAW.out.mono ?_; rintro e w1 ⟨rfl, hb⟩; have HW1 := Lib.hid hb; clear hb)
  clear HAW
  have HST := Lib.hid (join0 hro1 (show room ≤ 4096 by omega))
  go_upto_region 5 with (go_at_call 10; refine (join_any w1 room 0 none 0 0 [] [107] 0 true (RdF.nil _ _ _) (SmK.sm (SmK.nil 0) (by omega)) (by decide)).mono ?_; unfold JoinPost OpPost; rw [show fls [] = [] from rfl, HST.out]; rintro e w2 ⟨A2, n2, c2, z2, rfl, hf, hO, hb⟩; have HO2 := Lib.hid hO; have HB2 := Lib.hid hb; have HZ2 := Lib.hid hf; clear hO hb hf)
  clear HST tr wr0 wr1 wr2 hroom
  have hal : Below w2.heap.size w2 (w2.alloc (.cells #[.int .i64 room, .int .i64 1, .slice A2 n2 c2] 26)) := (Below.refl _ _).alloc (Nat.le_refl _) _
  have HX2 := Lib.hid (heap_alloc_new w2 (.cells #[.int .i64 room, .int .i64 1, .slice A2 n2 c2] 26))
  have HO3 := Lib.hid ((HO2.out.lower HW1.out.size).below hal)
  have HB3 := Lib.hid ((HW1.out.trans (HB2.out.mono HW1.out.size)).trans (hal.mono (Nat.le_trans HW1.out.size HB2.out.size)))
  have HLO := Lib.hid (Nat.le_trans HW1.out.size HB2.out.size)
  clear hal HO2 HB2 HW1
  generalize w2.alloc (.cells #[.int .i64 room, .int .i64 1, .slice A2 n2 c2] 26) = W3 at *
  generalize w2.heap.size = bx at *
  go_upto_region 10 with fail
  have ha1 : Below W3.heap.size W3 (W3.alloc (.cells #[.string ⟨#[]⟩] 9)) := (Below.refl _ _).alloc (Nat.le_refl _) _
  have hx1 := heap_alloc_new W3 (.cells #[.string ⟨#[]⟩] 9)
  have hsz : (W3.alloc (.cells #[.string ⟨#[]⟩] 9)).heap.size = W3.heap.size + 1 := by simp
  generalize W3.alloc (.cells #[.string ⟨#[]⟩] 9) = W4 at *
  have ha2 : Below W4.heap.size W4 (W4.alloc (.cells #[.bool true] 4)) := (Below.refl _ _).alloc (Nat.le_refl _) _
  have hx2 := heap_alloc_new W4 (.cells #[.bool true] 4)
  have hx3 := keep ha2 hx1
  have HB4 := Lib.hid (HB3.out.trans (ha1.mono HB3.out.size))
  have HB5 := Lib.hid (HB4.out.trans (ha2.mono HB4.out.size))
  have HF0 := Lib.hid (show FbS w (W4.alloc (.cells #[.bool true] 4)) bx room (xO 1 0 0 0 [] false) (.slice A2 n2 c2) z2 (.slice (some ⟨W3.heap.size, 0, none⟩) 1 1) [[]] (.slice (some ⟨W4.heap.size, 0, none⟩) 1 1) [true] from
    ⟨keep ha2 (keep ha1 HX2.out), (HO3.out.below ha1).below ha2, HZ2.out, OwE.one (enc := senc) sencL hx3 HB3.out.size, OwE.one (enc := benc) bencL hx2 HB4.out.size, HB5.out, HLO.out⟩)
  rw [hsz] at HF0
  clear hsz ha1 ha2 hx1 hx2 hx3 HB4 HB5 HB3 HO3 HX2 HZ2
  generalize W4.alloc (.cells #[.bool true] 4) = W5 at *
  have HI0 := Lib.hid (BI.start hro1 hro2)
  go_upto_region 11 with fail
  go_loopg [12, 13, 14, 15] 80 (fun gg s12 s13 s14 s15 wr => ∃ (i : Nat) (all : List UInt8) (had : List (List UInt8)) (inn : List Bool) (x : Fl) (A : Option Addr) (n c : Nat) (zs : List FV) (H : Option Addr) (h1 h2 : Nat) (I : Option Addr) (i1 i2 : Nat), i ≤ 80 ∧ 80 - i ≤ gg ∧ s12 = str all ∧ s13 = .slice H h1 h2 ∧ s14 = .slice I i1 i2 ∧ s15 = .int .i64 i ∧
    Aside (FbS w wr bx room x (.slice A n c) zs (.slice H h1 h2) had (.slice I i1 i2) inn ∧ BI room all had inn [] x ∧ all.length ≤ 20 * i ∧ had.length ≤ 1 + i))
  case atStart =>
    refine ⟨0, [], [[]], [true], xO 1 0 0 0 [] false, A2, n2, c2, z2, _, _, _, _, _, _, by omega, by omega, rfl, rfl, rfl, rfl, ?_⟩
    show Aside _
    exact ⟨HF0.out, HI0.out, by simp, by simp⟩
  case round =>
    clear HF0 HI0 HLO
    obtain ⟨i, all, had, inn, x, A, n, c, zs, H, h1, h2, I, i1, i2, hi, hg, rfl, rfl, rfl, rfl, HA⟩ := hrel
    have HF := Lib.hid HA.out.1
    have HI := Lib.hid HA.out.2.1
    have hal20 := HA.out.2.2.1
    have hha := HA.out.2.2.2
    clear HA
    have hhl : had.length = h1 := HF.out.hd.rd.len
    have hil : inn.length = i1 := HF.out.ib.rd.len
    go_upto_region 11 with fail
    go_cut [65] from 58 to 65 (fun s65 wx => s65 = .bool (decide (i < l.length ∧ i < 80)) ∧ wx = wr)
    case first =>
      by_cases hlt1 : i < l.length
      · have hz1 : (i : Int) < (nl : Int) := by omega
        by_cases hlt2 : i < 80
        · have hz2 : (i : Int) < 80 := by omega
          go_wp2_with fail
          go_meet
          exact ⟨by simp [hlt1, hlt2], rfl⟩
        · have hz2 : ¬ (i : Int) < 80 := by omega
          go_wp2_with fail
          go_meet
          exact ⟨by simp [hlt1, hlt2], rfl⟩
      · have hz1 : ¬ (i : Int) < (nl : Int) := by omega
        go_wp2_with fail
        go_meet
        exact ⟨by simp [hlt1], rfl⟩
    case rest =>
    obtain ⟨rfl, hwc⟩ := hcut
    subst wc
    by_cases hlt : i < l.length ∧ i < 80
    · simp only [decide_eq_true hlt]
      obtain ⟨hlt1, hlt2⟩ := hlt
      have hz1 : (i : Int) < (nl : Int) := by omega
      have hz2 : (i : Int) < 80 := by omega
      obtain ⟨bl, ol, hAl, hbl, hlc⟩ := HL.out.get (show 0 < nl by omega)
      subst hAl
      have hcl := (HF.out.bw.cell (p := ⟨bl, ol + i, none⟩) hbl).trans (hlc i _ (u8s_at hlt1))
      have hb8 : l[i] < 256 := HL8.out _ (List.getElem_mem hlt1)
      generalize l[i] = bt at hcl hb8
      clear hlc
      obtain ⟨k, hk⟩ : ∃ k, bt / 4 = k := ⟨_, rfl⟩
      have hk64 : k < 64 := by omega
      have td := tdiv4 hk
      have wbt : IntKind.i64.wrap (bt : Int) = (bt : Int) := wrapN (by omega) (by omega)
      have wk : IntKind.i64.wrap (k : Int) = (k : Int) := wrapN (by omega) (by omega)
      obtain ⟨r4, hr4⟩ : ∃ r, bt % 4 = r := ⟨_, rfl⟩
      have q4 := tm4 hr4
      have hr44 : r4 < 4 := by omega
      clear hk hr4
      go_upto_region 14 with fail
      clear td wbt wk
      go_upto_block 2 with fail
      simp only [q4]
      clear q4 hcl
      go_cut [12, 13, 14] from 74 to 228 (fun s12 s13 s14 wx => ∃ (all : List UInt8) (had : List (List UInt8)) (inn : List Bool) (x : Fl) (A : Option Addr) (n c : Nat) (zs : List FV) (H : Option Addr) (h1 h2 : Nat) (I : Option Addr) (i1 i2 : Nat), s12 = str all ∧ s13 = .slice H h1 h2 ∧ s14 = .slice I i1 i2 ∧ Aside (FbS w wx bx room x (.slice A n c) zs (.slice H h1 h2) had (.slice I i1 i2) inn ∧ BI room all had inn [] x ∧ all.length ≤ 20 * (i + 1) ∧ had.length ≤ 1 + (i + 1)))
      case first =>
        have hcases : r4 = 0 ∨ r4 = 1 ∨ (2 ≤ r4 ∧ r4 ≤ 3) := by omega
        clear hr44
        have HSM := Lib.hid (show SmF (fls zs) by rw [HF.out.fz]; exact HI.out.sm)
        have y0 : wr.cell? ⟨bx, 0, none⟩ = some (.int .i64 room) := box_at HF.out.xb 0 _ rfl; have y1 : wr.cell? ⟨bx, 1, none⟩ = some (.int .i64 1) := box_at HF.out.xb 1 _ rfl; have y2 : wr.cell? ⟨bx, 2, none⟩ = some (.slice A n c) := box_at HF.out.xb 2 _ rfl; have yf := box_free HF.out.xb
        have hh100 := HI.out.hn
        rcases hcases with rfl | rfl | ⟨h42, h43⟩
        · as_aux_lemma =>
          by_cases hop : x.base = 0 ∧ x.ws.length < 8
          · have HJ := Lib.hid (HI.out.open_ hop.1 hop.2)
            have HI2 := Lib.hid (HI.out.join hop.1 hop.2 (by omega))
            clear hop
            go_upto_region 36 with (go_at_call 10; refine (join_any wr room 1 A n c zs [107] (h1 : Int) true HF.out.o.rd HSM.out (by decide)).mono ?_; unfold JoinPost OpPost; rw [HF.out.fz, ← hhl, HJ.out]; rintro e w2 ⟨A2, n2, c2, z2, rfl, hf, hO, hb⟩; have HO2 := Lib.hid hO; have HB2 := Lib.hid hb; have HZ2 := Lib.hid hf; clear hO hb hf y0 y1 y2 yf)
            have hal : Below w2.heap.size w2 (w2.alloc (.cells #[.int .i64 room, .int .i64 1, .slice A2 n2 c2] 26)) := (Below.refl _ _).alloc (Nat.le_refl _) _
            have HX2 := Lib.hid (heap_alloc_new w2 (.cells #[.int .i64 room, .int .i64 1, .slice A2 n2 c2] 26))
            have HO3 := Lib.hid (HO2.out.below hal)
            have HB3 := Lib.hid (HB2.out.trans (hal.mono HB2.out.size))
            clear hal HO2 HB2
            generalize w2.alloc (.cells #[.int .i64 room, .int .i64 1, .slice A2 n2 c2] 26) = W3 at *
            generalize w2.heap.size = bq at *
            have hbx := keep HB3.out HF.out.xb
            have y0 : W3.cell? ⟨bx, 0, none⟩ = some (.int .i64 room) := box_at hbx 0 _ rfl
            have y1 : W3.cell? ⟨bx, 1, none⟩ = some (.int .i64 1) := box_at hbx 1 _ rfl
            have y2 : W3.cell? ⟨bx, 2, none⟩ = some (.slice A n c) := box_at hbx 2 _ rfl
            have yf := box_free hbx
            have p0 : W3.cell? ⟨bq, 0, none⟩ = some (.int .i64 room) := box_at HX2.out 0 _ rfl
            have p1 : W3.cell? ⟨bq, 1, none⟩ = some (.int .i64 1) := box_at HX2.out 1 _ rfl
            have p2 : W3.cell? ⟨bq, 2, none⟩ = some (.slice A2 n2 c2) := box_at HX2.out 2 _ rfl
            clear hbx
            have HN := Lib.hid (HF.out.next HO3.out HZ2.out HB3.out)
            go_upto_region 38 with fail
            clear y0 y1 y2 yf p0 p1 p2
            change Code.wp _ _ _ _ (st3 W3 bx (.int .i64 room) (.int .i64 1) (.slice A2 n2 c2))
            generalize st3 W3 bx (.int .i64 room) (.int .i64 1) (.slice A2 n2 c2) = W4 at *
            have ha : Below W4.heap.size W4 (W4.alloc (.cells #[.string ⟨#[]⟩] 9)) := (Below.refl _ _).alloc (Nat.le_refl _) _
            have HNU := Lib.hid (HN.out.below ha)
            have HBX := Lib.hid (rd_boxE (enc := senc) (m := 1) W4 ([] : List UInt8) 9)
            clear ha
            go_wp2_with (at_builtin; refine wp_appE w.heap.size rfl _ _ 30 9 (.string ⟨#[]⟩) 16 rfl Try.underlying30 Try.info9 rfl (by omega) (by omega) (.slice H h1 h2) (.slice (some ⟨W4.heap.size, 0, none⟩) 1 1) had [[]] rfl rfl HNU.out.hd HBX.out senc1 ?c3 HNU.out.bw.size ?c5)
            case c3 => simp only [List.length_cons, List.length_nil]; omega
            case c5 =>
              intro v1 w7 hv1 hg1 hat1
              obtain ⟨F1, f1, g1, rfl⟩ := hv1.slice'
              have HN7 := Lib.hid (HNU.out.had_ hv1 hg1)
              clear hv1 hg1 hat1 HNU HBX HN
              have ha7 : Below w7.heap.size w7 (w7.alloc (.cells #[.bool true] 4)) := (Below.refl _ _).alloc (Nat.le_refl _) _
              have HNV := Lib.hid (HN7.out.below ha7)
              have HBY := Lib.hid (rd_boxE (enc := benc) (m := 1) w7 true 4)
              clear ha7
              go_wp2_with (at_builtin; refine wp_appE w.heap.size rfl _ _ 31 4 (.bool false) 1 rfl Try.underlying31 Try.info4 rfl (by omega) (by omega) (.slice I i1 i2) (.slice (some ⟨w7.heap.size, 0, none⟩) 1 1) inn [true] rfl rfl HNV.out.ib HBY.out benc1 ?d3 HNV.out.bw.size ?d5)
              case d3 =>
                have hin := HI.out.n
                simp only [List.length_cons, List.length_nil]
                omega
              case d5 =>
                intro v2 w8 hv2 hg2 hat2
                obtain ⟨F2, f2, g2, rfl⟩ := hv2.slice'
                have HN8 := Lib.hid (HNV.out.inn_ hv2 hg2)
                clear hv2 hg2 hat2 HNV HBY HN7
                go_wp2_with fail
                go_meet
                exact ⟨all, _, _, _, A2, n2, c2, z2, F1, f1, g1, F2, f2, g2, rfl, rfl, rfl, HN8.out, HI2.out, by omega, by simp; omega⟩
          · have hop2 := HI.out.shut hop
            obtain ⟨fs9, hop2⟩ := hop2
            have HJ := Lib.hid hop2
            clear hop hop2
            go_upto_region 36 with (go_at_call 10; refine (join_any wr room 1 A n c zs [107] (h1 : Int) true HF.out.o.rd HSM.out (by decide)).mono ?_; unfold JoinPost OpPost; rw [HF.out.fz, ← hhl, HJ.out]; rintro e w2 ⟨A2, n2, c2, z2, rfl, hf, hO, hb⟩; have HO2 := Lib.hid hO; have HB2 := Lib.hid hb; have HZ2 := Lib.hid hf; clear hO hb hf y0 y1 y2 yf)
            have hal : Below w2.heap.size w2 (w2.alloc (.cells #[.int .i64 room, .int .i64 2, .slice A2 n2 c2] 26)) := (Below.refl _ _).alloc (Nat.le_refl _) _
            have HX2 := Lib.hid (heap_alloc_new w2 (.cells #[.int .i64 room, .int .i64 2, .slice A2 n2 c2] 26))
            have HO3 := Lib.hid (HO2.out.below hal)
            have HB3 := Lib.hid (HB2.out.trans (hal.mono HB2.out.size))
            clear hal HO2 HB2
            generalize w2.alloc (.cells #[.int .i64 room, .int .i64 2, .slice A2 n2 c2] 26) = W3 at *
            generalize w2.heap.size = bq at *
            have HF3 := Lib.hid (HF.out.below HB3.out)
            go_wp2_with fail
            go_meet
            exact ⟨all, had, inn, x, A, n, c, zs, H, h1, h2, I, i1, i2, rfl, rfl, rfl, HF3.out, HI.out, by omega, by omega⟩
        · as_aux_lemma =>
          have hh1 := HI.out.h1
          have hin := HI.out.n
          obtain ⟨wv, hwv⟩ : ∃ q, k % h1 = q := ⟨_, rfl⟩
          obtain ⟨k9, hk9⟩ : ∃ q, k % 9 = q := ⟨_, rfl⟩
          have tw : (k : Int).tmod (h1 : Int) = (wv : Int) := tmodN hwv
          have tk : (k : Int).tmod 9 = (k9 : Int) := tmodN (q := 9) hk9
          have hwl : wv < h1 := by rw [← hwv]; exact Nat.mod_lt _ (by omega)
          have hwlz : (wv : Int) < (h1 : Int) := by omega
          have hwli : (wv : Int) < (i1 : Int) := by omega
          have hkl : k9 < 9 := by omega
          have h1z : ((h1 : Int) == 0) = false := by simp; omega
          have ww : IntKind.i64.wrap (wv : Int) = (wv : Int) := wrapN (by omega) (by omega)
          have wk9 : IntKind.i64.wrap (k9 : Int) = (k9 : Int) := wrapN (by omega) (by omega)
          clear hwv hk9
          obtain ⟨bv, hbv⟩ : ∃ bv, inn[wv]? = some bv := ⟨_, List.getElem?_eq_getElem (by omega)⟩
          obtain ⟨g, hgv⟩ : ∃ g, had[wv]? = some g := ⟨_, List.getElem?_eq_getElem (by omega)⟩
          have hgl : g.length ≤ 2000 := Nat.le_trans (HI.out.pre g (List.mem_of_getElem? hgv)).length_le HI.out.sz
          have HBV := Lib.hid hbv
          have HGV := Lib.hid hgv
          cases bv with
          | true =>
            obtain ⟨x', s, la, hop, hs, hbi⟩ := HI.out.take hbv hgv (show (0 : Int) ≤ (k9 : Int) by omega)
            have hsl : s.length ≤ 9 := by rw [hs, List.length_take]; omega
            have HJ := Lib.hid hop
            have HI2 := Lib.hid hbi
            clear hop hs hbi hbv hgv
            go_upto_region 43 with (go_at_call 11; refine (take_any wr room 1 A n c zs (wv : Int) (k9 : Int) HF.out.o.rd HSM.out).mono ?_; unfold OpPost; rw [HF.out.fz, HJ.out]; rintro e w2 ⟨A2, n2, c2, z2, rfl, hf, hO, hb⟩; have HO2 := Lib.hid hO; have HB2 := Lib.hid hb; have HZ2 := Lib.hid hf; clear hO hb hf y0 y1 y2 yf)
            have hal : Below w2.heap.size w2 (w2.alloc (.cells #[.int .i64 room, .int .i64 1, .slice A2 n2 c2] 26)) := (Below.refl _ _).alloc (Nat.le_refl _) _
            have HX2 := Lib.hid (heap_alloc_new w2 (.cells #[.int .i64 room, .int .i64 1, .slice A2 n2 c2] 26))
            have HO3 := Lib.hid (HO2.out.below hal)
            have HB3 := Lib.hid (HB2.out.trans (hal.mono HB2.out.size))
            clear hal HO2 HB2
            generalize w2.alloc (.cells #[.int .i64 room, .int .i64 1, .slice A2 n2 c2] 26) = W3 at *
            generalize w2.heap.size = bq at *
            have HF3 := Lib.hid (HF.out.below HB3.out)
            obtain ⟨bi, oi, hI, ic, _⟩ := HF3.out.ib.get1 HBV.out rfl
            subst hI
            have HIC := Lib.hid ic
            clear tw tk h1z ww wk9 hkl
            go_upto_region 46 with fail
            clear ic
            have hbx := keep HB3.out HF.out.xb
            have y0 : W3.cell? ⟨bx, 0, none⟩ = some (.int .i64 room) := box_at hbx 0 _ rfl
            have y1 : W3.cell? ⟨bx, 1, none⟩ = some (.int .i64 1) := box_at hbx 1 _ rfl
            have y2 : W3.cell? ⟨bx, 2, none⟩ = some (.slice A n c) := box_at hbx 2 _ rfl
            have yf := box_free hbx
            have p0 : W3.cell? ⟨bq, 0, none⟩ = some (.int .i64 room) := box_at HX2.out 0 _ rfl
            have p1 : W3.cell? ⟨bq, 1, none⟩ = some (.int .i64 1) := box_at HX2.out 1 _ rfl
            have p2 : W3.cell? ⟨bq, 2, none⟩ = some (.slice A2 n2 c2) := box_at HX2.out 2 _ rfl
            clear hbx
            have HN := Lib.hid (HF.out.next HO3.out HZ2.out HB3.out)
            go_upto_region 47 with fail
            clear y0 y1 y2 yf p0 p1 p2
            change Code.wp _ _ _ _ (st3 W3 bx (.int .i64 room) (.int .i64 1) (.slice A2 n2 c2))
            generalize st3 W3 bx (.int .i64 room) (.int .i64 1) (.slice A2 n2 c2) = W4 at *
            obtain ⟨bh, oh, hH, hc, hcf⟩ := HN.out.hd.get1 HGV.out rfl
            subst hH
            have HN4 := Lib.hid (HN.out.hput (g' := g ++ s) HGV.out)
            go_wp2_with fail
            go_meet
            simp only [cat_bytes]
            exact ⟨all, _, inn, x', A2, n2, c2, z2, _, h1, h2, _, i1, i2, rfl, rfl, rfl, HN4.out, HI2.out, by omega, by rw [List.length_set]; omega⟩
          | false =>
            have HJ := Lib.hid (HI.out.none hbv (show (0 : Int) ≤ (k9 : Int) by omega))
            clear hbv hgv
            go_upto_region 43 with (go_at_call 11; refine (take_any wr room 1 A n c zs (wv : Int) (k9 : Int) HF.out.o.rd HSM.out).mono ?_; unfold OpPost; rw [HF.out.fz, HJ.out]; rintro e w2 ⟨A2, n2, c2, z2, rfl, hf, hO, hb⟩; have HO2 := Lib.hid hO; have HB2 := Lib.hid hb; have HZ2 := Lib.hid hf; clear hO hb hf y0 y1 y2 yf)
            have hal : Below w2.heap.size w2 (w2.alloc (.cells #[.int .i64 room, .int .i64 1, .slice A2 n2 c2] 26)) := (Below.refl _ _).alloc (Nat.le_refl _) _
            have HX2 := Lib.hid (heap_alloc_new w2 (.cells #[.int .i64 room, .int .i64 1, .slice A2 n2 c2] 26))
            have HO3 := Lib.hid (HO2.out.below hal)
            have HB3 := Lib.hid (HB2.out.trans (hal.mono HB2.out.size))
            clear hal HO2 HB2
            generalize w2.alloc (.cells #[.int .i64 room, .int .i64 1, .slice A2 n2 c2] 26) = W3 at *
            generalize w2.heap.size = bq at *
            have HF3 := Lib.hid (HF.out.below HB3.out)
            obtain ⟨bi, oi, hI, ic, _⟩ := HF3.out.ib.get1 HBV.out rfl
            subst hI
            clear tw tk h1z ww wk9 hkl
            go_wp2_with fail
            go_meet
            exact ⟨all, had, inn, x, A, n, c, zs, H, h1, h2, _, i1, i2, rfl, rfl, rfl, HF3.out, HI.out, by omega, by omega⟩
        · as_aux_lemma =>
          generalize wr = W0 at *
          obtain ⟨k20, hk20⟩ : ∃ q, k % 20 = q := ⟨_, rfl⟩
          have tk : (k : Int).tmod 20 = (k20 : Int) := tmodN (q := 20) hk20
          have hkl : k20 < 20 := by omega
          have wk2 : IntKind.i64.wrap (k20 : Int) = (k20 : Int) := wrapN (by omega) (by omega)
          have r40 : ((r4 : Int) == 0) = false := by simp; omega
          have r41 : ((r4 : Int) == 1) = false := by simp; omega
          clear hk20 h42 h43 y0 y1 y2 yf
          go_upto_region 17 with fail
          clear r40 r41
          go_loopg [26, 27] k20 (fun gg s26 s27 wr2 => ∃ (j : Nat) (s : List UInt8), j ≤ k20 ∧ k20 - j ≤ gg ∧ s26 = str s ∧ s27 = .int .i64 j ∧ s.length = j ∧ Aside (Below W0.heap.size W0 wr2))
          case atStart => exact ⟨0, [], by omega, by omega, rfl, rfl, rfl, (show Aside _ from Below.refl _ _)⟩
          case round =>
            obtain ⟨j, ss, hj, hgj, rfl, rfl, hsj, HA⟩ := hrel
            have HB2 := Lib.hid HA.out
            clear HA
            by_cases hjl : j < k20
            · have hjz : (j : Int) < (k20 : Int) := by omega
              have wij : IntKind.i64.wrap ((i : Int) + (j : Int)) = (i : Int) + (j : Int) := wrapN (by omega) (by omega)
              by_cases hjm : j < ml.length
              · have hjmz : (j : Int) < (nm : Int) := by omega
                obtain ⟨bm, om, hAm, hbm, hmc⟩ := HM.out.get (show 0 < nm by omega)
                subst hAm
                have hcm := (below_trans_cell HB2.out HF.out.bw hbm (o := om + j)).trans (hmc j _ (u8s_at hjm))
                have hm8 : ml[j] < 256 := HM8.out _ (List.getElem_mem hjm)
                generalize ml[j] = cm0 at hcm hm8
                clear hmc
                go_upto_region 22 with fail
                clear tk wk2
                have hcv := conv_one wr (UInt8.ofNat cm0)
                rw [show ((UInt8.ofNat cm0).toNat : Int) = (cm0 : Int) by simp; omega] at hcv
                go_wp2_with fail
                go_roundg (k20 - (j + 1))
                case measure => omega
                case rel =>
                  refine ⟨j + 1, ss ++ [_], by omega, by omega, congrArg Value.string (cat_bytes ss [_]), by go_num, by rw [List.length_append, hsj]; rfl, ?_⟩
                  show Aside _
                  exact HB2.out.alloc HB2.out.size _
              · have hjmz : ¬ (j : Int) < (nm : Int) := by omega
                go_upto_region 22 with fail
                clear tk wk2
                have hcv := conv_one wr (UInt8.ofNat (i + j))
                rw [show ((UInt8.ofNat (i + j)).toNat : Int) = (i : Int) + (j : Int) by simp; omega] at hcv
                go_wp2_with fail
                go_roundg (k20 - (j + 1))
                case measure => omega
                case rel =>
                  refine ⟨j + 1, ss ++ [_], by omega, by omega, congrArg Value.string (cat_bytes ss [_]), by go_num, by rw [List.length_append, hsj]; rfl, ?_⟩
                  show Aside _
                  exact HB2.out.alloc HB2.out.size _
            · have hjz : ¬ (j : Int) < (k20 : Int) := by omega
              subst hsj
              have HF2 := Lib.hid (HF.out.below HB2.out)
              clear HB2
              obtain ⟨x', nn, out, hop, hn9, ho8, hbi⟩ := HI.out.feed (s := ss) (by omega)
              have HJ := Lib.hid hop
              have HI2 := Lib.hid hbi
              clear hop hbi
              have y0 : wr.cell? ⟨bx, 0, none⟩ = some (.int .i64 room) := box_at HF2.out.xb 0 _ rfl
              have y1 : wr.cell? ⟨bx, 1, none⟩ = some (.int .i64 1) := box_at HF2.out.xb 1 _ rfl
              have y2 : wr.cell? ⟨bx, 2, none⟩ = some (.slice A n c) := box_at HF2.out.xb 2 _ rfl
              have yf := box_free HF2.out.xb
              have hnn0 : ¬ (nn : Int) < 0 := by omega
              have hnn1 : ¬ (ss.length : Int) < (nn : Int) := by omega
              have hnn2 : (nn : Int) ≤ (ss.length : Int) := by omega
              go_upto_region 24 with (go_at_call 12; refine (feed_any wr room 1 A n c zs 0 ss HF2.out.o.rd HSM.out (by omega)).mono ?_; unfold FeedPost; rw [HF2.out.fz, HJ.out]; rintro e w2 ⟨A2, n2, c2, z2, L, ll2, dl, rfl, hf, hO, hL, hb⟩; have HO2 := Lib.hid hO; have HL2 := Lib.hid hL; have HB2 := Lib.hid hb; have HZ2 := Lib.hid hf; clear hO hb hf hL y0 y1 y2 yf)
              clear tk wk2
              have HL3 := Lib.hid (HL2.out.below ((Below.refl _ _).alloc (Nat.le_refl _) (.cells #[.int .i64 room, .int .i64 1, .slice A2 n2 c2] 26)))
              have hal : Below w2.heap.size w2 (w2.alloc (.cells #[.int .i64 room, .int .i64 1, .slice A2 n2 c2] 26)) := (Below.refl _ _).alloc (Nat.le_refl _) _
              have HX2 := Lib.hid (heap_alloc_new w2 (.cells #[.int .i64 room, .int .i64 1, .slice A2 n2 c2] 26))
              have HO3 := Lib.hid (HO2.out.below hal)
              have HB3 := Lib.hid (HB2.out.trans (hal.mono HB2.out.size))
              clear hal HO2 HB2
              generalize w2.alloc (.cells #[.int .i64 room, .int .i64 1, .slice A2 n2 c2] 26) = W3 at *
              generalize w2.heap.size = bq at *
              have hbx := keep HB3.out HF2.out.xb
              have y0 : W3.cell? ⟨bx, 0, none⟩ = some (.int .i64 room) := box_at hbx 0 _ rfl
              have y1 : W3.cell? ⟨bx, 1, none⟩ = some (.int .i64 1) := box_at hbx 1 _ rfl
              have y2 : W3.cell? ⟨bx, 2, none⟩ = some (.slice A n c) := box_at hbx 2 _ rfl
              have yf := box_free hbx
              have p0 : W3.cell? ⟨bq, 0, none⟩ = some (.int .i64 room) := box_at HX2.out 0 _ rfl
              have p1 : W3.cell? ⟨bq, 1, none⟩ = some (.int .i64 1) := box_at HX2.out 1 _ rfl
              have p2 : W3.cell? ⟨bq, 2, none⟩ = some (.slice A2 n2 c2) := box_at HX2.out 2 _ rfl
              clear hbx
              have HN := Lib.hid (HF2.out.next HO3.out HZ2.out HB3.out)
              have HL4 := Lib.hid (ints_st3 (r := .int .i64 room) (x := .int .i64 1) (V := .slice A2 n2 c2) HL3.out (keep HB3.out HF2.out.xb))
              go_upto_region 27 with fail
              clear y0 y1 y2 yf p0 p1 p2 HL3 HL2 HF2 HO3 HX2 HB3 HSM hnn0 hnn1
              change Code.wp _ _ _ _ (st3 W3 bx (.int .i64 room) (.int .i64 1) (.slice A2 n2 c2))
              generalize st3 W3 bx (.int .i64 room) (.int .i64 1) (.slice A2 n2 c2) = W4 at *
              generalize decide (ss.length < nn) = dd1
              generalize decide ((nn : Int) < 0) = dd2
              have hex : (⟨ss.toArray⟩ : ByteArray).extract 0 nn = ⟨(ss.take nn).toArray⟩ := ext_take ss nn
              have hcb : (⟨all.toArray⟩ : ByteArray) ++ (⟨(ss.take nn).toArray⟩ : ByteArray) = ⟨(all ++ ss.take nn).toArray⟩ := cat_bytes _ _
              have HCB := Lib.hid hcb
              clear hcb
              have hal2 : (all ++ ss.take nn).length ≤ 20 * (i + 1) := by rw [List.length_append, List.length_take]; omega
              have hstl : (ss.take nn).length ≤ 20 := by rw [List.length_take]; omega
              go_upto_region 29 with fail
              clear hex hnn2 hstl
              have hll2 : out.length = ll2 := HL4.out.rd.len
              go_loopg [33] out.length (fun gg s33 wr3 => ∃ (j : Nat) (inn' : List Bool), j ≤ out.length ∧ out.length - j ≤ gg ∧ s33 = .int .i64 j ∧ Aside (FbS w wr3 bx room x' (.slice A2 n2 c2) z2 (.slice H h1 h2) had (.slice I i1 i2) inn' ∧ OwE ienc 1 3 wr3 wr.heap.size (.slice L ll2 dl) out ∧ BI room (all ++ ss.take nn) had inn' (out.drop j) x'))
              case atStart => exact ⟨0, inn, by omega, by omega, rfl, (show Aside _ from ⟨HN.out, HL4.out, by simpa using HI2.out⟩)⟩
              case round =>
                clear HN HI2 HL4 HF HI HJ
                generalize wr = W6 at *
                obtain ⟨j2, inn2, hj2, hgj2, rfl, HA⟩ := hrel
                have HF5 := Lib.hid HA.out.1
                have HL5 := Lib.hid HA.out.2.1
                have hst0 := HA.out.2.2
                clear HA
                have hin2 : inn2.length = i1 := HF5.out.ib.rd.len
                by_cases hjo : j2 < out.length
                · have hjoz : (j2 : Int) < (ll2 : Int) := by omega
                  rw [List.drop_eq_getElem_cons hjo] at hst0
                  obtain ⟨wv, hwo, hwi, hst⟩ := hst0.strike
                  obtain ⟨bL, oL, hL, hLc, _⟩ := HL5.out.get1 (List.getElem?_eq_getElem hjo) rfl
                  subst hL
                  rw [hwo] at hLc
                  have hwl := (List.getElem?_eq_some_iff.1 hwi).1
                  obtain ⟨bI, oI, hI, hIc, hIf⟩ := HF5.out.ib.get1 hwi rfl
                  subst hI
                  have HFN := Lib.hid (HF5.out.iput (g' := false) hwi)
                  obtain ⟨cI, hcI⟩ := HF5.out.ib.typed bI rfl
                  have HLN := Lib.hid (own_far HL5.out hcI (by decide) (oI + wv) (.bool false))
                  have HST := Lib.hid hst
                  have hw0 : ¬ (wv : Int) < 0 := by omega
                  have hw1 : ¬ (i1 : Int) ≤ (wv : Int) := by omega
                  have hw2 : (wv : Int) < (i1 : Int) := by omega
                  clear hst hwi hcI hwo hwl
                  go_wp2_with fail
                  go_roundg (out.length - (j2 + 1))
                  case measure => omega
                  case rel => exact ⟨j2 + 1, inn2.set wv false, by omega, by omega, by go_num, (show Aside _ from ⟨HFN.out, HLN.out, HST.out⟩)⟩
                · have hjoz : ¬ (j2 : Int) < (ll2 : Int) := by omega
                  rw [List.drop_of_length_le (by omega)] at hst0
                  have HST := Lib.hid hst0
                  clear hst0
                  go_wp2_with fail
                  go_meet
                  exact ⟨all ++ ss.take nn, had, inn2, x', A2, n2, c2, z2, H, h1, h2, I, i1, i2, congrArg Value.string HCB.out, rfl, rfl, HF5.out, HST.out, hal2, by omega⟩
      case rest =>
        as_aux_lemma =>
        clear HF HI hhl hil hal20 hha
        obtain ⟨all, had, inn, x, A, n, c, zs, H, h1, h2, I, i1, i2, rfl, rfl, rfl, HA⟩ := hcut
        have HF := Lib.hid HA.out.1
        have HI := Lib.hid HA.out.2.1
        have hal20 := HA.out.2.2.1
        have hha := HA.out.2.2.2
        clear HA hr44
        have hhl : had.length = h1 := HF.out.hd.rd.len
        have HBX := Lib.hid HF.out.bw
        go_upto_region 49 with fail
        go_loopg [34] had.length (fun gg s34 wr2 => ∃ v : Nat, v ≤ had.length ∧ had.length - v ≤ gg ∧ s34 = .int .i64 v ∧ Aside (FbS w wr2 bx room x (.slice A n c) zs (.slice H h1 h2) had (.slice I i1 i2) inn))
        case atStart => exact ⟨0, by omega, by omega, rfl, HF.out⟩
        case round =>
          clear HF HBX
          obtain ⟨v, hv, hgv, rfl, HA⟩ := hrel
          have HF := Lib.hid HA.out
          clear HA
          by_cases hvl : v < had.length
          · have hvz : (v : Int) < (h1 : Int) := by omega
            obtain ⟨g, hgg⟩ : ∃ g, had[v]? = some g := ⟨_, List.getElem?_eq_getElem hvl⟩
            obtain ⟨bh, oh, hH, hc, _⟩ := HF.out.hd.get1 hgg rfl
            subst hH
            have hpre := HI.out.pre g (List.mem_of_getElem? hgg)
            have hgl := hpre.length_le
            have hex : (⟨all.toArray⟩ : ByteArray).extract 0 g.length = ⟨g.toArray⟩ := by rw [ext_take, ← List.prefix_iff_eq_take.1 hpre]
            have hgz : ¬ (all.length : Int) < (g.length : Int) := by omega
            have hgz2 : (g.length : Int) ≤ (all.length : Int) := by omega
            clear hgg hpre
            go_upto_region 51 with fail
            go_quiet (fail)
            have HFn := Lib.hid (HF.out.below (show Below wr.heap.size wr (wr.drewN nq) from ⟨rfl, rfl, rfl, Nat.le_refl _, fun _ _ => rfl⟩))
            go_wp2_with fail
            go_roundg (had.length - (v + 1))
            case measure => omega
            case rel => exact ⟨v + 1, by omega, by omega, by go_num, HFn.out⟩
          · have hvz : ¬ (v : Int) < (h1 : Int) := by omega
            have HSM := Lib.hid (show SmF (fls zs) by rw [HF.out.fz]; exact HI.out.sm)
            have y0 : wr.cell? ⟨bx, 0, none⟩ = some (.int .i64 room) := box_at HF.out.xb 0 _ rfl
            have y1 : wr.cell? ⟨bx, 1, none⟩ = some (.int .i64 1) := box_at HF.out.xb 1 _ rfl
            have y2 : wr.cell? ⟨bx, 2, none⟩ = some (.slice A n c) := box_at HF.out.xb 2 _ rfl
            have hzn : zs.length = n := HF.out.o.rd.len
            go_wp2_with (go_at_call 13; refine (right_any wr room 1 A n c zs HF.out.o.rd (HSM.out.sm hzn)).mono ?_; rw [HF.out.fz, HI.out.right]; rintro e w5 ⟨rfl, hb5⟩; have HF5 := Lib.hid (HF.out.below hb5); clear hb5)
            go_roundg (80 - (i + 1))
            case measure => omega
            case rel => exact ⟨i + 1, all, had, inn, x, A, n, c, zs, H, h1, h2, I, i1, i2, by omega, by omega, rfl, rfl, rfl, by go_num, (show Aside _ from ⟨HF5.out, HI.out, hal20, by omega⟩)⟩
    · simp only [decide_eq_false hlt]
      clear hlt
      as_aux_lemma =>
      go_upto_region 56 with fail
      go_loopg [35] had.length (fun gg s35 wr2 => ∃ v : Nat, v ≤ had.length ∧ had.length - v ≤ gg ∧ s35 = .int .i64 v ∧ Aside (FbS w wr2 bx room x (.slice A n c) zs (.slice H h1 h2) had (.slice I i1 i2) inn))
      case atStart => exact ⟨0, by omega, by omega, rfl, HF.out⟩
      case round =>
        clear HF
        obtain ⟨v, hv, hgv, rfl, HA⟩ := hrel
        have HF := Lib.hid HA.out
        clear HA
        have HSM := Lib.hid (show SmF (fls zs) by rw [HF.out.fz]; exact HI.out.sm)
        have y0 : wr.cell? ⟨bx, 0, none⟩ = some (.int .i64 room) := box_at HF.out.xb 0 _ rfl
        have y1 : wr.cell? ⟨bx, 1, none⟩ = some (.int .i64 1) := box_at HF.out.xb 1 _ rfl
        have y2 : wr.cell? ⟨bx, 2, none⟩ = some (.slice A n c) := box_at HF.out.xb 2 _ rfl
        by_cases hvl : v < had.length
        · have hvz : (v : Int) < (h1 : Int) := by omega
          have hin := HI.out.n
          have hvi : (v : Int) < (i1 : Int) := by omega
          obtain ⟨g, hgg⟩ : ∃ g, had[v]? = some g := ⟨_, List.getElem?_eq_getElem hvl⟩
          obtain ⟨bv, hbv⟩ : ∃ bv, inn[v]? = some bv := ⟨_, List.getElem?_eq_getElem (by omega)⟩
          obtain ⟨bi, oi, hI, ic, _⟩ := HF.out.ib.get1 hbv rfl
          subst hI
          cases bv with
          | false =>
            clear hgg hbv
            go_wp2_with fail
            go_roundg (had.length - (v + 1))
            case measure => omega
            case rel => exact ⟨v + 1, by omega, by omega, by go_num, HF.out⟩
          | true =>
            obtain ⟨x', s, la, hop, hs, hbi⟩ := HI.out.take hbv hgg (show (0 : Int) ≤ 100000 by omega)
            have hpre := HI.out.pre g (List.mem_of_getElem? hgg)
            have hsz := HI.out.sz
            have hgl := hpre.length_le
            have hgs : g ++ s = all := by
              rw [hs, List.take_of_length_le (by rw [List.length_drop]; omega)]
              conv => lhs; lhs; rw [List.prefix_iff_eq_take.1 hpre]
              exact List.take_append_drop _ _
            have hsl : s.length ≤ 2000 := by rw [hs, List.length_take, List.length_drop]; omega
            have HCB := Lib.hid ((cat_bytes g s).trans (by rw [hgs]))
            have HJ := Lib.hid hop
            have HGG := Lib.hid hgg
            clear hop hs hbi hbv hgg hpre hgs
            go_upto_region 60 with (go_at_call 11; refine (take_any wr room 1 A n c zs (v : Int) 100000 HF.out.o.rd HSM.out).mono ?_; unfold OpPost; rw [HF.out.fz, HJ.out]; rintro e w2 ⟨A2, n2, c2, z2, rfl, hf, hO, hb⟩; have HO2 := Lib.hid hO; have HB2 := Lib.hid hb; have HZ2 := Lib.hid hf; clear hO hb hf y0 y1 y2)
            have hal : Below w2.heap.size w2 (w2.alloc (.cells #[.int .i64 room, .int .i64 1, .slice A2 n2 c2] 26)) := (Below.refl _ _).alloc (Nat.le_refl _) _
            have HX2 := Lib.hid (heap_alloc_new w2 (.cells #[.int .i64 room, .int .i64 1, .slice A2 n2 c2] 26))
            have HO3 := Lib.hid (HO2.out.below hal)
            have HB3 := Lib.hid (HB2.out.trans (hal.mono HB2.out.size))
            clear hal HO2 HB2
            generalize w2.alloc (.cells #[.int .i64 room, .int .i64 1, .slice A2 n2 c2] 26) = W3 at *
            generalize w2.heap.size = bq at *
            have HF3 := Lib.hid (HF.out.below HB3.out)
            obtain ⟨bh, oh, hH, hc, _⟩ := HF3.out.hd.get1 HGG.out rfl
            subst hH
            have hcb := HCB.out
            go_wp2_with fail
            go_roundg (had.length - (v + 1))
            case measure => omega
            case rel => exact ⟨v + 1, by omega, by omega, by go_num, HF3.out⟩
        · have hvz : ¬ (v : Int) < (h1 : Int) := by omega
          go_wp2_with fail
          go_ret
          exact ⟨by simp, HF.out.bw⟩
end Go.Proofs.Ytipjhokhflokmaa
