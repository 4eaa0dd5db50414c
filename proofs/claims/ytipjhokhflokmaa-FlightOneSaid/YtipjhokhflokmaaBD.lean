/- lockagelaw18.FlightOne, under way. -/
import Derived.Test.YtipjhokhflokmaaBC
set_option linter.unusedVariables false
set_option linter.unusedSimpArgs false
namespace Go.Proofs.Ytipjhokhflokmaa
open Go.RowKit Go.Maps
open Go.Proofs.YtipjhokhflokmaaW.PrintWords

/-- a box with flights of one's own -/
structure FO (w W : World) (b : Nat) (room nx : Int) (V : Value) (zs : List FV) : Prop where
  x : W.heap[b]? = some (.cells #[.int .i64 room, .int .i64 nx, V] 26 (0, 0))
  o : OwF W w.heap.size V zs
  bw : Below w.heap.size w W
  lo : w.heap.size ≤ b
theorem FO.below {w W W1 : World} {b : Nat} {room nx : Int} {V : Value} {zs : List FV} (h : FO w W b room nx V zs) (hb : Below W.heap.size W W1) : FO w W1 b room nx V zs :=
  ⟨keep hb h.x, h.o.below hb, h.bw.trans (hb.mono h.bw.size), h.lo⟩
/-- what a call has left in another box is stored -/
theorem FO.next {w W w2 : World} {b : Nat} {room nx nx' : Int} {V V' : Value} {zs zs' : List FV} (h : FO w W b room nx V zs) (hO : OwF w2 W.heap.size V' zs') (hb : Below W.heap.size W w2) : FO w (st3 w2 b (.int .i64 room) (.int .i64 nx') V') b room nx' V' zs' :=
  ⟨st3_box (keep hb h.x), st3_own (hO.lower h.bw.size) (keep hb h.x), st3_below (h.bw.trans (hb.mono h.bw.size)) h.lo, h.lo⟩
/-- while they join -/
def JoinK (kk : Nat) (nx : Int) (fs : List Fl) : Prop := (kk = 0 ∧ nx = 0 ∧ fs = []) ∨ (1 ≤ kk ∧ nx = 1 ∧ fs = [xO kk 0 0 0 [] false])
theorem JoinK.step {room nx : Int} {kk : Nat} {fs : List Fl} (h : JoinK kk nx fs) (h1 : 1 ≤ room) (h2 : room ≤ 4096) (h8 : kk < 8) : joinOp room nx fs [107] (kk : Int) true = ⟨[xO (kk + 1) 0 0 0 [] false], 1, 0, decide (kk = 0), 0⟩ := by
  rcases h with ⟨rfl, rfl, rfl⟩ | ⟨hk, rfl, rfl⟩
  · exact join0 h1 h2
  · rw [joinI h1 h2 hk h8, decide_eq_false (by omega)]
theorem JoinK.sm {nx : Int} {kk : Nat} {fs : List Fl} (h : JoinK kk nx fs) (h8 : kk ≤ 8) : SmF fs := by
  rcases h with ⟨rfl, rfl, rfl⟩ | ⟨hk, rfl, rfl⟩
  · exact sm0
  · exact sm_xO h8

set_option maxRecDepth 100000 in
set_option maxHeartbeats 16000000 in
theorem flightOne_any (w : World) (r8 many bytes : Nat) (done : Bool) (hr8 : r8 < 256) (hma : many < 256) (hby : bytes < 256) :
    Calls Try.prog 8 #[.int .u8 r8, .int .u8 many, .int .u8 bytes, .bool done] w fun e w' => e = .returned (.bool true) ∧ Below w.heap.size w w' := by
  obtain ⟨rm, hrm⟩ : ∃ q, r8 % 12 = q := ⟨_, rfl⟩
  obtain ⟨n, hn⟩ : ∃ q, many % 8 = q := ⟨_, rfl⟩
  obtain ⟨bs, hbs⟩ : ∃ q, bytes % 33 = q := ⟨_, rfl⟩
  have tr : (r8 : Int).tmod 12 = (rm : Int) := by rw [Int.tmod_eq_emod_of_nonneg (by omega), ← hrm]; rfl
  have tn : (many : Int).tmod 8 = (n : Int) := by rw [Int.tmod_eq_emod_of_nonneg (by omega), ← hn]; rfl
  have tb : (bytes : Int).tmod 33 = (bs : Int) := by rw [Int.tmod_eq_emod_of_nonneg (by omega), ← hbs]; rfl
  have lr : rm < 12 := by omega
  have ln : n < 8 := by omega
  have lb : bs < 33 := by omega
  have wr0 : IntKind.i64.wrap (r8 : Int) = (r8 : Int) := by rw [IntKind.wrap_i64]; omega
  have wr1 : IntKind.i64.wrap (rm : Int) = (rm : Int) := by rw [IntKind.wrap_i64]; omega
  have wr2 : IntKind.i64.wrap (1 + (rm : Int)) = 1 + (rm : Int) := by rw [IntKind.wrap_i64]; omega
  have wn0 : IntKind.i64.wrap (many : Int) = (many : Int) := by rw [IntKind.wrap_i64]; omega
  have wn1 : IntKind.i64.wrap (n : Int) = (n : Int) := by rw [IntKind.wrap_i64]; omega
  have wb0 : IntKind.i64.wrap (bytes : Int) = (bytes : Int) := by rw [IntKind.wrap_i64]; omega
  have wb1 : IntKind.i64.wrap (bs : Int) = (bs : Int) := by rw [IntKind.wrap_i64]; omega
  obtain ⟨room, hroom⟩ : ∃ q : Int, 1 + (rm : Int) = q := ⟨_, rfl⟩
  have hro1 : 1 ≤ room := by omega
  have hro2 : room ≤ 12 := by omega
  rw [hroom] at wr2
  clear hrm hn hbs
  have HAW := Lib.hid (awake_any w)
  go_enter Try.func8, Try.ntmps8
  go_upto_region 4 with (go_at_call 9; refine HAW.out.mono ?_; rintro e w1 ⟨rfl, hb⟩; have HW1 := Lib.hid hb; clear hb)
  clear HAW
  go_upto_region 5 with fail
  have hal : Below w1.heap.size w1 (w1.alloc (.cells #[.int .i64 room, .int .i64 0, .slice none 0 0] 26)) := (Below.refl _ _).alloc (Nat.le_refl _) _
  have HF0 := Lib.hid (show FO w (w1.alloc (.cells #[.int .i64 room, .int .i64 0, .slice none 0 0] 26)) w1.heap.size room 0 (.slice none 0 0) [] from ⟨heap_alloc_new w1 _, OwF.nil _ _, HW1.out.trans (hal.mono HW1.out.size), HW1.out.size⟩)
  clear hal HW1 tr wr0 wr1 wr2 hroom
  generalize w1.alloc (.cells #[.int .i64 room, .int .i64 0, .slice none 0 0] 26) = V at *
  generalize w1.heap.size = b10 at *
  go_upto_region 7 with fail
  clear tn wn0
  go_loopg [12] (n + 1) (fun gg s12 wr => ∃ kk : Nat, kk ≤ n + 1 ∧ n + 1 - kk ≤ gg ∧ s12 = .int .i64 kk ∧ ∃ (nx : Int) (A : Option Addr) (m c : Nat) (zs : List FV), Aside (FO w wr b10 room nx (.slice A m c) zs ∧ JoinK kk nx (fls zs)))
  case atStart =>
    refine ⟨0, by omega, by omega, rfl, 0, none, 0, 0, [], ?_⟩
    show Aside _
    exact ⟨HF0.out, .inl ⟨rfl, rfl, rfl⟩⟩
  case round =>
    clear HF0
    obtain ⟨kk, hkk, hg, rfl, nx, A, m, c, zs, HA⟩ := hrel
    have HF := Lib.hid HA.out.1
    have HJ := Lib.hid HA.out.2
    clear HA
    by_cases hlt : kk ≤ n
    · have hltz : (kk : Int) ≤ (n : Int) := by omega
      have y0 : wr.cell? ⟨b10, 0, none⟩ = some (.int .i64 room) := box_at HF.out.x 0 _ rfl
      have y1 : wr.cell? ⟨b10, 1, none⟩ = some (.int .i64 nx) := box_at HF.out.x 1 _ rfl
      have y2 : wr.cell? ⟨b10, 2, none⟩ = some (.slice A m c) := box_at HF.out.x 2 _ rfl
      have HST := Lib.hid (HJ.out.step (room := room) hro1 (by omega) (by omega))
      have hk0 : ((kk : Int) == 0) = decide (kk = 0) := by rw [Bool.eq_iff_iff]; simp
      go_upto_region 10 with (go_at_call 10; refine (join_any wr room nx A m c zs [107] (kk : Int) true HF.out.o.rd (HJ.out.sm (by omega)) (by decide)).mono ?_; unfold JoinPost OpPost; rw [HST.out]; rintro e w2 ⟨A2, n2, c2, z2, rfl, hf, hO, hb⟩; have HO2 := Lib.hid hO; have HB2 := Lib.hid hb; have HZ2 := Lib.hid hf; clear hO hb hf y0 y1 y2)
      have hal : Below w2.heap.size w2 (w2.alloc (.cells #[.int .i64 room, .int .i64 1, .slice A2 n2 c2] 26)) := (Below.refl _ _).alloc (Nat.le_refl _) _
      have HX2 := Lib.hid (heap_alloc_new w2 (.cells #[.int .i64 room, .int .i64 1, .slice A2 n2 c2] 26))
      have HO3 := Lib.hid (HO2.out.below hal)
      have HB3 := Lib.hid (HB2.out.trans (hal.mono HB2.out.size))
      clear hal HO2 HB2
      generalize w2.alloc (.cells #[.int .i64 room, .int .i64 1, .slice A2 n2 c2] 26) = W3 at *
      generalize w2.heap.size = b13 at *
      have hbx := keep HB3.out HF.out.x
      have y0 : W3.cell? ⟨b10, 0, none⟩ = some (.int .i64 room) := box_at hbx 0 _ rfl
      have y1 : W3.cell? ⟨b10, 1, none⟩ = some (.int .i64 nx) := box_at hbx 1 _ rfl
      have y2 : W3.cell? ⟨b10, 2, none⟩ = some (.slice A m c) := box_at hbx 2 _ rfl
      have yf := box_free hbx
      have p0 : W3.cell? ⟨b13, 0, none⟩ = some (.int .i64 room) := box_at HX2.out 0 _ rfl
      have p1 : W3.cell? ⟨b13, 1, none⟩ = some (.int .i64 1) := box_at HX2.out 1 _ rfl
      have p2 : W3.cell? ⟨b13, 2, none⟩ = some (.slice A2 n2 c2) := box_at HX2.out 2 _ rfl
      have HN := Lib.hid (HF.out.next (nx' := 1) HO3.out HB3.out)
      clear hbx
      go_wp2_with fail
      go_roundg (n + 1 - (kk + 1))
      case measure => omega
      case rel =>
        refine ⟨kk + 1, by omega, by omega, by go_num, 1, A2, n2, c2, z2, ?_⟩
        show Aside _
        exact ⟨HN.out, .inr ⟨by omega, rfl, HZ2.out⟩⟩
    · have hltz : ¬ (kk : Int) ≤ (n : Int) := by omega
      have hkn : kk = n + 1 := by omega
      have hJ2 : nx = 1 ∧ fls zs = [xO (n + 1) 0 0 0 [] false] := by
        rcases HJ.out with ⟨h1, _, _⟩ | ⟨_, h2, h3⟩
        · omega
        · rw [hkn] at h3
          exact ⟨h2, h3⟩
      obtain ⟨rfl, hfz0⟩ := hJ2
      have HFZ0 := Lib.hid hfz0
      have hex0 : (⟨[48, 49, 50, 51, 52, 53, 54, 55, 56, 57, 97, 98, 99, 100, 101, 102, 103, 104, 105, 106, 107, 108, 109, 110, 111, 112, 113, 114, 115, 116, 117, 118].toArray⟩ : ByteArray).extract 0 bs = ⟨(List.take bs [48, 49, 50, 51, 52, 53, 54, 55, 56, 57, 97, 98, 99, 100, 101, 102, 103, 104, 105, 106, 107, 108, 109, 110, 111, 112, 113, 114, 115, 116, 117, 118]).toArray⟩ := ext_take _ bs
      obtain ⟨ss, hss⟩ : ∃ ss : List UInt8, List.take bs [48, 49, 50, 51, 52, 53, 54, 55, 56, 57, 97, 98, 99, 100, 101, 102, 103, 104, 105, 106, 107, 108, 109, 110, 111, 112, 113, 114, 115, 116, 117, 118] = ss := ⟨_, rfl⟩
      have hsl : ss.length ≤ 32 := by rw [← hss, List.length_take]; omega
      rw [hss] at hex0
      have hb32 : (bs : Int) ≤ 32 := by omega
      clear hss hfz0 hkn hlt
      go_upto_region 14 with fail
      clear hex0 hb32 tb wb0 wb1 hltz
      go_upto_region 15 with fail
      go_loopg [17, 18] ss.length (fun gg s17 s18 wr2 => ∃ (rest : List UInt8) (t base : Int) (data : List UInt8), rest.length ≤ gg ∧ s17 = str rest ∧ s18 = .bool (decide (0 < base)) ∧ ∃ (A : Option Addr) (m c : Nat) (zs : List FV), Aside (FO w wr2 b10 room 1 (.slice A m c) zs ∧ fls zs = [xO (n + 1) 0 t base data false] ∧ OkO room (n + 1) 0 t base data ∧ t = base + data.length ∧ t + rest.length ≤ 100))
      case atStart =>
        refine ⟨ss, 0, 0, [], Nat.le_refl _, rfl, rfl, A, m, c, zs, ?_⟩
        show Aside _
        exact ⟨HF.out, HFZ0.out, ⟨hro1, by omega, by omega, by omega, Int.le_refl _, by simp; omega, Int.le_refl _, by simp, by simp⟩, by simp, by simp; omega⟩
      case round =>
        clear HF HJ HFZ0
        obtain ⟨rest, t, base, data, hrl, rfl, rfl, A, m, c, zs, HA⟩ := hrel
        have HF := Lib.hid HA.out.1
        have HZ := Lib.hid HA.out.2.1
        have HO := Lib.hid HA.out.2.2.1
        have HT := Lib.hid HA.out.2.2.2.1
        have ht100 := HA.out.2.2.2.2
        clear HA
        have y0 : wr.cell? ⟨b10, 0, none⟩ = some (.int .i64 room) := box_at HF.out.x 0 _ rfl
        have y1 : wr.cell? ⟨b10, 1, none⟩ = some (.int .i64 1) := box_at HF.out.x 1 _ rfl
        have y2 : wr.cell? ⟨b10, 2, none⟩ = some (.slice A m c) := box_at HF.out.x 2 _ rfl
        cases rest with
        | cons ch tl =>
          have hlt : 0 < (ch :: tl).length := Nat.zero_lt_succ _
          have hltz : (0 : Int) < ((ch :: tl).length : Int) := by omega
          obtain ⟨base', data', hop, hb1, hb2, hb3, hb4⟩ := feedO (m := n + 1) ch HO.out HT.out (by simp at ht100; omega)
          have HOP := Lib.hid hop
          have hex1 : (⟨(ch :: tl).toArray⟩ : ByteArray).extract 0 1 = ⟨[ch].toArray⟩ := ext_take (ch :: tl) 1
          have hl1 : (1 : Int) ≤ ((ch :: tl).length : Int) := by omega
          have hl2 : 1 ≤ (ch :: tl).length := hlt
          generalize hrest : ch :: tl = rest at *
          have HRE := Lib.hid hrest
          clear hop hrest
          have hsz : SmF (fls zs) := by rw [HZ.out]; exact sm_xO (by omega)
          have HSZ := Lib.hid hsz
          have hal : Below wr.heap.size wr (wr.alloc (.cells #[.int .i64 0, .int .i64 0, .slice none 0 0] 26)).drew := below_drew ((Below.refl _ _).alloc (Nat.le_refl _) _)
          have hdr : Below wr.heap.size wr wr.drew := below_drew (Below.refl _ _)
          have HAL := Lib.hid hal
          have HDR := Lib.hid hdr
          have hzz := keep (below_drew (Below.refl (wr.alloc (.cells #[.int .i64 0, .int .i64 0, .slice none 0 0] 26)).heap.size (wr.alloc (.cells #[.int .i64 0, .int .i64 0, .slice none 0 0] 26)))) (heap_alloc_new wr (.cells #[.int .i64 0, .int .i64 0, .slice none 0 0] 26))
          have HZX := Lib.hid hzz
          have ya0 := pw_cell_below hal y0
          have ya1 := pw_cell_below hal y1
          have ya2 := pw_cell_below hal y2
          clear hsz hal hdr hzz
          go_upto_region 16 with fail
          clear hltz hlt
          go_cut [19, 20, 21, 22] from 77 to 85 (fun s19 s20 s21 s22 wx => ∃ (b19 : Nat) (A2 : Option Addr) (n2 c2 : Nat) (z2 : List FV) (L : Option Addr) (l d : Nat), s19 = .pointer (some ⟨b19, 0, none⟩) ∧ s20 = .int .i64 1 ∧ s21 = .slice L l d ∧ s22 = .int .i64 0 ∧ Aside (fls z2 = [xO (n + 1) 0 t base' data' false] ∧ wx.heap[b19]? = some (.cells #[.int .i64 room, .int .i64 1, .slice A2 n2 c2] 26 (0, 0)) ∧ OwF wx wr.heap.size (.slice A2 n2 c2) z2 ∧ Below wr.heap.size wr wx))
          case first =>
            refine wp_region_held_drew (S := fun _ => True) (by kernel_rfl) trivial (fun hHeld => ?_)
            refine wpAnyH_take (i := 1) (oi := _) (v := ?v1o1) rfl (by kernel_rfl) (by kernel_rfl) (by kernel_rfl) (fun _ _ _ h => h) (Or.inl ⟨by kernel_rfl, ?y1o1⟩) (by assumption) ?r1o1
            case y1o1 => (intro w hSw; (try dsimp only at hSw); go_simp; try (with_reducible rfl))
            case r1o1 =>
              simp only [List.getElem_toArray, List.getElem_cons_succ, List.getElem_cons_zero, Act.put, List.setIfInBounds_toArray, List.set_cons_zero, List.set_cons_succ]
              refine wpAnyH_take (i := 2) (oi := _) (v := ?v2o2) rfl (by kernel_rfl) (by kernel_rfl) (by kernel_rfl) (fun _ _ _ h => h) (Or.inl ⟨by kernel_rfl, ?y2o2⟩) (by assumption) ?r2o2
              case y2o2 => (intro w hSw; (try dsimp only at hSw); go_simp; try (with_reducible rfl))
              case r2o2 =>
                simp only [List.getElem_toArray, List.getElem_cons_succ, List.getElem_cons_zero, Act.put, List.setIfInBounds_toArray, List.set_cons_zero, List.set_cons_succ]
                refine wpAnyH_ready (rs := [0, 9]) (by kernel_rfl) (by simp) ?_
                refine AllReadyH.cons (o := _) rfl (fun K hK => ?_) (AllReadyH.cons (o := _) rfl (fun K hK => ?_) (AllReadyH.nil))
                · go_simp
                  go_wp2_with fail
                  refine hK.out _ _ trivial (fun hHeld => ?_)
                  clear hK K
                  try simp only [List.getElem_toArray, List.getElem_cons_succ, List.getElem_cons_zero, Act.put, List.setIfInBounds_toArray, List.set_cons_zero, List.set_cons_succ]
                  refine wpAnyH_ready (rs := [3, 9]) (by kernel_rfl) (by simp) ?_
                  refine AllReadyH.cons (o := _) rfl (fun K hK => ?_) (AllReadyH.cons (o := _) rfl (fun K hK => ?_) (AllReadyH.nil))
                  · go_simp
                    (go_at_call 12; refine (feed_any _ room 1 A m c zs 0 [ch] (HF.out.o.rd.below HDR.out) HSZ.out (by simp)).mono ?_; unfold FeedPost; rw [HZ.out, HOP.out]; rintro e w2 ⟨A2, n2, c2, z2, L2, l2, d2, rfl, hf, hO, hL, hb⟩; have ha := (Below.refl w2.heap.size w2).alloc (Nat.le_refl _) (.cells #[.int .i64 room, .int .i64 1, .slice A2 n2 c2] 26); have HFIN := Lib.hid (show fls z2 = [xO (n + 1) 0 t base' data' false] ∧ (w2.alloc (.cells #[.int .i64 room, .int .i64 1, .slice A2 n2 c2] 26)).heap[w2.heap.size]? = some (.cells #[.int .i64 room, .int .i64 1, .slice A2 n2 c2] 26 (0, 0)) ∧ OwF (w2.alloc (.cells #[.int .i64 room, .int .i64 1, .slice A2 n2 c2] 26)) wr.heap.size (.slice A2 n2 c2) z2 ∧ Below wr.heap.size wr (w2.alloc (.cells #[.int .i64 room, .int .i64 1, .slice A2 n2 c2] 26)) from ⟨hf, heap_alloc_new w2 _, (hO.lower HDR.out.size).below ha, (HDR.out.trans (hb.mono HDR.out.size)).trans (ha.mono (HDR.out.trans (hb.mono HDR.out.size)).size)⟩); clear y0 y1 y2 ya0 ya1 ya2 hO hf hb hL ha)
                    go_wp2_with fail
                    refine hK.out _ _ trivial (fun hHeld => ?_)
                    clear hK K
                    try simp only [List.getElem_toArray, List.getElem_cons_succ, List.getElem_cons_zero, Act.put, List.setIfInBounds_toArray, List.set_cons_zero, List.set_cons_succ]
                    refine wpAnyH_take (i := 4) (oi := _) (v := ?v4o3) rfl (by kernel_rfl) (by kernel_rfl) (by kernel_rfl) (fun _ _ _ h => h) (Or.inl ⟨by kernel_rfl, ?y4o3⟩) (by assumption) ?r4o3
                    case y4o3 => (intro w hSw; (try dsimp only at hSw); go_simp; try (with_reducible rfl))
                    case r4o3 =>
                      simp only [List.getElem_toArray, List.getElem_cons_succ, List.getElem_cons_zero, Act.put, List.setIfInBounds_toArray, List.set_cons_zero, List.set_cons_succ]
                      refine wpAnyH_take (i := 5) (oi := _) (v := ?v5o4) rfl (by kernel_rfl) (by kernel_rfl) (by kernel_rfl) (fun _ _ _ h => h) (Or.inl ⟨by kernel_rfl, ?y5o4⟩) (by assumption) ?r5o4
                      case y5o4 => (intro w hSw; (try dsimp only at hSw); go_simp; try (with_reducible rfl))
                      case r5o4 =>
                        simp only [List.getElem_toArray, List.getElem_cons_succ, List.getElem_cons_zero, Act.put, List.setIfInBounds_toArray, List.set_cons_zero, List.set_cons_succ]
                        refine wpAnyH_take (i := 6) (oi := _) (v := ?v6o5) rfl (by kernel_rfl) (by kernel_rfl) (by kernel_rfl) (fun _ _ _ h => h) (Or.inl ⟨by kernel_rfl, ?y6o5⟩) (by assumption) ?r6o5
                        case y6o5 => (intro w hSw; (try dsimp only at hSw); go_simp; try (with_reducible rfl))
                        case r6o5 =>
                          simp only [List.getElem_toArray, List.getElem_cons_succ, List.getElem_cons_zero, Act.put, List.setIfInBounds_toArray, List.set_cons_zero, List.set_cons_succ]
                          refine wpAnyH_take (i := 7) (oi := _) (v := ?v7o6) rfl (by kernel_rfl) (by kernel_rfl) (by kernel_rfl) (fun _ _ _ h => h) (Or.inl ⟨by kernel_rfl, ?y7o6⟩) (by assumption) ?r7o6
                          case y7o6 => (intro w hSw; (try dsimp only at hSw); go_simp; try (with_reducible rfl))
                          case r7o6 =>
                            simp only [List.getElem_toArray, List.getElem_cons_succ, List.getElem_cons_zero, Act.put, List.setIfInBounds_toArray, List.set_cons_zero, List.set_cons_succ]
                            refine wpAnyH_take (i := 8) (oi := _) (v := ?v8o7) rfl (by kernel_rfl) (by kernel_rfl) (by kernel_rfl) (fun _ _ _ h => h) (Or.inl ⟨by kernel_rfl, ?y8o7⟩) (by assumption) ?r8o7
                            case y8o7 => (intro w hSw; (try dsimp only at hSw); go_simp; try (with_reducible rfl))
                            case r8o7 =>
                              simp only [List.getElem_toArray, List.getElem_cons_succ, List.getElem_cons_zero, Act.put, List.setIfInBounds_toArray, List.set_cons_zero, List.set_cons_succ]
                              refine wpAnyH_ready (rs := [9]) (by kernel_rfl) (by simp) ?_
                              refine AllReadyH.cons (o := _) rfl (fun K hK => ?_) (AllReadyH.nil)
                              · go_simp
                                go_wp2_with fail
                                refine hK.out _ _ trivial (fun hHeld => ?_)
                                clear hK K
                                try simp only [List.getElem_toArray, List.getElem_cons_succ, List.getElem_cons_zero, Act.put, List.setIfInBounds_toArray, List.set_cons_zero, List.set_cons_succ]
                                refine wpAnyH_ready (rs := [10]) (by kernel_rfl) (by simp) ?_
                                refine AllReadyH.cons (o := _) rfl (fun K hK => ?_) (AllReadyH.nil)
                                · go_simp
                                  go_wp2_with fail
                                  refine hK.out _ _ trivial (fun hHeld => ?_)
                                  clear hK K
                                  try simp only [List.getElem_toArray, List.getElem_cons_succ, List.getElem_cons_zero, Act.put, List.setIfInBounds_toArray, List.set_cons_zero, List.set_cons_succ]
                                  refine wpAnyH_take (i := 11) (oi := _) (v := ?v11o8) rfl (by kernel_rfl) (by kernel_rfl) (by kernel_rfl) (fun _ _ _ h => h) (Or.inl ⟨by kernel_rfl, ?y11o8⟩) (by assumption) ?r11o8
                                  case y11o8 => (intro w hSw; (try dsimp only at hSw); go_simp; try (with_reducible rfl))
                                  case r11o8 =>
                                    simp only [List.getElem_toArray, List.getElem_cons_succ, List.getElem_cons_zero, Act.put, List.setIfInBounds_toArray, List.set_cons_zero, List.set_cons_succ]
                                    refine wpAnyH_take (i := 12) (oi := _) (v := ?v12o9) rfl (by kernel_rfl) (by kernel_rfl) (by kernel_rfl) (fun _ _ _ h => h) (Or.inl ⟨by kernel_rfl, ?y12o9⟩) (by assumption) ?r12o9
                                    case y12o9 => (intro w hSw; (try dsimp only at hSw); go_simp; try (with_reducible rfl))
                                    case r12o9 =>
                                      simp only [List.getElem_toArray, List.getElem_cons_succ, List.getElem_cons_zero, Act.put, List.setIfInBounds_toArray, List.set_cons_zero, List.set_cons_succ]
                                      refine wpAnyH_take (i := 13) (oi := _) (v := ?v13o10) rfl (by kernel_rfl) (by kernel_rfl) (by kernel_rfl) (fun _ _ _ h => h) (Or.inl ⟨by kernel_rfl, ?y13o10⟩) (by assumption) ?r13o10
                                      case y13o10 => (intro w hSw; (try dsimp only at hSw); go_simp; try (with_reducible rfl))
                                      case r13o10 =>
                                        simp only [List.getElem_toArray, List.getElem_cons_succ, List.getElem_cons_zero, Act.put, List.setIfInBounds_toArray, List.set_cons_zero, List.set_cons_succ]
                                        refine wpAnyH_done (by kernel_rfl) ?_ _
                                        go_wp2_with fail
                                        go_meet
                                        exact ⟨_, A2, n2, c2, z2, L2, l2, d2, rfl, rfl, rfl, rfl, (show Aside _ from HFIN.out)⟩
                  · go_simp
                    go_wp2_with fail
                    refine hK.out _ _ trivial (fun hHeld => ?_)
                    clear hK K
                    try simp only [List.getElem_toArray, List.getElem_cons_succ, List.getElem_cons_zero, Act.put, List.setIfInBounds_toArray, List.set_cons_zero, List.set_cons_succ]
                    refine wpAnyH_ready (rs := [3]) (by kernel_rfl) (by simp) ?_
                    refine AllReadyH.cons (o := _) rfl (fun K hK => ?_) (AllReadyH.nil)
                    · go_simp
                      (go_at_call 12; refine (feed_any _ room 1 A m c zs 0 [ch] (HF.out.o.rd.below HAL.out) HSZ.out (by simp)).mono ?_; unfold FeedPost; rw [HZ.out, HOP.out]; rintro e w2 ⟨A2, n2, c2, z2, L2, l2, d2, rfl, hf, hO, hL, hb⟩; have hx := keep hb HZX.out; have HFIN := Lib.hid (show fls z2 = [xO (n + 1) 0 t base' data' false] ∧ (st3 w2 wr.heap.size (.int .i64 room) (.int .i64 1) (.slice A2 n2 c2)).heap[wr.heap.size]? = some (.cells #[.int .i64 room, .int .i64 1, .slice A2 n2 c2] 26 (0, 0)) ∧ OwF (st3 w2 wr.heap.size (.int .i64 room) (.int .i64 1) (.slice A2 n2 c2)) wr.heap.size (.slice A2 n2 c2) z2 ∧ Below wr.heap.size wr (st3 w2 wr.heap.size (.int .i64 room) (.int .i64 1) (.slice A2 n2 c2)) from ⟨hf, st3_box hx, st3_own (hO.lower HAL.out.size) hx, st3_below (HAL.out.trans (hb.mono HAL.out.size)) (Nat.le_refl _)⟩); clear y0 y1 y2 ya0 ya1 ya2 hO hf hb hL; have z0 : w2.cell? ⟨wr.heap.size, 0, none⟩ = some (.int .i64 0) := box_at hx 0 _ rfl; have z1 : w2.cell? ⟨wr.heap.size, 1, none⟩ = some (.int .i64 0) := box_at hx 1 _ rfl; have z2' : w2.cell? ⟨wr.heap.size, 2, none⟩ = some (.slice none 0 0) := box_at hx 2 _ rfl; have zf := box_free hx; clear hx)
                      go_wp2_with fail
                      refine hK.out _ _ trivial (fun hHeld => ?_)
                      clear hK K
                      try simp only [List.getElem_toArray, List.getElem_cons_succ, List.getElem_cons_zero, Act.put, List.setIfInBounds_toArray, List.set_cons_zero, List.set_cons_succ]
                      refine wpAnyH_take (i := 4) (oi := _) (v := ?v4o11) rfl (by kernel_rfl) (by kernel_rfl) (by kernel_rfl) (fun _ _ _ h => h) (Or.inl ⟨by kernel_rfl, ?y4o11⟩) (by assumption) ?r4o11
                      case y4o11 => (intro w hSw; (try dsimp only at hSw); go_simp; try (with_reducible rfl))
                      case r4o11 =>
                        simp only [List.getElem_toArray, List.getElem_cons_succ, List.getElem_cons_zero, Act.put, List.setIfInBounds_toArray, List.set_cons_zero, List.set_cons_succ]
                        refine wpAnyH_take (i := 5) (oi := _) (v := ?v5o12) rfl (by kernel_rfl) (by kernel_rfl) (by kernel_rfl) (fun _ _ _ h => h) (Or.inl ⟨by kernel_rfl, ?y5o12⟩) (by assumption) ?r5o12
                        case y5o12 => (intro w hSw; (try dsimp only at hSw); go_simp; try (with_reducible rfl))
                        case r5o12 =>
                          simp only [List.getElem_toArray, List.getElem_cons_succ, List.getElem_cons_zero, Act.put, List.setIfInBounds_toArray, List.set_cons_zero, List.set_cons_succ]
                          refine wpAnyH_take (i := 6) (oi := _) (v := ?v6o13) rfl (by kernel_rfl) (by kernel_rfl) (by kernel_rfl) (fun _ _ _ h => h) (Or.inl ⟨by kernel_rfl, ?y6o13⟩) (by assumption) ?r6o13
                          case y6o13 => (intro w hSw; (try dsimp only at hSw); go_simp; try (with_reducible rfl))
                          case r6o13 =>
                            simp only [List.getElem_toArray, List.getElem_cons_succ, List.getElem_cons_zero, Act.put, List.setIfInBounds_toArray, List.set_cons_zero, List.set_cons_succ]
                            refine wpAnyH_take (i := 7) (oi := _) (v := ?v7o14) rfl (by kernel_rfl) (by kernel_rfl) (by kernel_rfl) (fun _ _ _ h => h) (Or.inl ⟨by kernel_rfl, ?y7o14⟩) (by assumption) ?r7o14
                            case y7o14 => (intro w hSw; (try dsimp only at hSw); go_simp; try (with_reducible rfl))
                            case r7o14 =>
                              simp only [List.getElem_toArray, List.getElem_cons_succ, List.getElem_cons_zero, Act.put, List.setIfInBounds_toArray, List.set_cons_zero, List.set_cons_succ]
                              refine wpAnyH_take (i := 8) (oi := _) (v := ?v8o15) rfl (by kernel_rfl) (by kernel_rfl) (by kernel_rfl) (fun _ _ _ h => h) (Or.inl ⟨by kernel_rfl, ?y8o15⟩) (by assumption) ?r8o15
                              case y8o15 => (intro w hSw; (try dsimp only at hSw); go_simp; try (with_reducible rfl))
                              case r8o15 =>
                                simp only [List.getElem_toArray, List.getElem_cons_succ, List.getElem_cons_zero, Act.put, List.setIfInBounds_toArray, List.set_cons_zero, List.set_cons_succ]
                                refine wpAnyH_ready (rs := [10]) (by kernel_rfl) (by simp) ?_
                                refine AllReadyH.cons (o := _) rfl (fun K hK => ?_) (AllReadyH.nil)
                                · go_simp
                                  go_wp2_with fail
                                  refine hK.out _ _ trivial (fun hHeld => ?_)
                                  clear hK K
                                  try simp only [List.getElem_toArray, List.getElem_cons_succ, List.getElem_cons_zero, Act.put, List.setIfInBounds_toArray, List.set_cons_zero, List.set_cons_succ]
                                  refine wpAnyH_take (i := 11) (oi := _) (v := ?v11o16) rfl (by kernel_rfl) (by kernel_rfl) (by kernel_rfl) (fun _ _ _ h => h) (Or.inl ⟨by kernel_rfl, ?y11o16⟩) (by assumption) ?r11o16
                                  case y11o16 => (intro w hSw; (try dsimp only at hSw); go_simp; try (with_reducible rfl))
                                  case r11o16 =>
                                    simp only [List.getElem_toArray, List.getElem_cons_succ, List.getElem_cons_zero, Act.put, List.setIfInBounds_toArray, List.set_cons_zero, List.set_cons_succ]
                                    refine wpAnyH_take (i := 12) (oi := _) (v := ?v12o17) rfl (by kernel_rfl) (by kernel_rfl) (by kernel_rfl) (fun _ _ _ h => h) (Or.inl ⟨by kernel_rfl, ?y12o17⟩) (by assumption) ?r12o17
                                    case y12o17 => (intro w hSw; (try dsimp only at hSw); go_simp; try (with_reducible rfl))
                                    case r12o17 =>
                                      simp only [List.getElem_toArray, List.getElem_cons_succ, List.getElem_cons_zero, Act.put, List.setIfInBounds_toArray, List.set_cons_zero, List.set_cons_succ]
                                      refine wpAnyH_take (i := 13) (oi := _) (v := ?v13o18) rfl (by kernel_rfl) (by kernel_rfl) (by kernel_rfl) (fun _ _ _ h => h) (Or.inl ⟨by kernel_rfl, ?y13o18⟩) (by assumption) ?r13o18
                                      case y13o18 => (intro w hSw; (try dsimp only at hSw); go_simp; try (with_reducible rfl))
                                      case r13o18 =>
                                        simp only [List.getElem_toArray, List.getElem_cons_succ, List.getElem_cons_zero, Act.put, List.setIfInBounds_toArray, List.set_cons_zero, List.set_cons_succ]
                                        refine wpAnyH_done (by kernel_rfl) ?_ _
                                        go_wp2_with fail
                                        go_meet
                                        exact ⟨_, A2, n2, c2, z2, L2, l2, d2, rfl, rfl, rfl, rfl, (show Aside _ from HFIN.out)⟩
                · go_simp
                  go_wp2_with fail
                  refine hK.out _ _ trivial (fun hHeld => ?_)
                  clear hK K
                  try simp only [List.getElem_toArray, List.getElem_cons_succ, List.getElem_cons_zero, Act.put, List.setIfInBounds_toArray, List.set_cons_zero, List.set_cons_succ]
                  refine wpAnyH_ready (rs := [0]) (by kernel_rfl) (by simp) ?_
                  refine AllReadyH.cons (o := _) rfl (fun K hK => ?_) (AllReadyH.nil)
                  · go_simp
                    go_wp2_with fail
                    refine hK.out _ _ trivial (fun hHeld => ?_)
                    clear hK K
                    try simp only [List.getElem_toArray, List.getElem_cons_succ, List.getElem_cons_zero, Act.put, List.setIfInBounds_toArray, List.set_cons_zero, List.set_cons_succ]
                    refine wpAnyH_ready (rs := [3]) (by kernel_rfl) (by simp) ?_
                    refine AllReadyH.cons (o := _) rfl (fun K hK => ?_) (AllReadyH.nil)
                    · go_simp
                      (go_at_call 12; refine (feed_any _ room 1 A m c zs 0 [ch] (HF.out.o.rd.below HAL.out) HSZ.out (by simp)).mono ?_; unfold FeedPost; rw [HZ.out, HOP.out]; rintro e w2 ⟨A2, n2, c2, z2, L2, l2, d2, rfl, hf, hO, hL, hb⟩; have hx := keep hb HZX.out; have HFIN := Lib.hid (show fls z2 = [xO (n + 1) 0 t base' data' false] ∧ (st3 w2 wr.heap.size (.int .i64 room) (.int .i64 1) (.slice A2 n2 c2)).heap[wr.heap.size]? = some (.cells #[.int .i64 room, .int .i64 1, .slice A2 n2 c2] 26 (0, 0)) ∧ OwF (st3 w2 wr.heap.size (.int .i64 room) (.int .i64 1) (.slice A2 n2 c2)) wr.heap.size (.slice A2 n2 c2) z2 ∧ Below wr.heap.size wr (st3 w2 wr.heap.size (.int .i64 room) (.int .i64 1) (.slice A2 n2 c2)) from ⟨hf, st3_box hx, st3_own (hO.lower HAL.out.size) hx, st3_below (HAL.out.trans (hb.mono HAL.out.size)) (Nat.le_refl _)⟩); clear y0 y1 y2 ya0 ya1 ya2 hO hf hb hL; have z0 : w2.cell? ⟨wr.heap.size, 0, none⟩ = some (.int .i64 0) := box_at hx 0 _ rfl; have z1 : w2.cell? ⟨wr.heap.size, 1, none⟩ = some (.int .i64 0) := box_at hx 1 _ rfl; have z2' : w2.cell? ⟨wr.heap.size, 2, none⟩ = some (.slice none 0 0) := box_at hx 2 _ rfl; have zf := box_free hx; clear hx)
                      go_wp2_with fail
                      refine hK.out _ _ trivial (fun hHeld => ?_)
                      clear hK K
                      try simp only [List.getElem_toArray, List.getElem_cons_succ, List.getElem_cons_zero, Act.put, List.setIfInBounds_toArray, List.set_cons_zero, List.set_cons_succ]
                      refine wpAnyH_take (i := 4) (oi := _) (v := ?v4o19) rfl (by kernel_rfl) (by kernel_rfl) (by kernel_rfl) (fun _ _ _ h => h) (Or.inl ⟨by kernel_rfl, ?y4o19⟩) (by assumption) ?r4o19
                      case y4o19 => (intro w hSw; (try dsimp only at hSw); go_simp; try (with_reducible rfl))
                      case r4o19 =>
                        simp only [List.getElem_toArray, List.getElem_cons_succ, List.getElem_cons_zero, Act.put, List.setIfInBounds_toArray, List.set_cons_zero, List.set_cons_succ]
                        refine wpAnyH_take (i := 5) (oi := _) (v := ?v5o20) rfl (by kernel_rfl) (by kernel_rfl) (by kernel_rfl) (fun _ _ _ h => h) (Or.inl ⟨by kernel_rfl, ?y5o20⟩) (by assumption) ?r5o20
                        case y5o20 => (intro w hSw; (try dsimp only at hSw); go_simp; try (with_reducible rfl))
                        case r5o20 =>
                          simp only [List.getElem_toArray, List.getElem_cons_succ, List.getElem_cons_zero, Act.put, List.setIfInBounds_toArray, List.set_cons_zero, List.set_cons_succ]
                          refine wpAnyH_take (i := 6) (oi := _) (v := ?v6o21) rfl (by kernel_rfl) (by kernel_rfl) (by kernel_rfl) (fun _ _ _ h => h) (Or.inl ⟨by kernel_rfl, ?y6o21⟩) (by assumption) ?r6o21
                          case y6o21 => (intro w hSw; (try dsimp only at hSw); go_simp; try (with_reducible rfl))
                          case r6o21 =>
                            simp only [List.getElem_toArray, List.getElem_cons_succ, List.getElem_cons_zero, Act.put, List.setIfInBounds_toArray, List.set_cons_zero, List.set_cons_succ]
                            refine wpAnyH_take (i := 7) (oi := _) (v := ?v7o22) rfl (by kernel_rfl) (by kernel_rfl) (by kernel_rfl) (fun _ _ _ h => h) (Or.inl ⟨by kernel_rfl, ?y7o22⟩) (by assumption) ?r7o22
                            case y7o22 => (intro w hSw; (try dsimp only at hSw); go_simp; try (with_reducible rfl))
                            case r7o22 =>
                              simp only [List.getElem_toArray, List.getElem_cons_succ, List.getElem_cons_zero, Act.put, List.setIfInBounds_toArray, List.set_cons_zero, List.set_cons_succ]
                              refine wpAnyH_take (i := 8) (oi := _) (v := ?v8o23) rfl (by kernel_rfl) (by kernel_rfl) (by kernel_rfl) (fun _ _ _ h => h) (Or.inl ⟨by kernel_rfl, ?y8o23⟩) (by assumption) ?r8o23
                              case y8o23 => (intro w hSw; (try dsimp only at hSw); go_simp; try (with_reducible rfl))
                              case r8o23 =>
                                simp only [List.getElem_toArray, List.getElem_cons_succ, List.getElem_cons_zero, Act.put, List.setIfInBounds_toArray, List.set_cons_zero, List.set_cons_succ]
                                refine wpAnyH_ready (rs := [10]) (by kernel_rfl) (by simp) ?_
                                refine AllReadyH.cons (o := _) rfl (fun K hK => ?_) (AllReadyH.nil)
                                · go_simp
                                  go_wp2_with fail
                                  refine hK.out _ _ trivial (fun hHeld => ?_)
                                  clear hK K
                                  try simp only [List.getElem_toArray, List.getElem_cons_succ, List.getElem_cons_zero, Act.put, List.setIfInBounds_toArray, List.set_cons_zero, List.set_cons_succ]
                                  refine wpAnyH_take (i := 11) (oi := _) (v := ?v11o24) rfl (by kernel_rfl) (by kernel_rfl) (by kernel_rfl) (fun _ _ _ h => h) (Or.inl ⟨by kernel_rfl, ?y11o24⟩) (by assumption) ?r11o24
                                  case y11o24 => (intro w hSw; (try dsimp only at hSw); go_simp; try (with_reducible rfl))
                                  case r11o24 =>
                                    simp only [List.getElem_toArray, List.getElem_cons_succ, List.getElem_cons_zero, Act.put, List.setIfInBounds_toArray, List.set_cons_zero, List.set_cons_succ]
                                    refine wpAnyH_take (i := 12) (oi := _) (v := ?v12o25) rfl (by kernel_rfl) (by kernel_rfl) (by kernel_rfl) (fun _ _ _ h => h) (Or.inl ⟨by kernel_rfl, ?y12o25⟩) (by assumption) ?r12o25
                                    case y12o25 => (intro w hSw; (try dsimp only at hSw); go_simp; try (with_reducible rfl))
                                    case r12o25 =>
                                      simp only [List.getElem_toArray, List.getElem_cons_succ, List.getElem_cons_zero, Act.put, List.setIfInBounds_toArray, List.set_cons_zero, List.set_cons_succ]
                                      refine wpAnyH_take (i := 13) (oi := _) (v := ?v13o26) rfl (by kernel_rfl) (by kernel_rfl) (by kernel_rfl) (fun _ _ _ h => h) (Or.inl ⟨by kernel_rfl, ?y13o26⟩) (by assumption) ?r13o26
                                      case y13o26 => (intro w hSw; (try dsimp only at hSw); go_simp; try (with_reducible rfl))
                                      case r13o26 =>
                                        simp only [List.getElem_toArray, List.getElem_cons_succ, List.getElem_cons_zero, Act.put, List.setIfInBounds_toArray, List.set_cons_zero, List.set_cons_succ]
                                        refine wpAnyH_done (by kernel_rfl) ?_ _
                                        go_wp2_with fail
                                        go_meet
                                        exact ⟨_, A2, n2, c2, z2, L2, l2, d2, rfl, rfl, rfl, rfl, (show Aside _ from HFIN.out)⟩
          case rest =>
            obtain ⟨b19, A2, n2, c2, z2, L, l, d, rfl, rfl, rfl, rfl, HQ⟩ := hcut
            obtain ⟨W7, hW7⟩ : ∃ W, W = wc := ⟨wc, rfl⟩
            subst hW7
            have HZ2 := Lib.hid HQ.out.1
            have HX2 := Lib.hid HQ.out.2.1
            have HO2 := Lib.hid HQ.out.2.2.1
            have HB2 := Lib.hid HQ.out.2.2.2
            have hn2 : 1 = n2 := (fls_len HZ2.out).symm.trans HO2.out.rd.len
            subst hn2
            clear HQ y0 y1 y2 ya0 ya1 ya2 hex1
            obtain ⟨S, hz0⟩ := fls_get HZ2.out (k := 0) (x := xO (n + 1) 0 t base' data' false) rfl
            obtain ⟨b, off, hA2, hlob, hF⟩ := HO2.out.at_ hz0
            have k3 : W7.cell? ⟨b, off + 3, none⟩ = some (.int .i64 base') := by
              have := hF.c3
              simp only [Nat.zero_mul, Nat.add_zero] at this
              exact this
            subst hA2
            clear hz0 hlob hF
            have p0 : W7.cell? ⟨b19, 0, none⟩ = some (.int .i64 room) := box_at HX2.out 0 _ rfl
            have p1 : W7.cell? ⟨b19, 1, none⟩ = some (.int .i64 1) := box_at HX2.out 1 _ rfl
            have p2 : W7.cell? ⟨b19, 2, none⟩ = some (.slice (some ⟨b, off, none⟩) 1 c2) := box_at HX2.out 2 _ rfl
            have hbx := keep HB2.out HF.out.x
            have y0 : W7.cell? ⟨b10, 0, none⟩ = some (.int .i64 room) := box_at hbx 0 _ rfl
            have y1 : W7.cell? ⟨b10, 1, none⟩ = some (.int .i64 1) := box_at hbx 1 _ rfl
            have y2 : W7.cell? ⟨b10, 2, none⟩ = some (.slice A m c) := box_at hbx 2 _ rfl
            have yf := box_free hbx
            have HN := Lib.hid (HF.out.next (nx' := 1) HO2.out HB2.out)
            clear hbx
            go_upto_region 19 with fail
            go_cut [18] from 98 to 106 (fun s18 wx => s18 = .bool (decide (0 < base')) ∧ wx = W7)
            case first =>
              by_cases hb0 : 0 < base
              · have hb9 : 0 < base' := by omega
                go_wp2_with fail
                go_meet
                exact ⟨by rw [decide_eq_true hb9], rfl⟩
              · go_wp2_with fail
                go_meet
                exact ⟨rfl, rfl⟩
            case rest =>
              obtain ⟨rfl, hwc⟩ := hcut
              subst wc
              clear k3
              go_upto_region 21 with fail
              change Code.wp _ _ _ _ (st3 W7 b10 (.int .i64 room) (.int .i64 1) (.slice (some ⟨b, off, none⟩) 1 c2))
              clear p0 p1 p2 y0 y1 y2 yf HX2 HO2 HB2
              generalize st3 W7 b10 (.int .i64 room) (.int .i64 1) (.slice (some ⟨b, off, none⟩) 1 c2) = W8 at *
              have hex2 : (⟨rest.toArray⟩ : ByteArray).extract 1 rest.length = ⟨(rest.drop 1).toArray⟩ := ext_drop rest 1 rest.length rfl
              have hdr1 : rest.drop 1 = tl := by rw [← HRE.out]; rfl
              rw [hdr1] at hex2
              have htl : tl.length + 1 = rest.length := by rw [← HRE.out]; simp
              have HTL := Lib.hid htl
              clear hdr1 htl
              go_upto_region 22 with fail
              clear hex2 hl1 hl2
              have HOJ := Lib.hid (show ∀ j, OkO room (n + 1) j t base' data' from fun j => ⟨hro1, by omega, by omega, by omega, by have := HO.out.b; omega, hb2, hb4, by split <;> omega, by omega⟩)
              go_upto_region 23 with fail
              go_loopg [23] (n + 1) (fun gg s23 wr3 => ∃ jj : Nat, jj ≤ n + 1 ∧ n + 1 - jj ≤ gg ∧ s23 = .int .i64 jj ∧ ∃ (A : Option Addr) (m c : Nat) (zs : List FV), Aside (FO w wr3 b10 room 1 (.slice A m c) zs ∧ fls zs = [xO (n + 1) jj t base' data' false]))
              case atStart =>
                refine ⟨0, by omega, by omega, rfl, some ⟨b, off, none⟩, 1, c2, z2, ?_⟩
                show Aside _
                exact ⟨HN.out, HZ2.out⟩
              case round =>
                clear HN HZ2
                obtain ⟨jj, hjj, hgj, rfl, A3, m3, c3, z3, HA⟩ := hrel
                have HF3 := Lib.hid HA.out.1
                have HZ3 := Lib.hid HA.out.2
                clear HA
                by_cases hlj : jj ≤ n
                · have hljz : (jj : Int) ≤ (n : Int) := by omega
                  have y0 : wr.cell? ⟨b10, 0, none⟩ = some (.int .i64 room) := box_at HF3.out.x 0 _ rfl
                  have y1 : wr.cell? ⟨b10, 1, none⟩ = some (.int .i64 1) := box_at HF3.out.x 1 _ rfl
                  have y2 : wr.cell? ⟨b10, 2, none⟩ = some (.slice A3 m3 c3) := box_at HF3.out.x 2 _ rfl
                  obtain ⟨sx, la, hop3⟩ := takeI (HOJ.out jj) (show jj < n + 1 by omega) (by omega)
                  have HOP3 := Lib.hid hop3
                  have HSM3 := Lib.hid (show SmF (fls z3) by rw [HZ3.out]; exact sm_xO (by omega))
                  clear hop3
                  go_upto_region 26 with (go_at_call 11; refine (take_any wr room 1 A3 m3 c3 z3 (jj : Int) 1 HF3.out.o.rd HSM3.out).mono ?_; unfold OpPost; rw [HZ3.out, HOP3.out]; rintro e w2 ⟨A4, n4, c4, z4, rfl, hf, hO, hb⟩; have HO4 := Lib.hid hO; have HB4 := Lib.hid hb; have HZ4 := Lib.hid hf; clear hO hb hf y0 y1 y2)
                  have hal := (Below.refl w2.heap.size w2).alloc (Nat.le_refl _) (.cells #[.int .i64 room, .int .i64 1, .slice A4 n4 c4] 26)
                  have HX4 := Lib.hid (heap_alloc_new w2 (.cells #[.int .i64 room, .int .i64 1, .slice A4 n4 c4] 26))
                  have HO5 := Lib.hid (HO4.out.below hal)
                  have HB5 := Lib.hid (HB4.out.trans (hal.mono HB4.out.size))
                  clear hal HO4 HB4
                  generalize w2.alloc (.cells #[.int .i64 room, .int .i64 1, .slice A4 n4 c4] 26) = W5 at *
                  generalize w2.heap.size = b24 at *
                  have hbx := keep HB5.out HF3.out.x
                  have y0 : W5.cell? ⟨b10, 0, none⟩ = some (.int .i64 room) := box_at hbx 0 _ rfl
                  have y1 : W5.cell? ⟨b10, 1, none⟩ = some (.int .i64 1) := box_at hbx 1 _ rfl
                  have y2 : W5.cell? ⟨b10, 2, none⟩ = some (.slice A3 m3 c3) := box_at hbx 2 _ rfl
                  have yf := box_free hbx
                  have p0 : W5.cell? ⟨b24, 0, none⟩ = some (.int .i64 room) := box_at HX4.out 0 _ rfl
                  have p1 : W5.cell? ⟨b24, 1, none⟩ = some (.int .i64 1) := box_at HX4.out 1 _ rfl
                  have p2 : W5.cell? ⟨b24, 2, none⟩ = some (.slice A4 n4 c4) := box_at HX4.out 2 _ rfl
                  have HN5 := Lib.hid (HF3.out.next (nx' := 1) HO5.out HB5.out)
                  clear hbx
                  go_wp2_with fail
                  go_roundg (n + 1 - (jj + 1))
                  case measure => omega
                  case rel =>
                    refine ⟨jj + 1, by omega, by omega, by go_num, A4, n4, c4, z4, ?_⟩
                    show Aside _
                    exact ⟨HN5.out, HZ4.out⟩
                · have hljz : ¬ (jj : Int) ≤ (n : Int) := by omega
                  have hj1 : jj = n + 1 := by omega
                  have hz9 : fls z3 = [xO (n + 1) 0 (t + 1) base' data' false] := by
                    rw [HZ3.out, hj1]
                    unfold xO
                    rw [wsO_full]
                  have HZ9 := Lib.hid hz9
                  have HO9 := Lib.hid (show OkO room (n + 1) 0 (t + 1) base' data' from ⟨hro1, by omega, by omega, by omega, by have := HO.out.b; omega, hb2, by omega, by simp; omega, by omega⟩)
                  have htl2 := HTL.out
                  clear hj1 hz9
                  go_wp2_with fail
                  go_roundg tl.length
                  case measure => omega
                  case rel =>
                    refine ⟨tl, t + 1, base', data', Nat.le_refl _, rfl, rfl, A3, m3, c3, z3, ?_⟩
                    show Aside _
                    exact ⟨HF3.out, HZ9.out, HO9.out, hb1.symm, by omega⟩
        | nil =>
          have hltz : ¬ (0 : Int) < (([] : List UInt8).length : Int) := by simp
          have HSE := Lib.hid (show SmF (fls zs) by rw [HZ.out]; exact sm_xO (by omega))
          cases done with
          | true =>
            obtain ⟨fs9, hj9⟩ := last_yes (done := true) HO.out (.inl rfl)
            have HJ9 := Lib.hid hj9
            have HE9 := Lib.hid (endO HO.out)
            clear hj9
            go_upto_region 31 with (go_at_call 18; refine (endf_any wr room 1 A m c zs 0 HF.out.o.rd HSE.out).mono ?_; unfold OpPost; rw [HZ.out, HE9.out]; rintro e w2 ⟨A2, n2, c2, z2, rfl, hf, hO, hb⟩; have HN := Lib.hid (HF.out.next (nx' := 1) hO hb); have HZ2 := Lib.hid hf; have hbx := keep hb HF.out.x; clear y0 y1 y2 hO hf hb; have y0 : w2.cell? ⟨b10, 0, none⟩ = some (.int .i64 room) := box_at hbx 0 _ rfl; have y1 : w2.cell? ⟨b10, 1, none⟩ = some (.int .i64 1) := box_at hbx 1 _ rfl; have y2 : w2.cell? ⟨b10, 2, none⟩ = some (.slice A m c) := box_at hbx 2 _ rfl; have yf := box_free hbx; clear hbx)
            change Code.wp _ _ _ _ (st3 w2 b10 (.int .i64 room) (.int .i64 1) (.slice A2 n2 c2))
            generalize st3 w2 b10 (.int .i64 room) (.int .i64 1) (.slice A2 n2 c2) = W8 at *
            clear y0 y1 y2 yf
            have y0 : W8.cell? ⟨b10, 0, none⟩ = some (.int .i64 room) := box_at HN.out.x 0 _ rfl
            have y1 : W8.cell? ⟨b10, 1, none⟩ = some (.int .i64 1) := box_at HN.out.x 1 _ rfl
            have y2 : W8.cell? ⟨b10, 2, none⟩ = some (.slice A2 n2 c2) := box_at HN.out.x 2 _ rfl
            have HS8 := Lib.hid (show SmF (fls z2) by rw [HZ2.out]; exact sm_xO (by omega))
            go_wp2_with (go_at_call 10; refine (join_any W8 room 1 A2 n2 c2 z2 [107] 99 true HN.out.o.rd HS8.out (by decide)).mono ?_; unfold JoinPost OpPost; rw [HZ2.out, HJ9.out]; rintro e w5 ⟨A5, n5, c5, z5, rfl, hf, hO, hb⟩; have HB5 := Lib.hid (HN.out.bw.trans (hb.mono HN.out.bw.size)); clear hf hO hb)
            go_ret
            exact ⟨by first | (simp; done) | (simp; omega), HB5.out.alloc HB5.out.size _⟩
          | false =>
            by_cases hb0 : 0 < base
            · obtain ⟨fs9, hj9⟩ := last_yes (done := false) HO.out (.inr (.inl hb0))
              have HJ9 := Lib.hid hj9
              clear hj9
              go_wp2_with (go_at_call 10; refine (join_any wr room 1 A m c zs [107] 99 true HF.out.o.rd HSE.out (by decide)).mono ?_; unfold JoinPost OpPost; rw [HZ.out, HJ9.out]; rintro e w5 ⟨A5, n5, c5, z5, rfl, hf, hO, hb⟩; have HB5 := Lib.hid (HF.out.bw.trans (hb.mono HF.out.bw.size)); clear hf hO hb)
              go_ret
              exact ⟨by first | (simp; done) | (simp; omega), HB5.out.alloc HB5.out.size _⟩
            · by_cases hn7 : n = 7
              · subst hn7
                obtain ⟨fs9, hj9⟩ := last_yes (done := false) HO.out (.inr (.inr rfl))
                have HJ9 := Lib.hid hj9
                clear hj9
                go_wp2_with (go_at_call 10; refine (join_any wr room 1 A m c zs [107] 99 true HF.out.o.rd HSE.out (by decide)).mono ?_; unfold JoinPost OpPost; rw [HZ.out, HJ9.out]; rintro e w5 ⟨A5, n5, c5, z5, rfl, hf, hO, hb⟩; have HB5 := Lib.hid (HF.out.bw.trans (hb.mono HF.out.bw.size)); clear hf hO hb)
                go_ret
                exact ⟨by first | (simp; done) | (simp; omega), HB5.out.alloc HB5.out.size _⟩
              · have hbz : base = 0 := by have := HO.out.b; omega
                obtain ⟨fs9, hj9⟩ := last_no HO.out hbz (by omega)
                have HJ9 := Lib.hid hj9
                have hw8 : IntKind.i64.wrap ((n : Int) + 1) = (n : Int) + 1 := by rw [IntKind.wrap_i64]; omega
                have hn8 : (((n : Int) + 1) == 8) = false := by rw [beq_eq_false_iff_ne]; omega
                clear hj9 hbz
                go_wp2_with (go_at_call 10; refine (join_any wr room 1 A m c zs [107] 99 true HF.out.o.rd HSE.out (by decide)).mono ?_; unfold JoinPost OpPost; rw [HZ.out, HJ9.out]; rintro e w5 ⟨A5, n5, c5, z5, rfl, hf, hO, hb⟩; have HB5 := Lib.hid (HF.out.bw.trans (hb.mono HF.out.bw.size)); clear hf hO hb)
                go_ret
                exact ⟨by first | (simp; done) | (simp; omega), HB5.out.alloc HB5.out.size _⟩
end Go.Proofs.Ytipjhokhflokmaa
