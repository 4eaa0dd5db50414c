/- Contract of lockagelaw01.RingOrder. -/
import Derived.Test.YtkajmoiehabnmaaF
import Derived.Test.YtkajmoiehabnmaaG
import Derived.Deep.CutRange
import Derived.Deep.CutBlock
import Derived.Deep.RegionWith
set_option linter.unusedVariables false
set_option linter.unusedSimpArgs false
namespace Go.Proofs.Ytkajmoiehabnmaa
open Go.RowKit Go.Lib
open Go.Proofs.YtkajmoiehabnmaaW.PrintWords

/-- the loop's state -/
structure Ro (w W : World) (bx N : Nat) (s : List UInt8) (A : Option Addr) (c f m : Nat) (buf : List UInt8) (at' : Nat) (out : List UInt8) : Prop where
  b : Bx w W bx (.slice A N c) f m buf
  lo : w.heap.size ≤ bx
  l : buf.length = N
  hf : f < N
  hm : m ≤ N
  a : at' ≤ s.length
  d : out ++ dataOf buf f m = s.take at'
theorem Ro.below {w W W1 : World} {bx N c f m at' : Nat} {s buf out : List UInt8} {A : Option Addr} (h : Ro w W bx N s A c f m buf at' out) (hb : Below W.heap.size W W1) : Ro w W1 bx N s A c f m buf at' out := ⟨h.b.below hb, h.lo, h.l, h.hf, h.hm, h.a, h.d⟩
/-- r = q, of a call's answer -/
theorem Ro.box {w W W1 : World} {bx N c f m at' c' f' m' at2 : Nat} {s buf out buf' out' : List UInt8} {A A' : Option Addr} (h : Ro w W bx N s A c f m buf at' out) (hb : Below W.heap.size W W1) (hO : Ow 5 W1 W.heap.size (.slice A' N c') (byteCells buf'))
    (hl : buf'.length = N) (hf : f' < N) (hm : m' ≤ N) (ha : at2 ≤ s.length) (hd : out' ++ dataOf buf' f' m' = s.take at2) :
    Ro w (((W1.setCell ⟨bx, 0, none⟩ (.slice A' N c')).setCell ⟨bx, 1, none⟩ (.int .i64 f')).setCell ⟨bx, 2, none⟩ (.int .i64 m')) bx N s A' c' f' m' buf' at2 out' := by
  have h1 := h.b.below hb
  have lo := h.lo
  have ne := BoxR.ne h1.x hO
  exact ⟨⟨((h1.x.set0 _).set1 _).set2 _, ((hO.rd.far ne _).far ne _).far ne _, ((h1.bw.setCell lo _).setCell lo _).setCell lo _⟩, lo, hl, hf, hm, ha, hd⟩
theorem Ro.len {w W : World} {bx N c f m at' : Nat} {s buf out : List UInt8} {A : Option Addr} (h : Ro w W bx N s A c f m buf at' out) : out.length + m = at' := by
  have h1 := congrArg List.length h.d
  have h2 := h.l
  have h3 := h.hf
  have h4 := h.hm
  have h5 := h.a
  rw [List.length_append, dataOf_length (by omega) (by omega), List.length_take] at h1
  omega
theorem bytes_app (a b : List UInt8) : (⟨a.toArray⟩ : ByteArray) ++ ⟨b.toArray⟩ = ⟨(a ++ b).toArray⟩ := by
  apply ByteArray.ext
  simp [ByteArray.append, ByteArray.data_append]
/-- what a call has told: a ring in memory of its own -/
structure Told (W Wx : World) (b13 : Nat) (v : Value) (f m : Nat) (buf : List UInt8) : Prop where
  x : BoxR Wx b13 v f m
  o : Ow 5 Wx W.heap.size v (byteCells buf)
  bw : Below W.heap.size W Wx

theorem Told.new {W W2 : World} {v : Value} {f m : Nat} {buf : List UInt8} (hO : Ow 5 W2 W.heap.size v (byteCells buf)) (hb : Below W.heap.size W.drew W2) : Told W (W2.alloc (.cells #[v, .int .i64 f, .int .i64 m] 25)) W2.heap.size v f m buf := by
  have hal : Below W2.heap.size W2 (W2.alloc (.cells #[v, .int .i64 f, .int .i64 m] 25)) := (Below.refl _ _).alloc (Nat.le_refl _) _
  have h2 : Below W.heap.size W W2 := (below_drew (Below.refl _ _)).trans hb
  exact ⟨heap_alloc_new _ _, hO.below hal, h2.trans (hal.mono h2.size)⟩
theorem Told.old {W W2 : World} {v : Value} {f m : Nat} {buf : List UInt8} (hx : W2.heap[W.heap.size]? = some (.cells #[.slice none 0 0, .int .i64 0, .int .i64 0] 25 (0, 0))) (hO : Ow 5 W2 (W.alloc (.cells #[.slice none 0 0, .int .i64 0, .int .i64 0] 25)).drew.heap.size v (byteCells buf)) (hb : Below (W.alloc (.cells #[.slice none 0 0, .int .i64 0, .int .i64 0] 25)).drew.heap.size (W.alloc (.cells #[.slice none 0 0, .int .i64 0, .int .i64 0] 25)).drew W2) :
    Told W (((W2.setCell ⟨W.heap.size, 0, none⟩ v).setCell ⟨W.heap.size, 1, none⟩ (.int .i64 f)).setCell ⟨W.heap.size, 2, none⟩ (.int .i64 m)) W.heap.size v f m buf := by
  have hB : BoxR W2 W.heap.size (.slice none 0 0) 0 0 := hx
  have hO' : Ow 5 W2 W.heap.size v (byteCells buf) := hO.lower (by simp)
  have ne := hB.ne hO'
  have h1 : Below W.heap.size W (W.alloc (.cells #[.slice none 0 0, .int .i64 0, .int .i64 0] 25)).drew := below_drew ((Below.refl _ _).alloc (Nat.le_refl _) _)
  have h2 := h1.trans (hb.mono h1.size)
  exact ⟨((hB.set0 v).set1 _).set2 _, ((hO'.far ne _).far ne _).far ne _, ((h2.setCell (by simp) _).setCell (by simp) _).setCell (by simp) _⟩

set_option maxRecDepth 4000 in
set_option maxHeartbeats 8000000 in
theorem ringOrder_any (w : World) (mx : Int) (hm0 : w.cell? ⟨0, 0, none⟩ = some (.int .i64 mx)) (room : Nat) (Al : Option Addr) (nl cl : Nat) (l : List Nat) (s : List UInt8) (hro : room < 256) (hl : Rd w (.slice Al nl cl) (u8s l)) (h8 : ∀ x ∈ l, x < 256) (hs : s.length ≤ 140737488355328) :
    Calls Try.prog 3 #[.int .u8 room, .slice Al nl cl, .string ⟨s.toArray⟩] w fun e w' => e = .returned (.bool true) ∧ Below w.heap.size w w' := by
  have ll := hl.len
  rw [u8s_len] at ll
  have hlm : l.length ≤ 9223372036854775807 := by obtain ⟨_, _, _, _, hm, _⟩ := hl; rwa [u8s_len] at hm
  have HL := Lib.hid hl
  clear hl
  obtain ⟨r40, hr40⟩ : ∃ r, room % 40 = r := ⟨_, rfl⟩
  obtain ⟨N, hN⟩ : ∃ N, 1 + r40 = N := ⟨_, rfl⟩
  have t40 : (room : Int).tmod 40 = (r40 : Int) := by rw [Int.tmod_eq_emod_of_nonneg (by omega)]; omega
  have e40 : (room : Int) % 40 = (r40 : Int) := by omega
  have wro : IntKind.i64.wrap (room : Int) = (room : Int) := by rw [IntKind.wrap_i64]; omega
  have wr4 : IntKind.i64.wrap (r40 : Int) = (r40 : Int) := by rw [IntKind.wrap_i64]; omega
  have wr5 : IntKind.i64.wrap (1 + (r40 : Int)) = (N : Int) := by rw [IntKind.wrap_i64]; omega
  have hN0 : 0 < N := by omega
  have hN4 : N ≤ 40 := by omega
  have hNi : 1 + (r40 : Int) = (N : Int) := by omega
  clear hr40 hN
  go_enter Try.func3, Try.ntmps3
  go_upto_region 4 with (go_at_call 4; refine (awake_any _ mx hm0).mono ?_; rintro e w0 ⟨rfl, hB0⟩)
  go_upto_region 5 with (go_at_call 5; refine (new_any _ N hN0 (by omega)).mono ?_; rintro e w1 ⟨A, c, rfl, hO, hb⟩; have HX := Lib.hid (Bx.new (w := w) (f := 0) (m := 0) hB0 hO hb); have HLO := Lib.hid (Nat.le_trans hB0.size hb.size); clear hO hb)
  generalize hW : (w1.alloc _) = W1 at *
  have hlo : w.heap.size ≤ w1.heap.size := HLO.out
  generalize w1.heap.size = b8 at *
  clear hW HLO
  have HM0 := Lib.hid (show Ro w W1 b8 N s A c 0 0 (List.replicate N 0) 0 [] from ⟨HX.out, hlo, by simp, by omega, by omega, Nat.zero_le _, by simp [dataOf]⟩)
  clear HX
  go_wp2_with fail
  go_loopg [9, 10, 11, 12] (min nl 40) (fun gg s9 s10 s11 s12 wr => ∃ kk at' : Nat, ∃ out : List UInt8, kk ≤ min nl 40 ∧ min nl 40 - kk ≤ gg ∧ s9 = .string ⟨(s.take at').toArray⟩ ∧ s10 = .string ⟨out.toArray⟩ ∧ s11 = .int .i64 at' ∧ s12 = .int .i64 kk ∧ ∃ A c f m buf, Aside (Ro w wr b8 N s A c f m buf at' out))
  case atStart =>
    refine ⟨0, 0, [], by omega, by omega, rfl, rfl, rfl, rfl, A, c, 0, 0, List.replicate N 0, ?_⟩
    show Aside _
    exact HM0.out
  case round =>
    clear HM0
    obtain ⟨kk, at', out, hkk, hg, rfl, rfl, rfl, rfl, A, c, f, m, buf, HA⟩ := hrel
    have HM := Lib.hid HA.out
    clear HA
    have z0 := box_at HM.out.b.x 0 _ rfl
    have z1 := box_at HM.out.b.x 1 _ rfl
    have z2 := box_at HM.out.b.x 2 _ rfl
    have zf := box_free HM.out.b.x
    by_cases hlt : kk < min nl 40
    · have hlt1 : (kk : Int) < (nl : Int) := by omega
      have hlt2 : (kk : Int) < 40 := by omega
      obtain ⟨bl, ol, rfl, hbl, hlc⟩ := HL.out.get (by omega)
      have hkl : kk < l.length := by omega
      have hc := (HM.out.b.bw.cell (p := ⟨bl, ol + kk, none⟩) hbl).trans (hlc kk _ (u8s_at hkl))
      have hx8 := h8 l[kk] (List.getElem_mem hkl)
      generalize l[kk] = x at hc hx8
      clear hlc
      obtain ⟨d2, hd2⟩ : ∃ q, x / 2 = q := ⟨_, rfl⟩
      obtain ⟨k, hk⟩ : ∃ q, d2 % 12 = q := ⟨_, rfl⟩
      obtain ⟨q2, hq2⟩ : ∃ q, x % 2 = q := ⟨_, rfl⟩
      have t2 : (x : Int).tdiv 2 = (d2 : Int) := by rw [Int.tdiv_eq_ediv_of_nonneg (by omega)]; omega
      have t12 : (d2 : Int).tmod 12 = (k : Int) := by rw [Int.tmod_eq_emod_of_nonneg (by omega)]; omega
      have e12 : (d2 : Int) % 12 = (k : Int) := by omega
      have q22 : (x : Int) % 2 = (q2 : Int) := by omega
      have wxx : IntKind.i64.wrap (x : Int) = (x : Int) := by rw [IntKind.wrap_i64]; omega
      have wd2 : IntKind.i64.wrap (d2 : Int) = (d2 : Int) := by rw [IntKind.wrap_i64]; omega
      have wk : IntKind.i64.wrap (k : Int) = (k : Int) := by rw [IntKind.wrap_i64]; omega
      have hk12 : k < 12 := by omega
      have hq22 : q2 < 2 := by omega
      have hl1 := HM.out.len
      have hla := HM.out.a
      have hbl2 : bl < wr.heap.size := Nat.lt_of_lt_of_le hbl HM.out.b.bw.size
      have hb82 : b8 < wr.heap.size := (Array.getElem?_eq_some_iff.1 HM.out.b.x).1
      have hbn : ¬ wr.heap.size = b8 := by omega
      have hbn2 : ¬ b8 = wr.heap.size := by omega
      clear hd2 hk hq2
      go_upto_if 41 with fail
      go_cut [9, 10, 11, 13, 14, 15, 16, 17] from 36 to 99 (fun s9 s10 s11 s13 s14 s15 s16 s17 wx => ∃ at' : Nat, ∃ out : List UInt8, s9 = .string ⟨(s.take at').toArray⟩ ∧ s10 = .string ⟨out.toArray⟩ ∧ s11 = .int .i64 at' ∧ ∃ A c f m buf, Aside (Ro w wx b8 N s A c f m buf at' out))
      case first =>
        obtain rfl | rfl : q2 = 0 ∨ q2 = 1 := by omega
        · have q23 : (x : Int) % 2 = (0 : Int) := q22
          clear q22
          obtain ⟨q, hq⟩ : ∃ q, min k m = q := ⟨_, rfl⟩
          obtain ⟨r, hr⟩ : ∃ r, (f + q) % N = r := ⟨_, rfl⟩
          obtain ⟨t, ht⟩ : ∃ t, q + t = m := ⟨m - q, by omega⟩
          have hlaw := pop_law (buf := buf) (r := r) hq (by rw [HM.out.l]; exact hr) ht (by rw [HM.out.l]; exact HM.out.hf) (by rw [HM.out.l]; exact HM.out.hm)
          have HLAW := Lib.hid hlaw
          have HQ := Lib.hid (show min k m = q ∧ (f + q) % N = r ∧ q + t = m from ⟨hq, hr, ht⟩)
          clear hlaw hq hr ht
          go_upto_region 11 with fail
          simp only [q23]
          clear q23
          go_cut [13, 14] from 42 to 53 (fun s13 s14 wx => ∃ b13 A' c', s13 = .pointer (some ⟨b13, 0, none⟩) ∧ s14 = .string ⟨((dataOf buf f m).take k).toArray⟩ ∧ Aside (Told wr wx b13 (.slice A' N c') r t buf))
          case first =>
            go_region_with (first
              | (go_at_call 6; refine (pop_any _ A N c f m k q r t HQ.out.1 HQ.out.2.1 HQ.out.2.2 buf ?_ hN0 (by omega) HM.out.hf HM.out.hm (by omega)).mono ?_; exact HM.out.b.r.below (below_drew (Below.refl _ _)); rintro e w2 ⟨A', c', rfl, hO2, hb2⟩; have HO2 := Lib.hid hO2; have HB2 := Lib.hid hb2; have HZ := Lib.hid True.intro; clear hO2 hb2 z0 z1 z2 zf)
              | (go_at_call 6; refine (pop_any _ A N c f m k q r t HQ.out.1 HQ.out.2.1 HQ.out.2.2 buf ?_ hN0 (by omega) HM.out.hf HM.out.hm (by omega)).mono ?_; exact HM.out.b.r.below (below_drew ((Below.refl _ _).alloc (Nat.le_refl _) (.cells #[.slice none 0 0, .int .i64 0, .int .i64 0] 25))); rintro e w2 ⟨A', c', rfl, hO2, hb2⟩; have HO2 := Lib.hid hO2; have HB2 := Lib.hid hb2; have hZ := keep hb2 (heap_alloc_new wr (.cells #[.slice none 0 0, .int .i64 0, .int .i64 0] 25)); have HZ := Lib.hid hZ; clear hO2 hb2 z0 z1 z2 zf; have z0 : w2.cell? ⟨wr.heap.size, 0, none⟩ = some (.slice none 0 0) := box_at hZ 0 _ rfl; have z1 : w2.cell? ⟨wr.heap.size, 1, none⟩ = some (.int .i64 0) := box_at hZ 1 _ rfl; have z2 : w2.cell? ⟨wr.heap.size, 2, none⟩ = some (.int .i64 0) := box_at hZ 2 _ rfl; have zf := box_free hZ; have hlt2 := (Array.getElem?_eq_some_iff.1 hZ).1; clear hZ))
            all_goals go_wp2_with fail
            all_goals go_meet
            all_goals first
              | (refine ⟨w2.heap.size, A', c', rfl, rfl, ?_⟩
                 show Aside _
                 exact Told.new HO2.out HB2.out)
              | (refine ⟨wr.heap.size, A', c', rfl, rfl, ?_⟩
                 show Aside _
                 exact Told.old HZ.out HO2.out HB2.out)
          case rest =>
            obtain ⟨b13, A', c', rfl, rfl, HA⟩ := hcut
            have HT := Lib.hid HA.out
            clear HA z0 z1 z2 zf hc
            have HX := Lib.hid (keep HT.out.bw HM.out.b.x)
            have y0 : wc.cell? ⟨b8, 0, none⟩ = some (.slice A N c) := box_at HX.out 0 _ rfl
            have y1 : wc.cell? ⟨b8, 1, none⟩ = some (.int .i64 f) := box_at HX.out 1 _ rfl
            have y2 : wc.cell? ⟨b8, 2, none⟩ = some (.int .i64 m) := box_at HX.out 2 _ rfl
            have yf := box_free HX.out
            have z0 : wc.cell? ⟨b13, 0, none⟩ = some (.slice A' N c') := box_at HT.out.x 0 _ rfl
            have z1 : wc.cell? ⟨b13, 1, none⟩ = some (.int .i64 r) := box_at HT.out.x 1 _ rfl
            have z2 : wc.cell? ⟨b13, 2, none⟩ = some (.int .i64 t) := box_at HT.out.x 2 _ rfl
            have HF := Lib.hid (HM.out.box (f' := r) (m' := t) (at2 := at') (out' := out ++ (dataOf buf f m).take k) HT.out.bw HT.out.o HM.out.l (by have := HLAW.out.1; have := HM.out.l; omega) (by have := HLAW.out.2.1; have := HM.out.l; omega) HM.out.a (by rw [List.append_assoc, HLAW.out.2.2]; exact HM.out.d))
            have hcat := bytes_app out ((dataOf buf f m).take k)
            go_wp2_with fail
            go_meet
            refine ⟨at', out ++ (dataOf buf f m).take k, rfl, rfl, rfl, A', c', r, t, buf, ?_⟩
            show Aside _
            exact HF.out
        · have q23 : (x : Int) % 2 = (1 : Int) := q22
          clear q22
          simp only [q23]
          clear q23
          obtain ⟨en, hen⟩ : ∃ q, min s.length (at' + k) = q := ⟨_, rfl⟩
          obtain ⟨ss, hss⟩ : ∃ ss, (s.drop at').take (en - at') = ss := ⟨_, rfl⟩
          have hsl : ss.length = en - at' := by rw [← hss, List.length_take, List.length_drop]; omega
          obtain ⟨q, hq⟩ : ∃ q, min ss.length (N - m) = q := ⟨_, rfl⟩
          obtain ⟨a, ha⟩ : ∃ a, (f + m) % N = a := ⟨_, rfl⟩
          obtain ⟨t, ht⟩ : ∃ t, m + q = t := ⟨_, rfl⟩
          obtain ⟨k1, hk1⟩ : ∃ k1, min q (N - a) = k1 := ⟨_, rfl⟩
          have hlaw := push_law (buf := buf) (s := ss) (f := f) (m := m) (q := q) (a := a) (t := t) (k1 := k1) (by rw [HM.out.l]; exact hq) (by rw [HM.out.l]; exact ha) ht (by rw [HM.out.l]; exact hk1) (by rw [HM.out.l]; exact HM.out.hf) (by rw [HM.out.l]; exact HM.out.hm)
          obtain ⟨buf', hbuf'⟩ : ∃ buf', put (put buf a ((ss.take q).take k1)) 0 ((ss.take q).drop k1) = buf' := ⟨_, rfl⟩
          rw [hbuf'] at hlaw
          have HLAW := Lib.hid hlaw
          have HQ := Lib.hid (show min ss.length (N - m) = q ∧ (f + m) % N = a ∧ m + q = t ∧ min q (N - a) = k1 from ⟨hq, ha, ht, hk1⟩)
          have HBUF := Lib.hid hbuf'
          have hqe : q ≤ en - at' := by omega
          have hea : at' ≤ en := by omega
          have hes : en ≤ s.length := by omega
          have hx1 : (⟨s.toArray⟩ : ByteArray).extract at' en = ⟨ss.toArray⟩ := by rw [ext_bytes, hss]
          have hx2 : (⟨s.toArray⟩ : ByteArray).extract at' (at' + q) = ⟨((s.drop at').take q).toArray⟩ := by rw [ext_bytes, Nat.add_sub_cancel_left]
          have hsz : (⟨s.toArray⟩ : ByteArray).size = s.length := by simp [ByteArray.size]
          have v1' : IntKind.i64.wrap ((at' : Int) + (k : Int)) = (at' : Int) + (k : Int) := by rw [IntKind.wrap_i64]; omega
          have v2' : min (s.length : Int) ((at' : Int) + (k : Int)) = (en : Int) := by omega
          have v3' : IntKind.i64.wrap ((en : Int) - (at' : Int)) = (en : Int) - (at' : Int) := by rw [IntKind.wrap_i64]; omega
          have v4' : IntKind.i64.wrap ((at' : Int) + (q : Int)) = (at' : Int) + (q : Int) := by rw [IntKind.wrap_i64]; omega
          have i1 : (0 : Int) ≤ (at' : Int) := by omega
          have i2 : (at' : Int) ≤ (en : Int) := by omega
          have i3 : (en : Int) ≤ (s.length : Int) := by omega
          have i4 : ¬ (q : Int) < 0 := by omega
          have i5 : ¬ (en : Int) - (at' : Int) < (q : Int) := by omega
          have i6 : (at' : Int) ≤ (at' : Int) + (q : Int) := by omega
          have i7 : (at' : Int) + (q : Int) ≤ (s.length : Int) := by omega
          have hsl' : ss.length ≤ 1000000000000 := by omega
          have hcat : (⟨(s.take at').toArray⟩ : ByteArray) ++ ⟨((s.drop at').take q).toArray⟩ = ⟨(s.take (at' + q)).toArray⟩ := by rw [bytes_app, List.take_add]
          have hdd : out ++ (dataOf buf f m ++ ss.take q) = s.take (at' + q) := by
            rw [← List.append_assoc, HM.out.d, ← hss, List.take_take, Nat.min_eq_left (by omega), List.take_add]
          have HDD := Lib.hid hdd
          clear hen hss hq ha ht hk1 hbuf' hlaw hdd
          go_upto_region 15 with fail
          go_cut [16, 17] from 70 to 78 (fun s16 s17 wx => ∃ b13 A' c', s16 = .pointer (some ⟨b13, 0, none⟩) ∧ s17 = .int .i64 q ∧ Aside (Told wr wx b13 (.slice A' N c') f t buf'))
          case first =>
            have hp : ∀ W, Rd W (.slice A N c) (byteCells buf) → Calls Try.prog 7 #[.agg #[.slice A N c, .int .i64 f, .int .i64 m], .string ⟨ss.toArray⟩] W (RingT W (.int .i64 q) f t N buf') := by
              intro W hW
              rw [← HBUF.out]
              exact push_any W A N c f m q a t k1 ss hsl' HQ.out.1 HQ.out.2.1 HQ.out.2.2.1 HQ.out.2.2.2 buf hW hN0 (by omega) HM.out.hf HM.out.hm
            have HP := Lib.hid hp
            clear hp
            go_region_with (first
              | (go_at_call 7; refine (HP.out _ ?_).mono ?_; exact HM.out.b.r.below (below_drew (Below.refl _ _)); rintro e w2 ⟨A', c', rfl, hO2, hb2⟩; have HO2 := Lib.hid hO2; have HB2 := Lib.hid hb2; have HZ := Lib.hid True.intro; clear hO2 hb2 z0 z1 z2 zf)
              | (go_at_call 7; refine (HP.out _ ?_).mono ?_; exact HM.out.b.r.below (below_drew ((Below.refl _ _).alloc (Nat.le_refl _) (.cells #[.slice none 0 0, .int .i64 0, .int .i64 0] 25))); rintro e w2 ⟨A', c', rfl, hO2, hb2⟩; have HO2 := Lib.hid hO2; have HB2 := Lib.hid hb2; have hZ := keep hb2 (heap_alloc_new wr (.cells #[.slice none 0 0, .int .i64 0, .int .i64 0] 25)); have HZ := Lib.hid hZ; clear hO2 hb2 z0 z1 z2 zf; have z0 : w2.cell? ⟨wr.heap.size, 0, none⟩ = some (.slice none 0 0) := box_at hZ 0 _ rfl; have z1 : w2.cell? ⟨wr.heap.size, 1, none⟩ = some (.int .i64 0) := box_at hZ 1 _ rfl; have z2 : w2.cell? ⟨wr.heap.size, 2, none⟩ = some (.int .i64 0) := box_at hZ 2 _ rfl; have zf := box_free hZ; have hlt2 := (Array.getElem?_eq_some_iff.1 hZ).1; clear hZ))
            all_goals go_wp2_with fail
            all_goals go_meet
            all_goals first
              | (refine ⟨w2.heap.size, A', c', rfl, rfl, ?_⟩
                 show Aside _
                 exact Told.new HO2.out HB2.out)
              | (refine ⟨wr.heap.size, A', c', rfl, rfl, ?_⟩
                 show Aside _
                 exact Told.old HZ.out HO2.out HB2.out)
          case rest =>
            obtain ⟨b13, A', c', rfl, rfl, HA⟩ := hcut
            have HT := Lib.hid HA.out
            clear HA z0 z1 z2 zf hc
            have HX := Lib.hid (keep HT.out.bw HM.out.b.x)
            have y0 : wc.cell? ⟨b8, 0, none⟩ = some (.slice A N c) := box_at HX.out 0 _ rfl
            have y1 : wc.cell? ⟨b8, 1, none⟩ = some (.int .i64 f) := box_at HX.out 1 _ rfl
            have y2 : wc.cell? ⟨b8, 2, none⟩ = some (.int .i64 m) := box_at HX.out 2 _ rfl
            have yf := box_free HX.out
            have z0 : wc.cell? ⟨b13, 0, none⟩ = some (.slice A' N c') := box_at HT.out.x 0 _ rfl
            have z1 : wc.cell? ⟨b13, 1, none⟩ = some (.int .i64 f) := box_at HT.out.x 1 _ rfl
            have z2 : wc.cell? ⟨b13, 2, none⟩ = some (.int .i64 t) := box_at HT.out.x 2 _ rfl
            have HF := Lib.hid (HM.out.box (f' := f) (m' := t) (at2 := at' + q) (out' := out) HT.out.bw HT.out.o (HLAW.out.1.trans HM.out.l) HM.out.hf (by have := HLAW.out.2.1; have := HM.out.l; omega) (by omega) (by rw [HLAW.out.2.2]; exact HDD.out))
            go_wp2_with fail
            go_meet
            refine ⟨at' + q, out, rfl, rfl, by simp, A', c', f, t, buf', ?_⟩
            show Aside _
            exact HF.out
      case rest =>
        obtain ⟨at', out, rfl, rfl, rfl, A, c, f, m, buf, HA⟩ := hcut
        have HM := Lib.hid HA.out
        clear HA z0 z1 z2 zf hc hl1 hla
        have z0 := box_at HM.out.b.x 0 _ rfl
        have z1 := box_at HM.out.b.x 1 _ rfl
        have z2 := box_at HM.out.b.x 2 _ rfl
        have hl1 := HM.out.len
        have hla := HM.out.a
        have hdl := dataOf_length (buf := buf) (f := f) (m := m) (by rw [HM.out.l]; exact HM.out.hf) (by rw [HM.out.l]; exact HM.out.hm)
        have hcat := bytes_app out (dataOf buf f m)
        rw [HM.out.d] at hcat
        go_wp2_with (first
          | (go_at_call 8; refine (right_yes _ A N c f m hN0 (by omega) HM.out.hf HM.out.hm).mono ?_; rintro e w6 ⟨rfl, hb6⟩; replace HM := Lib.hid (HM.out.below hb6); clear hb6 z0 z1 z2; have z0 := box_at HM.out.b.x 0 _ rfl; have z1 := box_at HM.out.b.x 1 _ rfl; have z2 := box_at HM.out.b.x 2 _ rfl)
          | (go_at_call 9; refine (data_any _ A N c f m buf HM.out.b.r hN0 (by omega) HM.out.hf HM.out.hm).mono ?_; rintro e w7 ⟨rfl, hb7⟩; replace HM := Lib.hid (HM.out.below hb7); clear hb7 z0 z1 z2))
        go_roundg (min nl 40 - (kk + 1))
        case measure => omega
        case rel =>
          refine ⟨kk + 1, at', out, by omega, by omega, rfl, rfl, rfl, by simp, A, c, f, m, buf, ?_⟩
          show Aside _
          exact HM.out
    · have hB := HM.out.b.bw
      by_cases hlt1 : (kk : Int) < (nl : Int)
      · have hlt2 : ¬ (kk : Int) < 40 := by omega
        go_wp2_with fail
        go_ret
        exact ⟨rfl, hB⟩
      · go_wp2_with fail
        go_ret
        exact ⟨rfl, hB⟩
end Go.Proofs.Ytkajmoiehabnmaa
