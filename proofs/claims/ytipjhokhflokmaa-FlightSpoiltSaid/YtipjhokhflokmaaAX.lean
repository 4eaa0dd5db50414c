/- lockagelaw18.Made (printed by mkAX.py). -/
import Derived.Test.YtipjhokhflokmaaAW
import Derived.Test.YtipjhokhflokmaaST
set_option linter.unusedVariables false
set_option linter.unusedSimpArgs false
namespace Go.Proofs.Ytipjhokhflokmaa
open Go.RowKit Go.Maps
open Go.Proofs.YtipjhokhflokmaaW.PrintWords

def MadeF (w : World) (room : Int) (s : MS) (e : Ending) (w' : World) : Prop :=
  ∃ A n c zs, e = .returned (fv room s.next (.slice A n c)) ∧ fls zs = s.fs ∧ OwF w' w.heap.size (.slice A n c) zs ∧ Below w.heap.size w w'
structure MkF (w W : World) (room : Int) (s : MS) (V : Value) (zs : List FV) : Prop where
  x2 : W.heap[w.heap.size]? = some (.cells #[.int .i64 0, .int .i64 0, .slice none 0 0] 26 (0, 0))
  x3 : W.heap[w.heap.size + 1]? = some (.cells #[.int .i64 room, .int .i64 s.next, V] 26 (0, 0))
  o : OwF W w.heap.size V zs
  f : fls zs = s.fs
  bw : Below w.heap.size w W
theorem MkF.below {w W W1 : World} {room : Int} {s : MS} {V : Value} {zs : List FV} (h : MkF w W room s V zs) (hb : Below W.heap.size W W1) : MkF w W1 room s V zs :=
  ⟨keep hb h.x2, keep hb h.x3, h.o.below hb, h.f, h.bw.trans (hb.mono h.bw.size)⟩
theorem MkF.next {w W w2 : World} {room : Int} {s s' : MS} {V V' : Value} {zs zs' : List FV} (h : MkF w W room s V zs) (hO : OwF w2 W.heap.size V' zs') (hf : fls zs' = s'.fs) (hb : Below W.heap.size W w2) :
    MkF w (st3 w2 (w.heap.size + 1) (.int .i64 room) (.int .i64 s'.next) V') room s' V' zs' :=
  ⟨(st3_other (by omega)).trans (keep hb h.x2), st3_box (keep hb h.x3), st3_own (hO.lower h.bw.size) (keep hb h.x3), hf, st3_below (h.bw.trans (hb.mono h.bw.size)) (by omega)⟩

set_option maxRecDepth 100000 in
set_option maxHeartbeats 16000000 in
theorem made_any (w : World) (r8 : Nat) (hr8 : r8 < 256) (Al : Option Addr) (nl cl : Nat) (l : List Nat) (hl : Rd w (.slice Al nl cl) (u8s l)) (h8 : ∀ x ∈ l, x < 256) :
    Calls Try.prog 16 #[.int .u8 r8, .slice Al nl cl] w (MadeF w ((1 + r8 % 12 : Nat) : Int) (madeS ((1 + r8 % 12 : Nat) : Int) l)) := by
  have ll := hl.len
  rw [u8s_len] at ll
  have hlm : l.length ≤ 9223372036854775807 := by obtain ⟨_, _, _, _, hm, _⟩ := hl; rwa [u8s_len] at hm
  have HL := Lib.hid hl
  obtain ⟨rm, hrm⟩ : ∃ q, r8 % 12 = q := ⟨_, rfl⟩
  have hrm2 : rm < 12 := by omega
  have hrt : (r8 : Int).tmod 12 = (rm : Int) := tmodM (q := 12) hrm
  have hrw : IntKind.i64.wrap (r8 : Int) = (r8 : Int) := wrapM (by omega) (by omega)
  have hrw2 : IntKind.i64.wrap (rm : Int) = (rm : Int) := wrapM (by omega) (by omega)
  have hrw3 : IntKind.i64.wrap (1 + (rm : Int)) = 1 + (rm : Int) := wrapM (by omega) (by omega)
  rw [hrm]
  obtain ⟨room, hroom⟩ : ∃ q : Int, ((1 + rm : Nat) : Int) = q := ⟨_, rfl⟩
  have hrr : 1 + (rm : Int) = room := by omega
  rw [hroom]
  have h0 : Below w.heap.size w ((w.alloc (.cells #[.int .i64 0, .int .i64 0, .slice none 0 0] 26)).alloc (.cells #[.int .i64 room, .int .i64 0, .slice none 0 0] 26)) := ((Below.refl _ _).alloc (Nat.le_refl _) _).alloc (by simp) _
  have HM0 := Lib.hid (show MkF w ((w.alloc (.cells #[.int .i64 0, .int .i64 0, .slice none 0 0] 26)).alloc (.cells #[.int .i64 room, .int .i64 0, .slice none 0 0] 26)) room ⟨0, []⟩ (.slice none 0 0) [] from
    ⟨keep ((Below.refl _ _).alloc (Nat.le_refl _) _) (heap_alloc_new w _), by
      have := heap_alloc_new (w.alloc (.cells #[.int .i64 0, .int .i64 0, .slice none 0 0] 26)) (.cells #[.int .i64 room, .int .i64 0, .slice none 0 0] 26)
      rwa [show (w.alloc (.cells #[.int .i64 0, .int .i64 0, .slice none 0 0] 26)).heap.size = w.heap.size + 1 by simp] at this, OwF.nil _ _, rfl, h0⟩)
  clear hl h0 hrm hroom
  go_enter Try.func16, Try.ntmps16
  go_upto_region 2 with fail
  generalize (w.alloc (.cells #[.int .i64 0, .int .i64 0, .slice none 0 0] 26)).alloc (.cells #[.int .i64 room, .int .i64 0, .slice none 0 0] 26) = V at *
  go_upto_region 3 with fail
  go_loopg [6] (min nl 60) (fun gg s6 wr => ∃ kk : Nat, kk ≤ min nl 60 ∧ min nl 60 - kk ≤ gg ∧ s6 = .int .i64 kk ∧ ∃ A n c zs, Aside (MkF w wr room (madeK room l kk) (.slice A n c) zs))
  case atStart =>
    refine ⟨0, by omega, by omega, rfl, none, 0, 0, [], ?_⟩
    show Aside _
    exact HM0.out
  case round =>
    clear HM0 hrt hrw hrw2 hrw3 hrr
    obtain ⟨kk, hkk, hg, rfl, A, n, c, zs, HA⟩ := hrel
    have hok := madeK_ok room l kk
    have HM := Lib.hid HA.out
    have hsf := hok.f.sm (by omega)
    have HSF := Lib.hid (show SmF (fls zs) by rw [HM.out.f]; exact hsf)
    have hnx0 : 0 ≤ (madeK room l kk).next := hok.n.1
    have hnx6 : (madeK room l kk).next ≤ 60 := by have := hok.n.2; omega
    have HFS := Lib.hid HM.out.f
    have HBx : Hid (wr.heap[w.heap.size + 1]? = some (.cells #[.int .i64 room, .int .i64 (madeK room l kk).next, .slice A n c] 26 (0, 0))) := Lib.hid HM.out.x3
    have HMK := Lib.hid (fun (b : Nat) (h : l[kk]? = some b) => madeK_succ (room := room) h)
    have HFIN := Lib.hid (fun (h : kk = min nl 60) => show madeS room l = madeK room l kk by unfold madeS; rw [ll, h])
    clear HA hok hsf
    generalize madeK room l kk = st at *
    obtain ⟨nx, fs⟩ := st
    simp only at hnx0 hnx6 HFS HBx
    go_upto_region 3 with fail
    go_cut [21] from 14 to 21 (fun s21 wc => s21 = .bool (decide (kk < min nl 60)) ∧ wc = wr)
    case first =>
      by_cases hlt1 : (kk : Int) < (nl : Int)
      · by_cases hlt2 : (kk : Int) < 60
        · go_wp2_with fail
          go_meet
          exact ⟨by simp; omega, rfl⟩
        · go_wp2_with fail
          go_meet
          exact ⟨by simp; omega, rfl⟩
      · go_wp2_with fail
        go_meet
        exact ⟨by simp; omega, rfl⟩
    case rest =>
      obtain ⟨rfl, hwc⟩ := hcut
      subst wc
      have y0 : wr.cell? ⟨w.heap.size + 1, 0, none⟩ = some (.int .i64 room) := box_at HBx.out 0 _ rfl
      have y1 : wr.cell? ⟨w.heap.size + 1, 1, none⟩ = some (.int .i64 nx) := box_at HBx.out 1 _ rfl
      have y2 : wr.cell? ⟨w.heap.size + 1, 2, none⟩ = some (.slice A n c) := box_at HBx.out 2 _ rfl
      by_cases hlt : kk < min nl 60
      · have hlt0 : decide (kk < min nl 60) = true := by simp [hlt]
        rw [hlt0]
        have hlt1 : (kk : Int) < (nl : Int) := by omega
        have hlk6 : kk < 60 := by omega
        obtain ⟨bl, ol, rfl, hbl, hlc⟩ := HL.out.get (by omega)
        have hkl : kk < l.length := by omega
        have hc := (HM.out.bw.cell (p := ⟨bl, ol + kk, none⟩) hbl).trans (hlc kk _ (u8s_at hkl))
        have hx8 := h8 l[kk] (List.getElem_mem hkl)
        have hnx := HMK.out l[kk] (List.getElem?_eq_getElem hkl)
        generalize l[kk] = x at hc hx8 hnx
        have HNX := Lib.hid hnx
        clear hnx hlc HMK HFIN hlt0
        obtain ⟨k, hk⟩ : ∃ q, x / 8 = q := ⟨_, rfl⟩
        have hk31 : k ≤ 31 := by omega
        have t8 : (x : Int).tdiv 8 = (k : Int) := tdiv8 hk
        have wx : IntKind.i64.wrap (x : Int) = (x : Int) := wrapM (by omega) (by omega)
        have wk : IntKind.i64.wrap (k : Int) = (k : Int) := wrapM (by omega) (by omega)
        have HK := Lib.hid hk
        clear hk hlt
        go_upto_region 6 with fail
        obtain ⟨im, him⟩ : ∃ q, idM nx k = q := ⟨_, rfl⟩
        have HIM := Lib.hid him
        clear him t8 wx
        go_cut [8] from 30 to 36 (fun s8 wx => s8 = .int .i64 im ∧ wx = wr)
        case first =>
          obtain ⟨k4, hk4⟩ : ∃ q, k % 4 = q := ⟨_, rfl⟩
          have t4 : (k : Int).tmod 4 = (k4 : Int) := tmodM (q := 4) hk4
          have hk43 : k4 ≤ 3 := by omega
          have w1 : IntKind.i64.wrap (k4 : Int) = (k4 : Int) := wrapM (by omega) (by omega)
          have w2 : IntKind.i64.wrap (nx - 1) = nx - 1 := wrapM (by omega) (by omega)
          have w3 : IntKind.i64.wrap (nx - 1 - (k4 : Int)) = nx - 1 - (k4 : Int) := wrapM (by omega) (by omega)
          have him2 : im = max 0 (nx - 1 - (k4 : Int)) := by rw [← HIM.out, ← hk4]; rfl
          have HI2 := Lib.hid him2
          clear hk4 him2
          by_cases hm : 0 ≤ nx - 1 - (k4 : Int)
          · go_wp2_with fail
            all_goals go_meet
            all_goals exact ⟨by rw [HI2.out]; (try congr 1); omega, rfl⟩
          · go_wp2_with fail
            all_goals go_meet
            all_goals exact ⟨by rw [HI2.out]; (try congr 1); omega, rfl⟩
        case rest =>
          obtain ⟨rfl, hwc⟩ := hcut
          subst wc
          obtain ⟨r, hr⟩ : ∃ q, x % 8 = q := ⟨_, rfl⟩
          have hr8' : r < 8 := by omega
          have hq : (x : Int) % 8 = (r : Int) := tm8 hr
          have HR8 := Lib.hid hr
          clear hr
          go_upto_region 7 with fail
          go_cut [41] from 37 to 41 (fun s41 wx => s41 = .int .u8 (r : Int) ∧ wx = wr)
          case first =>
            go_wp2_with fail
            go_meet
            exact ⟨by rw [hq], rfl⟩
          case rest =>
            obtain ⟨rfl, hwc⟩ := hcut
            subst wc
            clear hq hc
            obtain rfl | rfl | rfl | rfl | rfl | rfl | rfl | rfl : r = 0 ∨ r = 1 ∨ r = 2 ∨ r = 3 ∨ r = 4 ∨ r = 5 ∨ r = 6 ∨ r = 7 := by omega
            · have HST := Lib.hid (stepM_join (room := room) (s := ⟨nx, fs⟩) (i := kk) (b := x) (by rw [HR8.out]; omega) HK.out)
              clear HR8 hr8'
              obtain ⟨k2, hk2⟩ : ∃ q, k % 2 = q := ⟨_, rfl⟩
              have tk2 : (k : Int).tmod 2 = (k2 : Int) := tmodM (q := 2) hk2
              have lk2 : k2 < 2 := by omega
              have wk2 : IntKind.i64.wrap (k2 : Int) = (k2 : Int) := wrapM (by omega) (by omega)
              obtain ⟨k5, hk5⟩ : ∃ q, k % 5 = q := ⟨_, rfl⟩
              have tk5 : (k : Int).tmod 5 = (k5 : Int) := tmodM (q := 5) hk5
              have lk5 : k5 < 5 := by omega
              have wk5 : IntKind.i64.wrap (k5 : Int) = (k5 : Int) := wrapM (by omega) (by omega)
              rw [hk5] at HST
              obtain ⟨i14, hi14⟩ : ∃ q, kk % 14 = q := ⟨_, rfl⟩
              have ti14 : (kk : Int).tmod 14 = (i14 : Int) := tmodM (q := 14) hi14
              have li14 : i14 < 14 := by omega
              have wi14 : IntKind.i64.wrap (i14 : Int) = (i14 : Int) := wrapM (by omega) (by omega)
              rw [hi14] at HST
              have wkk : IntKind.i64.wrap (kk : Int) = (kk : Int) := wrapM (by omega) (by omega)
              have hal : Below wr.heap.size wr (wr.alloc (.cells #[.string ⟨#[97]⟩, .string ⟨#[98]⟩] 9)).drew := below_drew ((Below.refl _ _).alloc (Nat.le_refl _) _)
              have ya0 := pw_cell_below hal y0
              have ya1 := pw_cell_below hal y1
              have ya2 := pw_cell_below hal y2
              have hkl2 : (keyM k).length ≤ 100000 := by unfold keyM; split <;> simp
              have hkv : ∀ h, ([Value.string ⟨#[97]⟩, Value.string ⟨#[98]⟩] : List Value)[k2]'h = str (keyM k) := by
                intro h
                unfold keyM
                rw [hk2]
                obtain rfl | rfl : k2 = 0 ∨ k2 = 1 := by omega
                · rfl
                · rfl
              have hk2z : (k2 : Int) < 2 := by omega
              clear hk2 hk5 hi14
              go_upto_region 16 with fail
              refine wp_region_held_drew (S := fun _ => True) (by kernel_rfl) trivial (fun hHeld => ?_)
              refine wpAnyH_take (i := 2) (oi := _) (v := ?v2j1p6) rfl (by kernel_rfl) (by kernel_rfl) (by kernel_rfl) (fun _ _ _ h => h) (Or.inl ⟨by kernel_rfl, ?y2j1p6⟩) (by assumption) ?r2j1p6
              case y2j1p6 => (intro w hSw; (try dsimp only at hSw); go_simp; try (with_reducible rfl))
              case r2j1p6 =>
                simp only [List.getElem_toArray, List.getElem_cons_succ, List.getElem_cons_zero, Act.put, List.setIfInBounds_toArray, List.set_cons_zero, List.set_cons_succ]
                refine wpAnyH_take (i := 3) (oi := _) (v := ?v3j2p6) rfl (by kernel_rfl) (by kernel_rfl) (by kernel_rfl) (fun _ _ _ h => h) (Or.inl ⟨by kernel_rfl, ?y3j2p6⟩) (by assumption) ?r3j2p6
                case y3j2p6 => (intro w hSw; (try dsimp only at hSw); go_simp; try (with_reducible rfl))
                case r3j2p6 =>
                  simp only [List.getElem_toArray, List.getElem_cons_succ, List.getElem_cons_zero, Act.put, List.setIfInBounds_toArray, List.set_cons_zero, List.set_cons_succ]
                  refine wpAnyH_take (i := 6) (oi := _) (v := ?v6j3p6) rfl (by kernel_rfl) (by kernel_rfl) (by kernel_rfl) (fun _ _ _ h => h) (Or.inl ⟨by kernel_rfl, ?y6j3p6⟩) (by assumption) ?r6j3p6
                  case y6j3p6 => (intro w hSw; (try dsimp only at hSw); go_simp; try (with_reducible rfl))
                  case r6j3p6 =>
                    simp only [List.getElem_toArray, List.getElem_cons_succ, List.getElem_cons_zero, Act.put, List.setIfInBounds_toArray, List.set_cons_zero, List.set_cons_succ]
                    refine wpAnyH_take (i := 7) (oi := _) (v := ?v7j4p6) rfl (by kernel_rfl) (by kernel_rfl) (by kernel_rfl) (fun _ _ _ h => h) (Or.inl ⟨by kernel_rfl, ?y7j4p6⟩) (by assumption) ?r7j4p6
                    case y7j4p6 => (intro w hSw; (try dsimp only at hSw); go_simp; try (with_reducible rfl))
                    case r7j4p6 =>
                      simp only [List.getElem_toArray, List.getElem_cons_succ, List.getElem_cons_zero, Act.put, List.setIfInBounds_toArray, List.set_cons_zero, List.set_cons_succ]
                      refine wpAnyH_take (i := 8) (oi := _) (v := ?v8j5p6) rfl (by kernel_rfl) (by kernel_rfl) (by kernel_rfl) (fun _ _ _ h => h) (Or.inl ⟨by kernel_rfl, ?y8j5p6⟩) (by assumption) ?r8j5p6
                      case y8j5p6 => (intro w hSw; (try dsimp only at hSw); go_simp; try (with_reducible rfl))
                      case r8j5p6 =>
                        simp only [List.getElem_toArray, List.getElem_cons_succ, List.getElem_cons_zero, Act.put, List.setIfInBounds_toArray, List.set_cons_zero, List.set_cons_succ]
                        refine wpAnyH_take (i := 9) (oi := _) (v := ?v9j6p6) rfl (by kernel_rfl) (by kernel_rfl) (by kernel_rfl) (fun _ _ _ h => h) (Or.inl ⟨by kernel_rfl, ?y9j6p6⟩) (by assumption) ?r9j6p6
                        case y9j6p6 => (intro w hSw; (try dsimp only at hSw); go_simp; try (with_reducible rfl))
                        case r9j6p6 =>
                          simp only [List.getElem_toArray, List.getElem_cons_succ, List.getElem_cons_zero, Act.put, List.setIfInBounds_toArray, List.set_cons_zero, List.set_cons_succ]
                          refine wpAnyH_take (i := 10) (oi := _) (v := ?v10j7p6) rfl (by kernel_rfl) (by kernel_rfl) (by kernel_rfl) (fun _ _ _ h => h) (Or.inl ⟨by kernel_rfl, ?y10j7p6⟩) (by assumption) ?r10j7p6
                          case y10j7p6 => (intro w hSw; (try dsimp only at hSw); go_simp; try (with_reducible rfl))
                          case r10j7p6 =>
                            simp only [List.getElem_toArray, List.getElem_cons_succ, List.getElem_cons_zero, Act.put, List.setIfInBounds_toArray, List.set_cons_zero, List.set_cons_succ]
                            refine wpAnyH_ready (rs := [0, 1]) (by kernel_rfl) (by simp) ?_
                            refine AllReadyH.cons (o := _) rfl (fun K hK => ?_) (AllReadyH.cons (o := _) rfl (fun K hK => ?_) (AllReadyH.nil))
                            · go_simp
                              go_wp2_with fail
                              refine hK.out _ _ trivial (fun hHeld => ?_)
                              clear hK K
                              try simp only [List.getElem_toArray, List.getElem_cons_succ, List.getElem_cons_zero, Act.put, List.setIfInBounds_toArray, List.set_cons_zero, List.set_cons_succ]
                              refine wpAnyH_ready (rs := [1]) (by kernel_rfl) (by simp) ?_
                              refine AllReadyH.cons (o := _) rfl (fun K hK => ?_) (AllReadyH.nil)
                              · go_simp
                                go_wp2_with fail
                                refine hK.out _ _ trivial (fun hHeld => ?_)
                                clear hK K
                                try simp only [List.getElem_toArray, List.getElem_cons_succ, List.getElem_cons_zero, Act.put, List.setIfInBounds_toArray, List.set_cons_zero, List.set_cons_succ]
                                refine wpAnyH_take (i := 4) (oi := _) (v := ?v4j8p6) rfl (by kernel_rfl) (by kernel_rfl) (by kernel_rfl) (fun _ _ _ h => h) (Or.inl ⟨by kernel_rfl, ?y4j8p6⟩) (by assumption) ?r4j8p6
                                case y4j8p6 => (intro w hSw; (try dsimp only at hSw); go_simp; try (with_reducible rfl))
                                case r4j8p6 =>
                                  simp only [List.getElem_toArray, List.getElem_cons_succ, List.getElem_cons_zero, Act.put, List.setIfInBounds_toArray, List.set_cons_zero, List.set_cons_succ]
                                  refine wpAnyH_ready (rs := [5]) (by kernel_rfl) (by simp) ?_
                                  refine AllReadyH.cons (o := _) rfl (fun K hK => ?_) (AllReadyH.nil)
                                  · go_simp
                                    go_wp2_with fail
                                    refine hK.out _ _ trivial (fun hHeld => ?_)
                                    clear hK K
                                    try simp only [List.getElem_toArray, List.getElem_cons_succ, List.getElem_cons_zero, Act.put, List.setIfInBounds_toArray, List.set_cons_zero, List.set_cons_succ]
                                    refine wpAnyH_ready (rs := [11]) (by kernel_rfl) (by simp) ?_
                                    refine AllReadyH.cons (o := _) rfl (fun K hK => ?_) (AllReadyH.nil)
                                    · go_simp
                                      (go_at_call 17; (try simp only [hkv]); refine (rjoin_any (wr.alloc (.cells #[.string ⟨#[97]⟩, .string ⟨#[98]⟩] 9)).drew room nx A n c zs (keyM k) (i14 : Int) (decide (0 < k5)) (HM.out.o.rd.below hal) HSF.out hkl2).mono ?_; unfold JoinPost OpPost; rw [HFS.out]; rintro e w2 ⟨A2, n2, c2, z2, rfl, hf, hO0, hb0⟩; have hb : Below wr.heap.size wr w2 := hal.trans (hb0.mono hal.size); have hO := hO0.lower hal.size; clear hO0 hb0 ya0 ya1 ya2; have HN := Lib.hid (HM.out.next (s' := ⟨(joinOp room nx fs (keyM k) (i14 : Int) (decide (0 < k5))).next, (joinOp room nx fs (keyM k) (i14 : Int) (decide (0 < k5))).fs⟩) hO hf hb); have hbx := keep hb HBx.out; clear y0 y1 y2; have y0 : w2.cell? ⟨w.heap.size + 1, 0, none⟩ = some (.int .i64 room) := box_at hbx 0 _ rfl; have y1 : w2.cell? ⟨w.heap.size + 1, 1, none⟩ = some (.int .i64 nx) := box_at hbx 1 _ rfl; have y2 : w2.cell? ⟨w.heap.size + 1, 2, none⟩ = some (.slice A n c) := box_at hbx 2 _ rfl; have yf := box_free hbx; have ney : ¬ w.heap.size = w.heap.size + 1 := (by omega); clear hbx hO hf hb)
                                      go_wp2_with fail
                                      refine hK.out _ _ trivial (fun hHeld => ?_)
                                      clear hK K
                                      try simp only [List.getElem_toArray, List.getElem_cons_succ, List.getElem_cons_zero, Act.put, List.setIfInBounds_toArray, List.set_cons_zero, List.set_cons_succ]
                                      refine wpAnyH_take (i := 12) (oi := _) (v := ?v12j9p6) rfl (by kernel_rfl) (by kernel_rfl) (by kernel_rfl) (fun _ _ _ h => h) (Or.inl ⟨by kernel_rfl, ?y12j9p6⟩) (by assumption) ?r12j9p6
                                      case y12j9p6 => (intro w hSw; (try dsimp only at hSw); go_simp; try (with_reducible rfl))
                                      case r12j9p6 =>
                                        simp only [List.getElem_toArray, List.getElem_cons_succ, List.getElem_cons_zero, Act.put, List.setIfInBounds_toArray, List.set_cons_zero, List.set_cons_succ]
                                        refine wpAnyH_take (i := 13) (oi := _) (v := ?v13j10p6) rfl (by kernel_rfl) (by kernel_rfl) (by kernel_rfl) (fun _ _ _ h => h) (Or.inl ⟨by kernel_rfl, ?y13j10p6⟩) (by assumption) ?r13j10p6
                                        case y13j10p6 => (intro w hSw; (try dsimp only at hSw); go_simp; try (with_reducible rfl))
                                        case r13j10p6 =>
                                          simp only [List.getElem_toArray, List.getElem_cons_succ, List.getElem_cons_zero, Act.put, List.setIfInBounds_toArray, List.set_cons_zero, List.set_cons_succ]
                                          refine wpAnyH_take (i := 14) (oi := _) (v := ?v14j11p6) rfl (by kernel_rfl) (by kernel_rfl) (by kernel_rfl) (fun _ _ _ h => h) (Or.inl ⟨by kernel_rfl, ?y14j11p6⟩) (by assumption) ?r14j11p6
                                          case y14j11p6 => (intro w hSw; (try dsimp only at hSw); go_simp; try (with_reducible rfl))
                                          case r14j11p6 =>
                                            simp only [List.getElem_toArray, List.getElem_cons_succ, List.getElem_cons_zero, Act.put, List.setIfInBounds_toArray, List.set_cons_zero, List.set_cons_succ]
                                            refine wpAnyH_take (i := 15) (oi := _) (v := ?v15j12p6) rfl (by kernel_rfl) (by kernel_rfl) (by kernel_rfl) (fun _ _ _ h => h) (Or.inl ⟨by kernel_rfl, ?y15j12p6⟩) (by assumption) ?r15j12p6
                                            case y15j12p6 => (intro w hSw; (try dsimp only at hSw); go_simp; try (with_reducible rfl))
                                            case r15j12p6 =>
                                              simp only [List.getElem_toArray, List.getElem_cons_succ, List.getElem_cons_zero, Act.put, List.setIfInBounds_toArray, List.set_cons_zero, List.set_cons_succ]
                                              refine wpAnyH_take (i := 16) (oi := _) (v := ?v16j13p6) rfl (by kernel_rfl) (by kernel_rfl) (by kernel_rfl) (fun _ _ _ h => h) (Or.inl ⟨by kernel_rfl, ?y16j13p6⟩) (by assumption) ?r16j13p6
                                              case y16j13p6 => (intro w hSw; (try dsimp only at hSw); go_simp; try (with_reducible rfl))
                                              case r16j13p6 =>
                                                simp only [List.getElem_toArray, List.getElem_cons_succ, List.getElem_cons_zero, Act.put, List.setIfInBounds_toArray, List.set_cons_zero, List.set_cons_succ]
                                                refine wpAnyH_ready (rs := [17]) (by kernel_rfl) (by simp) ?_
                                                refine AllReadyH.cons (o := _) rfl (fun K hK => ?_) (AllReadyH.nil)
                                                · go_simp
                                                  go_wp2_with fail
                                                  refine hK.out _ _ trivial (fun hHeld => ?_)
                                                  clear hK K
                                                  try simp only [List.getElem_toArray, List.getElem_cons_succ, List.getElem_cons_zero, Act.put, List.setIfInBounds_toArray, List.set_cons_zero, List.set_cons_succ]
                                                  refine wpAnyH_done (by kernel_rfl) ?_ _
                                                  go_wp2_with fail
                                                  go_roundg (min nl 60 - (kk + 1))
                                                  case measure => omega
                                                  case rel =>
                                                    refine ⟨kk + 1, by omega, by omega, by go_num, A2, n2, c2, z2, ?_⟩
                                                    show Aside _
                                                    rw [HNX.out, HST.out]
                                                    exact HN.out
                            · go_simp
                              go_wp2_with fail
                              refine hK.out _ _ trivial (fun hHeld => ?_)
                              clear hK K
                              try simp only [List.getElem_toArray, List.getElem_cons_succ, List.getElem_cons_zero, Act.put, List.setIfInBounds_toArray, List.set_cons_zero, List.set_cons_succ]
                              refine wpAnyH_take (i := 4) (oi := _) (v := ?v4j14p6) rfl (by kernel_rfl) (by kernel_rfl) (by kernel_rfl) (fun _ _ _ h => h) (Or.inl ⟨by kernel_rfl, ?y4j14p6⟩) (by assumption) ?r4j14p6
                              case y4j14p6 => (intro w hSw; (try dsimp only at hSw); go_simp; try (with_reducible rfl))
                              case r4j14p6 =>
                                simp only [List.getElem_toArray, List.getElem_cons_succ, List.getElem_cons_zero, Act.put, List.setIfInBounds_toArray, List.set_cons_zero, List.set_cons_succ]
                                refine wpAnyH_ready (rs := [0, 5]) (by kernel_rfl) (by simp) ?_
                                refine AllReadyH.cons (o := _) rfl (fun K hK => ?_) (AllReadyH.cons (o := _) rfl (fun K hK => ?_) (AllReadyH.nil))
                                · go_simp
                                  go_wp2_with fail
                                  refine hK.out _ _ trivial (fun hHeld => ?_)
                                  clear hK K
                                  try simp only [List.getElem_toArray, List.getElem_cons_succ, List.getElem_cons_zero, Act.put, List.setIfInBounds_toArray, List.set_cons_zero, List.set_cons_succ]
                                  refine wpAnyH_ready (rs := [5]) (by kernel_rfl) (by simp) ?_
                                  refine AllReadyH.cons (o := _) rfl (fun K hK => ?_) (AllReadyH.nil)
                                  · go_simp
                                    go_wp2_with fail
                                    refine hK.out _ _ trivial (fun hHeld => ?_)
                                    clear hK K
                                    try simp only [List.getElem_toArray, List.getElem_cons_succ, List.getElem_cons_zero, Act.put, List.setIfInBounds_toArray, List.set_cons_zero, List.set_cons_succ]
                                    refine wpAnyH_ready (rs := [11]) (by kernel_rfl) (by simp) ?_
                                    refine AllReadyH.cons (o := _) rfl (fun K hK => ?_) (AllReadyH.nil)
                                    · go_simp
                                      (go_at_call 17; (try simp only [hkv]); refine (rjoin_any (wr.alloc (.cells #[.string ⟨#[97]⟩, .string ⟨#[98]⟩] 9)).drew room nx A n c zs (keyM k) (i14 : Int) (decide (0 < k5)) (HM.out.o.rd.below hal) HSF.out hkl2).mono ?_; unfold JoinPost OpPost; rw [HFS.out]; rintro e w2 ⟨A2, n2, c2, z2, rfl, hf, hO0, hb0⟩; have hb : Below wr.heap.size wr w2 := hal.trans (hb0.mono hal.size); have hO := hO0.lower hal.size; clear hO0 hb0 ya0 ya1 ya2; have HN := Lib.hid (HM.out.next (s' := ⟨(joinOp room nx fs (keyM k) (i14 : Int) (decide (0 < k5))).next, (joinOp room nx fs (keyM k) (i14 : Int) (decide (0 < k5))).fs⟩) hO hf hb); have hbx := keep hb HBx.out; clear y0 y1 y2; have y0 : w2.cell? ⟨w.heap.size + 1, 0, none⟩ = some (.int .i64 room) := box_at hbx 0 _ rfl; have y1 : w2.cell? ⟨w.heap.size + 1, 1, none⟩ = some (.int .i64 nx) := box_at hbx 1 _ rfl; have y2 : w2.cell? ⟨w.heap.size + 1, 2, none⟩ = some (.slice A n c) := box_at hbx 2 _ rfl; have yf := box_free hbx; have ney : ¬ w.heap.size = w.heap.size + 1 := (by omega); clear hbx hO hf hb)
                                      go_wp2_with fail
                                      refine hK.out _ _ trivial (fun hHeld => ?_)
                                      clear hK K
                                      try simp only [List.getElem_toArray, List.getElem_cons_succ, List.getElem_cons_zero, Act.put, List.setIfInBounds_toArray, List.set_cons_zero, List.set_cons_succ]
                                      refine wpAnyH_take (i := 12) (oi := _) (v := ?v12j15p6) rfl (by kernel_rfl) (by kernel_rfl) (by kernel_rfl) (fun _ _ _ h => h) (Or.inl ⟨by kernel_rfl, ?y12j15p6⟩) (by assumption) ?r12j15p6
                                      case y12j15p6 => (intro w hSw; (try dsimp only at hSw); go_simp; try (with_reducible rfl))
                                      case r12j15p6 =>
                                        simp only [List.getElem_toArray, List.getElem_cons_succ, List.getElem_cons_zero, Act.put, List.setIfInBounds_toArray, List.set_cons_zero, List.set_cons_succ]
                                        refine wpAnyH_take (i := 13) (oi := _) (v := ?v13j16p6) rfl (by kernel_rfl) (by kernel_rfl) (by kernel_rfl) (fun _ _ _ h => h) (Or.inl ⟨by kernel_rfl, ?y13j16p6⟩) (by assumption) ?r13j16p6
                                        case y13j16p6 => (intro w hSw; (try dsimp only at hSw); go_simp; try (with_reducible rfl))
                                        case r13j16p6 =>
                                          simp only [List.getElem_toArray, List.getElem_cons_succ, List.getElem_cons_zero, Act.put, List.setIfInBounds_toArray, List.set_cons_zero, List.set_cons_succ]
                                          refine wpAnyH_take (i := 14) (oi := _) (v := ?v14j17p6) rfl (by kernel_rfl) (by kernel_rfl) (by kernel_rfl) (fun _ _ _ h => h) (Or.inl ⟨by kernel_rfl, ?y14j17p6⟩) (by assumption) ?r14j17p6
                                          case y14j17p6 => (intro w hSw; (try dsimp only at hSw); go_simp; try (with_reducible rfl))
                                          case r14j17p6 =>
                                            simp only [List.getElem_toArray, List.getElem_cons_succ, List.getElem_cons_zero, Act.put, List.setIfInBounds_toArray, List.set_cons_zero, List.set_cons_succ]
                                            refine wpAnyH_take (i := 15) (oi := _) (v := ?v15j18p6) rfl (by kernel_rfl) (by kernel_rfl) (by kernel_rfl) (fun _ _ _ h => h) (Or.inl ⟨by kernel_rfl, ?y15j18p6⟩) (by assumption) ?r15j18p6
                                            case y15j18p6 => (intro w hSw; (try dsimp only at hSw); go_simp; try (with_reducible rfl))
                                            case r15j18p6 =>
                                              simp only [List.getElem_toArray, List.getElem_cons_succ, List.getElem_cons_zero, Act.put, List.setIfInBounds_toArray, List.set_cons_zero, List.set_cons_succ]
                                              refine wpAnyH_take (i := 16) (oi := _) (v := ?v16j19p6) rfl (by kernel_rfl) (by kernel_rfl) (by kernel_rfl) (fun _ _ _ h => h) (Or.inl ⟨by kernel_rfl, ?y16j19p6⟩) (by assumption) ?r16j19p6
                                              case y16j19p6 => (intro w hSw; (try dsimp only at hSw); go_simp; try (with_reducible rfl))
                                              case r16j19p6 =>
                                                simp only [List.getElem_toArray, List.getElem_cons_succ, List.getElem_cons_zero, Act.put, List.setIfInBounds_toArray, List.set_cons_zero, List.set_cons_succ]
                                                refine wpAnyH_ready (rs := [17]) (by kernel_rfl) (by simp) ?_
                                                refine AllReadyH.cons (o := _) rfl (fun K hK => ?_) (AllReadyH.nil)
                                                · go_simp
                                                  go_wp2_with fail
                                                  refine hK.out _ _ trivial (fun hHeld => ?_)
                                                  clear hK K
                                                  try simp only [List.getElem_toArray, List.getElem_cons_succ, List.getElem_cons_zero, Act.put, List.setIfInBounds_toArray, List.set_cons_zero, List.set_cons_succ]
                                                  refine wpAnyH_done (by kernel_rfl) ?_ _
                                                  go_wp2_with fail
                                                  go_roundg (min nl 60 - (kk + 1))
                                                  case measure => omega
                                                  case rel =>
                                                    refine ⟨kk + 1, by omega, by omega, by go_num, A2, n2, c2, z2, ?_⟩
                                                    show Aside _
                                                    rw [HNX.out, HST.out]
                                                    exact HN.out
                                · go_simp
                                  go_wp2_with fail
                                  refine hK.out _ _ trivial (fun hHeld => ?_)
                                  clear hK K
                                  try simp only [List.getElem_toArray, List.getElem_cons_succ, List.getElem_cons_zero, Act.put, List.setIfInBounds_toArray, List.set_cons_zero, List.set_cons_succ]
                                  refine wpAnyH_ready (rs := [0]) (by kernel_rfl) (by simp) ?_
                                  refine AllReadyH.cons (o := _) rfl (fun K hK => ?_) (AllReadyH.nil)
                                  · go_simp
                                    go_wp2_with fail
                                    refine hK.out _ _ trivial (fun hHeld => ?_)
                                    clear hK K
                                    try simp only [List.getElem_toArray, List.getElem_cons_succ, List.getElem_cons_zero, Act.put, List.setIfInBounds_toArray, List.set_cons_zero, List.set_cons_succ]
                                    refine wpAnyH_ready (rs := [11]) (by kernel_rfl) (by simp) ?_
                                    refine AllReadyH.cons (o := _) rfl (fun K hK => ?_) (AllReadyH.nil)
                                    · go_simp
                                      (go_at_call 17; (try simp only [hkv]); refine (rjoin_any (wr.alloc (.cells #[.string ⟨#[97]⟩, .string ⟨#[98]⟩] 9)).drew room nx A n c zs (keyM k) (i14 : Int) (decide (0 < k5)) (HM.out.o.rd.below hal) HSF.out hkl2).mono ?_; unfold JoinPost OpPost; rw [HFS.out]; rintro e w2 ⟨A2, n2, c2, z2, rfl, hf, hO0, hb0⟩; have hb : Below wr.heap.size wr w2 := hal.trans (hb0.mono hal.size); have hO := hO0.lower hal.size; clear hO0 hb0 ya0 ya1 ya2; have HN := Lib.hid (HM.out.next (s' := ⟨(joinOp room nx fs (keyM k) (i14 : Int) (decide (0 < k5))).next, (joinOp room nx fs (keyM k) (i14 : Int) (decide (0 < k5))).fs⟩) hO hf hb); have hbx := keep hb HBx.out; clear y0 y1 y2; have y0 : w2.cell? ⟨w.heap.size + 1, 0, none⟩ = some (.int .i64 room) := box_at hbx 0 _ rfl; have y1 : w2.cell? ⟨w.heap.size + 1, 1, none⟩ = some (.int .i64 nx) := box_at hbx 1 _ rfl; have y2 : w2.cell? ⟨w.heap.size + 1, 2, none⟩ = some (.slice A n c) := box_at hbx 2 _ rfl; have yf := box_free hbx; have ney : ¬ w.heap.size = w.heap.size + 1 := (by omega); clear hbx hO hf hb)
                                      go_wp2_with fail
                                      refine hK.out _ _ trivial (fun hHeld => ?_)
                                      clear hK K
                                      try simp only [List.getElem_toArray, List.getElem_cons_succ, List.getElem_cons_zero, Act.put, List.setIfInBounds_toArray, List.set_cons_zero, List.set_cons_succ]
                                      refine wpAnyH_take (i := 12) (oi := _) (v := ?v12j20p6) rfl (by kernel_rfl) (by kernel_rfl) (by kernel_rfl) (fun _ _ _ h => h) (Or.inl ⟨by kernel_rfl, ?y12j20p6⟩) (by assumption) ?r12j20p6
                                      case y12j20p6 => (intro w hSw; (try dsimp only at hSw); go_simp; try (with_reducible rfl))
                                      case r12j20p6 =>
                                        simp only [List.getElem_toArray, List.getElem_cons_succ, List.getElem_cons_zero, Act.put, List.setIfInBounds_toArray, List.set_cons_zero, List.set_cons_succ]
                                        refine wpAnyH_take (i := 13) (oi := _) (v := ?v13j21p6) rfl (by kernel_rfl) (by kernel_rfl) (by kernel_rfl) (fun _ _ _ h => h) (Or.inl ⟨by kernel_rfl, ?y13j21p6⟩) (by assumption) ?r13j21p6
                                        case y13j21p6 => (intro w hSw; (try dsimp only at hSw); go_simp; try (with_reducible rfl))
                                        case r13j21p6 =>
                                          simp only [List.getElem_toArray, List.getElem_cons_succ, List.getElem_cons_zero, Act.put, List.setIfInBounds_toArray, List.set_cons_zero, List.set_cons_succ]
                                          refine wpAnyH_take (i := 14) (oi := _) (v := ?v14j22p6) rfl (by kernel_rfl) (by kernel_rfl) (by kernel_rfl) (fun _ _ _ h => h) (Or.inl ⟨by kernel_rfl, ?y14j22p6⟩) (by assumption) ?r14j22p6
                                          case y14j22p6 => (intro w hSw; (try dsimp only at hSw); go_simp; try (with_reducible rfl))
                                          case r14j22p6 =>
                                            simp only [List.getElem_toArray, List.getElem_cons_succ, List.getElem_cons_zero, Act.put, List.setIfInBounds_toArray, List.set_cons_zero, List.set_cons_succ]
                                            refine wpAnyH_take (i := 15) (oi := _) (v := ?v15j23p6) rfl (by kernel_rfl) (by kernel_rfl) (by kernel_rfl) (fun _ _ _ h => h) (Or.inl ⟨by kernel_rfl, ?y15j23p6⟩) (by assumption) ?r15j23p6
                                            case y15j23p6 => (intro w hSw; (try dsimp only at hSw); go_simp; try (with_reducible rfl))
                                            case r15j23p6 =>
                                              simp only [List.getElem_toArray, List.getElem_cons_succ, List.getElem_cons_zero, Act.put, List.setIfInBounds_toArray, List.set_cons_zero, List.set_cons_succ]
                                              refine wpAnyH_take (i := 16) (oi := _) (v := ?v16j24p6) rfl (by kernel_rfl) (by kernel_rfl) (by kernel_rfl) (fun _ _ _ h => h) (Or.inl ⟨by kernel_rfl, ?y16j24p6⟩) (by assumption) ?r16j24p6
                                              case y16j24p6 => (intro w hSw; (try dsimp only at hSw); go_simp; try (with_reducible rfl))
                                              case r16j24p6 =>
                                                simp only [List.getElem_toArray, List.getElem_cons_succ, List.getElem_cons_zero, Act.put, List.setIfInBounds_toArray, List.set_cons_zero, List.set_cons_succ]
                                                refine wpAnyH_ready (rs := [17]) (by kernel_rfl) (by simp) ?_
                                                refine AllReadyH.cons (o := _) rfl (fun K hK => ?_) (AllReadyH.nil)
                                                · go_simp
                                                  go_wp2_with fail
                                                  refine hK.out _ _ trivial (fun hHeld => ?_)
                                                  clear hK K
                                                  try simp only [List.getElem_toArray, List.getElem_cons_succ, List.getElem_cons_zero, Act.put, List.setIfInBounds_toArray, List.set_cons_zero, List.set_cons_succ]
                                                  refine wpAnyH_done (by kernel_rfl) ?_ _
                                                  go_wp2_with fail
                                                  go_roundg (min nl 60 - (kk + 1))
                                                  case measure => omega
                                                  case rel =>
                                                    refine ⟨kk + 1, by omega, by omega, by go_num, A2, n2, c2, z2, ?_⟩
                                                    show Aside _
                                                    rw [HNX.out, HST.out]
                                                    exact HN.out
            · have HST := Lib.hid (stepM_join (room := room) (s := ⟨nx, fs⟩) (i := kk) (b := x) (by rw [HR8.out]; omega) HK.out)
              clear HR8 hr8'
              obtain ⟨k2, hk2⟩ : ∃ q, k % 2 = q := ⟨_, rfl⟩
              have tk2 : (k : Int).tmod 2 = (k2 : Int) := tmodM (q := 2) hk2
              have lk2 : k2 < 2 := by omega
              have wk2 : IntKind.i64.wrap (k2 : Int) = (k2 : Int) := wrapM (by omega) (by omega)
              obtain ⟨k5, hk5⟩ : ∃ q, k % 5 = q := ⟨_, rfl⟩
              have tk5 : (k : Int).tmod 5 = (k5 : Int) := tmodM (q := 5) hk5
              have lk5 : k5 < 5 := by omega
              have wk5 : IntKind.i64.wrap (k5 : Int) = (k5 : Int) := wrapM (by omega) (by omega)
              rw [hk5] at HST
              obtain ⟨i14, hi14⟩ : ∃ q, kk % 14 = q := ⟨_, rfl⟩
              have ti14 : (kk : Int).tmod 14 = (i14 : Int) := tmodM (q := 14) hi14
              have li14 : i14 < 14 := by omega
              have wi14 : IntKind.i64.wrap (i14 : Int) = (i14 : Int) := wrapM (by omega) (by omega)
              rw [hi14] at HST
              have wkk : IntKind.i64.wrap (kk : Int) = (kk : Int) := wrapM (by omega) (by omega)
              have hal : Below wr.heap.size wr (wr.alloc (.cells #[.string ⟨#[97]⟩, .string ⟨#[98]⟩] 9)).drew := below_drew ((Below.refl _ _).alloc (Nat.le_refl _) _)
              have ya0 := pw_cell_below hal y0
              have ya1 := pw_cell_below hal y1
              have ya2 := pw_cell_below hal y2
              have hkl2 : (keyM k).length ≤ 100000 := by unfold keyM; split <;> simp
              have hkv : ∀ h, ([Value.string ⟨#[97]⟩, Value.string ⟨#[98]⟩] : List Value)[k2]'h = str (keyM k) := by
                intro h
                unfold keyM
                rw [hk2]
                obtain rfl | rfl : k2 = 0 ∨ k2 = 1 := by omega
                · rfl
                · rfl
              have hk2z : (k2 : Int) < 2 := by omega
              clear hk2 hk5 hi14
              go_upto_region 16 with fail
              refine wp_region_held_drew (S := fun _ => True) (by kernel_rfl) trivial (fun hHeld => ?_)
              refine wpAnyH_take (i := 2) (oi := _) (v := ?v2j1p7) rfl (by kernel_rfl) (by kernel_rfl) (by kernel_rfl) (fun _ _ _ h => h) (Or.inl ⟨by kernel_rfl, ?y2j1p7⟩) (by assumption) ?r2j1p7
              case y2j1p7 => (intro w hSw; (try dsimp only at hSw); go_simp; try (with_reducible rfl))
              case r2j1p7 =>
                simp only [List.getElem_toArray, List.getElem_cons_succ, List.getElem_cons_zero, Act.put, List.setIfInBounds_toArray, List.set_cons_zero, List.set_cons_succ]
                refine wpAnyH_take (i := 3) (oi := _) (v := ?v3j2p7) rfl (by kernel_rfl) (by kernel_rfl) (by kernel_rfl) (fun _ _ _ h => h) (Or.inl ⟨by kernel_rfl, ?y3j2p7⟩) (by assumption) ?r3j2p7
                case y3j2p7 => (intro w hSw; (try dsimp only at hSw); go_simp; try (with_reducible rfl))
                case r3j2p7 =>
                  simp only [List.getElem_toArray, List.getElem_cons_succ, List.getElem_cons_zero, Act.put, List.setIfInBounds_toArray, List.set_cons_zero, List.set_cons_succ]
                  refine wpAnyH_take (i := 6) (oi := _) (v := ?v6j3p7) rfl (by kernel_rfl) (by kernel_rfl) (by kernel_rfl) (fun _ _ _ h => h) (Or.inl ⟨by kernel_rfl, ?y6j3p7⟩) (by assumption) ?r6j3p7
                  case y6j3p7 => (intro w hSw; (try dsimp only at hSw); go_simp; try (with_reducible rfl))
                  case r6j3p7 =>
                    simp only [List.getElem_toArray, List.getElem_cons_succ, List.getElem_cons_zero, Act.put, List.setIfInBounds_toArray, List.set_cons_zero, List.set_cons_succ]
                    refine wpAnyH_take (i := 7) (oi := _) (v := ?v7j4p7) rfl (by kernel_rfl) (by kernel_rfl) (by kernel_rfl) (fun _ _ _ h => h) (Or.inl ⟨by kernel_rfl, ?y7j4p7⟩) (by assumption) ?r7j4p7
                    case y7j4p7 => (intro w hSw; (try dsimp only at hSw); go_simp; try (with_reducible rfl))
                    case r7j4p7 =>
                      simp only [List.getElem_toArray, List.getElem_cons_succ, List.getElem_cons_zero, Act.put, List.setIfInBounds_toArray, List.set_cons_zero, List.set_cons_succ]
                      refine wpAnyH_take (i := 8) (oi := _) (v := ?v8j5p7) rfl (by kernel_rfl) (by kernel_rfl) (by kernel_rfl) (fun _ _ _ h => h) (Or.inl ⟨by kernel_rfl, ?y8j5p7⟩) (by assumption) ?r8j5p7
                      case y8j5p7 => (intro w hSw; (try dsimp only at hSw); go_simp; try (with_reducible rfl))
                      case r8j5p7 =>
                        simp only [List.getElem_toArray, List.getElem_cons_succ, List.getElem_cons_zero, Act.put, List.setIfInBounds_toArray, List.set_cons_zero, List.set_cons_succ]
                        refine wpAnyH_take (i := 9) (oi := _) (v := ?v9j6p7) rfl (by kernel_rfl) (by kernel_rfl) (by kernel_rfl) (fun _ _ _ h => h) (Or.inl ⟨by kernel_rfl, ?y9j6p7⟩) (by assumption) ?r9j6p7
                        case y9j6p7 => (intro w hSw; (try dsimp only at hSw); go_simp; try (with_reducible rfl))
                        case r9j6p7 =>
                          simp only [List.getElem_toArray, List.getElem_cons_succ, List.getElem_cons_zero, Act.put, List.setIfInBounds_toArray, List.set_cons_zero, List.set_cons_succ]
                          refine wpAnyH_take (i := 10) (oi := _) (v := ?v10j7p7) rfl (by kernel_rfl) (by kernel_rfl) (by kernel_rfl) (fun _ _ _ h => h) (Or.inl ⟨by kernel_rfl, ?y10j7p7⟩) (by assumption) ?r10j7p7
                          case y10j7p7 => (intro w hSw; (try dsimp only at hSw); go_simp; try (with_reducible rfl))
                          case r10j7p7 =>
                            simp only [List.getElem_toArray, List.getElem_cons_succ, List.getElem_cons_zero, Act.put, List.setIfInBounds_toArray, List.set_cons_zero, List.set_cons_succ]
                            refine wpAnyH_ready (rs := [0, 1]) (by kernel_rfl) (by simp) ?_
                            refine AllReadyH.cons (o := _) rfl (fun K hK => ?_) (AllReadyH.cons (o := _) rfl (fun K hK => ?_) (AllReadyH.nil))
                            · go_simp
                              go_wp2_with fail
                              refine hK.out _ _ trivial (fun hHeld => ?_)
                              clear hK K
                              try simp only [List.getElem_toArray, List.getElem_cons_succ, List.getElem_cons_zero, Act.put, List.setIfInBounds_toArray, List.set_cons_zero, List.set_cons_succ]
                              refine wpAnyH_ready (rs := [1]) (by kernel_rfl) (by simp) ?_
                              refine AllReadyH.cons (o := _) rfl (fun K hK => ?_) (AllReadyH.nil)
                              · go_simp
                                go_wp2_with fail
                                refine hK.out _ _ trivial (fun hHeld => ?_)
                                clear hK K
                                try simp only [List.getElem_toArray, List.getElem_cons_succ, List.getElem_cons_zero, Act.put, List.setIfInBounds_toArray, List.set_cons_zero, List.set_cons_succ]
                                refine wpAnyH_take (i := 4) (oi := _) (v := ?v4j8p7) rfl (by kernel_rfl) (by kernel_rfl) (by kernel_rfl) (fun _ _ _ h => h) (Or.inl ⟨by kernel_rfl, ?y4j8p7⟩) (by assumption) ?r4j8p7
                                case y4j8p7 => (intro w hSw; (try dsimp only at hSw); go_simp; try (with_reducible rfl))
                                case r4j8p7 =>
                                  simp only [List.getElem_toArray, List.getElem_cons_succ, List.getElem_cons_zero, Act.put, List.setIfInBounds_toArray, List.set_cons_zero, List.set_cons_succ]
                                  refine wpAnyH_ready (rs := [5]) (by kernel_rfl) (by simp) ?_
                                  refine AllReadyH.cons (o := _) rfl (fun K hK => ?_) (AllReadyH.nil)
                                  · go_simp
                                    go_wp2_with fail
                                    refine hK.out _ _ trivial (fun hHeld => ?_)
                                    clear hK K
                                    try simp only [List.getElem_toArray, List.getElem_cons_succ, List.getElem_cons_zero, Act.put, List.setIfInBounds_toArray, List.set_cons_zero, List.set_cons_succ]
                                    refine wpAnyH_ready (rs := [11]) (by kernel_rfl) (by simp) ?_
                                    refine AllReadyH.cons (o := _) rfl (fun K hK => ?_) (AllReadyH.nil)
                                    · go_simp
                                      (go_at_call 17; (try simp only [hkv]); refine (rjoin_any (wr.alloc (.cells #[.string ⟨#[97]⟩, .string ⟨#[98]⟩] 9)).drew room nx A n c zs (keyM k) (i14 : Int) (decide (0 < k5)) (HM.out.o.rd.below hal) HSF.out hkl2).mono ?_; unfold JoinPost OpPost; rw [HFS.out]; rintro e w2 ⟨A2, n2, c2, z2, rfl, hf, hO0, hb0⟩; have hb : Below wr.heap.size wr w2 := hal.trans (hb0.mono hal.size); have hO := hO0.lower hal.size; clear hO0 hb0 ya0 ya1 ya2; have HN := Lib.hid (HM.out.next (s' := ⟨(joinOp room nx fs (keyM k) (i14 : Int) (decide (0 < k5))).next, (joinOp room nx fs (keyM k) (i14 : Int) (decide (0 < k5))).fs⟩) hO hf hb); have hbx := keep hb HBx.out; clear y0 y1 y2; have y0 : w2.cell? ⟨w.heap.size + 1, 0, none⟩ = some (.int .i64 room) := box_at hbx 0 _ rfl; have y1 : w2.cell? ⟨w.heap.size + 1, 1, none⟩ = some (.int .i64 nx) := box_at hbx 1 _ rfl; have y2 : w2.cell? ⟨w.heap.size + 1, 2, none⟩ = some (.slice A n c) := box_at hbx 2 _ rfl; have yf := box_free hbx; have ney : ¬ w.heap.size = w.heap.size + 1 := (by omega); clear hbx hO hf hb)
                                      go_wp2_with fail
                                      refine hK.out _ _ trivial (fun hHeld => ?_)
                                      clear hK K
                                      try simp only [List.getElem_toArray, List.getElem_cons_succ, List.getElem_cons_zero, Act.put, List.setIfInBounds_toArray, List.set_cons_zero, List.set_cons_succ]
                                      refine wpAnyH_take (i := 12) (oi := _) (v := ?v12j9p7) rfl (by kernel_rfl) (by kernel_rfl) (by kernel_rfl) (fun _ _ _ h => h) (Or.inl ⟨by kernel_rfl, ?y12j9p7⟩) (by assumption) ?r12j9p7
                                      case y12j9p7 => (intro w hSw; (try dsimp only at hSw); go_simp; try (with_reducible rfl))
                                      case r12j9p7 =>
                                        simp only [List.getElem_toArray, List.getElem_cons_succ, List.getElem_cons_zero, Act.put, List.setIfInBounds_toArray, List.set_cons_zero, List.set_cons_succ]
                                        refine wpAnyH_take (i := 13) (oi := _) (v := ?v13j10p7) rfl (by kernel_rfl) (by kernel_rfl) (by kernel_rfl) (fun _ _ _ h => h) (Or.inl ⟨by kernel_rfl, ?y13j10p7⟩) (by assumption) ?r13j10p7
                                        case y13j10p7 => (intro w hSw; (try dsimp only at hSw); go_simp; try (with_reducible rfl))
                                        case r13j10p7 =>
                                          simp only [List.getElem_toArray, List.getElem_cons_succ, List.getElem_cons_zero, Act.put, List.setIfInBounds_toArray, List.set_cons_zero, List.set_cons_succ]
                                          refine wpAnyH_take (i := 14) (oi := _) (v := ?v14j11p7) rfl (by kernel_rfl) (by kernel_rfl) (by kernel_rfl) (fun _ _ _ h => h) (Or.inl ⟨by kernel_rfl, ?y14j11p7⟩) (by assumption) ?r14j11p7
                                          case y14j11p7 => (intro w hSw; (try dsimp only at hSw); go_simp; try (with_reducible rfl))
                                          case r14j11p7 =>
                                            simp only [List.getElem_toArray, List.getElem_cons_succ, List.getElem_cons_zero, Act.put, List.setIfInBounds_toArray, List.set_cons_zero, List.set_cons_succ]
                                            refine wpAnyH_take (i := 15) (oi := _) (v := ?v15j12p7) rfl (by kernel_rfl) (by kernel_rfl) (by kernel_rfl) (fun _ _ _ h => h) (Or.inl ⟨by kernel_rfl, ?y15j12p7⟩) (by assumption) ?r15j12p7
                                            case y15j12p7 => (intro w hSw; (try dsimp only at hSw); go_simp; try (with_reducible rfl))
                                            case r15j12p7 =>
                                              simp only [List.getElem_toArray, List.getElem_cons_succ, List.getElem_cons_zero, Act.put, List.setIfInBounds_toArray, List.set_cons_zero, List.set_cons_succ]
                                              refine wpAnyH_take (i := 16) (oi := _) (v := ?v16j13p7) rfl (by kernel_rfl) (by kernel_rfl) (by kernel_rfl) (fun _ _ _ h => h) (Or.inl ⟨by kernel_rfl, ?y16j13p7⟩) (by assumption) ?r16j13p7
                                              case y16j13p7 => (intro w hSw; (try dsimp only at hSw); go_simp; try (with_reducible rfl))
                                              case r16j13p7 =>
                                                simp only [List.getElem_toArray, List.getElem_cons_succ, List.getElem_cons_zero, Act.put, List.setIfInBounds_toArray, List.set_cons_zero, List.set_cons_succ]
                                                refine wpAnyH_ready (rs := [17]) (by kernel_rfl) (by simp) ?_
                                                refine AllReadyH.cons (o := _) rfl (fun K hK => ?_) (AllReadyH.nil)
                                                · go_simp
                                                  go_wp2_with fail
                                                  refine hK.out _ _ trivial (fun hHeld => ?_)
                                                  clear hK K
                                                  try simp only [List.getElem_toArray, List.getElem_cons_succ, List.getElem_cons_zero, Act.put, List.setIfInBounds_toArray, List.set_cons_zero, List.set_cons_succ]
                                                  refine wpAnyH_done (by kernel_rfl) ?_ _
                                                  go_wp2_with fail
                                                  go_roundg (min nl 60 - (kk + 1))
                                                  case measure => omega
                                                  case rel =>
                                                    refine ⟨kk + 1, by omega, by omega, by go_num, A2, n2, c2, z2, ?_⟩
                                                    show Aside _
                                                    rw [HNX.out, HST.out]
                                                    exact HN.out
                            · go_simp
                              go_wp2_with fail
                              refine hK.out _ _ trivial (fun hHeld => ?_)
                              clear hK K
                              try simp only [List.getElem_toArray, List.getElem_cons_succ, List.getElem_cons_zero, Act.put, List.setIfInBounds_toArray, List.set_cons_zero, List.set_cons_succ]
                              refine wpAnyH_take (i := 4) (oi := _) (v := ?v4j14p7) rfl (by kernel_rfl) (by kernel_rfl) (by kernel_rfl) (fun _ _ _ h => h) (Or.inl ⟨by kernel_rfl, ?y4j14p7⟩) (by assumption) ?r4j14p7
                              case y4j14p7 => (intro w hSw; (try dsimp only at hSw); go_simp; try (with_reducible rfl))
                              case r4j14p7 =>
                                simp only [List.getElem_toArray, List.getElem_cons_succ, List.getElem_cons_zero, Act.put, List.setIfInBounds_toArray, List.set_cons_zero, List.set_cons_succ]
                                refine wpAnyH_ready (rs := [0, 5]) (by kernel_rfl) (by simp) ?_
                                refine AllReadyH.cons (o := _) rfl (fun K hK => ?_) (AllReadyH.cons (o := _) rfl (fun K hK => ?_) (AllReadyH.nil))
                                · go_simp
                                  go_wp2_with fail
                                  refine hK.out _ _ trivial (fun hHeld => ?_)
                                  clear hK K
                                  try simp only [List.getElem_toArray, List.getElem_cons_succ, List.getElem_cons_zero, Act.put, List.setIfInBounds_toArray, List.set_cons_zero, List.set_cons_succ]
                                  refine wpAnyH_ready (rs := [5]) (by kernel_rfl) (by simp) ?_
                                  refine AllReadyH.cons (o := _) rfl (fun K hK => ?_) (AllReadyH.nil)
                                  · go_simp
                                    go_wp2_with fail
                                    refine hK.out _ _ trivial (fun hHeld => ?_)
                                    clear hK K
                                    try simp only [List.getElem_toArray, List.getElem_cons_succ, List.getElem_cons_zero, Act.put, List.setIfInBounds_toArray, List.set_cons_zero, List.set_cons_succ]
                                    refine wpAnyH_ready (rs := [11]) (by kernel_rfl) (by simp) ?_
                                    refine AllReadyH.cons (o := _) rfl (fun K hK => ?_) (AllReadyH.nil)
                                    · go_simp
                                      (go_at_call 17; (try simp only [hkv]); refine (rjoin_any (wr.alloc (.cells #[.string ⟨#[97]⟩, .string ⟨#[98]⟩] 9)).drew room nx A n c zs (keyM k) (i14 : Int) (decide (0 < k5)) (HM.out.o.rd.below hal) HSF.out hkl2).mono ?_; unfold JoinPost OpPost; rw [HFS.out]; rintro e w2 ⟨A2, n2, c2, z2, rfl, hf, hO0, hb0⟩; have hb : Below wr.heap.size wr w2 := hal.trans (hb0.mono hal.size); have hO := hO0.lower hal.size; clear hO0 hb0 ya0 ya1 ya2; have HN := Lib.hid (HM.out.next (s' := ⟨(joinOp room nx fs (keyM k) (i14 : Int) (decide (0 < k5))).next, (joinOp room nx fs (keyM k) (i14 : Int) (decide (0 < k5))).fs⟩) hO hf hb); have hbx := keep hb HBx.out; clear y0 y1 y2; have y0 : w2.cell? ⟨w.heap.size + 1, 0, none⟩ = some (.int .i64 room) := box_at hbx 0 _ rfl; have y1 : w2.cell? ⟨w.heap.size + 1, 1, none⟩ = some (.int .i64 nx) := box_at hbx 1 _ rfl; have y2 : w2.cell? ⟨w.heap.size + 1, 2, none⟩ = some (.slice A n c) := box_at hbx 2 _ rfl; have yf := box_free hbx; have ney : ¬ w.heap.size = w.heap.size + 1 := (by omega); clear hbx hO hf hb)
                                      go_wp2_with fail
                                      refine hK.out _ _ trivial (fun hHeld => ?_)
                                      clear hK K
                                      try simp only [List.getElem_toArray, List.getElem_cons_succ, List.getElem_cons_zero, Act.put, List.setIfInBounds_toArray, List.set_cons_zero, List.set_cons_succ]
                                      refine wpAnyH_take (i := 12) (oi := _) (v := ?v12j15p7) rfl (by kernel_rfl) (by kernel_rfl) (by kernel_rfl) (fun _ _ _ h => h) (Or.inl ⟨by kernel_rfl, ?y12j15p7⟩) (by assumption) ?r12j15p7
                                      case y12j15p7 => (intro w hSw; (try dsimp only at hSw); go_simp; try (with_reducible rfl))
                                      case r12j15p7 =>
                                        simp only [List.getElem_toArray, List.getElem_cons_succ, List.getElem_cons_zero, Act.put, List.setIfInBounds_toArray, List.set_cons_zero, List.set_cons_succ]
                                        refine wpAnyH_take (i := 13) (oi := _) (v := ?v13j16p7) rfl (by kernel_rfl) (by kernel_rfl) (by kernel_rfl) (fun _ _ _ h => h) (Or.inl ⟨by kernel_rfl, ?y13j16p7⟩) (by assumption) ?r13j16p7
                                        case y13j16p7 => (intro w hSw; (try dsimp only at hSw); go_simp; try (with_reducible rfl))
                                        case r13j16p7 =>
                                          simp only [List.getElem_toArray, List.getElem_cons_succ, List.getElem_cons_zero, Act.put, List.setIfInBounds_toArray, List.set_cons_zero, List.set_cons_succ]
                                          refine wpAnyH_take (i := 14) (oi := _) (v := ?v14j17p7) rfl (by kernel_rfl) (by kernel_rfl) (by kernel_rfl) (fun _ _ _ h => h) (Or.inl ⟨by kernel_rfl, ?y14j17p7⟩) (by assumption) ?r14j17p7
                                          case y14j17p7 => (intro w hSw; (try dsimp only at hSw); go_simp; try (with_reducible rfl))
                                          case r14j17p7 =>
                                            simp only [List.getElem_toArray, List.getElem_cons_succ, List.getElem_cons_zero, Act.put, List.setIfInBounds_toArray, List.set_cons_zero, List.set_cons_succ]
                                            refine wpAnyH_take (i := 15) (oi := _) (v := ?v15j18p7) rfl (by kernel_rfl) (by kernel_rfl) (by kernel_rfl) (fun _ _ _ h => h) (Or.inl ⟨by kernel_rfl, ?y15j18p7⟩) (by assumption) ?r15j18p7
                                            case y15j18p7 => (intro w hSw; (try dsimp only at hSw); go_simp; try (with_reducible rfl))
                                            case r15j18p7 =>
                                              simp only [List.getElem_toArray, List.getElem_cons_succ, List.getElem_cons_zero, Act.put, List.setIfInBounds_toArray, List.set_cons_zero, List.set_cons_succ]
                                              refine wpAnyH_take (i := 16) (oi := _) (v := ?v16j19p7) rfl (by kernel_rfl) (by kernel_rfl) (by kernel_rfl) (fun _ _ _ h => h) (Or.inl ⟨by kernel_rfl, ?y16j19p7⟩) (by assumption) ?r16j19p7
                                              case y16j19p7 => (intro w hSw; (try dsimp only at hSw); go_simp; try (with_reducible rfl))
                                              case r16j19p7 =>
                                                simp only [List.getElem_toArray, List.getElem_cons_succ, List.getElem_cons_zero, Act.put, List.setIfInBounds_toArray, List.set_cons_zero, List.set_cons_succ]
                                                refine wpAnyH_ready (rs := [17]) (by kernel_rfl) (by simp) ?_
                                                refine AllReadyH.cons (o := _) rfl (fun K hK => ?_) (AllReadyH.nil)
                                                · go_simp
                                                  go_wp2_with fail
                                                  refine hK.out _ _ trivial (fun hHeld => ?_)
                                                  clear hK K
                                                  try simp only [List.getElem_toArray, List.getElem_cons_succ, List.getElem_cons_zero, Act.put, List.setIfInBounds_toArray, List.set_cons_zero, List.set_cons_succ]
                                                  refine wpAnyH_done (by kernel_rfl) ?_ _
                                                  go_wp2_with fail
                                                  go_roundg (min nl 60 - (kk + 1))
                                                  case measure => omega
                                                  case rel =>
                                                    refine ⟨kk + 1, by omega, by omega, by go_num, A2, n2, c2, z2, ?_⟩
                                                    show Aside _
                                                    rw [HNX.out, HST.out]
                                                    exact HN.out
                                · go_simp
                                  go_wp2_with fail
                                  refine hK.out _ _ trivial (fun hHeld => ?_)
                                  clear hK K
                                  try simp only [List.getElem_toArray, List.getElem_cons_succ, List.getElem_cons_zero, Act.put, List.setIfInBounds_toArray, List.set_cons_zero, List.set_cons_succ]
                                  refine wpAnyH_ready (rs := [0]) (by kernel_rfl) (by simp) ?_
                                  refine AllReadyH.cons (o := _) rfl (fun K hK => ?_) (AllReadyH.nil)
                                  · go_simp
                                    go_wp2_with fail
                                    refine hK.out _ _ trivial (fun hHeld => ?_)
                                    clear hK K
                                    try simp only [List.getElem_toArray, List.getElem_cons_succ, List.getElem_cons_zero, Act.put, List.setIfInBounds_toArray, List.set_cons_zero, List.set_cons_succ]
                                    refine wpAnyH_ready (rs := [11]) (by kernel_rfl) (by simp) ?_
                                    refine AllReadyH.cons (o := _) rfl (fun K hK => ?_) (AllReadyH.nil)
                                    · go_simp
                                      (go_at_call 17; (try simp only [hkv]); refine (rjoin_any (wr.alloc (.cells #[.string ⟨#[97]⟩, .string ⟨#[98]⟩] 9)).drew room nx A n c zs (keyM k) (i14 : Int) (decide (0 < k5)) (HM.out.o.rd.below hal) HSF.out hkl2).mono ?_; unfold JoinPost OpPost; rw [HFS.out]; rintro e w2 ⟨A2, n2, c2, z2, rfl, hf, hO0, hb0⟩; have hb : Below wr.heap.size wr w2 := hal.trans (hb0.mono hal.size); have hO := hO0.lower hal.size; clear hO0 hb0 ya0 ya1 ya2; have HN := Lib.hid (HM.out.next (s' := ⟨(joinOp room nx fs (keyM k) (i14 : Int) (decide (0 < k5))).next, (joinOp room nx fs (keyM k) (i14 : Int) (decide (0 < k5))).fs⟩) hO hf hb); have hbx := keep hb HBx.out; clear y0 y1 y2; have y0 : w2.cell? ⟨w.heap.size + 1, 0, none⟩ = some (.int .i64 room) := box_at hbx 0 _ rfl; have y1 : w2.cell? ⟨w.heap.size + 1, 1, none⟩ = some (.int .i64 nx) := box_at hbx 1 _ rfl; have y2 : w2.cell? ⟨w.heap.size + 1, 2, none⟩ = some (.slice A n c) := box_at hbx 2 _ rfl; have yf := box_free hbx; have ney : ¬ w.heap.size = w.heap.size + 1 := (by omega); clear hbx hO hf hb)
                                      go_wp2_with fail
                                      refine hK.out _ _ trivial (fun hHeld => ?_)
                                      clear hK K
                                      try simp only [List.getElem_toArray, List.getElem_cons_succ, List.getElem_cons_zero, Act.put, List.setIfInBounds_toArray, List.set_cons_zero, List.set_cons_succ]
                                      refine wpAnyH_take (i := 12) (oi := _) (v := ?v12j20p7) rfl (by kernel_rfl) (by kernel_rfl) (by kernel_rfl) (fun _ _ _ h => h) (Or.inl ⟨by kernel_rfl, ?y12j20p7⟩) (by assumption) ?r12j20p7
                                      case y12j20p7 => (intro w hSw; (try dsimp only at hSw); go_simp; try (with_reducible rfl))
                                      case r12j20p7 =>
                                        simp only [List.getElem_toArray, List.getElem_cons_succ, List.getElem_cons_zero, Act.put, List.setIfInBounds_toArray, List.set_cons_zero, List.set_cons_succ]
                                        refine wpAnyH_take (i := 13) (oi := _) (v := ?v13j21p7) rfl (by kernel_rfl) (by kernel_rfl) (by kernel_rfl) (fun _ _ _ h => h) (Or.inl ⟨by kernel_rfl, ?y13j21p7⟩) (by assumption) ?r13j21p7
                                        case y13j21p7 => (intro w hSw; (try dsimp only at hSw); go_simp; try (with_reducible rfl))
                                        case r13j21p7 =>
                                          simp only [List.getElem_toArray, List.getElem_cons_succ, List.getElem_cons_zero, Act.put, List.setIfInBounds_toArray, List.set_cons_zero, List.set_cons_succ]
                                          refine wpAnyH_take (i := 14) (oi := _) (v := ?v14j22p7) rfl (by kernel_rfl) (by kernel_rfl) (by kernel_rfl) (fun _ _ _ h => h) (Or.inl ⟨by kernel_rfl, ?y14j22p7⟩) (by assumption) ?r14j22p7
                                          case y14j22p7 => (intro w hSw; (try dsimp only at hSw); go_simp; try (with_reducible rfl))
                                          case r14j22p7 =>
                                            simp only [List.getElem_toArray, List.getElem_cons_succ, List.getElem_cons_zero, Act.put, List.setIfInBounds_toArray, List.set_cons_zero, List.set_cons_succ]
                                            refine wpAnyH_take (i := 15) (oi := _) (v := ?v15j23p7) rfl (by kernel_rfl) (by kernel_rfl) (by kernel_rfl) (fun _ _ _ h => h) (Or.inl ⟨by kernel_rfl, ?y15j23p7⟩) (by assumption) ?r15j23p7
                                            case y15j23p7 => (intro w hSw; (try dsimp only at hSw); go_simp; try (with_reducible rfl))
                                            case r15j23p7 =>
                                              simp only [List.getElem_toArray, List.getElem_cons_succ, List.getElem_cons_zero, Act.put, List.setIfInBounds_toArray, List.set_cons_zero, List.set_cons_succ]
                                              refine wpAnyH_take (i := 16) (oi := _) (v := ?v16j24p7) rfl (by kernel_rfl) (by kernel_rfl) (by kernel_rfl) (fun _ _ _ h => h) (Or.inl ⟨by kernel_rfl, ?y16j24p7⟩) (by assumption) ?r16j24p7
                                              case y16j24p7 => (intro w hSw; (try dsimp only at hSw); go_simp; try (with_reducible rfl))
                                              case r16j24p7 =>
                                                simp only [List.getElem_toArray, List.getElem_cons_succ, List.getElem_cons_zero, Act.put, List.setIfInBounds_toArray, List.set_cons_zero, List.set_cons_succ]
                                                refine wpAnyH_ready (rs := [17]) (by kernel_rfl) (by simp) ?_
                                                refine AllReadyH.cons (o := _) rfl (fun K hK => ?_) (AllReadyH.nil)
                                                · go_simp
                                                  go_wp2_with fail
                                                  refine hK.out _ _ trivial (fun hHeld => ?_)
                                                  clear hK K
                                                  try simp only [List.getElem_toArray, List.getElem_cons_succ, List.getElem_cons_zero, Act.put, List.setIfInBounds_toArray, List.set_cons_zero, List.set_cons_succ]
                                                  refine wpAnyH_done (by kernel_rfl) ?_ _
                                                  go_wp2_with fail
                                                  go_roundg (min nl 60 - (kk + 1))
                                                  case measure => omega
                                                  case rel =>
                                                    refine ⟨kk + 1, by omega, by omega, by go_num, A2, n2, c2, z2, ?_⟩
                                                    show Aside _
                                                    rw [HNX.out, HST.out]
                                                    exact HN.out
            · have HST := Lib.hid (stepM_join (room := room) (s := ⟨nx, fs⟩) (i := kk) (b := x) (by rw [HR8.out]; omega) HK.out)
              clear HR8 hr8'
              obtain ⟨k2, hk2⟩ : ∃ q, k % 2 = q := ⟨_, rfl⟩
              have tk2 : (k : Int).tmod 2 = (k2 : Int) := tmodM (q := 2) hk2
              have lk2 : k2 < 2 := by omega
              have wk2 : IntKind.i64.wrap (k2 : Int) = (k2 : Int) := wrapM (by omega) (by omega)
              obtain ⟨k5, hk5⟩ : ∃ q, k % 5 = q := ⟨_, rfl⟩
              have tk5 : (k : Int).tmod 5 = (k5 : Int) := tmodM (q := 5) hk5
              have lk5 : k5 < 5 := by omega
              have wk5 : IntKind.i64.wrap (k5 : Int) = (k5 : Int) := wrapM (by omega) (by omega)
              rw [hk5] at HST
              obtain ⟨i14, hi14⟩ : ∃ q, kk % 14 = q := ⟨_, rfl⟩
              have ti14 : (kk : Int).tmod 14 = (i14 : Int) := tmodM (q := 14) hi14
              have li14 : i14 < 14 := by omega
              have wi14 : IntKind.i64.wrap (i14 : Int) = (i14 : Int) := wrapM (by omega) (by omega)
              rw [hi14] at HST
              have wkk : IntKind.i64.wrap (kk : Int) = (kk : Int) := wrapM (by omega) (by omega)
              have hal : Below wr.heap.size wr (wr.alloc (.cells #[.string ⟨#[97]⟩, .string ⟨#[98]⟩] 9)).drew := below_drew ((Below.refl _ _).alloc (Nat.le_refl _) _)
              have ya0 := pw_cell_below hal y0
              have ya1 := pw_cell_below hal y1
              have ya2 := pw_cell_below hal y2
              have hkl2 : (keyM k).length ≤ 100000 := by unfold keyM; split <;> simp
              have hkv : ∀ h, ([Value.string ⟨#[97]⟩, Value.string ⟨#[98]⟩] : List Value)[k2]'h = str (keyM k) := by
                intro h
                unfold keyM
                rw [hk2]
                obtain rfl | rfl : k2 = 0 ∨ k2 = 1 := by omega
                · rfl
                · rfl
              have hk2z : (k2 : Int) < 2 := by omega
              clear hk2 hk5 hi14
              go_upto_region 16 with fail
              refine wp_region_held_drew (S := fun _ => True) (by kernel_rfl) trivial (fun hHeld => ?_)
              refine wpAnyH_take (i := 2) (oi := _) (v := ?v2j1p8) rfl (by kernel_rfl) (by kernel_rfl) (by kernel_rfl) (fun _ _ _ h => h) (Or.inl ⟨by kernel_rfl, ?y2j1p8⟩) (by assumption) ?r2j1p8
              case y2j1p8 => (intro w hSw; (try dsimp only at hSw); go_simp; try (with_reducible rfl))
              case r2j1p8 =>
                simp only [List.getElem_toArray, List.getElem_cons_succ, List.getElem_cons_zero, Act.put, List.setIfInBounds_toArray, List.set_cons_zero, List.set_cons_succ]
                refine wpAnyH_take (i := 3) (oi := _) (v := ?v3j2p8) rfl (by kernel_rfl) (by kernel_rfl) (by kernel_rfl) (fun _ _ _ h => h) (Or.inl ⟨by kernel_rfl, ?y3j2p8⟩) (by assumption) ?r3j2p8
                case y3j2p8 => (intro w hSw; (try dsimp only at hSw); go_simp; try (with_reducible rfl))
                case r3j2p8 =>
                  simp only [List.getElem_toArray, List.getElem_cons_succ, List.getElem_cons_zero, Act.put, List.setIfInBounds_toArray, List.set_cons_zero, List.set_cons_succ]
                  refine wpAnyH_take (i := 6) (oi := _) (v := ?v6j3p8) rfl (by kernel_rfl) (by kernel_rfl) (by kernel_rfl) (fun _ _ _ h => h) (Or.inl ⟨by kernel_rfl, ?y6j3p8⟩) (by assumption) ?r6j3p8
                  case y6j3p8 => (intro w hSw; (try dsimp only at hSw); go_simp; try (with_reducible rfl))
                  case r6j3p8 =>
                    simp only [List.getElem_toArray, List.getElem_cons_succ, List.getElem_cons_zero, Act.put, List.setIfInBounds_toArray, List.set_cons_zero, List.set_cons_succ]
                    refine wpAnyH_take (i := 7) (oi := _) (v := ?v7j4p8) rfl (by kernel_rfl) (by kernel_rfl) (by kernel_rfl) (fun _ _ _ h => h) (Or.inl ⟨by kernel_rfl, ?y7j4p8⟩) (by assumption) ?r7j4p8
                    case y7j4p8 => (intro w hSw; (try dsimp only at hSw); go_simp; try (with_reducible rfl))
                    case r7j4p8 =>
                      simp only [List.getElem_toArray, List.getElem_cons_succ, List.getElem_cons_zero, Act.put, List.setIfInBounds_toArray, List.set_cons_zero, List.set_cons_succ]
                      refine wpAnyH_take (i := 8) (oi := _) (v := ?v8j5p8) rfl (by kernel_rfl) (by kernel_rfl) (by kernel_rfl) (fun _ _ _ h => h) (Or.inl ⟨by kernel_rfl, ?y8j5p8⟩) (by assumption) ?r8j5p8
                      case y8j5p8 => (intro w hSw; (try dsimp only at hSw); go_simp; try (with_reducible rfl))
                      case r8j5p8 =>
                        simp only [List.getElem_toArray, List.getElem_cons_succ, List.getElem_cons_zero, Act.put, List.setIfInBounds_toArray, List.set_cons_zero, List.set_cons_succ]
                        refine wpAnyH_take (i := 9) (oi := _) (v := ?v9j6p8) rfl (by kernel_rfl) (by kernel_rfl) (by kernel_rfl) (fun _ _ _ h => h) (Or.inl ⟨by kernel_rfl, ?y9j6p8⟩) (by assumption) ?r9j6p8
                        case y9j6p8 => (intro w hSw; (try dsimp only at hSw); go_simp; try (with_reducible rfl))
                        case r9j6p8 =>
                          simp only [List.getElem_toArray, List.getElem_cons_succ, List.getElem_cons_zero, Act.put, List.setIfInBounds_toArray, List.set_cons_zero, List.set_cons_succ]
                          refine wpAnyH_take (i := 10) (oi := _) (v := ?v10j7p8) rfl (by kernel_rfl) (by kernel_rfl) (by kernel_rfl) (fun _ _ _ h => h) (Or.inl ⟨by kernel_rfl, ?y10j7p8⟩) (by assumption) ?r10j7p8
                          case y10j7p8 => (intro w hSw; (try dsimp only at hSw); go_simp; try (with_reducible rfl))
                          case r10j7p8 =>
                            simp only [List.getElem_toArray, List.getElem_cons_succ, List.getElem_cons_zero, Act.put, List.setIfInBounds_toArray, List.set_cons_zero, List.set_cons_succ]
                            refine wpAnyH_ready (rs := [0, 1]) (by kernel_rfl) (by simp) ?_
                            refine AllReadyH.cons (o := _) rfl (fun K hK => ?_) (AllReadyH.cons (o := _) rfl (fun K hK => ?_) (AllReadyH.nil))
                            · go_simp
                              go_wp2_with fail
                              refine hK.out _ _ trivial (fun hHeld => ?_)
                              clear hK K
                              try simp only [List.getElem_toArray, List.getElem_cons_succ, List.getElem_cons_zero, Act.put, List.setIfInBounds_toArray, List.set_cons_zero, List.set_cons_succ]
                              refine wpAnyH_ready (rs := [1]) (by kernel_rfl) (by simp) ?_
                              refine AllReadyH.cons (o := _) rfl (fun K hK => ?_) (AllReadyH.nil)
                              · go_simp
                                go_wp2_with fail
                                refine hK.out _ _ trivial (fun hHeld => ?_)
                                clear hK K
                                try simp only [List.getElem_toArray, List.getElem_cons_succ, List.getElem_cons_zero, Act.put, List.setIfInBounds_toArray, List.set_cons_zero, List.set_cons_succ]
                                refine wpAnyH_take (i := 4) (oi := _) (v := ?v4j8p8) rfl (by kernel_rfl) (by kernel_rfl) (by kernel_rfl) (fun _ _ _ h => h) (Or.inl ⟨by kernel_rfl, ?y4j8p8⟩) (by assumption) ?r4j8p8
                                case y4j8p8 => (intro w hSw; (try dsimp only at hSw); go_simp; try (with_reducible rfl))
                                case r4j8p8 =>
                                  simp only [List.getElem_toArray, List.getElem_cons_succ, List.getElem_cons_zero, Act.put, List.setIfInBounds_toArray, List.set_cons_zero, List.set_cons_succ]
                                  refine wpAnyH_ready (rs := [5]) (by kernel_rfl) (by simp) ?_
                                  refine AllReadyH.cons (o := _) rfl (fun K hK => ?_) (AllReadyH.nil)
                                  · go_simp
                                    go_wp2_with fail
                                    refine hK.out _ _ trivial (fun hHeld => ?_)
                                    clear hK K
                                    try simp only [List.getElem_toArray, List.getElem_cons_succ, List.getElem_cons_zero, Act.put, List.setIfInBounds_toArray, List.set_cons_zero, List.set_cons_succ]
                                    refine wpAnyH_ready (rs := [11]) (by kernel_rfl) (by simp) ?_
                                    refine AllReadyH.cons (o := _) rfl (fun K hK => ?_) (AllReadyH.nil)
                                    · go_simp
                                      (go_at_call 17; (try simp only [hkv]); refine (rjoin_any (wr.alloc (.cells #[.string ⟨#[97]⟩, .string ⟨#[98]⟩] 9)).drew room nx A n c zs (keyM k) (i14 : Int) (decide (0 < k5)) (HM.out.o.rd.below hal) HSF.out hkl2).mono ?_; unfold JoinPost OpPost; rw [HFS.out]; rintro e w2 ⟨A2, n2, c2, z2, rfl, hf, hO0, hb0⟩; have hb : Below wr.heap.size wr w2 := hal.trans (hb0.mono hal.size); have hO := hO0.lower hal.size; clear hO0 hb0 ya0 ya1 ya2; have HN := Lib.hid (HM.out.next (s' := ⟨(joinOp room nx fs (keyM k) (i14 : Int) (decide (0 < k5))).next, (joinOp room nx fs (keyM k) (i14 : Int) (decide (0 < k5))).fs⟩) hO hf hb); have hbx := keep hb HBx.out; clear y0 y1 y2; have y0 : w2.cell? ⟨w.heap.size + 1, 0, none⟩ = some (.int .i64 room) := box_at hbx 0 _ rfl; have y1 : w2.cell? ⟨w.heap.size + 1, 1, none⟩ = some (.int .i64 nx) := box_at hbx 1 _ rfl; have y2 : w2.cell? ⟨w.heap.size + 1, 2, none⟩ = some (.slice A n c) := box_at hbx 2 _ rfl; have yf := box_free hbx; have ney : ¬ w.heap.size = w.heap.size + 1 := (by omega); clear hbx hO hf hb)
                                      go_wp2_with fail
                                      refine hK.out _ _ trivial (fun hHeld => ?_)
                                      clear hK K
                                      try simp only [List.getElem_toArray, List.getElem_cons_succ, List.getElem_cons_zero, Act.put, List.setIfInBounds_toArray, List.set_cons_zero, List.set_cons_succ]
                                      refine wpAnyH_take (i := 12) (oi := _) (v := ?v12j9p8) rfl (by kernel_rfl) (by kernel_rfl) (by kernel_rfl) (fun _ _ _ h => h) (Or.inl ⟨by kernel_rfl, ?y12j9p8⟩) (by assumption) ?r12j9p8
                                      case y12j9p8 => (intro w hSw; (try dsimp only at hSw); go_simp; try (with_reducible rfl))
                                      case r12j9p8 =>
                                        simp only [List.getElem_toArray, List.getElem_cons_succ, List.getElem_cons_zero, Act.put, List.setIfInBounds_toArray, List.set_cons_zero, List.set_cons_succ]
                                        refine wpAnyH_take (i := 13) (oi := _) (v := ?v13j10p8) rfl (by kernel_rfl) (by kernel_rfl) (by kernel_rfl) (fun _ _ _ h => h) (Or.inl ⟨by kernel_rfl, ?y13j10p8⟩) (by assumption) ?r13j10p8
                                        case y13j10p8 => (intro w hSw; (try dsimp only at hSw); go_simp; try (with_reducible rfl))
                                        case r13j10p8 =>
                                          simp only [List.getElem_toArray, List.getElem_cons_succ, List.getElem_cons_zero, Act.put, List.setIfInBounds_toArray, List.set_cons_zero, List.set_cons_succ]
                                          refine wpAnyH_take (i := 14) (oi := _) (v := ?v14j11p8) rfl (by kernel_rfl) (by kernel_rfl) (by kernel_rfl) (fun _ _ _ h => h) (Or.inl ⟨by kernel_rfl, ?y14j11p8⟩) (by assumption) ?r14j11p8
                                          case y14j11p8 => (intro w hSw; (try dsimp only at hSw); go_simp; try (with_reducible rfl))
                                          case r14j11p8 =>
                                            simp only [List.getElem_toArray, List.getElem_cons_succ, List.getElem_cons_zero, Act.put, List.setIfInBounds_toArray, List.set_cons_zero, List.set_cons_succ]
                                            refine wpAnyH_take (i := 15) (oi := _) (v := ?v15j12p8) rfl (by kernel_rfl) (by kernel_rfl) (by kernel_rfl) (fun _ _ _ h => h) (Or.inl ⟨by kernel_rfl, ?y15j12p8⟩) (by assumption) ?r15j12p8
                                            case y15j12p8 => (intro w hSw; (try dsimp only at hSw); go_simp; try (with_reducible rfl))
                                            case r15j12p8 =>
                                              simp only [List.getElem_toArray, List.getElem_cons_succ, List.getElem_cons_zero, Act.put, List.setIfInBounds_toArray, List.set_cons_zero, List.set_cons_succ]
                                              refine wpAnyH_take (i := 16) (oi := _) (v := ?v16j13p8) rfl (by kernel_rfl) (by kernel_rfl) (by kernel_rfl) (fun _ _ _ h => h) (Or.inl ⟨by kernel_rfl, ?y16j13p8⟩) (by assumption) ?r16j13p8
                                              case y16j13p8 => (intro w hSw; (try dsimp only at hSw); go_simp; try (with_reducible rfl))
                                              case r16j13p8 =>
                                                simp only [List.getElem_toArray, List.getElem_cons_succ, List.getElem_cons_zero, Act.put, List.setIfInBounds_toArray, List.set_cons_zero, List.set_cons_succ]
                                                refine wpAnyH_ready (rs := [17]) (by kernel_rfl) (by simp) ?_
                                                refine AllReadyH.cons (o := _) rfl (fun K hK => ?_) (AllReadyH.nil)
                                                · go_simp
                                                  go_wp2_with fail
                                                  refine hK.out _ _ trivial (fun hHeld => ?_)
                                                  clear hK K
                                                  try simp only [List.getElem_toArray, List.getElem_cons_succ, List.getElem_cons_zero, Act.put, List.setIfInBounds_toArray, List.set_cons_zero, List.set_cons_succ]
                                                  refine wpAnyH_done (by kernel_rfl) ?_ _
                                                  go_wp2_with fail
                                                  go_roundg (min nl 60 - (kk + 1))
                                                  case measure => omega
                                                  case rel =>
                                                    refine ⟨kk + 1, by omega, by omega, by go_num, A2, n2, c2, z2, ?_⟩
                                                    show Aside _
                                                    rw [HNX.out, HST.out]
                                                    exact HN.out
                            · go_simp
                              go_wp2_with fail
                              refine hK.out _ _ trivial (fun hHeld => ?_)
                              clear hK K
                              try simp only [List.getElem_toArray, List.getElem_cons_succ, List.getElem_cons_zero, Act.put, List.setIfInBounds_toArray, List.set_cons_zero, List.set_cons_succ]
                              refine wpAnyH_take (i := 4) (oi := _) (v := ?v4j14p8) rfl (by kernel_rfl) (by kernel_rfl) (by kernel_rfl) (fun _ _ _ h => h) (Or.inl ⟨by kernel_rfl, ?y4j14p8⟩) (by assumption) ?r4j14p8
                              case y4j14p8 => (intro w hSw; (try dsimp only at hSw); go_simp; try (with_reducible rfl))
                              case r4j14p8 =>
                                simp only [List.getElem_toArray, List.getElem_cons_succ, List.getElem_cons_zero, Act.put, List.setIfInBounds_toArray, List.set_cons_zero, List.set_cons_succ]
                                refine wpAnyH_ready (rs := [0, 5]) (by kernel_rfl) (by simp) ?_
                                refine AllReadyH.cons (o := _) rfl (fun K hK => ?_) (AllReadyH.cons (o := _) rfl (fun K hK => ?_) (AllReadyH.nil))
                                · go_simp
                                  go_wp2_with fail
                                  refine hK.out _ _ trivial (fun hHeld => ?_)
                                  clear hK K
                                  try simp only [List.getElem_toArray, List.getElem_cons_succ, List.getElem_cons_zero, Act.put, List.setIfInBounds_toArray, List.set_cons_zero, List.set_cons_succ]
                                  refine wpAnyH_ready (rs := [5]) (by kernel_rfl) (by simp) ?_
                                  refine AllReadyH.cons (o := _) rfl (fun K hK => ?_) (AllReadyH.nil)
                                  · go_simp
                                    go_wp2_with fail
                                    refine hK.out _ _ trivial (fun hHeld => ?_)
                                    clear hK K
                                    try simp only [List.getElem_toArray, List.getElem_cons_succ, List.getElem_cons_zero, Act.put, List.setIfInBounds_toArray, List.set_cons_zero, List.set_cons_succ]
                                    refine wpAnyH_ready (rs := [11]) (by kernel_rfl) (by simp) ?_
                                    refine AllReadyH.cons (o := _) rfl (fun K hK => ?_) (AllReadyH.nil)
                                    · go_simp
                                      (go_at_call 17; (try simp only [hkv]); refine (rjoin_any (wr.alloc (.cells #[.string ⟨#[97]⟩, .string ⟨#[98]⟩] 9)).drew room nx A n c zs (keyM k) (i14 : Int) (decide (0 < k5)) (HM.out.o.rd.below hal) HSF.out hkl2).mono ?_; unfold JoinPost OpPost; rw [HFS.out]; rintro e w2 ⟨A2, n2, c2, z2, rfl, hf, hO0, hb0⟩; have hb : Below wr.heap.size wr w2 := hal.trans (hb0.mono hal.size); have hO := hO0.lower hal.size; clear hO0 hb0 ya0 ya1 ya2; have HN := Lib.hid (HM.out.next (s' := ⟨(joinOp room nx fs (keyM k) (i14 : Int) (decide (0 < k5))).next, (joinOp room nx fs (keyM k) (i14 : Int) (decide (0 < k5))).fs⟩) hO hf hb); have hbx := keep hb HBx.out; clear y0 y1 y2; have y0 : w2.cell? ⟨w.heap.size + 1, 0, none⟩ = some (.int .i64 room) := box_at hbx 0 _ rfl; have y1 : w2.cell? ⟨w.heap.size + 1, 1, none⟩ = some (.int .i64 nx) := box_at hbx 1 _ rfl; have y2 : w2.cell? ⟨w.heap.size + 1, 2, none⟩ = some (.slice A n c) := box_at hbx 2 _ rfl; have yf := box_free hbx; have ney : ¬ w.heap.size = w.heap.size + 1 := (by omega); clear hbx hO hf hb)
                                      go_wp2_with fail
                                      refine hK.out _ _ trivial (fun hHeld => ?_)
                                      clear hK K
                                      try simp only [List.getElem_toArray, List.getElem_cons_succ, List.getElem_cons_zero, Act.put, List.setIfInBounds_toArray, List.set_cons_zero, List.set_cons_succ]
                                      refine wpAnyH_take (i := 12) (oi := _) (v := ?v12j15p8) rfl (by kernel_rfl) (by kernel_rfl) (by kernel_rfl) (fun _ _ _ h => h) (Or.inl ⟨by kernel_rfl, ?y12j15p8⟩) (by assumption) ?r12j15p8
                                      case y12j15p8 => (intro w hSw; (try dsimp only at hSw); go_simp; try (with_reducible rfl))
                                      case r12j15p8 =>
                                        simp only [List.getElem_toArray, List.getElem_cons_succ, List.getElem_cons_zero, Act.put, List.setIfInBounds_toArray, List.set_cons_zero, List.set_cons_succ]
                                        refine wpAnyH_take (i := 13) (oi := _) (v := ?v13j16p8) rfl (by kernel_rfl) (by kernel_rfl) (by kernel_rfl) (fun _ _ _ h => h) (Or.inl ⟨by kernel_rfl, ?y13j16p8⟩) (by assumption) ?r13j16p8
                                        case y13j16p8 => (intro w hSw; (try dsimp only at hSw); go_simp; try (with_reducible rfl))
                                        case r13j16p8 =>
                                          simp only [List.getElem_toArray, List.getElem_cons_succ, List.getElem_cons_zero, Act.put, List.setIfInBounds_toArray, List.set_cons_zero, List.set_cons_succ]
                                          refine wpAnyH_take (i := 14) (oi := _) (v := ?v14j17p8) rfl (by kernel_rfl) (by kernel_rfl) (by kernel_rfl) (fun _ _ _ h => h) (Or.inl ⟨by kernel_rfl, ?y14j17p8⟩) (by assumption) ?r14j17p8
                                          case y14j17p8 => (intro w hSw; (try dsimp only at hSw); go_simp; try (with_reducible rfl))
                                          case r14j17p8 =>
                                            simp only [List.getElem_toArray, List.getElem_cons_succ, List.getElem_cons_zero, Act.put, List.setIfInBounds_toArray, List.set_cons_zero, List.set_cons_succ]
                                            refine wpAnyH_take (i := 15) (oi := _) (v := ?v15j18p8) rfl (by kernel_rfl) (by kernel_rfl) (by kernel_rfl) (fun _ _ _ h => h) (Or.inl ⟨by kernel_rfl, ?y15j18p8⟩) (by assumption) ?r15j18p8
                                            case y15j18p8 => (intro w hSw; (try dsimp only at hSw); go_simp; try (with_reducible rfl))
                                            case r15j18p8 =>
                                              simp only [List.getElem_toArray, List.getElem_cons_succ, List.getElem_cons_zero, Act.put, List.setIfInBounds_toArray, List.set_cons_zero, List.set_cons_succ]
                                              refine wpAnyH_take (i := 16) (oi := _) (v := ?v16j19p8) rfl (by kernel_rfl) (by kernel_rfl) (by kernel_rfl) (fun _ _ _ h => h) (Or.inl ⟨by kernel_rfl, ?y16j19p8⟩) (by assumption) ?r16j19p8
                                              case y16j19p8 => (intro w hSw; (try dsimp only at hSw); go_simp; try (with_reducible rfl))
                                              case r16j19p8 =>
                                                simp only [List.getElem_toArray, List.getElem_cons_succ, List.getElem_cons_zero, Act.put, List.setIfInBounds_toArray, List.set_cons_zero, List.set_cons_succ]
                                                refine wpAnyH_ready (rs := [17]) (by kernel_rfl) (by simp) ?_
                                                refine AllReadyH.cons (o := _) rfl (fun K hK => ?_) (AllReadyH.nil)
                                                · go_simp
                                                  go_wp2_with fail
                                                  refine hK.out _ _ trivial (fun hHeld => ?_)
                                                  clear hK K
                                                  try simp only [List.getElem_toArray, List.getElem_cons_succ, List.getElem_cons_zero, Act.put, List.setIfInBounds_toArray, List.set_cons_zero, List.set_cons_succ]
                                                  refine wpAnyH_done (by kernel_rfl) ?_ _
                                                  go_wp2_with fail
                                                  go_roundg (min nl 60 - (kk + 1))
                                                  case measure => omega
                                                  case rel =>
                                                    refine ⟨kk + 1, by omega, by omega, by go_num, A2, n2, c2, z2, ?_⟩
                                                    show Aside _
                                                    rw [HNX.out, HST.out]
                                                    exact HN.out
                                · go_simp
                                  go_wp2_with fail
                                  refine hK.out _ _ trivial (fun hHeld => ?_)
                                  clear hK K
                                  try simp only [List.getElem_toArray, List.getElem_cons_succ, List.getElem_cons_zero, Act.put, List.setIfInBounds_toArray, List.set_cons_zero, List.set_cons_succ]
                                  refine wpAnyH_ready (rs := [0]) (by kernel_rfl) (by simp) ?_
                                  refine AllReadyH.cons (o := _) rfl (fun K hK => ?_) (AllReadyH.nil)
                                  · go_simp
                                    go_wp2_with fail
                                    refine hK.out _ _ trivial (fun hHeld => ?_)
                                    clear hK K
                                    try simp only [List.getElem_toArray, List.getElem_cons_succ, List.getElem_cons_zero, Act.put, List.setIfInBounds_toArray, List.set_cons_zero, List.set_cons_succ]
                                    refine wpAnyH_ready (rs := [11]) (by kernel_rfl) (by simp) ?_
                                    refine AllReadyH.cons (o := _) rfl (fun K hK => ?_) (AllReadyH.nil)
                                    · go_simp
                                      (go_at_call 17; (try simp only [hkv]); refine (rjoin_any (wr.alloc (.cells #[.string ⟨#[97]⟩, .string ⟨#[98]⟩] 9)).drew room nx A n c zs (keyM k) (i14 : Int) (decide (0 < k5)) (HM.out.o.rd.below hal) HSF.out hkl2).mono ?_; unfold JoinPost OpPost; rw [HFS.out]; rintro e w2 ⟨A2, n2, c2, z2, rfl, hf, hO0, hb0⟩; have hb : Below wr.heap.size wr w2 := hal.trans (hb0.mono hal.size); have hO := hO0.lower hal.size; clear hO0 hb0 ya0 ya1 ya2; have HN := Lib.hid (HM.out.next (s' := ⟨(joinOp room nx fs (keyM k) (i14 : Int) (decide (0 < k5))).next, (joinOp room nx fs (keyM k) (i14 : Int) (decide (0 < k5))).fs⟩) hO hf hb); have hbx := keep hb HBx.out; clear y0 y1 y2; have y0 : w2.cell? ⟨w.heap.size + 1, 0, none⟩ = some (.int .i64 room) := box_at hbx 0 _ rfl; have y1 : w2.cell? ⟨w.heap.size + 1, 1, none⟩ = some (.int .i64 nx) := box_at hbx 1 _ rfl; have y2 : w2.cell? ⟨w.heap.size + 1, 2, none⟩ = some (.slice A n c) := box_at hbx 2 _ rfl; have yf := box_free hbx; have ney : ¬ w.heap.size = w.heap.size + 1 := (by omega); clear hbx hO hf hb)
                                      go_wp2_with fail
                                      refine hK.out _ _ trivial (fun hHeld => ?_)
                                      clear hK K
                                      try simp only [List.getElem_toArray, List.getElem_cons_succ, List.getElem_cons_zero, Act.put, List.setIfInBounds_toArray, List.set_cons_zero, List.set_cons_succ]
                                      refine wpAnyH_take (i := 12) (oi := _) (v := ?v12j20p8) rfl (by kernel_rfl) (by kernel_rfl) (by kernel_rfl) (fun _ _ _ h => h) (Or.inl ⟨by kernel_rfl, ?y12j20p8⟩) (by assumption) ?r12j20p8
                                      case y12j20p8 => (intro w hSw; (try dsimp only at hSw); go_simp; try (with_reducible rfl))
                                      case r12j20p8 =>
                                        simp only [List.getElem_toArray, List.getElem_cons_succ, List.getElem_cons_zero, Act.put, List.setIfInBounds_toArray, List.set_cons_zero, List.set_cons_succ]
                                        refine wpAnyH_take (i := 13) (oi := _) (v := ?v13j21p8) rfl (by kernel_rfl) (by kernel_rfl) (by kernel_rfl) (fun _ _ _ h => h) (Or.inl ⟨by kernel_rfl, ?y13j21p8⟩) (by assumption) ?r13j21p8
                                        case y13j21p8 => (intro w hSw; (try dsimp only at hSw); go_simp; try (with_reducible rfl))
                                        case r13j21p8 =>
                                          simp only [List.getElem_toArray, List.getElem_cons_succ, List.getElem_cons_zero, Act.put, List.setIfInBounds_toArray, List.set_cons_zero, List.set_cons_succ]
                                          refine wpAnyH_take (i := 14) (oi := _) (v := ?v14j22p8) rfl (by kernel_rfl) (by kernel_rfl) (by kernel_rfl) (fun _ _ _ h => h) (Or.inl ⟨by kernel_rfl, ?y14j22p8⟩) (by assumption) ?r14j22p8
                                          case y14j22p8 => (intro w hSw; (try dsimp only at hSw); go_simp; try (with_reducible rfl))
                                          case r14j22p8 =>
                                            simp only [List.getElem_toArray, List.getElem_cons_succ, List.getElem_cons_zero, Act.put, List.setIfInBounds_toArray, List.set_cons_zero, List.set_cons_succ]
                                            refine wpAnyH_take (i := 15) (oi := _) (v := ?v15j23p8) rfl (by kernel_rfl) (by kernel_rfl) (by kernel_rfl) (fun _ _ _ h => h) (Or.inl ⟨by kernel_rfl, ?y15j23p8⟩) (by assumption) ?r15j23p8
                                            case y15j23p8 => (intro w hSw; (try dsimp only at hSw); go_simp; try (with_reducible rfl))
                                            case r15j23p8 =>
                                              simp only [List.getElem_toArray, List.getElem_cons_succ, List.getElem_cons_zero, Act.put, List.setIfInBounds_toArray, List.set_cons_zero, List.set_cons_succ]
                                              refine wpAnyH_take (i := 16) (oi := _) (v := ?v16j24p8) rfl (by kernel_rfl) (by kernel_rfl) (by kernel_rfl) (fun _ _ _ h => h) (Or.inl ⟨by kernel_rfl, ?y16j24p8⟩) (by assumption) ?r16j24p8
                                              case y16j24p8 => (intro w hSw; (try dsimp only at hSw); go_simp; try (with_reducible rfl))
                                              case r16j24p8 =>
                                                simp only [List.getElem_toArray, List.getElem_cons_succ, List.getElem_cons_zero, Act.put, List.setIfInBounds_toArray, List.set_cons_zero, List.set_cons_succ]
                                                refine wpAnyH_ready (rs := [17]) (by kernel_rfl) (by simp) ?_
                                                refine AllReadyH.cons (o := _) rfl (fun K hK => ?_) (AllReadyH.nil)
                                                · go_simp
                                                  go_wp2_with fail
                                                  refine hK.out _ _ trivial (fun hHeld => ?_)
                                                  clear hK K
                                                  try simp only [List.getElem_toArray, List.getElem_cons_succ, List.getElem_cons_zero, Act.put, List.setIfInBounds_toArray, List.set_cons_zero, List.set_cons_succ]
                                                  refine wpAnyH_done (by kernel_rfl) ?_ _
                                                  go_wp2_with fail
                                                  go_roundg (min nl 60 - (kk + 1))
                                                  case measure => omega
                                                  case rel =>
                                                    refine ⟨kk + 1, by omega, by omega, by go_num, A2, n2, c2, z2, ?_⟩
                                                    show Aside _
                                                    rw [HNX.out, HST.out]
                                                    exact HN.out
            · have HST := Lib.hid (stepM_feed (room := room) (s := ⟨nx, fs⟩) (i := kk) (b := x) (by rw [HR8.out]; omega) HK.out)
              clear HR8 hr8'
              obtain ⟨k17, hk17⟩ : ∃ q, k % 17 = q := ⟨_, rfl⟩
              have tk17 : (k : Int).tmod 17 = (k17 : Int) := tmodM (q := 17) hk17
              have lk17 : k17 < 17 := by omega
              have wk17 : IntKind.i64.wrap (k17 : Int) = (k17 : Int) := wrapM (by omega) (by omega)
              rw [hk17] at HST
              rw [HIM.out] at HST
              have hle : (k17 : Int) ≤ 16 := by omega
              have hex : (⟨hexS.toArray⟩ : ByteArray).extract 0 k17 = ⟨(hexS.take k17).toArray⟩ := ext_take hexS k17
              unfold hexS at hex
              have hd : Below wr.heap.size wr wr.drew := below_drew (Below.refl _ _)
              have hsl : (hexS.take k17).length ≤ 1000 := by rw [List.length_take]; omega
              unfold hexS at hsl
              have HST1 := HST
              unfold hexS at HST1
              clear hk17 HST
              go_upto_region 19 with fail
              refine wp_region_head_tail 5 7 #[true, true, true, true, true, false, false, false, false, false, false, false] rfl (by kernel_rfl) (by kernel_rfl) ?_
              simp only [List.take_succ_cons, List.take_zero]
              repeat still_step
              try refine wpStill_nil ?_
              refine wpAnyH_ready (rs := [5]) (by kernel_rfl) (by simp) ?_
              refine AllReadyH.cons (o := _) rfl (fun K hK => ?_) AllReadyH.nil
              go_simp
              (go_at_call 31; refine (rfeed_any wr.drew room nx A n c zs im (List.take k17 [48, 49, 50, 51, 52, 53, 54, 55, 56, 57, 97, 98, 99, 100, 101, 102]) (HM.out.o.rd.below hd) HSF.out hsl).mono ?_; unfold FeedPost; rw [HFS.out]; rintro e w2 ⟨A2, n2, c2, z2, L2, l2, d2, rfl, hf, hO0, hL, hb0⟩; have hb : Below wr.heap.size wr w2 := hd.trans hb0; have hO := hO0.lower (base' := wr.heap.size) (Nat.le_refl _); clear hO0 hb0; have HN := Lib.hid (HM.out.next (s' := ⟨nx, (feedOp room nx fs im (List.take k17 [48, 49, 50, 51, 52, 53, 54, 55, 56, 57, 97, 98, 99, 100, 101, 102])).1⟩) hO hf hb); have hbx := keep hb HBx.out; clear y0 y1 y2; have y0 : w2.cell? ⟨w.heap.size + 1, 0, none⟩ = some (.int .i64 room) := box_at hbx 0 _ rfl; have y1 : w2.cell? ⟨w.heap.size + 1, 1, none⟩ = some (.int .i64 nx) := box_at hbx 1 _ rfl; have y2 : w2.cell? ⟨w.heap.size + 1, 2, none⟩ = some (.slice A n c) := box_at hbx 2 _ rfl; have yf := box_free hbx; have ney : ¬ w.heap.size = w.heap.size + 1 := (by omega); clear hbx hO hf hb)
              go_wp2_with fail
              refine hK.out _ _ trivial (fun hHeld => ?_)
              clear hK K
              simp only [List.getElem_toArray, List.getElem_cons_succ, List.getElem_cons_zero, Act.put, List.setIfInBounds_toArray, List.set_cons_zero, List.set_cons_succ]
              refine wpAnyH_take (i := 6) (oi := _) (v := ?v6fp9) rfl (by kernel_rfl) (by kernel_rfl) (by kernel_rfl) (fun _ _ _ h => h) (Or.inl ⟨by kernel_rfl, ?y6fp9⟩) trivial ?r6fp9
              case y6fp9 => (intro w hSw; go_simp; try (with_reducible rfl))
              case r6fp9 =>
                simp only [List.getElem_toArray, List.getElem_cons_succ, List.getElem_cons_zero, Act.put, List.setIfInBounds_toArray, List.set_cons_zero, List.set_cons_succ]
                refine wpAnyH_take (i := 7) (oi := _) (v := ?v7fp9) rfl (by kernel_rfl) (by kernel_rfl) (by kernel_rfl) (fun _ _ _ h => h) (Or.inl ⟨by kernel_rfl, ?y7fp9⟩) trivial ?r7fp9
                case y7fp9 => (intro w hSw; go_simp; try (with_reducible rfl))
                case r7fp9 =>
                  simp only [List.getElem_toArray, List.getElem_cons_succ, List.getElem_cons_zero, Act.put, List.setIfInBounds_toArray, List.set_cons_zero, List.set_cons_succ]
                  refine wpAnyH_take (i := 8) (oi := _) (v := ?v8fp9) rfl (by kernel_rfl) (by kernel_rfl) (by kernel_rfl) (fun _ _ _ h => h) (Or.inl ⟨by kernel_rfl, ?y8fp9⟩) trivial ?r8fp9
                  case y8fp9 => (intro w hSw; go_simp; try (with_reducible rfl))
                  case r8fp9 =>
                    simp only [List.getElem_toArray, List.getElem_cons_succ, List.getElem_cons_zero, Act.put, List.setIfInBounds_toArray, List.set_cons_zero, List.set_cons_succ]
                    refine wpAnyH_take (i := 9) (oi := _) (v := ?v9fp9) rfl (by kernel_rfl) (by kernel_rfl) (by kernel_rfl) (fun _ _ _ h => h) (Or.inl ⟨by kernel_rfl, ?y9fp9⟩) trivial ?r9fp9
                    case y9fp9 => (intro w hSw; go_simp; try (with_reducible rfl))
                    case r9fp9 =>
                      simp only [List.getElem_toArray, List.getElem_cons_succ, List.getElem_cons_zero, Act.put, List.setIfInBounds_toArray, List.set_cons_zero, List.set_cons_succ]
                      refine wpAnyH_take (i := 10) (oi := _) (v := ?v10fp9) rfl (by kernel_rfl) (by kernel_rfl) (by kernel_rfl) (fun _ _ _ h => h) (Or.inl ⟨by kernel_rfl, ?y10fp9⟩) trivial ?r10fp9
                      case y10fp9 => (intro w hSw; go_simp; try (with_reducible rfl))
                      case r10fp9 =>
                        simp only [List.getElem_toArray, List.getElem_cons_succ, List.getElem_cons_zero, Act.put, List.setIfInBounds_toArray, List.set_cons_zero, List.set_cons_succ]
                        refine wpAnyH_ready (rs := [11]) (by kernel_rfl) (by simp) ?_
                        refine AllReadyH.cons (o := _) rfl (fun K hK => ?_) AllReadyH.nil
                        go_simp
                        refine hK.out _ _ trivial (fun hHeld => ?_)
                        clear hK K
                        simp only [List.getElem_toArray, List.getElem_cons_succ, List.getElem_cons_zero, Act.put, List.setIfInBounds_toArray, List.set_cons_zero, List.set_cons_succ]
                        refine wpAnyH_done (by kernel_rfl) ?_ _
                        go_wp2_with fail
                        go_roundg (min nl 60 - (kk + 1))
                        case measure => omega
                        case rel =>
                          refine ⟨kk + 1, by omega, by omega, by go_num, A2, n2, c2, z2, ?_⟩
                          show Aside _
                          rw [HNX.out, HST1.out]
                          exact HN.out
            · have HST := Lib.hid (stepM_feed (room := room) (s := ⟨nx, fs⟩) (i := kk) (b := x) (by rw [HR8.out]; omega) HK.out)
              clear HR8 hr8'
              obtain ⟨k17, hk17⟩ : ∃ q, k % 17 = q := ⟨_, rfl⟩
              have tk17 : (k : Int).tmod 17 = (k17 : Int) := tmodM (q := 17) hk17
              have lk17 : k17 < 17 := by omega
              have wk17 : IntKind.i64.wrap (k17 : Int) = (k17 : Int) := wrapM (by omega) (by omega)
              rw [hk17] at HST
              rw [HIM.out] at HST
              have hle : (k17 : Int) ≤ 16 := by omega
              have hex : (⟨hexS.toArray⟩ : ByteArray).extract 0 k17 = ⟨(hexS.take k17).toArray⟩ := ext_take hexS k17
              unfold hexS at hex
              have hd : Below wr.heap.size wr wr.drew := below_drew (Below.refl _ _)
              have hsl : (hexS.take k17).length ≤ 1000 := by rw [List.length_take]; omega
              unfold hexS at hsl
              have HST1 := HST
              unfold hexS at HST1
              clear hk17 HST
              go_upto_region 19 with fail
              refine wp_region_head_tail 5 7 #[true, true, true, true, true, false, false, false, false, false, false, false] rfl (by kernel_rfl) (by kernel_rfl) ?_
              simp only [List.take_succ_cons, List.take_zero]
              repeat still_step
              try refine wpStill_nil ?_
              refine wpAnyH_ready (rs := [5]) (by kernel_rfl) (by simp) ?_
              refine AllReadyH.cons (o := _) rfl (fun K hK => ?_) AllReadyH.nil
              go_simp
              (go_at_call 31; refine (rfeed_any wr.drew room nx A n c zs im (List.take k17 [48, 49, 50, 51, 52, 53, 54, 55, 56, 57, 97, 98, 99, 100, 101, 102]) (HM.out.o.rd.below hd) HSF.out hsl).mono ?_; unfold FeedPost; rw [HFS.out]; rintro e w2 ⟨A2, n2, c2, z2, L2, l2, d2, rfl, hf, hO0, hL, hb0⟩; have hb : Below wr.heap.size wr w2 := hd.trans hb0; have hO := hO0.lower (base' := wr.heap.size) (Nat.le_refl _); clear hO0 hb0; have HN := Lib.hid (HM.out.next (s' := ⟨nx, (feedOp room nx fs im (List.take k17 [48, 49, 50, 51, 52, 53, 54, 55, 56, 57, 97, 98, 99, 100, 101, 102])).1⟩) hO hf hb); have hbx := keep hb HBx.out; clear y0 y1 y2; have y0 : w2.cell? ⟨w.heap.size + 1, 0, none⟩ = some (.int .i64 room) := box_at hbx 0 _ rfl; have y1 : w2.cell? ⟨w.heap.size + 1, 1, none⟩ = some (.int .i64 nx) := box_at hbx 1 _ rfl; have y2 : w2.cell? ⟨w.heap.size + 1, 2, none⟩ = some (.slice A n c) := box_at hbx 2 _ rfl; have yf := box_free hbx; have ney : ¬ w.heap.size = w.heap.size + 1 := (by omega); clear hbx hO hf hb)
              go_wp2_with fail
              refine hK.out _ _ trivial (fun hHeld => ?_)
              clear hK K
              simp only [List.getElem_toArray, List.getElem_cons_succ, List.getElem_cons_zero, Act.put, List.setIfInBounds_toArray, List.set_cons_zero, List.set_cons_succ]
              refine wpAnyH_take (i := 6) (oi := _) (v := ?v6fp10) rfl (by kernel_rfl) (by kernel_rfl) (by kernel_rfl) (fun _ _ _ h => h) (Or.inl ⟨by kernel_rfl, ?y6fp10⟩) trivial ?r6fp10
              case y6fp10 => (intro w hSw; go_simp; try (with_reducible rfl))
              case r6fp10 =>
                simp only [List.getElem_toArray, List.getElem_cons_succ, List.getElem_cons_zero, Act.put, List.setIfInBounds_toArray, List.set_cons_zero, List.set_cons_succ]
                refine wpAnyH_take (i := 7) (oi := _) (v := ?v7fp10) rfl (by kernel_rfl) (by kernel_rfl) (by kernel_rfl) (fun _ _ _ h => h) (Or.inl ⟨by kernel_rfl, ?y7fp10⟩) trivial ?r7fp10
                case y7fp10 => (intro w hSw; go_simp; try (with_reducible rfl))
                case r7fp10 =>
                  simp only [List.getElem_toArray, List.getElem_cons_succ, List.getElem_cons_zero, Act.put, List.setIfInBounds_toArray, List.set_cons_zero, List.set_cons_succ]
                  refine wpAnyH_take (i := 8) (oi := _) (v := ?v8fp10) rfl (by kernel_rfl) (by kernel_rfl) (by kernel_rfl) (fun _ _ _ h => h) (Or.inl ⟨by kernel_rfl, ?y8fp10⟩) trivial ?r8fp10
                  case y8fp10 => (intro w hSw; go_simp; try (with_reducible rfl))
                  case r8fp10 =>
                    simp only [List.getElem_toArray, List.getElem_cons_succ, List.getElem_cons_zero, Act.put, List.setIfInBounds_toArray, List.set_cons_zero, List.set_cons_succ]
                    refine wpAnyH_take (i := 9) (oi := _) (v := ?v9fp10) rfl (by kernel_rfl) (by kernel_rfl) (by kernel_rfl) (fun _ _ _ h => h) (Or.inl ⟨by kernel_rfl, ?y9fp10⟩) trivial ?r9fp10
                    case y9fp10 => (intro w hSw; go_simp; try (with_reducible rfl))
                    case r9fp10 =>
                      simp only [List.getElem_toArray, List.getElem_cons_succ, List.getElem_cons_zero, Act.put, List.setIfInBounds_toArray, List.set_cons_zero, List.set_cons_succ]
                      refine wpAnyH_take (i := 10) (oi := _) (v := ?v10fp10) rfl (by kernel_rfl) (by kernel_rfl) (by kernel_rfl) (fun _ _ _ h => h) (Or.inl ⟨by kernel_rfl, ?y10fp10⟩) trivial ?r10fp10
                      case y10fp10 => (intro w hSw; go_simp; try (with_reducible rfl))
                      case r10fp10 =>
                        simp only [List.getElem_toArray, List.getElem_cons_succ, List.getElem_cons_zero, Act.put, List.setIfInBounds_toArray, List.set_cons_zero, List.set_cons_succ]
                        refine wpAnyH_ready (rs := [11]) (by kernel_rfl) (by simp) ?_
                        refine AllReadyH.cons (o := _) rfl (fun K hK => ?_) AllReadyH.nil
                        go_simp
                        refine hK.out _ _ trivial (fun hHeld => ?_)
                        clear hK K
                        simp only [List.getElem_toArray, List.getElem_cons_succ, List.getElem_cons_zero, Act.put, List.setIfInBounds_toArray, List.set_cons_zero, List.set_cons_succ]
                        refine wpAnyH_done (by kernel_rfl) ?_ _
                        go_wp2_with fail
                        go_roundg (min nl 60 - (kk + 1))
                        case measure => omega
                        case rel =>
                          refine ⟨kk + 1, by omega, by omega, by go_num, A2, n2, c2, z2, ?_⟩
                          show Aside _
                          rw [HNX.out, HST1.out]
                          exact HN.out
            · have HST := Lib.hid (stepM_take (room := room) (s := ⟨nx, fs⟩) (i := kk) (b := x) HR8.out HK.out)
              clear HR8 hr8'
              obtain ⟨k14, hk14⟩ : ∃ q, k % 14 = q := ⟨_, rfl⟩
              have tk14 : (k : Int).tmod 14 = (k14 : Int) := tmodM (q := 14) hk14
              have lk14 : k14 < 14 := by omega
              have wk14 : IntKind.i64.wrap (k14 : Int) = (k14 : Int) := wrapM (by omega) (by omega)
              rw [hk14] at HST
              obtain ⟨k7, hk7⟩ : ∃ q, k % 7 = q := ⟨_, rfl⟩
              have tk7 : (k : Int).tmod 7 = (k7 : Int) := tmodM (q := 7) hk7
              have lk7 : k7 < 7 := by omega
              have wk7 : IntKind.i64.wrap (k7 : Int) = (k7 : Int) := wrapM (by omega) (by omega)
              rw [hk7] at HST
              clear hk14 hk7
              go_wp2_with (go_at_call 32; refine (rtake_any wr room nx A n c zs (k14 : Int) (k7 : Int) HM.out.o.rd HSF.out).mono ?_; unfold OpPost; rw [HFS.out]; rintro e w2 ⟨A2, n2, c2, z2, rfl, hf, hO, hb⟩; have HN := Lib.hid (HM.out.next (s' := ⟨nx, (takeOp room nx fs (k14 : Int) (k7 : Int)).1⟩) hO hf hb); have hbx := keep hb HBx.out; clear y0 y1 y2; have y0 : w2.cell? ⟨w.heap.size + 1, 0, none⟩ = some (.int .i64 room) := box_at hbx 0 _ rfl; have y1 : w2.cell? ⟨w.heap.size + 1, 1, none⟩ = some (.int .i64 nx) := box_at hbx 1 _ rfl; have y2 : w2.cell? ⟨w.heap.size + 1, 2, none⟩ = some (.slice A n c) := box_at hbx 2 _ rfl; have yf := box_free hbx; have ney : ¬ w.heap.size = w.heap.size + 1 := (by omega); clear hbx hO hf hb)
              go_roundg (min nl 60 - (kk + 1))
              case measure => omega
              case rel =>
                refine ⟨kk + 1, by omega, by omega, by go_num, A2, n2, c2, z2, ?_⟩
                show Aside _
                rw [HNX.out, HST.out]
                exact HN.out
            · have HST := Lib.hid (stepM_leave (room := room) (s := ⟨nx, fs⟩) (i := kk) (b := x) HR8.out HK.out)
              clear HR8 hr8'
              obtain ⟨k14, hk14⟩ : ∃ q, k % 14 = q := ⟨_, rfl⟩
              have tk14 : (k : Int).tmod 14 = (k14 : Int) := tmodM (q := 14) hk14
              have lk14 : k14 < 14 := by omega
              have wk14 : IntKind.i64.wrap (k14 : Int) = (k14 : Int) := wrapM (by omega) (by omega)
              rw [hk14] at HST
              clear hk14
              go_wp2_with (go_at_call 34; refine (rleave_any wr room nx A n c zs (k14 : Int) HM.out.o.rd HSF.out).mono ?_; unfold OpPost; rw [HFS.out]; rintro e w2 ⟨A2, n2, c2, z2, rfl, hf, hO, hb⟩; have HN := Lib.hid (HM.out.next (s' := ⟨nx, (leaveOp room nx fs (k14 : Int)).1⟩) hO hf hb); have hbx := keep hb HBx.out; clear y0 y1 y2; have y0 : w2.cell? ⟨w.heap.size + 1, 0, none⟩ = some (.int .i64 room) := box_at hbx 0 _ rfl; have y1 : w2.cell? ⟨w.heap.size + 1, 1, none⟩ = some (.int .i64 nx) := box_at hbx 1 _ rfl; have y2 : w2.cell? ⟨w.heap.size + 1, 2, none⟩ = some (.slice A n c) := box_at hbx 2 _ rfl; have yf := box_free hbx; have ney : ¬ w.heap.size = w.heap.size + 1 := (by omega); clear hbx hO hf hb)
              go_roundg (min nl 60 - (kk + 1))
              case measure => omega
              case rel =>
                refine ⟨kk + 1, by omega, by omega, by go_num, A2, n2, c2, z2, ?_⟩
                show Aside _
                rw [HNX.out, HST.out]
                exact HN.out
            · obtain ⟨k3, hk3⟩ : ∃ q, k % 3 = q := ⟨_, rfl⟩
              have t3 : (k : Int).tmod 3 = (k3 : Int) := tmodM (q := 3) hk3
              have w3 : IntKind.i64.wrap (k3 : Int) = (k3 : Int) := wrapM (by omega) (by omega)
              have HK3 := Lib.hid hk3
              obtain rfl | rfl | rfl : k3 = 0 ∨ k3 = 1 ∨ k3 = 2 := by omega
              · have HST := Lib.hid (stepM_end (room := room) (s := ⟨nx, fs⟩) (i := kk) (b := x) HR8.out HK.out HK3.out)
                clear HR8 hr8' hk3
                rw [HIM.out] at HST
                go_wp2_with (go_at_call 33; refine (rend_any wr room nx A n c zs im HM.out.o.rd HSF.out).mono ?_; unfold OpPost; rw [HFS.out]; rintro e w2 ⟨A2, n2, c2, z2, rfl, hf, hO, hb⟩; have HN := Lib.hid (HM.out.next (s' := ⟨nx, (endOp room nx fs im).1⟩) hO hf hb); have hbx := keep hb HBx.out; clear y0 y1 y2; have y0 : w2.cell? ⟨w.heap.size + 1, 0, none⟩ = some (.int .i64 room) := box_at hbx 0 _ rfl; have y1 : w2.cell? ⟨w.heap.size + 1, 1, none⟩ = some (.int .i64 nx) := box_at hbx 1 _ rfl; have y2 : w2.cell? ⟨w.heap.size + 1, 2, none⟩ = some (.slice A n c) := box_at hbx 2 _ rfl; have yf := box_free hbx; have ney : ¬ w.heap.size = w.heap.size + 1 := (by omega); clear hbx hO hf hb)
                go_roundg (min nl 60 - (kk + 1))
                case measure => omega
                case rel =>
                  refine ⟨kk + 1, by omega, by omega, by go_num, A2, n2, c2, z2, ?_⟩
                  show Aside _
                  rw [HNX.out, HST.out]
                  exact HN.out
              · have HST := Lib.hid (stepM_fail (room := room) (s := ⟨nx, fs⟩) (i := kk) (b := x) HR8.out HK.out HK3.out)
                clear HR8 hr8' hk3
                rw [HIM.out] at HST
                go_wp2_with (go_at_call 35; refine (rfail_any wr room nx A n c zs im 3 HM.out.o.rd HSF.out).mono ?_; unfold FailPost; rw [HFS.out]; rintro e w2 ⟨A2, n2, c2, z2, L2, l2, d2, rfl, hf, hO, hL, hb⟩; have HN := Lib.hid (HM.out.next (s' := ⟨nx, (failOp room nx fs im 3).1⟩) hO hf hb); have hbx := keep hb HBx.out; clear y0 y1 y2; have y0 : w2.cell? ⟨w.heap.size + 1, 0, none⟩ = some (.int .i64 room) := box_at hbx 0 _ rfl; have y1 : w2.cell? ⟨w.heap.size + 1, 1, none⟩ = some (.int .i64 nx) := box_at hbx 1 _ rfl; have y2 : w2.cell? ⟨w.heap.size + 1, 2, none⟩ = some (.slice A n c) := box_at hbx 2 _ rfl; have yf := box_free hbx; have ney : ¬ w.heap.size = w.heap.size + 1 := (by omega); clear hbx hO hf hb)
                go_roundg (min nl 60 - (kk + 1))
                case measure => omega
                case rel =>
                  refine ⟨kk + 1, by omega, by omega, by go_num, A2, n2, c2, z2, ?_⟩
                  show Aside _
                  rw [HNX.out, HST.out]
                  exact HN.out
              · have HST := Lib.hid (stepM_t50 (room := room) (s := ⟨nx, fs⟩) (i := kk) (b := x) HR8.out HK.out HK3.out)
                clear HR8 hr8' hk3
                obtain ⟨k14, hk14⟩ : ∃ q, k % 14 = q := ⟨_, rfl⟩
                have tk14 : (k : Int).tmod 14 = (k14 : Int) := tmodM (q := 14) hk14
                have lk14 : k14 < 14 := by omega
                have wk14 : IntKind.i64.wrap (k14 : Int) = (k14 : Int) := wrapM (by omega) (by omega)
                rw [hk14] at HST
                clear hk14
                go_wp2_with (go_at_call 32; refine (rtake_any wr room nx A n c zs (k14 : Int) 50 HM.out.o.rd HSF.out).mono ?_; unfold OpPost; rw [HFS.out]; rintro e w2 ⟨A2, n2, c2, z2, rfl, hf, hO, hb⟩; have HN := Lib.hid (HM.out.next (s' := ⟨nx, (takeOp room nx fs (k14 : Int) 50).1⟩) hO hf hb); have hbx := keep hb HBx.out; clear y0 y1 y2; have y0 : w2.cell? ⟨w.heap.size + 1, 0, none⟩ = some (.int .i64 room) := box_at hbx 0 _ rfl; have y1 : w2.cell? ⟨w.heap.size + 1, 1, none⟩ = some (.int .i64 nx) := box_at hbx 1 _ rfl; have y2 : w2.cell? ⟨w.heap.size + 1, 2, none⟩ = some (.slice A n c) := box_at hbx 2 _ rfl; have yf := box_free hbx; have ney : ¬ w.heap.size = w.heap.size + 1 := (by omega); clear hbx hO hf hb)
                go_roundg (min nl 60 - (kk + 1))
                case measure => omega
                case rel =>
                  refine ⟨kk + 1, by omega, by omega, by go_num, A2, n2, c2, z2, ?_⟩
                  show Aside _
                  rw [HNX.out, HST.out]
                  exact HN.out
      · have hkm : kk = min nl 60 := by omega
        have hlt0 : decide (kk < min nl 60) = false := by simp; omega
        rw [hlt0]
        have HF := Lib.hid (HFIN.out hkm)
        clear hkm hlt hlt0 hkk hg HFIN HMK
        have r0 := box_at HM.out.x2 0 _ rfl
        have r1 := box_at HM.out.x2 1 _ rfl
        have r2 := box_at HM.out.x2 2 _ rfl
        have rf := box_free HM.out.x2
        go_wp2_with fail
        refine bodyPost_ret (v := fv room nx (.slice A n c)) (by simp [results, Try.results16, go_sem, r0, r1, r2]) rfl ?_
        rw [HF.out]
        exact ⟨A, n, c, zs, rfl, HFS.out, st3_own HM.out.o HM.out.x2, st3_below HM.out.bw (Nat.le_refl _)⟩
end Go.Proofs.Ytipjhokhflokmaa
