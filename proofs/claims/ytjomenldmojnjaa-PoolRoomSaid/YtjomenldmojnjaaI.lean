/- Contract of pool.Pick. -/
import Derived.Test.YtjomenldmojnjaaH
set_option linter.unusedVariables false
set_option linter.unusedSimpArgs false
namespace Go.Proofs.Ytjomenldmojnjaa
open Go.RowKit
open Go.Proofs.YtjomenldmojnjaaW.PrintWords

theorem Try.info3 : (Try.prog.info? 3).map (fun i => (i.zero, i.size, i.bytes)) = some (some (.int .i64 0), 1, 8) := by kernel_rfl
def nats (xs : List Nat) : List Value := xs.map (fun x : Nat => Value.int .i64 (x : Int))
theorem nats_len (xs : List Nat) : (nats xs).length = xs.length := by simp [nats]
theorem nats_app (xs : List Nat) (x : Nat) : nats (xs ++ [x]) = nats xs ++ [.int .i64 (x : Int)] := by simp [nats]
theorem mayB_at {bs : List Bk} {g : Bool} {i : Nat} {b : Bk} (h : bs[i]? = some b) : mayB bs g i = (decide (b.o < b.r) && !(g && badB b)) := by unfold mayB; rw [h]
theorem filt_snoc {p : Nat → Bool} {xs : List Nat} {x : Nat} : (xs ++ [x]).filter p = if p x then xs.filter p ++ [x] else xs.filter p := by
  rw [List.filter_append]
  cases h : p x with
  | true => rw [List.filter_cons_of_pos h]; simp
  | false => rw [List.filter_cons_of_neg (by simp [h])]; simp
/-- the places till kk -/
def plK (n q kk : Nat) : List Nat := (List.range kk).map fun k => (q + k) % n
theorem plK_succ (n q kk : Nat) : plK n q (kk + 1) = plK n q kk ++ [(q + kk) % n] := places_succ

set_option maxRecDepth 4000 in
set_option maxHeartbeats 4000000 in
theorem pick_any (w : World) (A : Option Addr) (n c : Nat) (nx : Int) (bs : List Bk) (hr : RdE enc 4 w (.slice A n c) bs) :
    Calls Try.prog 13 #[.agg #[.slice A n c, .int .i64 nx]] w fun e w' => e = .returned (.tuple #[.int .i64 (((pickS bs nx).1 : Nat) : Int), .int .i64 (((pickS bs nx).2 : Nat) : Int)]) ∧ Below w.heap.size w w' := by
  have ln := hr.len
  have HR := Lib.hid hr
  have HLN := Lib.hid ln
  have hB0 : Below w.heap.size w (w.alloc (.cells #[.slice A n c, .int .i64 nx] 24)) := (Below.refl _ _).alloc (Nat.le_refl _) _
  have HB0 := Lib.hid hB0
  have hX0 := heap_alloc_new w (.cells #[.slice A n c, .int .i64 nx] 24)
  have HX0 := Lib.hid hX0
  clear hr ln hB0 hX0
  by_cases hR : rightB bs nx = true
  · have hp := rightB_iff.1 hR
    obtain ⟨⟨hn1, hn2⟩, ⟨hq1, hq2⟩, hok⟩ := hp
    obtain ⟨q, rfl⟩ := Int.eq_ofNat_of_zero_le hq1
    have hqn : q < n := by have := HLN.out; omega
    have hn8 : n ≤ 8 := by have := HLN.out; omega
    have hL : mayL bs q = (plK n q n).filter (mayB bs (goodB bs)) := by unfold mayL places; rw [HLN.out]; rfl
    have HL := Lib.hid hL
    have HR1 := Lib.hid hR
    generalize hg : goodB bs = g at hL HL
    have HG := Lib.hid hg
    clear hL hn1 hn2 hq1 hq2 hok hR hg
    go_enter Try.func13, Try.ntmps13
    go_wp2_with (first
      | (go_at_call 16; refine (right_any _ A n c _ bs (HR.out.below HB0.out)).mono ?_; rw [HR1.out]; rintro e w1 ⟨rfl, hb1⟩; have HX1 := Lib.hid (keep hb1 HX0.out); have HB1 := Lib.hid (HB0.out.trans (hb1.mono (by simp))); have z0 := box_at HX1.out 0 _ rfl; have z1 := box_at HX1.out 1 _ rfl; clear hb1)
      | (go_at_call 22; refine (containsFunc_bks 23 #[] eg23 (fun b => !badB b) _ _ bs (HR.out.below HB1.out) (pred_good _)).mono ?_; rw [show bs.any (fun b => !badB b) = g from HG.out]; rintro e w2 ⟨rfl, hb2⟩; have HX2 := Lib.hid (keep hb2 HX1.out); have HB2 := Lib.hid (HB1.out.trans (hb2.mono HB1.out.size)); clear hb2 z0 z1; have z0 := box_at HX2.out 0 _ rfl; have z1 := box_at HX2.out 1 _ rfl))
    go_loopg [5, 18] n (fun gg s5 s18 wr => ∃ (kk : Nat) (Am : Option Addr) (nm cm : Nat), kk ≤ n ∧ n - kk ≤ gg ∧ s18 = .int .i64 kk ∧ s5 = .slice Am nm cm ∧ Below w.heap.size w wr ∧ Aside (wr.heap[w.heap.size]? = some (.cells #[.slice A n c, .int .i64 q] 24 (0, 0)) ∧ Ow 3 wr (w.heap.size + 1) (.slice Am nm cm) (nats ((plK n q kk).filter (mayB bs g)))))
    case atStart => exact ⟨0, none, 0, 0, Nat.zero_le _, by omega, rfl, rfl, HB2.out, ⟨HX2.out, Ow.nil _ _ _⟩⟩
    case round =>
      obtain ⟨kk, Am, nm, cm, hkk, hg, rfl, rfl, hB, HA⟩ := hrel
      have HA := Lib.hid HA.out
      have hX := HA.out.1
      have z0 := box_at hX 0 _ rfl
      have z1 := box_at hX 1 _ rfl
      clear hX
      by_cases hlt : kk < n
      · have hltz : (kk : Int) < (n : Int) := by omega
        obtain ⟨i, hi⟩ : ∃ i, (q + kk) % n = i := ⟨_, rfl⟩
        have hin : i < n := by rw [← hi]; exact Nat.mod_lt _ (by omega)
        have hiz : (i : Int) < (n : Int) := by omega
        have hw : IntKind.i64.wrap ((q : Int) + (kk : Int)) = (q : Int) + (kk : Int) := by rw [IntKind.wrap_i64]; omega
        have htm : ((q : Int) + (kk : Int)) % (n : Int) = (i : Int) := by rw [← hi]; simp
        have htm2 : ((q : Int) + (kk : Int)).tmod (n : Int) = (i : Int) := by rw [Int.tmod_eq_emod_of_nonneg (by omega)]; exact htm
        obtain ⟨b, off, rfl, hbl, hc⟩ := HR.out.get (by omega)
        have hl : i < bs.length := by have := HLN.out; omega
        have hat : bs[i]? = some bs[i] := List.getElem?_eq_getElem hl
        have hcs : ∀ j y, (enc bs[i])[j]? = some y → wr.cell? ⟨b, off + i * 4 + j, none⟩ = some y := fun j y hy => (hB.cell (p := ⟨b, off + i * 4 + j, none⟩) hbl).trans (hc i j bs[i] y hat hy)
        generalize bs[i] = y at hcs hat
        obtain ⟨yo, yr, yi, yf⟩ := y
        have k0 : wr.cell? ⟨b, off + i * 4, none⟩ = some (.int .i64 yo) := hcs 0 _ rfl
        have k1 : wr.cell? ⟨b, off + i * 4 + 1, none⟩ = some (.int .i64 yr) := hcs 1 _ rfl
        have k2 : wr.cell? ⟨b, off + i * 4 + 2, none⟩ = some (.int .i64 yi) := hcs 2 _ rfl
        have k3 : wr.cell? ⟨b, off + i * 4 + 3, none⟩ = some (.int .i64 yf) := hcs 3 _ rfl
        have hMB := mayB_at (g := g) hat
        have hnl := HA.out.2.rd.len
        rw [nats_len] at hnl
        have hfl : ((plK n q kk).filter (mayB bs g)).length ≤ kk := Nat.le_trans (List.length_filter_le _ _) (by simp [plK])
        have HSN := Lib.hid (show (plK n q (kk + 1)).filter (mayB bs g) = if mayB bs g i then (plK n q kk).filter (mayB bs g) ++ [i] else (plK n q kk).filter (mayB bs g) by rw [plK_succ, hi, filt_snoc])
        generalize hLL : (plK n q kk).filter (mayB bs g) = LL at *
        have HFL := Lib.hid hfl
        have hbx : Below w.heap.size w (wr.alloc (.cells #[.int .i64 yo, .int .i64 yr, .int .i64 yi, .int .i64 yf] 32)) := hB.alloc hB.size _
        have HBX := Lib.hid hbx
        clear hcs hc hat hfl hLL hbx hi
        by_cases h1 : yo < yr
        · cases g with
          | false =>
            have HM := Lib.hid (show mayB bs false i = true by rw [hMB]; simp [h1])
            clear hMB
            go_wp2_with (at_builtin; refine wp_app (w.heap.size + 1) rfl _ _ 50 3 (.int .i64 0) 8 rfl Try.underlying50 Try.info3 rfl (by omega) (.slice Am nm cm) (.slice (some ⟨wr.heap.size + 1, 0, none⟩) 1 1) (nats LL) [.int .i64 i] rfl rfl ?d1 ?d0 ?d2 ?d3 ?d4 ?d5)
            case d1 => exact (HA.out.2.below ((Below.refl _ _).alloc (Nat.le_refl _) _)).below ((Below.refl _ _).alloc (Nat.le_refl _) _)
            case d0 => exact (by have := rd_box (wr.alloc (.cells #[.int .i64 yo, .int .i64 yr, .int .i64 yi, .int .i64 yf] 32)) (.int .i64 i) 3; rwa [World.size_alloc] at this)
            case d2 => simp [Value.oneCell']
            case d3 => have := HFL.out; simp [nats_len]; omega
            case d4 => have := hB.size; simp; omega
            case d5 =>
              intro v1 w4 hv1 hg1 hat1
              obtain ⟨A7, n7, c7, rfl⟩ := hv1.slice'
              have HV := Lib.hid hv1
              have hX4 := app_stays (by decide) (keep ((Below.refl _ _).alloc (Nat.le_refl _) _) HA.out.1) (HA.out.2.below ((Below.refl _ _).alloc (Nat.le_refl _) _)) hg1
              have hB4 : Below w.heap.size w w4 := (HBX.out.alloc HBX.out.size _).grown hg1 (Nat.le_trans HBX.out.size (by simp)) (fun k hk => Nat.le_trans (Nat.le_succ _) (HA.out.2.base k hk))
              have HX4 := Lib.hid hX4
              clear hv1 hg1 hat1 hX4
              go_wp2_with fail
              go_roundg (n - (kk + 1))
              case measure => omega
              case rel =>
                refine ⟨kk + 1, _, _, _, by omega, by omega, by simp, rfl, hB4, ⟨HX4.out, ?_⟩⟩
                rw [HSN.out, HM.out]
                have := HV.out
                rwa [← nats_app] at this
          | true =>
            cases h5 : badB ⟨yo, yr, yi, yf⟩ with
            | true =>
              have HM := Lib.hid (show mayB bs true i = false by rw [hMB, h5]; simp)
              have H5 := Lib.hid h5
              clear hMB h5
              go_wp2_with (go_at_call 24; refine (bad_any ⟨yo, yr, yi, yf⟩ _).mono ?_; rw [H5.out]; rintro e w3 ⟨rfl, hb3⟩)
              go_roundg (n - (kk + 1))
              case measure => omega
              case rel =>
                refine ⟨kk + 1, Am, nm, cm, by omega, by omega, by simp, rfl, HBX.out.trans (hb3.mono HBX.out.size), ⟨keep hb3 (keep ((Below.refl _ _).alloc (Nat.le_refl _) _) HA.out.1), ?_⟩⟩
                rw [HSN.out, HM.out]
                exact (HA.out.2.below ((Below.refl _ _).alloc (Nat.le_refl _) _)).below hb3
            | false =>
              have HM := Lib.hid (show mayB bs true i = true by rw [hMB, h5]; simp [h1])
              have H5 := Lib.hid h5
              clear hMB h5
              go_wp2_with (first | (go_at_call 24; refine (bad_any ⟨yo, yr, yi, yf⟩ _).mono ?_; rw [H5.out]; rintro e w3 ⟨rfl, hb3⟩) | (at_builtin; refine wp_app (w.heap.size + 1) rfl _ _ 50 3 (.int .i64 0) 8 rfl Try.underlying50 Try.info3 rfl (by omega) (.slice Am nm cm) (.slice (some ⟨_, 0, none⟩) 1 1) (nats LL) [.int .i64 i] rfl rfl ?d1 ?d0 ?d2 ?d3 ?d4 ?d5))
              case d1 => exact ((HA.out.2.below ((Below.refl _ _).alloc (Nat.le_refl _) _)).below hb3).below ((Below.refl _ _).alloc (Nat.le_refl _) _)
              case d0 => exact rd_box _ _ _
              case d2 => simp [Value.oneCell']
              case d3 => have := HFL.out; simp [nats_len]; omega
              case d4 => have := (HBX.out.trans (hb3.mono HBX.out.size)).size; have h2 := hb3.size; simp at *; omega
              case d5 =>
                intro v1 w4 hv1 hg1 hat1
                obtain ⟨A7, n7, c7, rfl⟩ := hv1.slice'
                have HV := Lib.hid hv1
                have hX4 := app_stays (by decide) (keep hb3 (keep ((Below.refl _ _).alloc (Nat.le_refl _) _) HA.out.1)) ((HA.out.2.below ((Below.refl _ _).alloc (Nat.le_refl _) _)).below hb3) hg1
                have hB4 : Below w.heap.size w w4 := ((HBX.out.trans (hb3.mono HBX.out.size)).alloc (HBX.out.trans (hb3.mono HBX.out.size)).size _).grown hg1 (Nat.le_trans (HBX.out.trans (hb3.mono HBX.out.size)).size (by simp)) (fun k hk => Nat.le_trans (Nat.le_succ _) (HA.out.2.base k hk))
                have HX4 := Lib.hid hX4
                clear hv1 hg1 hat1 hX4
                go_wp2_with fail
                go_roundg (n - (kk + 1))
                case measure => omega
                case rel =>
                  refine ⟨kk + 1, _, _, _, by omega, by omega, by simp, rfl, hB4, ⟨HX4.out, ?_⟩⟩
                  rw [HSN.out, HM.out]
                  have := HV.out
                  rwa [← nats_app] at this
        · have HM := Lib.hid (show mayB bs g i = false by rw [hMB]; simp [h1])
          clear hMB
          go_wp2_with fail
          go_roundg (n - (kk + 1))
          case measure => omega
          case rel =>
            refine ⟨kk + 1, Am, nm, cm, by omega, by omega, by simp, rfl, HBX.out, ⟨keep ((Below.refl _ _).alloc (Nat.le_refl _) _) HA.out.1, ?_⟩⟩
            rw [HSN.out, HM.out]
            exact HA.out.2.below ((Below.refl _ _).alloc (Nat.le_refl _) _)
      · have hltz : ¬ (kk : Int) < (n : Int) := by omega
        obtain rfl : kk = n := by omega
        have hnl := HA.out.2.rd.len
        rw [nats_len, ← HL.out] at hnl
        have HO := Lib.hid HA.out.2
        rw [← HL.out] at HO
        cases hLm : mayL bs q with
        | nil =>
          have hnm : nm = 0 := by rw [hLm] at hnl; simpa using hnl.symm
          subst hnm
          have HF := Lib.hid (show pickS bs (q : Int) = (0, 4) by unfold pickS; rw [if_pos HR1.out, Int.toNat_natCast, hLm])
          clear hnl hLm
          go_wp2_with fail
          go_ret2
          exact ⟨by rw [HF.out]; rfl, hB⟩
        | cons x rest =>
          have hnm : ((nm : Int) == 0) = false := by rw [hLm] at hnl; simp at hnl; simp; omega
          have HF := Lib.hid (show pickS bs (q : Int) = (rest.foldl (less bs) x, 0) by unfold pickS; rw [if_pos HR1.out, Int.toNat_natCast, hLm])
          rw [hLm] at HO
          have HLM := Lib.hid hLm
          clear hnl hLm
          go_wp2_with (go_at_call 25; refine (minFunc_nats 26 #[.pointer (some ⟨w.heap.size, 0, none⟩)] eg26 (fun a b => cmpI (oAt bs a) (oAt bs b)) _ _ x rest HO.out.rd ?_).mono ?_)
          · intro W x1 y1 hb hx1 hy1
            refine pick2_any W w.heap.size A _ c q bs (keep hb HA.out.1) (HR.out.below (hB.trans (hb.mono hB.size))) x1 y1 (mayL_lt (q := q) ?_) (mayL_lt (q := q) ?_)
            · rw [HLM.out]; simpa using hx1
            · rw [HLM.out]; simpa using hy1
          · rintro e w7 rfl hb7
            rw [cmp_less]
            go_wp2_with fail
            go_ret2
            exact ⟨by rw [HF.out]; rfl, hB.trans (hb7.mono hB.size)⟩
  · have HR1 := Lib.hid (show rightB bs nx = false by simpa using hR)
    have HF := Lib.hid (show pickS bs nx = (0, 1) by unfold pickS; rw [if_neg hR])
    clear hR
    go_enter Try.func13, Try.ntmps13
    go_wp2_with (go_at_call 16; refine (right_any _ A n c _ bs (HR.out.below HB0.out)).mono ?_; rw [HR1.out]; rintro e w1 ⟨rfl, hb1⟩)
    go_ret2
    exact ⟨by rw [HF.out]; rfl, HB0.out.trans (hb1.mono (by simp))⟩
end Go.Proofs.Ytjomenldmojnjaa
