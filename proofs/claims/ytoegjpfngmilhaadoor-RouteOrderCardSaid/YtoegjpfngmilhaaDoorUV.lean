/- lockagelaw14.RouteOrder (printed by mkUV.py). -/
import Derived.Test.YtoegjpfngmilhaaDoorUU
set_option linter.unusedVariables false
set_option linter.unusedSimpArgs false
namespace Go.Proofs.YtoegjpfngmilhaaDoor
open Go.RowKit Go.Lib
open Go.Proofs.YtoegjpfngmilhaaDoorW.PrintWords

def SM (w w' : World) : Prop := w.heap.size ≤ w'.heap.size ∧ Below w.heap.size w w'
theorem SM.start (w : World) : SM w w.drew := ⟨Nat.le_refl _, below_drew (Below.refl _ _)⟩
theorem SM.step {w w1 w2 : World} (h : SM w w1) {row : Option Nat} (hg : w1.grownBy w2 row) (hr : ∀ k, row = some k → w.heap.size ≤ k) : SM w w2 := ⟨Nat.le_trans h.1 hg.size, h.2.grown hg h.1 hr⟩

set_option maxRecDepth 100000 in
set_option maxHeartbeats 16000000 in
theorem routeOrder_any (A B : Option Addr) (n c nb cb : Nat) (ls : List (List Nat)) (xs : List Nat) (t : Nat) (w : World) (m : Int) (hm : w.cell? ⟨0, 0, none⟩ = some (.int .i64 m))
    (hl : RdV w (.slice A n c) ls) (hp : Rd w (.slice B nb cb) (u8s xs)) (hp8 : ∀ x ∈ xs, x < 256) (ht : t < 256) :
    Calls Tryd.prog 5 #[.slice A n c, .slice B nb cb, .int .u8 (t : Int)] w fun e w' => e = .returned (.bool true) ∧ Below w.heap.size w w' := by
  have HM := Lib.hid hm
  have HMA := Lib.hid (fun W (hW : Below w.heap.size w W) => made_any A n c ls W (hl.below hW))
  have HPA := Lib.hid (fun W (hW : Below w.heap.size w W) => path_any B nb cb xs W (hp.below hW) hp8)
  have HRT := Lib.hid (made_right ls)
  have hmw := madeW ls
  clear hm hl hp hp8
  obtain ⟨k, hk⟩ : ∃ k, madeS ls = k := ⟨_, rfl⟩
  rw [hk] at HMA HRT hmw
  clear hk
  have hk10 := hmw.1
  have HKL := Lib.hid (fun r hr => (hmw.2.1 r hr).2)
  clear hmw
  have hpl := pathS_len xs
  generalize pathS xs = p at *
  obtain ⟨r, hr⟩ : ∃ r, t % (k.length + 1) = r := ⟨_, rfl⟩
  have hrk : r ≤ k.length := by rw [← hr]; exact Nat.lt_succ_iff.1 (Nat.mod_lt _ (by omega))
  have hrm : (t : Int).tmod ((k.length : Int) + 1) = (r : Int) := tmodN (k.length + 1) hr
  have hwt := wr8 ht
  clear hr
  go_enter Tryd.func5, Tryd.ntmps5
  go_upto_region 6 with first
    | (go_at_call 12; refine (HPA.out _ HB2.out).mono ?_; rintro e w3 ⟨rfl, hb3⟩; have HO3 := Lib.hid (HO2.out.below hb3); have HB3 := Lib.hid (HB2.out.trans (hb3.mono HB2.out.size)); clear hb3)
    | (go_at_call 11; refine (HMA.out _ HB1.out).mono ?_; rintro e w2 ⟨Ak, nk, ck, rfl, hO, hb2⟩; have HO2 := Lib.hid (hO.lower HB1.out.size); have HB2 := Lib.hid (HB1.out.trans (hb2.mono HB1.out.size)); clear hO hb2)
    | (go_at_call 7; refine (awake_any _ m HM.out).mono ?_; rintro e w1 ⟨rfl, hb1⟩; have HB1 := Lib.hid hb1; clear hb1)
  have hnk := HO3.out.rd.len
  rw [hnk] at hrm hrk hk10
  have hrk1 : (r : Int) ≤ (nk : Int) := by omega
  go_upto_region 7 with fail
  have hi0 := info24
  obtain ⟨i24, hi24⟩ : ∃ i, Tryd.prog.info? 24 = some i := by
    cases h : Tryd.prog.info? 24 with
    | none => rw [h] at hi0; simp at hi0
    | some i => exact ⟨i, rfl⟩
  have hsz : i24.size = 2 := by rw [hi24] at hi0; simp at hi0; exact hi0.2.1
  clear hi0
  have hsl := cut_from (P := Tryd.prog) 22 24 .i64 Tryd.underlying22 hi24 2 hsz Ak nk ck (r : Int) (by omega) (by omega)
  have hfd := HO3.out.drop r (by omega)
  have htk := HO3.out.take r (by omega)
  rw [show ((r : Int)).toNat = r by omega] at hsl
  generalize (if ck = r then Ak else Ak.map (·.add (r * 2))) = A6 at hsl hfd
  have HFD := Lib.hid hfd.rd
  have HTK := Lib.hid htk.rd
  obtain ⟨A', c', he, hle⟩ := HO3.out.slice
  have hcap : (r : Int) ≤ (ck : Int) := by
    injection he with _ _ h3
    omega
  have HLE := Lib.hid hle
  have hkd : (k.drop r).length + (k.take r).length ≤ 10 := by rw [List.length_drop, List.length_take]; omega
  have HKD := Lib.hid hkd
  clear hfd htk he hle hkd hi24 hsz hrm hwt
  generalize hV : w3 = V at *
  clear hV
  go_region_held3 (fun w' => V.heap.size ≤ w'.heap.size ∧ Below V.heap.size V w')
    (first | exact SM.start _ | (refine SM.step (row := none) ‹SM V _› ‹_› ?_; intro q hq; cases hq) | (refine SM.step ‹SM V _› ‹_› ?_; intro q hq; exact hv1.lo q hq))
    (first
     | (refine wp_app_stepE V.heap.size (by rfl) _ _ 22 24 (.agg #[.string ByteArray.empty, .int .i64 0]) 24 (by rfl) Tryd.underlying22 info24 rfl (by omega) (by omega) (.slice none 0 0) (.slice A6 (nk - r) (ck - r)) [] (k.drop r) (by rfl) (by rfl) (OwE.nil encR_len _ _ _) (HFD.out.below (‹SM V _›).2) encR_one (by have := HKD.out; simp only [List.length_nil]; omega) (‹SM V _›).1 ?_; intro v1 w4 hv1 hg1 hat1; obtain ⟨A7, n7, c7, rfl⟩ := hv1.slice')
     | (refine wp_app_stepE V.heap.size (by rfl) _ _ 22 24 (.agg #[.string ByteArray.empty, .int .i64 0]) 24 (by rfl) Tryd.underlying22 info24 rfl (by omega) (by omega) (.slice A7 n7 c7) (.slice Ak r ck) ([] ++ k.drop r) (k.take r) (by rfl) (by rfl) hv1 (HTK.out.below (‹SM V _›).2) encR_one (by have := HKD.out; rw [List.nil_append]; omega) (‹SM V _›).1 ?_; intro v2 w5 hv2 hg2 hat2; obtain ⟨A8, n8, c8, rfl⟩ := hv2.slice'))
  have b1 : Below V.heap.size V w4 := (below_drew (Below.refl _ _)).trans (below_of_grown hg1)
  have b2 : Below V.heap.size V w5 := b1.grown hg2 b1.size (fun q hq => hv1.lo q hq)
  have HB5 := Lib.hid (HB3.out.trans (b2.mono HB3.out.size))
  have HK5 := Lib.hid (HO3.out.below b2)
  have HM5 := Lib.hid (show OwE encR 2 24 w5 V.heap.size (.slice A8 n8 c8) (rotR k r) from hv2)
  have hn8 := HM5.out.rd.len
  rw [rot_len] at hn8
  clear b1 b2 hv1 hv2 hg1 hg2 hat1 hat2 hsl hcap hrk1
  rcases order_law (path := p) r HRT.out with ⟨a, bi, x, h1, h2, h3, h4, h5, h6⟩ | ⟨h1, h2, h6⟩
  · obtain ⟨px, bx⟩ := x
    have ha : a < k.length := (List.getElem?_eq_some_iff.1 h3).1
    have hbi : bi < (rotR k r).length := (List.getElem?_eq_some_iff.1 h4).1
    rw [rot_len] at hbi
    have hpx := HKL.out _ (List.mem_of_getElem? h3)
    simp only at hpx h5
    have H1 := Lib.hid h1
    have H2 := Lib.hid h2
    have H3 := Lib.hid h3
    have H4 := Lib.hid h4
    have H6 := Lib.hid h6
    have hua := fun W => under_any px p W (by omega)
    rw [h5] at hua
    have HUA := Lib.hid hua
    have ha1 : (a : Int) < (nk : Int) := by omega
    have ha2 : ¬ (nk : Int) ≤ (a : Int) := by omega
    have hb1 : (bi : Int) < (n8 : Int) := by omega
    clear h1 h2 h3 h4 h5 h6 hua
    go_wp2_with first
      | (go_at_call 14; refine (find_any A8 n8 c8 (rotR k r) p _ m (pw_cell_below HB6.out HM.out) (HM5.out.rd.below HC6.out) (fun q hq => by have := HKL.out q (rot_mem.1 hq); omega) (by rw [rot_len]; omega)).mono ?_; rw [H2.out]; rintro e V0 ⟨f', rfl, rfl, hb7⟩; have HB7 := Lib.hid (HB6.out.trans (hb7.mono HB6.out.size)); have HC7 := Lib.hid (HC6.out.trans (hb7.mono HC6.out.size)); clear hb7)
      | (go_at_call 14; refine (find_any Ak nk ck k p _ m (pw_cell_below HB5.out HM.out) HK5.out.rd (fun q hq => by have := HKL.out q hq; omega) (by omega)).mono ?_; rw [H1.out]; rintro e w6 ⟨f', rfl, rfl, hb6⟩; have HB6 := Lib.hid (HB5.out.trans (hb6.mono HB5.out.size)); have HC6 := Lib.hid hb6; clear hb6)
    have HK7 := Lib.hid (HK5.out.below HC7.out)
    have HM7 := Lib.hid (HM5.out.below HC7.out)
    go_loopg [16] nk (fun gg s16 wr => ∃ i : Nat, s16 = .int .i64 i ∧ i ≤ nk ∧ nk - i ≤ gg ∧ Below w.heap.size w wr ∧ Below V0.heap.size V0 wr)
    case atStart => exact ⟨0, rfl, by omega, by omega, HB7.out, Below.refl _ _⟩
    case round =>
      obtain ⟨i, rfl, hi, hg, hbr, hv0⟩ := hrel
      have HBr := Lib.hid hbr
      have HV0 := Lib.hid hv0
      clear hbr hv0
      by_cases hlt : i < nk
      · have hlt1 : (i : Int) < (nk : Int) := by omega
        obtain ⟨b, off, hA, hbl, hc⟩ := HK7.out.rd.get (by omega)
        subst hA
        have hll : i < k.length := by omega
        have hat : k[i]? = some k[i] := List.getElem?_eq_getElem hll
        have hmem : k[i] ∈ k := List.getElem_mem hll
        have c0 := (HV0.out.cell (p := ⟨b, off + i * 2, none⟩) hbl).trans (hc i 0 k[i] _ hat rfl)
        have ca := (HV0.out.cell (p := ⟨b, off + a * 2, none⟩) hbl).trans (hc a 0 _ _ H3.out rfl)
        generalize k[i] = y at hat hmem c0
        obtain ⟨py, yb⟩ := y
        have hyl := HKL.out _ hmem
        simp only at hyl
        have HUN := Lib.hid (fun W => under_any py p W (by omega))
        have HME := Lib.hid hmem
        clear hat hmem hll hc
        by_cases hu : underS py p = true
        · have hle2 := H6.out _ HME.out hu
          simp only at hle2
          have hle3 : ¬ (px.length : Int) < (py.length : Int) := by omega
          rw [hu] at HUN
          have HU := Lib.hid hu
          clear hu hle2
          go_wp2_with fail
          refine wp_region_held_drew (S := fun W' => W'.cell? ⟨b, off + i * 2, none⟩ = some (str py) ∧ W'.cell? ⟨b, off + a * 2, none⟩ = some (str px) ∧ Below w.heap.size w W' ∧ Below V0.heap.size V0 W') (by kernel_rfl) (⟨by simpa using c0, by simpa using ca, below_drew HBr.out, below_drew HV0.out⟩) (fun hHeld => ?_)
          refine wpAnyH_take (i := 0) (oi := _) (v := ?v0c) rfl (by kernel_rfl) (by kernel_rfl) (by kernel_rfl) (fun _ _ _ h => h) (Or.inl ⟨by kernel_rfl, ?y0c⟩) (by assumption) ?r0c
          case y0c => (intro w hSw; (try dsimp only at hSw); go_simp; try (with_reducible rfl))
          case r0c =>
            simp only [List.getElem_toArray, List.getElem_cons_succ, List.getElem_cons_zero, Act.put, List.setIfInBounds_toArray, List.set_cons_zero, List.set_cons_succ]
            refine wpAnyH_take (i := 1) (oi := _) (v := ?v1c) rfl (by kernel_rfl) (by kernel_rfl) (by kernel_rfl) (fun _ _ _ h => h) (Or.inl ⟨by kernel_rfl, ?y1c⟩) (by assumption) ?r1c
            case y1c => (intro w hSw; (try dsimp only at hSw); go_simp; try (with_reducible rfl))
            case r1c =>
              simp only [List.getElem_toArray, List.getElem_cons_succ, List.getElem_cons_zero, Act.put, List.setIfInBounds_toArray, List.set_cons_zero, List.set_cons_succ]
              refine wpAnyH_take (i := 2) (oi := _) (v := ?v2c) rfl (by kernel_rfl) (by kernel_rfl) (by kernel_rfl) (fun _ _ _ h => h) (Or.inl ⟨by kernel_rfl, ?y2c⟩) (by assumption) ?r2c
              case y2c => (intro w hSw; (try dsimp only at hSw); go_simp; try (with_reducible rfl))
              case r2c =>
                simp only [List.getElem_toArray, List.getElem_cons_succ, List.getElem_cons_zero, Act.put, List.setIfInBounds_toArray, List.set_cons_zero, List.set_cons_succ]
                refine wpAnyH_take (i := 3) (oi := _) (v := ?v3c) rfl (by kernel_rfl) (by kernel_rfl) (by kernel_rfl) (fun _ _ _ h => h) (Or.inl ⟨by kernel_rfl, ?y3c⟩) (by assumption) ?r3c
                case y3c => (intro w hSw; (try dsimp only at hSw); go_simp; try (with_reducible rfl))
                case r3c =>
                  simp only [List.getElem_toArray, List.getElem_cons_succ, List.getElem_cons_zero, Act.put, List.setIfInBounds_toArray, List.set_cons_zero, List.set_cons_succ]
                  refine wpAnyH_take (i := 4) (oi := _) (v := ?v4c) rfl (by kernel_rfl) (by kernel_rfl) (by kernel_rfl) (fun _ _ _ h => h) (Or.inl ⟨by kernel_rfl, ?y4c⟩) (by assumption) ?r4c
                  case y4c => (intro w hSw; (try dsimp only at hSw); go_simp; try (with_reducible rfl))
                  case r4c =>
                    simp only [List.getElem_toArray, List.getElem_cons_succ, List.getElem_cons_zero, Act.put, List.setIfInBounds_toArray, List.set_cons_zero, List.set_cons_succ]
                    refine wpAnyH_take (i := 5) (oi := _) (v := ?v5c) rfl (by kernel_rfl) (by kernel_rfl) (by kernel_rfl) (fun _ _ _ h => h) (Or.inl ⟨by kernel_rfl, ?y5c⟩) (by assumption) ?r5c
                    case y5c => (intro w hSw; (try dsimp only at hSw); go_simp; try (with_reducible rfl))
                    case r5c =>
                      simp only [List.getElem_toArray, List.getElem_cons_succ, List.getElem_cons_zero, Act.put, List.setIfInBounds_toArray, List.set_cons_zero, List.set_cons_succ]
                      refine wpAnyH_ready (rs := [6]) (by kernel_rfl) (by simp) ?_
                      refine AllReadyH.cons (o := _) rfl (fun K hK => ?_) AllReadyH.nil
                      go_simp
                      (go_at_call 9; refine (HUN.out _).mono ?_; rintro e w9 ⟨rfl, rfl⟩)
                      go_wp2_with fail
                      refine hK.out _ _ (hHeld) (fun hHeld => ?_)
                      clear hK K
                      try simp only [List.getElem_toArray, List.getElem_cons_succ, List.getElem_cons_zero, Act.put, List.setIfInBounds_toArray, List.set_cons_zero, List.set_cons_succ]
                      refine wpAnyH_take (i := 7) (oi := _) (v := ?v7c) rfl (by kernel_rfl) (by kernel_rfl) (by kernel_rfl) (fun _ _ _ h => h) (Or.inl ⟨by kernel_rfl, ?y7c⟩) (by assumption) ?r7c
                      case y7c => (intro w hSw; (try dsimp only at hSw); go_simp; try (with_reducible rfl))
                      case r7c =>
                        simp only [List.getElem_toArray, List.getElem_cons_succ, List.getElem_cons_zero, Act.put, List.setIfInBounds_toArray, List.set_cons_zero, List.set_cons_succ]
                        refine wpAnyH_take (i := 8) (oi := _) (v := ?v8c) rfl (by kernel_rfl) (by kernel_rfl) (by kernel_rfl) (fun _ _ _ h => h) (Or.inl ⟨by kernel_rfl, ?y8c⟩) (by assumption) ?r8c
                        case y8c => (intro w hSw; (try dsimp only at hSw); go_simp; try (with_reducible rfl))
                        case r8c =>
                          simp only [List.getElem_toArray, List.getElem_cons_succ, List.getElem_cons_zero, Act.put, List.setIfInBounds_toArray, List.set_cons_zero, List.set_cons_succ]
                          refine wpAnyH_take (i := 9) (oi := _) (v := ?v9c) rfl (by kernel_rfl) (by kernel_rfl) (by kernel_rfl) (fun _ _ _ h => h) (Or.inl ⟨by kernel_rfl, ?y9c⟩) (by assumption) ?r9c
                          case y9c => (intro w hSw; (try dsimp only at hSw); go_simp; try (with_reducible rfl))
                          case r9c =>
                            simp only [List.getElem_toArray, List.getElem_cons_succ, List.getElem_cons_zero, Act.put, List.setIfInBounds_toArray, List.set_cons_zero, List.set_cons_succ]
                            refine wpAnyH_take (i := 10) (oi := _) (v := ?v10c) rfl (by kernel_rfl) (by kernel_rfl) (by kernel_rfl) (fun _ _ _ h => h) (Or.inl ⟨by kernel_rfl, ?y10c⟩) (by assumption) ?r10c
                            case y10c => (intro w hSw; (try dsimp only at hSw); go_simp; try (with_reducible rfl))
                            case r10c =>
                              simp only [List.getElem_toArray, List.getElem_cons_succ, List.getElem_cons_zero, Act.put, List.setIfInBounds_toArray, List.set_cons_zero, List.set_cons_succ]
                              refine wpAnyH_take (i := 11) (oi := _) (v := ?v11c) rfl (by kernel_rfl) (by kernel_rfl) (by kernel_rfl) (fun _ _ _ h => h) (Or.inl ⟨by kernel_rfl, ?y11c⟩) (by assumption) ?r11c
                              case y11c => (intro w hSw; (try dsimp only at hSw); go_simp; try (with_reducible rfl))
                              case r11c =>
                                simp only [List.getElem_toArray, List.getElem_cons_succ, List.getElem_cons_zero, Act.put, List.setIfInBounds_toArray, List.set_cons_zero, List.set_cons_succ]
                                refine wpAnyH_take (i := 12) (oi := _) (v := ?v12c) rfl (by kernel_rfl) (by kernel_rfl) (by kernel_rfl) (fun _ _ _ h => h) (Or.inl ⟨by kernel_rfl, ?y12c⟩) (by assumption) ?r12c
                                case y12c => (intro w hSw; (try dsimp only at hSw); go_simp; try (with_reducible rfl))
                                case r12c =>
                                  simp only [List.getElem_toArray, List.getElem_cons_succ, List.getElem_cons_zero, Act.put, List.setIfInBounds_toArray, List.set_cons_zero, List.set_cons_succ]
                                  refine wpAnyH_take (i := 13) (oi := _) (v := ?v13c) rfl (by kernel_rfl) (by kernel_rfl) (by kernel_rfl) (fun _ _ _ h => h) (Or.inl ⟨by kernel_rfl, ?y13c⟩) (by assumption) ?r13c
                                  case y13c => (intro w hSw; (try dsimp only at hSw); go_simp; try (with_reducible rfl))
                                  case r13c =>
                                    simp only [List.getElem_toArray, List.getElem_cons_succ, List.getElem_cons_zero, Act.put, List.setIfInBounds_toArray, List.set_cons_zero, List.set_cons_succ]
                                    refine wpAnyH_take (i := 14) (oi := _) (v := ?v14c) rfl (by kernel_rfl) (by kernel_rfl) (by kernel_rfl) (fun _ _ _ h => h) (Or.inl ⟨by kernel_rfl, ?y14c⟩) (by assumption) ?r14c
                                    case y14c => (intro w hSw; (try dsimp only at hSw); go_simp; try (with_reducible rfl))
                                    case r14c =>
                                      simp only [List.getElem_toArray, List.getElem_cons_succ, List.getElem_cons_zero, Act.put, List.setIfInBounds_toArray, List.set_cons_zero, List.set_cons_succ]
                                      refine wpAnyH_take (i := 15) (oi := _) (v := ?v15c) rfl (by kernel_rfl) (by kernel_rfl) (by kernel_rfl) (fun _ _ _ h => h) (Or.inl ⟨by kernel_rfl, ?y15c⟩) (by assumption) ?r15c
                                      case y15c => (intro w hSw; (try dsimp only at hSw); go_simp; try (with_reducible rfl))
                                      case r15c =>
                                        simp only [List.getElem_toArray, List.getElem_cons_succ, List.getElem_cons_zero, Act.put, List.setIfInBounds_toArray, List.set_cons_zero, List.set_cons_succ]
                                        refine wpAnyH_take (i := 16) (oi := _) (v := ?v16c) rfl (by kernel_rfl) (by kernel_rfl) (by kernel_rfl) (fun _ _ _ h => h) (Or.inl ⟨by kernel_rfl, ?y16c⟩) (by assumption) ?r16c
                                        case y16c => (intro w hSw; (try dsimp only at hSw); go_simp; try (with_reducible rfl))
                                        case r16c =>
                                          simp only [List.getElem_toArray, List.getElem_cons_succ, List.getElem_cons_zero, Act.put, List.setIfInBounds_toArray, List.set_cons_zero, List.set_cons_succ]
                                          refine wpAnyH_take (i := 17) (oi := _) (v := ?v17c) rfl (by kernel_rfl) (by kernel_rfl) (by kernel_rfl) (fun _ _ _ h => h) (Or.inl ⟨by kernel_rfl, ?y17c⟩) (by assumption) ?r17c
                                          case y17c => (intro w hSw; (try dsimp only at hSw); go_simp; try (with_reducible rfl))
                                          case r17c =>
                                            simp only [List.getElem_toArray, List.getElem_cons_succ, List.getElem_cons_zero, Act.put, List.setIfInBounds_toArray, List.set_cons_zero, List.set_cons_succ]
                                            refine wpAnyH_take (i := 18) (oi := _) (v := .bool false) rfl (by kernel_rfl) (by kernel_rfl) (by kernel_rfl) (fun _ _ _ h => h) (Or.inl ⟨by kernel_rfl, ?y18c⟩) (by assumption) ?r18c
                                            case y18c => (intro w hSw; (try dsimp only at hSw); go_simp; omega)
                                            case r18c =>
                                              simp only [List.getElem_toArray, List.getElem_cons_succ, List.getElem_cons_zero, Act.put, List.setIfInBounds_toArray, List.set_cons_zero, List.set_cons_succ]
                                              refine wpAnyH_take (i := 19) (oi := _) (v := ?v19c) rfl (by kernel_rfl) (by kernel_rfl) (by kernel_rfl) (fun _ _ _ h => h) (Or.inl ⟨by kernel_rfl, ?y19c⟩) (by assumption) ?r19c
                                              case y19c => (intro w hSw; (try dsimp only at hSw); go_simp; try (with_reducible rfl))
                                              case r19c =>
                                                simp only [List.getElem_toArray, List.getElem_cons_succ, List.getElem_cons_zero, Act.put, List.setIfInBounds_toArray, List.set_cons_zero, List.set_cons_succ]
                                                refine wpAnyH_take (i := 20) (oi := _) (v := ?v20c) rfl (by kernel_rfl) (by kernel_rfl) (by kernel_rfl) (fun _ _ _ h => h) (Or.inl ⟨by kernel_rfl, ?y20c⟩) (by assumption) ?r20c
                                                case y20c => (intro w hSw; (try dsimp only at hSw); go_simp; try (with_reducible rfl))
                                                case r20c =>
                                                  simp only [List.getElem_toArray, List.getElem_cons_succ, List.getElem_cons_zero, Act.put, List.setIfInBounds_toArray, List.set_cons_zero, List.set_cons_succ]
                                                  refine wpAnyH_take (i := 21) (oi := _) (v := ?v21c) rfl (by kernel_rfl) (by kernel_rfl) (by kernel_rfl) (fun _ _ _ h => h) (Or.inl ⟨by kernel_rfl, ?y21c⟩) (by assumption) ?r21c
                                                  case y21c => (intro w hSw; (try dsimp only at hSw); go_simp; try (with_reducible rfl))
                                                  case r21c =>
                                                    simp only [List.getElem_toArray, List.getElem_cons_succ, List.getElem_cons_zero, Act.put, List.setIfInBounds_toArray, List.set_cons_zero, List.set_cons_succ]
                                                    refine wpAnyH_take (i := 22) (oi := _) (v := ?v22c) rfl (by kernel_rfl) (by kernel_rfl) (by kernel_rfl) (fun _ _ _ h => h) (Or.inl ⟨by kernel_rfl, ?y22c⟩) (by assumption) ?r22c
                                                    case y22c => (intro w hSw; (try dsimp only at hSw); go_simp; try (with_reducible rfl))
                                                    case r22c =>
                                                      simp only [List.getElem_toArray, List.getElem_cons_succ, List.getElem_cons_zero, Act.put, List.setIfInBounds_toArray, List.set_cons_zero, List.set_cons_succ]
                                                      refine wpAnyH_take (i := 23) (oi := _) (v := ?v23c) rfl (by kernel_rfl) (by kernel_rfl) (by kernel_rfl) (fun _ _ _ h => h) (Or.inl ⟨by kernel_rfl, ?y23c⟩) (by assumption) ?r23c
                                                      case y23c => (intro w hSw; (try dsimp only at hSw); go_simp; try (with_reducible rfl))
                                                      case r23c =>
                                                        simp only [List.getElem_toArray, List.getElem_cons_succ, List.getElem_cons_zero, Act.put, List.setIfInBounds_toArray, List.set_cons_zero, List.set_cons_succ]
                                                        refine wpAnyH_take (i := 24) (oi := _) (v := ?v24c) rfl (by kernel_rfl) (by kernel_rfl) (by kernel_rfl) (fun _ _ _ h => h) (Or.inl ⟨by kernel_rfl, ?y24c⟩) (by assumption) ?r24c
                                                        case y24c => (intro w hSw; (try dsimp only at hSw); go_simp; try (with_reducible rfl))
                                                        case r24c =>
                                                          simp only [List.getElem_toArray, List.getElem_cons_succ, List.getElem_cons_zero, Act.put, List.setIfInBounds_toArray, List.set_cons_zero, List.set_cons_succ]
                                                          refine wpAnyH_take (i := 25) (oi := _) (v := ?v25c) rfl (by kernel_rfl) (by kernel_rfl) (by kernel_rfl) (fun _ _ _ h => h) (Or.inl ⟨by kernel_rfl, ?y25c⟩) (by assumption) ?r25c
                                                          case y25c => (intro w hSw; (try dsimp only at hSw); go_simp; try (with_reducible rfl))
                                                          case r25c =>
                                                            simp only [List.getElem_toArray, List.getElem_cons_succ, List.getElem_cons_zero, Act.put, List.setIfInBounds_toArray, List.set_cons_zero, List.set_cons_succ]
                                                            refine wpAnyH_take (i := 26) (oi := _) (v := ?v26c) rfl (by kernel_rfl) (by kernel_rfl) (by kernel_rfl) (fun _ _ _ h => h) (Or.inl ⟨by kernel_rfl, ?y26c⟩) (by assumption) ?r26c
                                                            case y26c => (intro w hSw; (try dsimp only at hSw); go_simp; try (with_reducible rfl))
                                                            case r26c =>
                                                              simp only [List.getElem_toArray, List.getElem_cons_succ, List.getElem_cons_zero, Act.put, List.setIfInBounds_toArray, List.set_cons_zero, List.set_cons_succ]
                                                              refine wpAnyH_take (i := 27) (oi := _) (v := ?v27c) rfl (by kernel_rfl) (by kernel_rfl) (by kernel_rfl) (fun _ _ _ h => h) (Or.inl ⟨by kernel_rfl, ?y27c⟩) (by assumption) ?r27c
                                                              case y27c => (intro w hSw; (try dsimp only at hSw); go_simp; try (with_reducible rfl))
                                                              case r27c =>
                                                                simp only [List.getElem_toArray, List.getElem_cons_succ, List.getElem_cons_zero, Act.put, List.setIfInBounds_toArray, List.set_cons_zero, List.set_cons_succ]
                                                                refine wpAnyH_take (i := 28) (oi := _) (v := ?v28c) rfl (by kernel_rfl) (by kernel_rfl) (by kernel_rfl) (fun _ _ _ h => h) (Or.inl ⟨by kernel_rfl, ?y28c⟩) (by assumption) ?r28c
                                                                case y28c => (intro w hSw; (try dsimp only at hSw); go_simp; try (with_reducible rfl))
                                                                case r28c =>
                                                                  simp only [List.getElem_toArray, List.getElem_cons_succ, List.getElem_cons_zero, Act.put, List.setIfInBounds_toArray, List.set_cons_zero, List.set_cons_succ]
                                                                  refine wpAnyH_take (i := 29) (oi := _) (v := ?v29c) rfl (by kernel_rfl) (by kernel_rfl) (by kernel_rfl) (fun _ _ _ h => h) (Or.inl ⟨by kernel_rfl, ?y29c⟩) (by assumption) ?r29c
                                                                  case y29c => (intro w hSw; (try dsimp only at hSw); go_simp; try (with_reducible rfl))
                                                                  case r29c =>
                                                                    simp only [List.getElem_toArray, List.getElem_cons_succ, List.getElem_cons_zero, Act.put, List.setIfInBounds_toArray, List.set_cons_zero, List.set_cons_succ]
                                                                    refine wpAnyH_take (i := 30) (oi := _) (v := ?v30c) rfl (by kernel_rfl) (by kernel_rfl) (by kernel_rfl) (fun _ _ _ h => h) (Or.inl ⟨by kernel_rfl, ?y30c⟩) (by assumption) ?r30c
                                                                    case y30c => (intro w hSw; (try dsimp only at hSw); go_simp; try (with_reducible rfl))
                                                                    case r30c =>
                                                                      simp only [List.getElem_toArray, List.getElem_cons_succ, List.getElem_cons_zero, Act.put, List.setIfInBounds_toArray, List.set_cons_zero, List.set_cons_succ]
                                                                      refine wpAnyH_take (i := 31) (oi := _) (v := ?v31c) rfl (by kernel_rfl) (by kernel_rfl) (by kernel_rfl) (fun _ _ _ h => h) (Or.inl ⟨by kernel_rfl, ?y31c⟩) (by assumption) ?r31c
                                                                      case y31c => (intro w hSw; (try dsimp only at hSw); go_simp; try (with_reducible rfl))
                                                                      case r31c =>
                                                                        simp only [List.getElem_toArray, List.getElem_cons_succ, List.getElem_cons_zero, Act.put, List.setIfInBounds_toArray, List.set_cons_zero, List.set_cons_succ]
                                                                        refine wpAnyH_take (i := 32) (oi := _) (v := ?v32c) rfl (by kernel_rfl) (by kernel_rfl) (by kernel_rfl) (fun _ _ _ h => h) (Or.inl ⟨by kernel_rfl, ?y32c⟩) (by assumption) ?r32c
                                                                        case y32c => (intro w hSw; (try dsimp only at hSw); go_simp; try (with_reducible rfl))
                                                                        case r32c =>
                                                                          simp only [List.getElem_toArray, List.getElem_cons_succ, List.getElem_cons_zero, Act.put, List.setIfInBounds_toArray, List.set_cons_zero, List.set_cons_succ]
                                                                          refine wpAnyH_take (i := 33) (oi := _) (v := ?v33c) rfl (by kernel_rfl) (by kernel_rfl) (by kernel_rfl) (fun _ _ _ h => h) (Or.inl ⟨by kernel_rfl, ?y33c⟩) (by assumption) ?r33c
                                                                          case y33c => (intro w hSw; (try dsimp only at hSw); go_simp; try (with_reducible rfl))
                                                                          case r33c =>
                                                                            simp only [List.getElem_toArray, List.getElem_cons_succ, List.getElem_cons_zero, Act.put, List.setIfInBounds_toArray, List.set_cons_zero, List.set_cons_succ]
                                                                            refine wpAnyH_take (i := 34) (oi := _) (v := ?v34c) rfl (by kernel_rfl) (by kernel_rfl) (by kernel_rfl) (fun _ _ _ h => h) (Or.inl ⟨by kernel_rfl, ?y34c⟩) (by assumption) ?r34c
                                                                            case y34c => (intro w hSw; (try dsimp only at hSw); go_simp; try (with_reducible rfl))
                                                                            case r34c =>
                                                                              simp only [List.getElem_toArray, List.getElem_cons_succ, List.getElem_cons_zero, Act.put, List.setIfInBounds_toArray, List.set_cons_zero, List.set_cons_succ]
                                                                              refine wpAnyH_take (i := 35) (oi := _) (v := ?v35c) rfl (by kernel_rfl) (by kernel_rfl) (by kernel_rfl) (fun _ _ _ h => h) (Or.inl ⟨by kernel_rfl, ?y35c⟩) (by assumption) ?r35c
                                                                              case y35c => (intro w hSw; (try dsimp only at hSw); go_simp; try (with_reducible rfl))
                                                                              case r35c =>
                                                                                simp only [List.getElem_toArray, List.getElem_cons_succ, List.getElem_cons_zero, Act.put, List.setIfInBounds_toArray, List.set_cons_zero, List.set_cons_succ]
                                                                                refine wpAnyH_done (by kernel_rfl) ?_ _
                                                                                go_wp2_with fail
                                                                                go_roundg (nk - (i + 1))
                                                                                case measure => omega
                                                                                case rel => exact ⟨i + 1, by simp [wrap64] <;> omega, by omega, by omega, hHeld.2.2.1, hHeld.2.2.2⟩
          
        · have hu0 := Bool.eq_false_iff.2 hu
          clear hu
          have hu1 : underS py p = false := hu0
          rw [hu1] at HUN
          clear hu1 hu0
          go_wp2_with fail
          refine wp_region_held_drew (S := fun W' => W'.cell? ⟨b, off + i * 2, none⟩ = some (str py) ∧ Below w.heap.size w W' ∧ Below V0.heap.size V0 W') (by kernel_rfl) (⟨by simpa using c0, below_drew HBr.out, below_drew HV0.out⟩) (fun hHeld => ?_)
          refine wpAnyH_take (i := 0) (oi := _) (v := ?v0a) rfl (by kernel_rfl) (by kernel_rfl) (by kernel_rfl) (fun _ _ _ h => h) (Or.inl ⟨by kernel_rfl, ?y0a⟩) (by assumption) ?r0a
          case y0a => (intro w hSw; (try dsimp only at hSw); go_simp; try (with_reducible rfl))
          case r0a =>
            simp only [List.getElem_toArray, List.getElem_cons_succ, List.getElem_cons_zero, Act.put, List.setIfInBounds_toArray, List.set_cons_zero, List.set_cons_succ]
            refine wpAnyH_take (i := 1) (oi := _) (v := ?v1a) rfl (by kernel_rfl) (by kernel_rfl) (by kernel_rfl) (fun _ _ _ h => h) (Or.inl ⟨by kernel_rfl, ?y1a⟩) (by assumption) ?r1a
            case y1a => (intro w hSw; (try dsimp only at hSw); go_simp; try (with_reducible rfl))
            case r1a =>
              simp only [List.getElem_toArray, List.getElem_cons_succ, List.getElem_cons_zero, Act.put, List.setIfInBounds_toArray, List.set_cons_zero, List.set_cons_succ]
              refine wpAnyH_take (i := 2) (oi := _) (v := ?v2a) rfl (by kernel_rfl) (by kernel_rfl) (by kernel_rfl) (fun _ _ _ h => h) (Or.inl ⟨by kernel_rfl, ?y2a⟩) (by assumption) ?r2a
              case y2a => (intro w hSw; (try dsimp only at hSw); go_simp; try (with_reducible rfl))
              case r2a =>
                simp only [List.getElem_toArray, List.getElem_cons_succ, List.getElem_cons_zero, Act.put, List.setIfInBounds_toArray, List.set_cons_zero, List.set_cons_succ]
                refine wpAnyH_take (i := 3) (oi := _) (v := ?v3a) rfl (by kernel_rfl) (by kernel_rfl) (by kernel_rfl) (fun _ _ _ h => h) (Or.inl ⟨by kernel_rfl, ?y3a⟩) (by assumption) ?r3a
                case y3a => (intro w hSw; (try dsimp only at hSw); go_simp; try (with_reducible rfl))
                case r3a =>
                  simp only [List.getElem_toArray, List.getElem_cons_succ, List.getElem_cons_zero, Act.put, List.setIfInBounds_toArray, List.set_cons_zero, List.set_cons_succ]
                  refine wpAnyH_take (i := 4) (oi := _) (v := ?v4a) rfl (by kernel_rfl) (by kernel_rfl) (by kernel_rfl) (fun _ _ _ h => h) (Or.inl ⟨by kernel_rfl, ?y4a⟩) (by assumption) ?r4a
                  case y4a => (intro w hSw; (try dsimp only at hSw); go_simp; try (with_reducible rfl))
                  case r4a =>
                    simp only [List.getElem_toArray, List.getElem_cons_succ, List.getElem_cons_zero, Act.put, List.setIfInBounds_toArray, List.set_cons_zero, List.set_cons_succ]
                    refine wpAnyH_take (i := 5) (oi := _) (v := ?v5a) rfl (by kernel_rfl) (by kernel_rfl) (by kernel_rfl) (fun _ _ _ h => h) (Or.inl ⟨by kernel_rfl, ?y5a⟩) (by assumption) ?r5a
                    case y5a => (intro w hSw; (try dsimp only at hSw); go_simp; try (with_reducible rfl))
                    case r5a =>
                      simp only [List.getElem_toArray, List.getElem_cons_succ, List.getElem_cons_zero, Act.put, List.setIfInBounds_toArray, List.set_cons_zero, List.set_cons_succ]
                      refine wpAnyH_ready (rs := [6]) (by kernel_rfl) (by simp) ?_
                      refine AllReadyH.cons (o := _) rfl (fun K hK => ?_) AllReadyH.nil
                      go_simp
                      (go_at_call 9; refine (HUN.out _).mono ?_; rintro e w9 ⟨rfl, rfl⟩)
                      go_wp2_with fail
                      refine hK.out _ _ (hHeld) (fun hHeld => ?_)
                      clear hK K
                      try simp only [List.getElem_toArray, List.getElem_cons_succ, List.getElem_cons_zero, Act.put, List.setIfInBounds_toArray, List.set_cons_zero, List.set_cons_succ]
                      refine wpAnyH_take (i := 7) (oi := _) (v := ?v7a) rfl (by kernel_rfl) (by kernel_rfl) (by kernel_rfl) (fun _ _ _ h => h) (Or.inl ⟨by kernel_rfl, ?y7a⟩) (by assumption) ?r7a
                      case y7a => (intro w hSw; (try dsimp only at hSw); go_simp; try (with_reducible rfl))
                      case r7a =>
                        simp only [List.getElem_toArray, List.getElem_cons_succ, List.getElem_cons_zero, Act.put, List.setIfInBounds_toArray, List.set_cons_zero, List.set_cons_succ]
                        refine wpAnyH_take (i := 8) (oi := _) (v := undef) rfl (by kernel_rfl) (by kernel_rfl) (by kernel_rfl) (fun _ _ _ h => h) (Or.inr ⟨by kernel_rfl, rfl⟩) (by assumption) ?_
                        simp only [List.getElem_toArray, List.getElem_cons_succ, List.getElem_cons_zero, Act.put, List.setIfInBounds_toArray, List.set_cons_zero, List.set_cons_succ]
                        refine wpAnyH_take (i := 9) (oi := _) (v := undef) rfl (by kernel_rfl) (by kernel_rfl) (by kernel_rfl) (fun _ _ _ h => h) (Or.inr ⟨by kernel_rfl, rfl⟩) (by assumption) ?_
                        simp only [List.getElem_toArray, List.getElem_cons_succ, List.getElem_cons_zero, Act.put, List.setIfInBounds_toArray, List.set_cons_zero, List.set_cons_succ]
                        refine wpAnyH_take (i := 10) (oi := _) (v := undef) rfl (by kernel_rfl) (by kernel_rfl) (by kernel_rfl) (fun _ _ _ h => h) (Or.inr ⟨by kernel_rfl, rfl⟩) (by assumption) ?_
                        simp only [List.getElem_toArray, List.getElem_cons_succ, List.getElem_cons_zero, Act.put, List.setIfInBounds_toArray, List.set_cons_zero, List.set_cons_succ]
                        refine wpAnyH_take (i := 11) (oi := _) (v := undef) rfl (by kernel_rfl) (by kernel_rfl) (by kernel_rfl) (fun _ _ _ h => h) (Or.inr ⟨by kernel_rfl, rfl⟩) (by assumption) ?_
                        simp only [List.getElem_toArray, List.getElem_cons_succ, List.getElem_cons_zero, Act.put, List.setIfInBounds_toArray, List.set_cons_zero, List.set_cons_succ]
                        refine wpAnyH_take (i := 12) (oi := _) (v := undef) rfl (by kernel_rfl) (by kernel_rfl) (by kernel_rfl) (fun _ _ _ h => h) (Or.inr ⟨by kernel_rfl, rfl⟩) (by assumption) ?_
                        simp only [List.getElem_toArray, List.getElem_cons_succ, List.getElem_cons_zero, Act.put, List.setIfInBounds_toArray, List.set_cons_zero, List.set_cons_succ]
                        refine wpAnyH_take (i := 13) (oi := _) (v := undef) rfl (by kernel_rfl) (by kernel_rfl) (by kernel_rfl) (fun _ _ _ h => h) (Or.inr ⟨by kernel_rfl, rfl⟩) (by assumption) ?_
                        simp only [List.getElem_toArray, List.getElem_cons_succ, List.getElem_cons_zero, Act.put, List.setIfInBounds_toArray, List.set_cons_zero, List.set_cons_succ]
                        refine wpAnyH_take (i := 14) (oi := _) (v := undef) rfl (by kernel_rfl) (by kernel_rfl) (by kernel_rfl) (fun _ _ _ h => h) (Or.inr ⟨by kernel_rfl, rfl⟩) (by assumption) ?_
                        simp only [List.getElem_toArray, List.getElem_cons_succ, List.getElem_cons_zero, Act.put, List.setIfInBounds_toArray, List.set_cons_zero, List.set_cons_succ]
                        refine wpAnyH_take (i := 15) (oi := _) (v := undef) rfl (by kernel_rfl) (by kernel_rfl) (by kernel_rfl) (fun _ _ _ h => h) (Or.inr ⟨by kernel_rfl, rfl⟩) (by assumption) ?_
                        simp only [List.getElem_toArray, List.getElem_cons_succ, List.getElem_cons_zero, Act.put, List.setIfInBounds_toArray, List.set_cons_zero, List.set_cons_succ]
                        refine wpAnyH_take (i := 16) (oi := _) (v := undef) rfl (by kernel_rfl) (by kernel_rfl) (by kernel_rfl) (fun _ _ _ h => h) (Or.inr ⟨by kernel_rfl, rfl⟩) (by assumption) ?_
                        simp only [List.getElem_toArray, List.getElem_cons_succ, List.getElem_cons_zero, Act.put, List.setIfInBounds_toArray, List.set_cons_zero, List.set_cons_succ]
                        refine wpAnyH_take (i := 17) (oi := _) (v := undef) rfl (by kernel_rfl) (by kernel_rfl) (by kernel_rfl) (fun _ _ _ h => h) (Or.inr ⟨by kernel_rfl, rfl⟩) (by assumption) ?_
                        simp only [List.getElem_toArray, List.getElem_cons_succ, List.getElem_cons_zero, Act.put, List.setIfInBounds_toArray, List.set_cons_zero, List.set_cons_succ]
                        refine wpAnyH_take (i := 18) (oi := _) (v := undef) rfl (by kernel_rfl) (by kernel_rfl) (by kernel_rfl) (fun _ _ _ h => h) (Or.inr ⟨by kernel_rfl, rfl⟩) (by assumption) ?_
                        simp only [List.getElem_toArray, List.getElem_cons_succ, List.getElem_cons_zero, Act.put, List.setIfInBounds_toArray, List.set_cons_zero, List.set_cons_succ]
                        refine wpAnyH_take (i := 19) (oi := _) (v := undef) rfl (by kernel_rfl) (by kernel_rfl) (by kernel_rfl) (fun _ _ _ h => h) (Or.inr ⟨by kernel_rfl, rfl⟩) (by assumption) ?_
                        simp only [List.getElem_toArray, List.getElem_cons_succ, List.getElem_cons_zero, Act.put, List.setIfInBounds_toArray, List.set_cons_zero, List.set_cons_succ]
                        refine wpAnyH_take (i := 20) (oi := _) (v := undef) rfl (by kernel_rfl) (by kernel_rfl) (by kernel_rfl) (fun _ _ _ h => h) (Or.inr ⟨by kernel_rfl, rfl⟩) (by assumption) ?_
                        simp only [List.getElem_toArray, List.getElem_cons_succ, List.getElem_cons_zero, Act.put, List.setIfInBounds_toArray, List.set_cons_zero, List.set_cons_succ]
                        refine wpAnyH_take (i := 21) (oi := _) (v := undef) rfl (by kernel_rfl) (by kernel_rfl) (by kernel_rfl) (fun _ _ _ h => h) (Or.inr ⟨by kernel_rfl, rfl⟩) (by assumption) ?_
                        simp only [List.getElem_toArray, List.getElem_cons_succ, List.getElem_cons_zero, Act.put, List.setIfInBounds_toArray, List.set_cons_zero, List.set_cons_succ]
                        refine wpAnyH_take (i := 22) (oi := _) (v := undef) rfl (by kernel_rfl) (by kernel_rfl) (by kernel_rfl) (fun _ _ _ h => h) (Or.inr ⟨by kernel_rfl, rfl⟩) (by assumption) ?_
                        simp only [List.getElem_toArray, List.getElem_cons_succ, List.getElem_cons_zero, Act.put, List.setIfInBounds_toArray, List.set_cons_zero, List.set_cons_succ]
                        refine wpAnyH_take (i := 23) (oi := _) (v := undef) rfl (by kernel_rfl) (by kernel_rfl) (by kernel_rfl) (fun _ _ _ h => h) (Or.inr ⟨by kernel_rfl, rfl⟩) (by assumption) ?_
                        simp only [List.getElem_toArray, List.getElem_cons_succ, List.getElem_cons_zero, Act.put, List.setIfInBounds_toArray, List.set_cons_zero, List.set_cons_succ]
                        refine wpAnyH_take (i := 24) (oi := _) (v := undef) rfl (by kernel_rfl) (by kernel_rfl) (by kernel_rfl) (fun _ _ _ h => h) (Or.inr ⟨by kernel_rfl, rfl⟩) (by assumption) ?_
                        simp only [List.getElem_toArray, List.getElem_cons_succ, List.getElem_cons_zero, Act.put, List.setIfInBounds_toArray, List.set_cons_zero, List.set_cons_succ]
                        refine wpAnyH_take (i := 25) (oi := _) (v := undef) rfl (by kernel_rfl) (by kernel_rfl) (by kernel_rfl) (fun _ _ _ h => h) (Or.inr ⟨by kernel_rfl, rfl⟩) (by assumption) ?_
                        simp only [List.getElem_toArray, List.getElem_cons_succ, List.getElem_cons_zero, Act.put, List.setIfInBounds_toArray, List.set_cons_zero, List.set_cons_succ]
                        refine wpAnyH_take (i := 26) (oi := _) (v := undef) rfl (by kernel_rfl) (by kernel_rfl) (by kernel_rfl) (fun _ _ _ h => h) (Or.inr ⟨by kernel_rfl, rfl⟩) (by assumption) ?_
                        simp only [List.getElem_toArray, List.getElem_cons_succ, List.getElem_cons_zero, Act.put, List.setIfInBounds_toArray, List.set_cons_zero, List.set_cons_succ]
                        refine wpAnyH_take (i := 27) (oi := _) (v := undef) rfl (by kernel_rfl) (by kernel_rfl) (by kernel_rfl) (fun _ _ _ h => h) (Or.inr ⟨by kernel_rfl, rfl⟩) (by assumption) ?_
                        simp only [List.getElem_toArray, List.getElem_cons_succ, List.getElem_cons_zero, Act.put, List.setIfInBounds_toArray, List.set_cons_zero, List.set_cons_succ]
                        refine wpAnyH_take (i := 28) (oi := _) (v := undef) rfl (by kernel_rfl) (by kernel_rfl) (by kernel_rfl) (fun _ _ _ h => h) (Or.inr ⟨by kernel_rfl, rfl⟩) (by assumption) ?_
                        simp only [List.getElem_toArray, List.getElem_cons_succ, List.getElem_cons_zero, Act.put, List.setIfInBounds_toArray, List.set_cons_zero, List.set_cons_succ]
                        refine wpAnyH_take (i := 29) (oi := _) (v := undef) rfl (by kernel_rfl) (by kernel_rfl) (by kernel_rfl) (fun _ _ _ h => h) (Or.inr ⟨by kernel_rfl, rfl⟩) (by assumption) ?_
                        simp only [List.getElem_toArray, List.getElem_cons_succ, List.getElem_cons_zero, Act.put, List.setIfInBounds_toArray, List.set_cons_zero, List.set_cons_succ]
                        refine wpAnyH_take (i := 30) (oi := _) (v := undef) rfl (by kernel_rfl) (by kernel_rfl) (by kernel_rfl) (fun _ _ _ h => h) (Or.inr ⟨by kernel_rfl, rfl⟩) (by assumption) ?_
                        simp only [List.getElem_toArray, List.getElem_cons_succ, List.getElem_cons_zero, Act.put, List.setIfInBounds_toArray, List.set_cons_zero, List.set_cons_succ]
                        refine wpAnyH_take (i := 31) (oi := _) (v := undef) rfl (by kernel_rfl) (by kernel_rfl) (by kernel_rfl) (fun _ _ _ h => h) (Or.inr ⟨by kernel_rfl, rfl⟩) (by assumption) ?_
                        simp only [List.getElem_toArray, List.getElem_cons_succ, List.getElem_cons_zero, Act.put, List.setIfInBounds_toArray, List.set_cons_zero, List.set_cons_succ]
                        refine wpAnyH_take (i := 32) (oi := _) (v := undef) rfl (by kernel_rfl) (by kernel_rfl) (by kernel_rfl) (fun _ _ _ h => h) (Or.inr ⟨by kernel_rfl, rfl⟩) (by assumption) ?_
                        simp only [List.getElem_toArray, List.getElem_cons_succ, List.getElem_cons_zero, Act.put, List.setIfInBounds_toArray, List.set_cons_zero, List.set_cons_succ]
                        refine wpAnyH_take (i := 33) (oi := _) (v := undef) rfl (by kernel_rfl) (by kernel_rfl) (by kernel_rfl) (fun _ _ _ h => h) (Or.inr ⟨by kernel_rfl, rfl⟩) (by assumption) ?_
                        simp only [List.getElem_toArray, List.getElem_cons_succ, List.getElem_cons_zero, Act.put, List.setIfInBounds_toArray, List.set_cons_zero, List.set_cons_succ]
                        refine wpAnyH_take (i := 34) (oi := _) (v := undef) rfl (by kernel_rfl) (by kernel_rfl) (by kernel_rfl) (fun _ _ _ h => h) (Or.inr ⟨by kernel_rfl, rfl⟩) (by assumption) ?_
                        simp only [List.getElem_toArray, List.getElem_cons_succ, List.getElem_cons_zero, Act.put, List.setIfInBounds_toArray, List.set_cons_zero, List.set_cons_succ]
                        refine wpAnyH_take (i := 35) (oi := _) (v := ?v35a) rfl (by kernel_rfl) (by kernel_rfl) (by kernel_rfl) (fun _ _ _ h => h) (Or.inl ⟨by kernel_rfl, ?y35a⟩) (by assumption) ?r35a
                        case y35a => (intro w hSw; (try dsimp only at hSw); go_simp; try (with_reducible rfl))
                        case r35a =>
                          simp only [List.getElem_toArray, List.getElem_cons_succ, List.getElem_cons_zero, Act.put, List.setIfInBounds_toArray, List.set_cons_zero, List.set_cons_succ]
                          refine wpAnyH_done (by kernel_rfl) ?_ _
                          go_wp2_with fail
                          go_roundg (nk - (i + 1))
                          case measure => omega
                          case rel => exact ⟨i + 1, by simp [wrap64] <;> omega, by omega, by omega, hHeld.2.1, hHeld.2.2⟩
          
      · have hlt1 : ¬ (i : Int) < (nk : Int) := by omega
        obtain ⟨b, off, hA, hbl, hc⟩ := HK7.out.rd.get (by omega)
        subst hA
        have ca := (HV0.out.cell (p := ⟨b, off + a * 2, none⟩) hbl).trans (hc a 0 _ _ H3.out rfl)
        have ca1 := (HV0.out.cell (p := ⟨b, off + a * 2 + 1, none⟩) hbl).trans (hc a 1 _ _ H3.out rfl)
        obtain ⟨b2, off2, hA2, hbl2, hc2⟩ := HM7.out.rd.get (by omega)
        subst hA2
        have cb := (HV0.out.cell (p := ⟨b2, off2 + bi * 2, none⟩) hbl2).trans (hc2 bi 0 _ _ H4.out rfl)
        have cb1 := (HV0.out.cell (p := ⟨b2, off2 + bi * 2 + 1, none⟩) hbl2).trans (hc2 bi 1 _ _ H4.out rfl)
        clear hc hc2
        go_wp2_with fail
        refine wp_region_held_drew (S := fun W' => W'.cell? ⟨b, off + a * 2, none⟩ = some (str px) ∧ W'.cell? ⟨b, off + a * 2 + 1, none⟩ = some (.int .i64 bx) ∧ W'.cell? ⟨b2, off2 + bi * 2, none⟩ = some (str px) ∧ W'.cell? ⟨b2, off2 + bi * 2 + 1, none⟩ = some (.int .i64 bx) ∧ Below w.heap.size w W') (by kernel_rfl) (⟨by simpa using ca, by simpa using ca1, by simpa using cb, by simpa using cb1, below_drew HBr.out⟩) (fun hHeld => ?_)
        refine wpAnyH_take (i := 0) (oi := _) (v := ?v0d) rfl (by kernel_rfl) (by kernel_rfl) (by kernel_rfl) (fun _ _ _ h => h) (Or.inl ⟨by kernel_rfl, ?y0d⟩) (by assumption) ?r0d
        case y0d => (intro w hSw; (try dsimp only at hSw); go_simp; try (with_reducible rfl))
        case r0d =>
          simp only [List.getElem_toArray, List.getElem_cons_succ, List.getElem_cons_zero, Act.put, List.setIfInBounds_toArray, List.set_cons_zero, List.set_cons_succ]
          refine wpAnyH_take (i := 1) (oi := _) (v := ?v1d) rfl (by kernel_rfl) (by kernel_rfl) (by kernel_rfl) (fun _ _ _ h => h) (Or.inl ⟨by kernel_rfl, ?y1d⟩) (by assumption) ?r1d
          case y1d => (intro w hSw; (try dsimp only at hSw); go_simp; try (with_reducible rfl))
          case r1d =>
            simp only [List.getElem_toArray, List.getElem_cons_succ, List.getElem_cons_zero, Act.put, List.setIfInBounds_toArray, List.set_cons_zero, List.set_cons_succ]
            refine wpAnyH_take (i := 2) (oi := _) (v := ?v2d) rfl (by kernel_rfl) (by kernel_rfl) (by kernel_rfl) (fun _ _ _ h => h) (Or.inl ⟨by kernel_rfl, ?y2d⟩) (by assumption) ?r2d
            case y2d => (intro w hSw; (try dsimp only at hSw); go_simp; try (with_reducible rfl))
            case r2d =>
              simp only [List.getElem_toArray, List.getElem_cons_succ, List.getElem_cons_zero, Act.put, List.setIfInBounds_toArray, List.set_cons_zero, List.set_cons_succ]
              refine wpAnyH_take (i := 3) (oi := _) (v := ?v3d) rfl (by kernel_rfl) (by kernel_rfl) (by kernel_rfl) (fun _ _ _ h => h) (Or.inl ⟨by kernel_rfl, ?y3d⟩) (by assumption) ?r3d
              case y3d => (intro w hSw; (try dsimp only at hSw); go_simp; try (with_reducible rfl))
              case r3d =>
                simp only [List.getElem_toArray, List.getElem_cons_succ, List.getElem_cons_zero, Act.put, List.setIfInBounds_toArray, List.set_cons_zero, List.set_cons_succ]
                refine wpAnyH_take (i := 4) (oi := _) (v := ?v4d) rfl (by kernel_rfl) (by kernel_rfl) (by kernel_rfl) (fun _ _ _ h => h) (Or.inl ⟨by kernel_rfl, ?y4d⟩) (by assumption) ?r4d
                case y4d => (intro w hSw; (try dsimp only at hSw); go_simp; try (with_reducible rfl))
                case r4d =>
                  simp only [List.getElem_toArray, List.getElem_cons_succ, List.getElem_cons_zero, Act.put, List.setIfInBounds_toArray, List.set_cons_zero, List.set_cons_succ]
                  refine wpAnyH_take (i := 5) (oi := _) (v := ?v5d) rfl (by kernel_rfl) (by kernel_rfl) (by kernel_rfl) (fun _ _ _ h => h) (Or.inl ⟨by kernel_rfl, ?y5d⟩) (by assumption) ?r5d
                  case y5d => (intro w hSw; (try dsimp only at hSw); go_simp; try (with_reducible rfl))
                  case r5d =>
                    simp only [List.getElem_toArray, List.getElem_cons_succ, List.getElem_cons_zero, Act.put, List.setIfInBounds_toArray, List.set_cons_zero, List.set_cons_succ]
                    refine wpAnyH_take (i := 6) (oi := _) (v := ?v6d) rfl (by kernel_rfl) (by kernel_rfl) (by kernel_rfl) (fun _ _ _ h => h) (Or.inl ⟨by kernel_rfl, ?y6d⟩) (by assumption) ?r6d
                    case y6d => (intro w hSw; (try dsimp only at hSw); go_simp; try (with_reducible rfl))
                    case r6d =>
                      simp only [List.getElem_toArray, List.getElem_cons_succ, List.getElem_cons_zero, Act.put, List.setIfInBounds_toArray, List.set_cons_zero, List.set_cons_succ]
                      refine wpAnyH_take (i := 7) (oi := _) (v := ?v7d) rfl (by kernel_rfl) (by kernel_rfl) (by kernel_rfl) (fun _ _ _ h => h) (Or.inl ⟨by kernel_rfl, ?y7d⟩) (by assumption) ?r7d
                      case y7d => (intro w hSw; (try dsimp only at hSw); go_simp; try (with_reducible rfl))
                      case r7d =>
                        simp only [List.getElem_toArray, List.getElem_cons_succ, List.getElem_cons_zero, Act.put, List.setIfInBounds_toArray, List.set_cons_zero, List.set_cons_succ]
                        refine wpAnyH_take (i := 8) (oi := _) (v := ?v8d) rfl (by kernel_rfl) (by kernel_rfl) (by kernel_rfl) (fun _ _ _ h => h) (Or.inl ⟨by kernel_rfl, ?y8d⟩) (by assumption) ?r8d
                        case y8d => (intro w hSw; (try dsimp only at hSw); go_simp; try (with_reducible rfl))
                        case r8d =>
                          simp only [List.getElem_toArray, List.getElem_cons_succ, List.getElem_cons_zero, Act.put, List.setIfInBounds_toArray, List.set_cons_zero, List.set_cons_succ]
                          refine wpAnyH_take (i := 9) (oi := _) (v := .bool true) rfl (by kernel_rfl) (by kernel_rfl) (by kernel_rfl) (fun _ _ _ h => h) (Or.inl ⟨by kernel_rfl, ?y9d⟩) (by assumption) ?r9d
                          case y9d => (intro w hSw; (try dsimp only at hSw); go_simp; try (first | rw [decide_eq_true ha1] | (simp; omega) | simp [ha1]))
                          case r9d =>
                            simp only [List.getElem_toArray, List.getElem_cons_succ, List.getElem_cons_zero, Act.put, List.setIfInBounds_toArray, List.set_cons_zero, List.set_cons_succ]
                            refine wpAnyH_take (i := 10) (oi := _) (v := ?v10d) rfl (by kernel_rfl) (by kernel_rfl) (by kernel_rfl) (fun _ _ _ h => h) (Or.inl ⟨by kernel_rfl, ?y10d⟩) (by assumption) ?r10d
                            case y10d => (intro w hSw; (try dsimp only at hSw); go_simp; try (with_reducible rfl))
                            case r10d =>
                              simp only [List.getElem_toArray, List.getElem_cons_succ, List.getElem_cons_zero, Act.put, List.setIfInBounds_toArray, List.set_cons_zero, List.set_cons_succ]
                              refine wpAnyH_take (i := 11) (oi := _) (v := ?v11d) rfl (by kernel_rfl) (by kernel_rfl) (by kernel_rfl) (fun _ _ _ h => h) (Or.inl ⟨by kernel_rfl, ?y11d⟩) (by assumption) ?r11d
                              case y11d => (intro w hSw; (try dsimp only at hSw); go_simp; try (with_reducible rfl))
                              case r11d =>
                                simp only [List.getElem_toArray, List.getElem_cons_succ, List.getElem_cons_zero, Act.put, List.setIfInBounds_toArray, List.set_cons_zero, List.set_cons_succ]
                                refine wpAnyH_take (i := 12) (oi := _) (v := ?v12d) rfl (by kernel_rfl) (by kernel_rfl) (by kernel_rfl) (fun _ _ _ h => h) (Or.inl ⟨by kernel_rfl, ?y12d⟩) (by assumption) ?r12d
                                case y12d => (intro w hSw; (try dsimp only at hSw); go_simp; try (with_reducible rfl))
                                case r12d =>
                                  simp only [List.getElem_toArray, List.getElem_cons_succ, List.getElem_cons_zero, Act.put, List.setIfInBounds_toArray, List.set_cons_zero, List.set_cons_succ]
                                  refine wpAnyH_take (i := 13) (oi := _) (v := ?v13d) rfl (by kernel_rfl) (by kernel_rfl) (by kernel_rfl) (fun _ _ _ h => h) (Or.inl ⟨by kernel_rfl, ?y13d⟩) (by assumption) ?r13d
                                  case y13d => (intro w hSw; (try dsimp only at hSw); go_simp; try (with_reducible rfl))
                                  case r13d =>
                                    simp only [List.getElem_toArray, List.getElem_cons_succ, List.getElem_cons_zero, Act.put, List.setIfInBounds_toArray, List.set_cons_zero, List.set_cons_succ]
                                    refine wpAnyH_take (i := 14) (oi := _) (v := ?v14d) rfl (by kernel_rfl) (by kernel_rfl) (by kernel_rfl) (fun _ _ _ h => h) (Or.inl ⟨by kernel_rfl, ?y14d⟩) (by assumption) ?r14d
                                    case y14d => (intro w hSw; (try dsimp only at hSw); go_simp; try (with_reducible rfl))
                                    case r14d =>
                                      simp only [List.getElem_toArray, List.getElem_cons_succ, List.getElem_cons_zero, Act.put, List.setIfInBounds_toArray, List.set_cons_zero, List.set_cons_succ]
                                      refine wpAnyH_take (i := 15) (oi := _) (v := ?v15d) rfl (by kernel_rfl) (by kernel_rfl) (by kernel_rfl) (fun _ _ _ h => h) (Or.inl ⟨by kernel_rfl, ?y15d⟩) (by assumption) ?r15d
                                      case y15d => (intro w hSw; (try dsimp only at hSw); go_simp; try (with_reducible rfl))
                                      case r15d =>
                                        simp only [List.getElem_toArray, List.getElem_cons_succ, List.getElem_cons_zero, Act.put, List.setIfInBounds_toArray, List.set_cons_zero, List.set_cons_succ]
                                        refine wpAnyH_take (i := 16) (oi := _) (v := ?v16d) rfl (by kernel_rfl) (by kernel_rfl) (by kernel_rfl) (fun _ _ _ h => h) (Or.inl ⟨by kernel_rfl, ?y16d⟩) (by assumption) ?r16d
                                        case y16d => (intro w hSw; (try dsimp only at hSw); go_simp; try (with_reducible rfl))
                                        case r16d =>
                                          simp only [List.getElem_toArray, List.getElem_cons_succ, List.getElem_cons_zero, Act.put, List.setIfInBounds_toArray, List.set_cons_zero, List.set_cons_succ]
                                          refine wpAnyH_take (i := 17) (oi := _) (v := ?v17d) rfl (by kernel_rfl) (by kernel_rfl) (by kernel_rfl) (fun _ _ _ h => h) (Or.inl ⟨by kernel_rfl, ?y17d⟩) (by assumption) ?r17d
                                          case y17d => (intro w hSw; (try dsimp only at hSw); go_simp; try (with_reducible rfl))
                                          case r17d =>
                                            simp only [List.getElem_toArray, List.getElem_cons_succ, List.getElem_cons_zero, Act.put, List.setIfInBounds_toArray, List.set_cons_zero, List.set_cons_succ]
                                            refine wpAnyH_take (i := 18) (oi := _) (v := ?v18d) rfl (by kernel_rfl) (by kernel_rfl) (by kernel_rfl) (fun _ _ _ h => h) (Or.inl ⟨by kernel_rfl, ?y18d⟩) (by assumption) ?r18d
                                            case y18d => (intro w hSw; (try dsimp only at hSw); go_simp; try (with_reducible rfl))
                                            case r18d =>
                                              simp only [List.getElem_toArray, List.getElem_cons_succ, List.getElem_cons_zero, Act.put, List.setIfInBounds_toArray, List.set_cons_zero, List.set_cons_succ]
                                              refine wpAnyH_take (i := 19) (oi := _) (v := .bool true) rfl (by kernel_rfl) (by kernel_rfl) (by kernel_rfl) (fun _ _ _ h => h) (Or.inl ⟨by kernel_rfl, ?y19d⟩) (by assumption) ?r19d
                                              case y19d => (intro w hSw; (try dsimp only at hSw); go_simp; try (first | rw [decide_eq_true hb1] | (simp; omega) | simp [hb1]))
                                              case r19d =>
                                                simp only [List.getElem_toArray, List.getElem_cons_succ, List.getElem_cons_zero, Act.put, List.setIfInBounds_toArray, List.set_cons_zero, List.set_cons_succ]
                                                refine wpAnyH_take (i := 20) (oi := _) (v := ?v20d) rfl (by kernel_rfl) (by kernel_rfl) (by kernel_rfl) (fun _ _ _ h => h) (Or.inl ⟨by kernel_rfl, ?y20d⟩) (by assumption) ?r20d
                                                case y20d => (intro w hSw; (try dsimp only at hSw); go_simp; try (with_reducible rfl))
                                                case r20d =>
                                                  simp only [List.getElem_toArray, List.getElem_cons_succ, List.getElem_cons_zero, Act.put, List.setIfInBounds_toArray, List.set_cons_zero, List.set_cons_succ]
                                                  refine wpAnyH_take (i := 21) (oi := _) (v := ?v21d) rfl (by kernel_rfl) (by kernel_rfl) (by kernel_rfl) (fun _ _ _ h => h) (Or.inl ⟨by kernel_rfl, ?y21d⟩) (by assumption) ?r21d
                                                  case y21d => (intro w hSw; (try dsimp only at hSw); go_simp; try (with_reducible rfl))
                                                  case r21d =>
                                                    simp only [List.getElem_toArray, List.getElem_cons_succ, List.getElem_cons_zero, Act.put, List.setIfInBounds_toArray, List.set_cons_zero, List.set_cons_succ]
                                                    refine wpAnyH_take (i := 22) (oi := _) (v := ?v22d) rfl (by kernel_rfl) (by kernel_rfl) (by kernel_rfl) (fun _ _ _ h => h) (Or.inl ⟨by kernel_rfl, ?y22d⟩) (by assumption) ?r22d
                                                    case y22d => (intro w hSw; (try dsimp only at hSw); go_simp; try (with_reducible rfl))
                                                    case r22d =>
                                                      simp only [List.getElem_toArray, List.getElem_cons_succ, List.getElem_cons_zero, Act.put, List.setIfInBounds_toArray, List.set_cons_zero, List.set_cons_succ]
                                                      refine wpAnyH_take (i := 23) (oi := _) (v := ?v23d) rfl (by kernel_rfl) (by kernel_rfl) (by kernel_rfl) (fun _ _ _ h => h) (Or.inl ⟨by kernel_rfl, ?y23d⟩) (by assumption) ?r23d
                                                      case y23d => (intro w hSw; (try dsimp only at hSw); go_simp; try (with_reducible rfl))
                                                      case r23d =>
                                                        simp only [List.getElem_toArray, List.getElem_cons_succ, List.getElem_cons_zero, Act.put, List.setIfInBounds_toArray, List.set_cons_zero, List.set_cons_succ]
                                                        refine wpAnyH_take (i := 24) (oi := _) (v := ?v24d) rfl (by kernel_rfl) (by kernel_rfl) (by kernel_rfl) (fun _ _ _ h => h) (Or.inl ⟨by kernel_rfl, ?y24d⟩) (by assumption) ?r24d
                                                        case y24d => (intro w hSw; (try dsimp only at hSw); go_simp; try (with_reducible rfl))
                                                        case r24d =>
                                                          simp only [List.getElem_toArray, List.getElem_cons_succ, List.getElem_cons_zero, Act.put, List.setIfInBounds_toArray, List.set_cons_zero, List.set_cons_succ]
                                                          refine wpAnyH_take (i := 25) (oi := _) (v := ?v25d) rfl (by kernel_rfl) (by kernel_rfl) (by kernel_rfl) (fun _ _ _ h => h) (Or.inl ⟨by kernel_rfl, ?y25d⟩) (by assumption) ?r25d
                                                          case y25d => (intro w hSw; (try dsimp only at hSw); go_simp; try (with_reducible rfl))
                                                          case r25d =>
                                                            simp only [List.getElem_toArray, List.getElem_cons_succ, List.getElem_cons_zero, Act.put, List.setIfInBounds_toArray, List.set_cons_zero, List.set_cons_succ]
                                                            refine wpAnyH_take (i := 26) (oi := _) (v := ?v26d) rfl (by kernel_rfl) (by kernel_rfl) (by kernel_rfl) (fun _ _ _ h => h) (Or.inl ⟨by kernel_rfl, ?y26d⟩) (by assumption) ?r26d
                                                            case y26d => (intro w hSw; (try dsimp only at hSw); go_simp; try (with_reducible rfl))
                                                            case r26d =>
                                                              simp only [List.getElem_toArray, List.getElem_cons_succ, List.getElem_cons_zero, Act.put, List.setIfInBounds_toArray, List.set_cons_zero, List.set_cons_succ]
                                                              refine wpAnyH_take (i := 27) (oi := _) (v := ?v27d) rfl (by kernel_rfl) (by kernel_rfl) (by kernel_rfl) (fun _ _ _ h => h) (Or.inl ⟨by kernel_rfl, ?y27d⟩) (by assumption) ?r27d
                                                              case y27d => (intro w hSw; (try dsimp only at hSw); go_simp; try (with_reducible rfl))
                                                              case r27d =>
                                                                simp only [List.getElem_toArray, List.getElem_cons_succ, List.getElem_cons_zero, Act.put, List.setIfInBounds_toArray, List.set_cons_zero, List.set_cons_succ]
                                                                refine wpAnyH_take (i := 28) (oi := _) (v := ?v28d) rfl (by kernel_rfl) (by kernel_rfl) (by kernel_rfl) (fun _ _ _ h => h) (Or.inl ⟨by kernel_rfl, ?y28d⟩) (by assumption) ?r28d
                                                                case y28d => (intro w hSw; (try dsimp only at hSw); go_simp; try (with_reducible rfl))
                                                                case r28d =>
                                                                  simp only [List.getElem_toArray, List.getElem_cons_succ, List.getElem_cons_zero, Act.put, List.setIfInBounds_toArray, List.set_cons_zero, List.set_cons_succ]
                                                                  refine wpAnyH_take (i := 29) (oi := _) (v := ?v29d) rfl (by kernel_rfl) (by kernel_rfl) (by kernel_rfl) (fun _ _ _ h => h) (Or.inl ⟨by kernel_rfl, ?y29d⟩) (by assumption) ?r29d
                                                                  case y29d => (intro w hSw; (try dsimp only at hSw); go_simp; try (with_reducible rfl))
                                                                  case r29d =>
                                                                    simp only [List.getElem_toArray, List.getElem_cons_succ, List.getElem_cons_zero, Act.put, List.setIfInBounds_toArray, List.set_cons_zero, List.set_cons_succ]
                                                                    refine wpAnyH_take (i := 30) (oi := _) (v := ?v30d) rfl (by kernel_rfl) (by kernel_rfl) (by kernel_rfl) (fun _ _ _ h => h) (Or.inl ⟨by kernel_rfl, ?y30d⟩) (by assumption) ?r30d
                                                                    case y30d => (intro w hSw; (try dsimp only at hSw); go_simp; try (with_reducible rfl))
                                                                    case r30d =>
                                                                      simp only [List.getElem_toArray, List.getElem_cons_succ, List.getElem_cons_zero, Act.put, List.setIfInBounds_toArray, List.set_cons_zero, List.set_cons_succ]
                                                                      refine wpAnyH_take (i := 31) (oi := _) (v := ?v31d) rfl (by kernel_rfl) (by kernel_rfl) (by kernel_rfl) (fun _ _ _ h => h) (Or.inl ⟨by kernel_rfl, ?y31d⟩) (by assumption) ?r31d
                                                                      case y31d => (intro w hSw; (try dsimp only at hSw); go_simp; try (with_reducible rfl))
                                                                      case r31d =>
                                                                        simp only [List.getElem_toArray, List.getElem_cons_succ, List.getElem_cons_zero, Act.put, List.setIfInBounds_toArray, List.set_cons_zero, List.set_cons_succ]
                                                                        refine wpAnyH_take (i := 32) (oi := _) (v := ?v32d) rfl (by kernel_rfl) (by kernel_rfl) (by kernel_rfl) (fun _ _ _ h => h) (Or.inl ⟨by kernel_rfl, ?y32d⟩) (by assumption) ?r32d
                                                                        case y32d => (intro w hSw; (try dsimp only at hSw); go_simp; try (with_reducible rfl))
                                                                        case r32d =>
                                                                          simp only [List.getElem_toArray, List.getElem_cons_succ, List.getElem_cons_zero, Act.put, List.setIfInBounds_toArray, List.set_cons_zero, List.set_cons_succ]
                                                                          refine wpAnyH_take (i := 33) (oi := _) (v := ?v33d) rfl (by kernel_rfl) (by kernel_rfl) (by kernel_rfl) (fun _ _ _ h => h) (Or.inl ⟨by kernel_rfl, ?y33d⟩) (by assumption) ?r33d
                                                                          case y33d => (intro w hSw; (try dsimp only at hSw); go_simp; try (with_reducible rfl))
                                                                          case r33d =>
                                                                            simp only [List.getElem_toArray, List.getElem_cons_succ, List.getElem_cons_zero, Act.put, List.setIfInBounds_toArray, List.set_cons_zero, List.set_cons_succ]
                                                                            refine wpAnyH_take (i := 34) (oi := _) (v := ?v34d) rfl (by kernel_rfl) (by kernel_rfl) (by kernel_rfl) (fun _ _ _ h => h) (Or.inl ⟨by kernel_rfl, ?y34d⟩) (by assumption) ?r34d
                                                                            case y34d => (intro w hSw; (try dsimp only at hSw); go_simp; try (with_reducible rfl))
                                                                            case r34d =>
                                                                              simp only [List.getElem_toArray, List.getElem_cons_succ, List.getElem_cons_zero, Act.put, List.setIfInBounds_toArray, List.set_cons_zero, List.set_cons_succ]
                                                                              refine wpAnyH_take (i := 35) (oi := _) (v := ?v35d) rfl (by kernel_rfl) (by kernel_rfl) (by kernel_rfl) (fun _ _ _ h => h) (Or.inl ⟨by kernel_rfl, ?y35d⟩) (by assumption) ?r35d
                                                                              case y35d => (intro w hSw; (try dsimp only at hSw); go_simp; try (with_reducible rfl))
                                                                              case r35d =>
                                                                                simp only [List.getElem_toArray, List.getElem_cons_succ, List.getElem_cons_zero, Act.put, List.setIfInBounds_toArray, List.set_cons_zero, List.set_cons_succ]
                                                                                refine wpAnyH_take (i := 36) (oi := _) (v := ?v36d) rfl (by kernel_rfl) (by kernel_rfl) (by kernel_rfl) (fun _ _ _ h => h) (Or.inl ⟨by kernel_rfl, ?y36d⟩) (by assumption) ?r36d
                                                                                case y36d => (intro w hSw; (try dsimp only at hSw); go_simp; try (with_reducible rfl))
                                                                                case r36d =>
                                                                                  simp only [List.getElem_toArray, List.getElem_cons_succ, List.getElem_cons_zero, Act.put, List.setIfInBounds_toArray, List.set_cons_zero, List.set_cons_succ]
                                                                                  refine wpAnyH_take (i := 37) (oi := _) (v := ?v37d) rfl (by kernel_rfl) (by kernel_rfl) (by kernel_rfl) (fun _ _ _ h => h) (Or.inl ⟨by kernel_rfl, ?y37d⟩) (by assumption) ?r37d
                                                                                  case y37d => (intro w hSw; (try dsimp only at hSw); go_simp; try (with_reducible rfl))
                                                                                  case r37d =>
                                                                                    simp only [List.getElem_toArray, List.getElem_cons_succ, List.getElem_cons_zero, Act.put, List.setIfInBounds_toArray, List.set_cons_zero, List.set_cons_succ]
                                                                                    refine wpAnyH_take (i := 38) (oi := _) (v := ?v38d) rfl (by kernel_rfl) (by kernel_rfl) (by kernel_rfl) (fun _ _ _ h => h) (Or.inl ⟨by kernel_rfl, ?y38d⟩) (by assumption) ?r38d
                                                                                    case y38d => (intro w hSw; (try dsimp only at hSw); go_simp; try (with_reducible rfl))
                                                                                    case r38d =>
                                                                                      simp only [List.getElem_toArray, List.getElem_cons_succ, List.getElem_cons_zero, Act.put, List.setIfInBounds_toArray, List.set_cons_zero, List.set_cons_succ]
                                                                                      refine wpAnyH_ready (rs := [39]) (by kernel_rfl) (by simp) ?_
                                                                                      refine AllReadyH.cons (o := _) rfl (fun K hK => ?_) AllReadyH.nil
                                                                                      go_simp
                                                                                      (go_at_call 9; refine (HUA.out _).mono ?_; rintro e w9 ⟨rfl, rfl⟩)
                                                                                      go_wp2_with fail
                                                                                      refine hK.out _ _ (hHeld) (fun hHeld => ?_)
                                                                                      clear hK K
                                                                                      try simp only [List.getElem_toArray, List.getElem_cons_succ, List.getElem_cons_zero, Act.put, List.setIfInBounds_toArray, List.set_cons_zero, List.set_cons_succ]
                                                                                      refine wpAnyH_take (i := 40) (oi := _) (v := ?v40d) rfl (by kernel_rfl) (by kernel_rfl) (by kernel_rfl) (fun _ _ _ h => h) (Or.inl ⟨by kernel_rfl, ?y40d⟩) (by assumption) ?r40d
                                                                                      case y40d => (intro w hSw; (try dsimp only at hSw); go_simp; try (with_reducible rfl))
                                                                                      case r40d =>
                                                                                        simp only [List.getElem_toArray, List.getElem_cons_succ, List.getElem_cons_zero, Act.put, List.setIfInBounds_toArray, List.set_cons_zero, List.set_cons_succ]
                                                                                        refine wpAnyH_take (i := 41) (oi := _) (v := ?v41d) rfl (by kernel_rfl) (by kernel_rfl) (by kernel_rfl) (fun _ _ _ h => h) (Or.inl ⟨by kernel_rfl, ?y41d⟩) (by assumption) ?r41d
                                                                                        case y41d => (intro w hSw; (try dsimp only at hSw); go_simp; try (with_reducible rfl))
                                                                                        case r41d =>
                                                                                          simp only [List.getElem_toArray, List.getElem_cons_succ, List.getElem_cons_zero, Act.put, List.setIfInBounds_toArray, List.set_cons_zero, List.set_cons_succ]
                                                                                          refine wpAnyH_done (by kernel_rfl) ?_ _
                                                                                          go_wp2_with fail
                                                                                          go_ret
                                                                                          exact ⟨rfl, hHeld.2.2.2.2⟩
        
  · have H1 := Lib.hid h1
    have H2 := Lib.hid h2
    have H6 := Lib.hid h6
    clear h1 h2 h6
    go_wp2_with first
      | (go_at_call 14; refine (find_any A8 n8 c8 (rotR k r) p _ m (pw_cell_below HB6.out HM.out) (HM5.out.rd.below HC6.out) (fun q hq => by have := HKL.out q (rot_mem.1 hq); omega) (by rw [rot_len]; omega)).mono ?_; rw [H2.out]; rintro e V0 ⟨f', rfl, rfl, hb7⟩; have HB7 := Lib.hid (HB6.out.trans (hb7.mono HB6.out.size)); have HC7 := Lib.hid (HC6.out.trans (hb7.mono HC6.out.size)); clear hb7)
      | (go_at_call 14; refine (find_any Ak nk ck k p _ m (pw_cell_below HB5.out HM.out) HK5.out.rd (fun q hq => by have := HKL.out q hq; omega) (by omega)).mono ?_; rw [H1.out]; rintro e w6 ⟨f', rfl, rfl, hb6⟩; have HB6 := Lib.hid (HB5.out.trans (hb6.mono HB5.out.size)); have HC6 := Lib.hid hb6; clear hb6)
    have HK7 := Lib.hid (HK5.out.below HC7.out)
    have HM7 := Lib.hid (HM5.out.below HC7.out)
    go_loopg [16] nk (fun gg s16 wr => ∃ i : Nat, s16 = .int .i64 i ∧ i ≤ nk ∧ nk - i ≤ gg ∧ Below w.heap.size w wr ∧ Below V0.heap.size V0 wr)
    case atStart => exact ⟨0, rfl, by omega, by omega, HB7.out, Below.refl _ _⟩
    case round =>
      obtain ⟨i, rfl, hi, hg, hbr, hv0⟩ := hrel
      have HBr := Lib.hid hbr
      have HV0 := Lib.hid hv0
      clear hbr hv0
      by_cases hlt : i < nk
      · have hlt1 : (i : Int) < (nk : Int) := by omega
        obtain ⟨b, off, hA, hbl, hc⟩ := HK7.out.rd.get (by omega)
        subst hA
        have hll : i < k.length := by omega
        have hat : k[i]? = some k[i] := List.getElem?_eq_getElem hll
        have hmem : k[i] ∈ k := List.getElem_mem hll
        have c0 := (HV0.out.cell (p := ⟨b, off + i * 2, none⟩) hbl).trans (hc i 0 k[i] _ hat rfl)
        generalize k[i] = y at hat hmem c0
        obtain ⟨py, yb⟩ := y
        have hyl := HKL.out _ hmem
        simp only at hyl
        have HUN := Lib.hid (fun W => under_any py p W (by omega))
        have HME := Lib.hid hmem
        clear hat hmem hll hc
        have hu1 : underS py p = false := H6.out _ HME.out
        rw [hu1] at HUN
        clear hu1
        go_wp2_with fail
        refine wp_region_held_drew (S := fun W' => W'.cell? ⟨b, off + i * 2, none⟩ = some (str py) ∧ Below w.heap.size w W' ∧ Below V0.heap.size V0 W') (by kernel_rfl) (⟨by simpa using c0, below_drew HBr.out, below_drew HV0.out⟩) (fun hHeld => ?_)
        refine wpAnyH_take (i := 0) (oi := _) (v := ?v0b) rfl (by kernel_rfl) (by kernel_rfl) (by kernel_rfl) (fun _ _ _ h => h) (Or.inl ⟨by kernel_rfl, ?y0b⟩) (by assumption) ?r0b
        case y0b => (intro w hSw; (try dsimp only at hSw); go_simp; try (with_reducible rfl))
        case r0b =>
          simp only [List.getElem_toArray, List.getElem_cons_succ, List.getElem_cons_zero, Act.put, List.setIfInBounds_toArray, List.set_cons_zero, List.set_cons_succ]
          refine wpAnyH_take (i := 1) (oi := _) (v := ?v1b) rfl (by kernel_rfl) (by kernel_rfl) (by kernel_rfl) (fun _ _ _ h => h) (Or.inl ⟨by kernel_rfl, ?y1b⟩) (by assumption) ?r1b
          case y1b => (intro w hSw; (try dsimp only at hSw); go_simp; try (with_reducible rfl))
          case r1b =>
            simp only [List.getElem_toArray, List.getElem_cons_succ, List.getElem_cons_zero, Act.put, List.setIfInBounds_toArray, List.set_cons_zero, List.set_cons_succ]
            refine wpAnyH_take (i := 2) (oi := _) (v := ?v2b) rfl (by kernel_rfl) (by kernel_rfl) (by kernel_rfl) (fun _ _ _ h => h) (Or.inl ⟨by kernel_rfl, ?y2b⟩) (by assumption) ?r2b
            case y2b => (intro w hSw; (try dsimp only at hSw); go_simp; try (with_reducible rfl))
            case r2b =>
              simp only [List.getElem_toArray, List.getElem_cons_succ, List.getElem_cons_zero, Act.put, List.setIfInBounds_toArray, List.set_cons_zero, List.set_cons_succ]
              refine wpAnyH_take (i := 3) (oi := _) (v := ?v3b) rfl (by kernel_rfl) (by kernel_rfl) (by kernel_rfl) (fun _ _ _ h => h) (Or.inl ⟨by kernel_rfl, ?y3b⟩) (by assumption) ?r3b
              case y3b => (intro w hSw; (try dsimp only at hSw); go_simp; try (with_reducible rfl))
              case r3b =>
                simp only [List.getElem_toArray, List.getElem_cons_succ, List.getElem_cons_zero, Act.put, List.setIfInBounds_toArray, List.set_cons_zero, List.set_cons_succ]
                refine wpAnyH_take (i := 4) (oi := _) (v := ?v4b) rfl (by kernel_rfl) (by kernel_rfl) (by kernel_rfl) (fun _ _ _ h => h) (Or.inl ⟨by kernel_rfl, ?y4b⟩) (by assumption) ?r4b
                case y4b => (intro w hSw; (try dsimp only at hSw); go_simp; try (with_reducible rfl))
                case r4b =>
                  simp only [List.getElem_toArray, List.getElem_cons_succ, List.getElem_cons_zero, Act.put, List.setIfInBounds_toArray, List.set_cons_zero, List.set_cons_succ]
                  refine wpAnyH_take (i := 5) (oi := _) (v := ?v5b) rfl (by kernel_rfl) (by kernel_rfl) (by kernel_rfl) (fun _ _ _ h => h) (Or.inl ⟨by kernel_rfl, ?y5b⟩) (by assumption) ?r5b
                  case y5b => (intro w hSw; (try dsimp only at hSw); go_simp; try (with_reducible rfl))
                  case r5b =>
                    simp only [List.getElem_toArray, List.getElem_cons_succ, List.getElem_cons_zero, Act.put, List.setIfInBounds_toArray, List.set_cons_zero, List.set_cons_succ]
                    refine wpAnyH_ready (rs := [6]) (by kernel_rfl) (by simp) ?_
                    refine AllReadyH.cons (o := _) rfl (fun K hK => ?_) AllReadyH.nil
                    go_simp
                    (go_at_call 9; refine (HUN.out _).mono ?_; rintro e w9 ⟨rfl, rfl⟩)
                    go_wp2_with fail
                    refine hK.out _ _ (hHeld) (fun hHeld => ?_)
                    clear hK K
                    try simp only [List.getElem_toArray, List.getElem_cons_succ, List.getElem_cons_zero, Act.put, List.setIfInBounds_toArray, List.set_cons_zero, List.set_cons_succ]
                    refine wpAnyH_take (i := 7) (oi := _) (v := ?v7b) rfl (by kernel_rfl) (by kernel_rfl) (by kernel_rfl) (fun _ _ _ h => h) (Or.inl ⟨by kernel_rfl, ?y7b⟩) (by assumption) ?r7b
                    case y7b => (intro w hSw; (try dsimp only at hSw); go_simp; try (with_reducible rfl))
                    case r7b =>
                      simp only [List.getElem_toArray, List.getElem_cons_succ, List.getElem_cons_zero, Act.put, List.setIfInBounds_toArray, List.set_cons_zero, List.set_cons_succ]
                      refine wpAnyH_take (i := 8) (oi := _) (v := undef) rfl (by kernel_rfl) (by kernel_rfl) (by kernel_rfl) (fun _ _ _ h => h) (Or.inr ⟨by kernel_rfl, rfl⟩) (by assumption) ?_
                      simp only [List.getElem_toArray, List.getElem_cons_succ, List.getElem_cons_zero, Act.put, List.setIfInBounds_toArray, List.set_cons_zero, List.set_cons_succ]
                      refine wpAnyH_take (i := 9) (oi := _) (v := undef) rfl (by kernel_rfl) (by kernel_rfl) (by kernel_rfl) (fun _ _ _ h => h) (Or.inr ⟨by kernel_rfl, rfl⟩) (by assumption) ?_
                      simp only [List.getElem_toArray, List.getElem_cons_succ, List.getElem_cons_zero, Act.put, List.setIfInBounds_toArray, List.set_cons_zero, List.set_cons_succ]
                      refine wpAnyH_take (i := 10) (oi := _) (v := undef) rfl (by kernel_rfl) (by kernel_rfl) (by kernel_rfl) (fun _ _ _ h => h) (Or.inr ⟨by kernel_rfl, rfl⟩) (by assumption) ?_
                      simp only [List.getElem_toArray, List.getElem_cons_succ, List.getElem_cons_zero, Act.put, List.setIfInBounds_toArray, List.set_cons_zero, List.set_cons_succ]
                      refine wpAnyH_take (i := 11) (oi := _) (v := undef) rfl (by kernel_rfl) (by kernel_rfl) (by kernel_rfl) (fun _ _ _ h => h) (Or.inr ⟨by kernel_rfl, rfl⟩) (by assumption) ?_
                      simp only [List.getElem_toArray, List.getElem_cons_succ, List.getElem_cons_zero, Act.put, List.setIfInBounds_toArray, List.set_cons_zero, List.set_cons_succ]
                      refine wpAnyH_take (i := 12) (oi := _) (v := undef) rfl (by kernel_rfl) (by kernel_rfl) (by kernel_rfl) (fun _ _ _ h => h) (Or.inr ⟨by kernel_rfl, rfl⟩) (by assumption) ?_
                      simp only [List.getElem_toArray, List.getElem_cons_succ, List.getElem_cons_zero, Act.put, List.setIfInBounds_toArray, List.set_cons_zero, List.set_cons_succ]
                      refine wpAnyH_take (i := 13) (oi := _) (v := undef) rfl (by kernel_rfl) (by kernel_rfl) (by kernel_rfl) (fun _ _ _ h => h) (Or.inr ⟨by kernel_rfl, rfl⟩) (by assumption) ?_
                      simp only [List.getElem_toArray, List.getElem_cons_succ, List.getElem_cons_zero, Act.put, List.setIfInBounds_toArray, List.set_cons_zero, List.set_cons_succ]
                      refine wpAnyH_take (i := 14) (oi := _) (v := undef) rfl (by kernel_rfl) (by kernel_rfl) (by kernel_rfl) (fun _ _ _ h => h) (Or.inr ⟨by kernel_rfl, rfl⟩) (by assumption) ?_
                      simp only [List.getElem_toArray, List.getElem_cons_succ, List.getElem_cons_zero, Act.put, List.setIfInBounds_toArray, List.set_cons_zero, List.set_cons_succ]
                      refine wpAnyH_take (i := 15) (oi := _) (v := undef) rfl (by kernel_rfl) (by kernel_rfl) (by kernel_rfl) (fun _ _ _ h => h) (Or.inr ⟨by kernel_rfl, rfl⟩) (by assumption) ?_
                      simp only [List.getElem_toArray, List.getElem_cons_succ, List.getElem_cons_zero, Act.put, List.setIfInBounds_toArray, List.set_cons_zero, List.set_cons_succ]
                      refine wpAnyH_take (i := 16) (oi := _) (v := undef) rfl (by kernel_rfl) (by kernel_rfl) (by kernel_rfl) (fun _ _ _ h => h) (Or.inr ⟨by kernel_rfl, rfl⟩) (by assumption) ?_
                      simp only [List.getElem_toArray, List.getElem_cons_succ, List.getElem_cons_zero, Act.put, List.setIfInBounds_toArray, List.set_cons_zero, List.set_cons_succ]
                      refine wpAnyH_take (i := 17) (oi := _) (v := undef) rfl (by kernel_rfl) (by kernel_rfl) (by kernel_rfl) (fun _ _ _ h => h) (Or.inr ⟨by kernel_rfl, rfl⟩) (by assumption) ?_
                      simp only [List.getElem_toArray, List.getElem_cons_succ, List.getElem_cons_zero, Act.put, List.setIfInBounds_toArray, List.set_cons_zero, List.set_cons_succ]
                      refine wpAnyH_take (i := 18) (oi := _) (v := undef) rfl (by kernel_rfl) (by kernel_rfl) (by kernel_rfl) (fun _ _ _ h => h) (Or.inr ⟨by kernel_rfl, rfl⟩) (by assumption) ?_
                      simp only [List.getElem_toArray, List.getElem_cons_succ, List.getElem_cons_zero, Act.put, List.setIfInBounds_toArray, List.set_cons_zero, List.set_cons_succ]
                      refine wpAnyH_take (i := 19) (oi := _) (v := undef) rfl (by kernel_rfl) (by kernel_rfl) (by kernel_rfl) (fun _ _ _ h => h) (Or.inr ⟨by kernel_rfl, rfl⟩) (by assumption) ?_
                      simp only [List.getElem_toArray, List.getElem_cons_succ, List.getElem_cons_zero, Act.put, List.setIfInBounds_toArray, List.set_cons_zero, List.set_cons_succ]
                      refine wpAnyH_take (i := 20) (oi := _) (v := undef) rfl (by kernel_rfl) (by kernel_rfl) (by kernel_rfl) (fun _ _ _ h => h) (Or.inr ⟨by kernel_rfl, rfl⟩) (by assumption) ?_
                      simp only [List.getElem_toArray, List.getElem_cons_succ, List.getElem_cons_zero, Act.put, List.setIfInBounds_toArray, List.set_cons_zero, List.set_cons_succ]
                      refine wpAnyH_take (i := 21) (oi := _) (v := undef) rfl (by kernel_rfl) (by kernel_rfl) (by kernel_rfl) (fun _ _ _ h => h) (Or.inr ⟨by kernel_rfl, rfl⟩) (by assumption) ?_
                      simp only [List.getElem_toArray, List.getElem_cons_succ, List.getElem_cons_zero, Act.put, List.setIfInBounds_toArray, List.set_cons_zero, List.set_cons_succ]
                      refine wpAnyH_take (i := 22) (oi := _) (v := undef) rfl (by kernel_rfl) (by kernel_rfl) (by kernel_rfl) (fun _ _ _ h => h) (Or.inr ⟨by kernel_rfl, rfl⟩) (by assumption) ?_
                      simp only [List.getElem_toArray, List.getElem_cons_succ, List.getElem_cons_zero, Act.put, List.setIfInBounds_toArray, List.set_cons_zero, List.set_cons_succ]
                      refine wpAnyH_take (i := 23) (oi := _) (v := undef) rfl (by kernel_rfl) (by kernel_rfl) (by kernel_rfl) (fun _ _ _ h => h) (Or.inr ⟨by kernel_rfl, rfl⟩) (by assumption) ?_
                      simp only [List.getElem_toArray, List.getElem_cons_succ, List.getElem_cons_zero, Act.put, List.setIfInBounds_toArray, List.set_cons_zero, List.set_cons_succ]
                      refine wpAnyH_take (i := 24) (oi := _) (v := undef) rfl (by kernel_rfl) (by kernel_rfl) (by kernel_rfl) (fun _ _ _ h => h) (Or.inr ⟨by kernel_rfl, rfl⟩) (by assumption) ?_
                      simp only [List.getElem_toArray, List.getElem_cons_succ, List.getElem_cons_zero, Act.put, List.setIfInBounds_toArray, List.set_cons_zero, List.set_cons_succ]
                      refine wpAnyH_take (i := 25) (oi := _) (v := undef) rfl (by kernel_rfl) (by kernel_rfl) (by kernel_rfl) (fun _ _ _ h => h) (Or.inr ⟨by kernel_rfl, rfl⟩) (by assumption) ?_
                      simp only [List.getElem_toArray, List.getElem_cons_succ, List.getElem_cons_zero, Act.put, List.setIfInBounds_toArray, List.set_cons_zero, List.set_cons_succ]
                      refine wpAnyH_take (i := 26) (oi := _) (v := undef) rfl (by kernel_rfl) (by kernel_rfl) (by kernel_rfl) (fun _ _ _ h => h) (Or.inr ⟨by kernel_rfl, rfl⟩) (by assumption) ?_
                      simp only [List.getElem_toArray, List.getElem_cons_succ, List.getElem_cons_zero, Act.put, List.setIfInBounds_toArray, List.set_cons_zero, List.set_cons_succ]
                      refine wpAnyH_take (i := 27) (oi := _) (v := undef) rfl (by kernel_rfl) (by kernel_rfl) (by kernel_rfl) (fun _ _ _ h => h) (Or.inr ⟨by kernel_rfl, rfl⟩) (by assumption) ?_
                      simp only [List.getElem_toArray, List.getElem_cons_succ, List.getElem_cons_zero, Act.put, List.setIfInBounds_toArray, List.set_cons_zero, List.set_cons_succ]
                      refine wpAnyH_take (i := 28) (oi := _) (v := undef) rfl (by kernel_rfl) (by kernel_rfl) (by kernel_rfl) (fun _ _ _ h => h) (Or.inr ⟨by kernel_rfl, rfl⟩) (by assumption) ?_
                      simp only [List.getElem_toArray, List.getElem_cons_succ, List.getElem_cons_zero, Act.put, List.setIfInBounds_toArray, List.set_cons_zero, List.set_cons_succ]
                      refine wpAnyH_take (i := 29) (oi := _) (v := undef) rfl (by kernel_rfl) (by kernel_rfl) (by kernel_rfl) (fun _ _ _ h => h) (Or.inr ⟨by kernel_rfl, rfl⟩) (by assumption) ?_
                      simp only [List.getElem_toArray, List.getElem_cons_succ, List.getElem_cons_zero, Act.put, List.setIfInBounds_toArray, List.set_cons_zero, List.set_cons_succ]
                      refine wpAnyH_take (i := 30) (oi := _) (v := undef) rfl (by kernel_rfl) (by kernel_rfl) (by kernel_rfl) (fun _ _ _ h => h) (Or.inr ⟨by kernel_rfl, rfl⟩) (by assumption) ?_
                      simp only [List.getElem_toArray, List.getElem_cons_succ, List.getElem_cons_zero, Act.put, List.setIfInBounds_toArray, List.set_cons_zero, List.set_cons_succ]
                      refine wpAnyH_take (i := 31) (oi := _) (v := undef) rfl (by kernel_rfl) (by kernel_rfl) (by kernel_rfl) (fun _ _ _ h => h) (Or.inr ⟨by kernel_rfl, rfl⟩) (by assumption) ?_
                      simp only [List.getElem_toArray, List.getElem_cons_succ, List.getElem_cons_zero, Act.put, List.setIfInBounds_toArray, List.set_cons_zero, List.set_cons_succ]
                      refine wpAnyH_take (i := 32) (oi := _) (v := undef) rfl (by kernel_rfl) (by kernel_rfl) (by kernel_rfl) (fun _ _ _ h => h) (Or.inr ⟨by kernel_rfl, rfl⟩) (by assumption) ?_
                      simp only [List.getElem_toArray, List.getElem_cons_succ, List.getElem_cons_zero, Act.put, List.setIfInBounds_toArray, List.set_cons_zero, List.set_cons_succ]
                      refine wpAnyH_take (i := 33) (oi := _) (v := undef) rfl (by kernel_rfl) (by kernel_rfl) (by kernel_rfl) (fun _ _ _ h => h) (Or.inr ⟨by kernel_rfl, rfl⟩) (by assumption) ?_
                      simp only [List.getElem_toArray, List.getElem_cons_succ, List.getElem_cons_zero, Act.put, List.setIfInBounds_toArray, List.set_cons_zero, List.set_cons_succ]
                      refine wpAnyH_take (i := 34) (oi := _) (v := undef) rfl (by kernel_rfl) (by kernel_rfl) (by kernel_rfl) (fun _ _ _ h => h) (Or.inr ⟨by kernel_rfl, rfl⟩) (by assumption) ?_
                      simp only [List.getElem_toArray, List.getElem_cons_succ, List.getElem_cons_zero, Act.put, List.setIfInBounds_toArray, List.set_cons_zero, List.set_cons_succ]
                      refine wpAnyH_take (i := 35) (oi := _) (v := ?v35b) rfl (by kernel_rfl) (by kernel_rfl) (by kernel_rfl) (fun _ _ _ h => h) (Or.inl ⟨by kernel_rfl, ?y35b⟩) (by assumption) ?r35b
                      case y35b => (intro w hSw; (try dsimp only at hSw); go_simp; try (with_reducible rfl))
                      case r35b =>
                        simp only [List.getElem_toArray, List.getElem_cons_succ, List.getElem_cons_zero, Act.put, List.setIfInBounds_toArray, List.set_cons_zero, List.set_cons_succ]
                        refine wpAnyH_done (by kernel_rfl) ?_ _
                        go_wp2_with fail
                        go_roundg (nk - (i + 1))
                        case measure => omega
                        case rel => exact ⟨i + 1, by simp [wrap64] <;> omega, by omega, by omega, hHeld.2.1, hHeld.2.2⟩
        
      · have hlt1 : ¬ (i : Int) < (nk : Int) := by omega
        go_wp2_with fail
        go_ret
        exact ⟨rfl, HBr.out⟩
end Go.Proofs.YtoegjpfngmilhaaDoor
