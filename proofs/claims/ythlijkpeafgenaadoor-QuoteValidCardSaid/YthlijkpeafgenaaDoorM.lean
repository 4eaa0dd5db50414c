/- quote.escape (printed by mkM.py). -/
import Derived.Test.YthlijkpeafgenaaDoorL
set_option linter.unusedVariables false
set_option linter.unusedSimpArgs false
namespace Go.Proofs.YthlijkpeafgenaaDoor
open Go.RowKit Go.Maps
open Go.Proofs.YthlijkpeafgenaaDoorW.PrintWords

def tailQ (a : Int) (rest : List UInt8) : Int × Nat := match rest with
  | 92 :: r => if unitQ r < 56320 ∨ 57343 < unitQ r then (0, 0) else (65536 + (a - 55296) * 1024 + unitQ r - 56320, 11)
  | _ => (0, 0)
/-- what an escape stands for behind its backslash, and its bytes; 0: there is none -/
def escQ (l : List UInt8) : Int × Nat := match l with
  | [] => (0, 0)
  | c :: _ => if (shortQ c.toNat).2 = true then ((shortQ c.toNat).1, 1) else
    if unitQ l < 0 ∨ (56320 ≤ unitQ l ∧ unitQ l ≤ 57343) then (0, 0) else
    if unitQ l < 55296 ∨ 57343 < unitQ l then (unitQ l, 5) else tailQ (unitQ l) (l.drop 5)

set_option maxRecDepth 100000 in
set_option maxHeartbeats 4000000 in
theorem escape_any (l : List UInt8) (w : World) (hl : l.length ≤ 100000) : Calls Tryd.prog 18 #[str l] w fun e w' => e = .returned (.tuple #[.int .i32 (escQ l).1, .int .i64 (escQ l).2]) ∧ Below w.heap.size w w' := by
  cases l with
  | nil =>
    go_enter Tryd.func18, Tryd.ntmps18
    go_wp2_with fail
    go_ret2
    exact ⟨rfl, Below.refl _ _⟩
  | cons c r =>
    obtain ⟨L, hL⟩ : ∃ L, c :: r = L := ⟨_, rfl⟩
    have hz : ∀ h, (⟨L.toArray⟩ : ByteArray)[0]'h = c := by subst hL; exact fun h => rfl
    have hne : (L == []) = false := by rw [← hL]; rfl
    have hll : L.length ≤ 100000 := by rw [← hL]; exact hl
    have hpos : 0 < L.length := by rw [← hL]; simp
    have hE : escQ L = if (shortQ c.toNat).2 = true then ((shortQ c.toNat).1, 1) else
      if unitQ L < 0 ∨ (56320 ≤ unitQ L ∧ unitQ L ≤ 57343) then (0, 0) else
      if unitQ L < 55296 ∨ 57343 < unitQ L then (unitQ L, 5) else tailQ (unitQ L) (L.drop 5) := by rw [← hL]; rfl
    rw [hL]
    have HL := Lib.hid hL
    clear hL hl
    have hc := UInt8.toNat_lt c
    have hwc : IntKind.i32.wrap (c.toNat : Int) = (c.toNat : Int) := by simp [IntKind.wrap, IntKind.bits, IntKind.signed]; omega
    obtain ⟨q1, q2, hq⟩ : ∃ q1 q2, shortQ c.toNat = (q1, q2) := ⟨_, _, rfl⟩
    rw [hq] at hE
    have HQ := Lib.hid hq
    clear hq
    go_enter Tryd.func18, Tryd.ntmps18
    go_upto_region 3 with fail
    refine wp_region_held_drew (S := fun W' => Below w.heap.size w W') (by kernel_rfl) (below_drew (Below.refl _ _)) (fun hHeld => ?_)
    refine wpAnyH_take (i := 1) (oi := _) (v := ?v1a) rfl (by kernel_rfl) (by kernel_rfl) (by kernel_rfl) (fun _ _ _ h => h) (Or.inl ⟨by kernel_rfl, ?y1a⟩) (by assumption) ?r1a
    case y1a => (intro w hSw; (try dsimp only at hSw); go_simp; try (with_reducible rfl))
    case r1a =>
      simp only [List.getElem_toArray, List.getElem_cons_succ, List.getElem_cons_zero, Act.put, List.setIfInBounds_toArray, List.set_cons_zero, List.set_cons_succ]
      refine wpAnyH_take (i := 2) (oi := _) (v := .int .u8 (c.toNat : Int)) rfl (by kernel_rfl) (by kernel_rfl) (by kernel_rfl) (fun _ _ _ h => h) (Or.inl ⟨by kernel_rfl, ?y2a⟩) (by assumption) ?r2a
      case y2a => (intro w hSw; (try dsimp only at hSw); go_simp; try (first | rw [if_pos hpos] | simp [hpos]))
      case r2a =>
        simp only [List.getElem_toArray, List.getElem_cons_succ, List.getElem_cons_zero, Act.put, List.setIfInBounds_toArray, List.set_cons_zero, List.set_cons_succ]
        refine wpAnyH_take (i := 3) (oi := _) (v := .int .i32 (c.toNat : Int)) rfl (by kernel_rfl) (by kernel_rfl) (by kernel_rfl) (fun _ _ _ h => h) (Or.inl ⟨by kernel_rfl, ?y3a⟩) (by assumption) ?r3a
        case y3a => (intro w hSw; (try dsimp only at hSw); go_simp; (try simp [hwc]))
        case r3a =>
          simp only [List.getElem_toArray, List.getElem_cons_succ, List.getElem_cons_zero, Act.put, List.setIfInBounds_toArray, List.set_cons_zero, List.set_cons_succ]
          refine wpAnyH_ready (rs := [0]) (by kernel_rfl) (by simp) ?_
          refine AllReadyH.cons (o := _) rfl (fun K hK => ?_) AllReadyH.nil
          go_simp
          (go_at_call 26; refine (short_any _).mono ?_; rintro e w2 ⟨rfl, hO, hb2⟩; have HLK : (Instr.lookup 59 (.map (some w.heap.size)) (.int .i32 (c.toNat : Int)) true).run Tryd.prog w2 = _ := short_look hO (c.toNat : Int) (by omega) (by omega); rw [HQ.out] at HLK; have HB2 : Below w.heap.size w w2 := (‹Below w.heap.size w _›).trans (hb2.mono (‹Below w.heap.size w _›).size))
          go_wp2_with fail
          refine hK.out _ _ (HB2) (fun hHeld => ?_)
          clear hK K
          try simp only [List.getElem_toArray, List.getElem_cons_succ, List.getElem_cons_zero, Act.put, List.setIfInBounds_toArray, List.set_cons_zero, List.set_cons_succ]
          refine wpAnyH_ready (rs := [4]) (by kernel_rfl) (by simp) ?_
          refine AllReadyH.cons (o := _) rfl (fun K hK => ?_) AllReadyH.nil
          go_simp
          skip
          go_wp2_with fail
          refine hK.out _ _ (HB2) (fun hHeld => ?_)
          clear hK K
          try simp only [List.getElem_toArray, List.getElem_cons_succ, List.getElem_cons_zero, Act.put, List.setIfInBounds_toArray, List.set_cons_zero, List.set_cons_succ]
          refine wpAnyH_take (i := 5) (oi := _) (v := ?v5a) rfl (by kernel_rfl) (by kernel_rfl) (by kernel_rfl) (fun _ _ _ h => h) (Or.inl ⟨by kernel_rfl, ?y5a⟩) (by assumption) ?r5a
          case y5a => (intro w hSw; (try dsimp only at hSw); go_simp; try (with_reducible rfl))
          case r5a =>
            simp only [List.getElem_toArray, List.getElem_cons_succ, List.getElem_cons_zero, Act.put, List.setIfInBounds_toArray, List.set_cons_zero, List.set_cons_succ]
            refine wpAnyH_take (i := 6) (oi := _) (v := ?v6a) rfl (by kernel_rfl) (by kernel_rfl) (by kernel_rfl) (fun _ _ _ h => h) (Or.inl ⟨by kernel_rfl, ?y6a⟩) (by assumption) ?r6a
            case y6a => (intro w hSw; (try dsimp only at hSw); go_simp; try (with_reducible rfl))
            case r6a =>
              simp only [List.getElem_toArray, List.getElem_cons_succ, List.getElem_cons_zero, Act.put, List.setIfInBounds_toArray, List.set_cons_zero, List.set_cons_succ]
              refine wpAnyH_take (i := 7) (oi := _) (v := ?v7a) rfl (by kernel_rfl) (by kernel_rfl) (by kernel_rfl) (fun _ _ _ h => h) (Or.inl ⟨by kernel_rfl, ?y7a⟩) (by assumption) ?r7a
              case y7a => (intro w hSw; (try dsimp only at hSw); go_simp; try (with_reducible rfl))
              case r7a =>
                simp only [List.getElem_toArray, List.getElem_cons_succ, List.getElem_cons_zero, Act.put, List.setIfInBounds_toArray, List.set_cons_zero, List.set_cons_succ]
                refine wpAnyH_take (i := 8) (oi := _) (v := ?v8a) rfl (by kernel_rfl) (by kernel_rfl) (by kernel_rfl) (fun _ _ _ h => h) (Or.inl ⟨by kernel_rfl, ?y8a⟩) (by assumption) ?r8a
                case y8a => (intro w hSw; (try dsimp only at hSw); go_simp; try (with_reducible rfl))
                case r8a =>
                  simp only [List.getElem_toArray, List.getElem_cons_succ, List.getElem_cons_zero, Act.put, List.setIfInBounds_toArray, List.set_cons_zero, List.set_cons_succ]
                  refine wpAnyH_take (i := 9) (oi := _) (v := ?v9a) rfl (by kernel_rfl) (by kernel_rfl) (by kernel_rfl) (fun _ _ _ h => h) (Or.inl ⟨by kernel_rfl, ?y9a⟩) (by assumption) ?r9a
                  case y9a => (intro w hSw; (try dsimp only at hSw); go_simp; try (with_reducible rfl))
                  case r9a =>
                    simp only [List.getElem_toArray, List.getElem_cons_succ, List.getElem_cons_zero, Act.put, List.setIfInBounds_toArray, List.set_cons_zero, List.set_cons_succ]
                    refine wpAnyH_done (by kernel_rfl) ?_ _
                    have HHB := Lib.hid hHeld
                    clear hHeld HLK HB2 hb2 hO hwc hz hpos hc
                    cases q2 with
                    | true =>
                      have hE2 : escQ L = (q1, 1) := hE
                      have HE2 := Lib.hid hE2
                      clear hE hE2
                      go_wp2_with fail
                      go_ret2
                      exact ⟨by rw [HE2.out]; rfl, HHB.out⟩
                    | false =>
                      have hE2 : escQ L = if unitQ L < 0 ∨ (56320 ≤ unitQ L ∧ unitQ L ≤ 57343) then (0, 0) else
                        if unitQ L < 55296 ∨ 57343 < unitQ L then (unitQ L, 5) else tailQ (unitQ L) (L.drop 5) := hE
                      have hul := unitQ_lt L
                      have h5 : 0 ≤ unitQ L → 5 ≤ L.length := fun h => by
                        by_cases h5 : L.length < 5
                        · rw [unitQ_short h5] at h; omega
                        · omega
                      have HU := Lib.hid (fun W => unit_any L W (by omega))
                      generalize unitQ L = a at hE2 hul h5 HU
                      clear hE
                      obtain ⟨hul1, hul2⟩ := hul
                      by_cases c1 : a < 0
                      · rw [if_pos (.inl c1)] at hE2
                        have HE2 := Lib.hid hE2
                        clear hE2 h5
                        go_wp2_with (go_at_call 27; refine (HU.out _).mono ?_; rintro e w3 ⟨rfl, rfl⟩)
                        go_ret2
                        exact ⟨by rw [HE2.out]; rfl, HHB.out⟩
                      have h5' := h5 (by omega)
                      by_cases c2 : 56320 ≤ a ∧ a ≤ 57343
                      · rw [if_pos (.inr c2)] at hE2
                        have HE2 := Lib.hid hE2
                        obtain ⟨c3, c4⟩ := c2
                        clear hE2 h5
                        go_wp2_with (go_at_call 27; refine (HU.out _).mono ?_; rintro e w3 ⟨rfl, rfl⟩)
                        go_ret2
                        exact ⟨by rw [HE2.out]; rfl, HHB.out⟩
                      rw [if_neg (by omega)] at hE2
                      by_cases c3 : a < 55296
                      · rw [if_pos (.inl c3)] at hE2
                        have HE2 := Lib.hid hE2
                        have c4 : ¬ 56320 ≤ a := by omega
                        clear hE2 h5 c2
                        go_wp2_with (go_at_call 27; refine (HU.out _).mono ?_; rintro e w3 ⟨rfl, rfl⟩)
                        go_ret2
                        exact ⟨by rw [HE2.out]; rfl, HHB.out⟩
                      by_cases c4 : 57343 < a
                      · rw [if_pos (.inr c4)] at hE2
                        have HE2 := Lib.hid hE2
                        have c5 : 56320 ≤ a := by omega
                        have c6 : ¬ a ≤ 57343 := by omega
                        clear hE2 h5 c2
                        go_wp2_with (go_at_call 27; refine (HU.out _).mono ?_; rintro e w3 ⟨rfl, rfl⟩)
                        go_ret2
                        exact ⟨by rw [HE2.out]; rfl, HHB.out⟩
                      rw [if_neg (by omega)] at hE2
                      have c5 : ¬ 56320 ≤ a := by omega
                      have hex : (⟨L.toArray⟩ : ByteArray).extract 5 L.length = ⟨(L.drop 5).toArray⟩ := by
                        apply ByteArray.ext; apply Array.ext'
                        rw [ByteArray.data_extract]
                        simp
                        exact List.take_of_length_le (by rw [List.length_drop]; omega)
                      have h5i : (5 : Int) ≤ (L.length : Int) := by omega
                      have hdl : (L.drop 5).length ≤ 100000 := by rw [List.length_drop]; omega
                      generalize L.drop 5 = D at hE2 hex hdl
                      have hcut : ∃ D2 ok, (∀ W, Calls Tryd.prog 28 #[str D, .string ⟨#[92]⟩] W fun e w' => e = .returned (.tuple #[str D2, .bool ok]) ∧ w' = W) ∧ D2.length ≤ 100000 ∧ ((ok = false ∧ tailQ a D = (0, 0)) ∨ (ok = true ∧ tailQ a D = if unitQ D2 < 56320 ∨ 57343 < unitQ D2 then (0, 0) else (65536 + (a - 55296) * 1024 + unitQ D2 - 56320, 11))) := by
                        have hC := fun W => Tryd.strings_CutPrefix ⟨D.toArray⟩ ⟨#[92]⟩ W
                        match D, hdl, hC with
                        | [], hdl, hC => exact ⟨[], false, hC, by simp, .inl ⟨rfl, rfl⟩⟩
                        | x :: D2, hdl, hC =>
                          by_cases hx : x = 92
                          · subst hx
                            exact ⟨D2, true, hC, by simp at hdl; omega, .inr ⟨rfl, rfl⟩⟩
                          · have hp : Lib.hasPrefix (x :: D2) [92] = false := by unfold Lib.hasPrefix; simp [List.isPrefixOf]; exact fun e => hx e.symm
                            have ht : Lib.trimPrefix (x :: D2) [92] = x :: D2 := by unfold Lib.trimPrefix; rw [hp]; rfl
                            refine ⟨x :: D2, false, fun W => ?_, hdl, .inl ⟨rfl, ?_⟩⟩
                            · have := hC W
                              rw [show ((⟨(x :: D2).toArray⟩ : ByteArray).data.toList) = x :: D2 from rfl, show ((⟨#[92]⟩ : ByteArray).data.toList) = [92] from rfl, hp, ht] at this
                              exact this
                            · unfold tailQ
                              split
                              · rename_i h; injection h with h _; exact absurd h hx
                              · rfl
                      obtain ⟨D2, ok, hC, hD2, hok⟩ := hcut
                      have HC := Lib.hid hC
                      have hbl := unitQ_lt D2
                      have HU2 := Lib.hid (fun W => unit_any D2 W (by omega))
                      generalize unitQ D2 = b at hok hbl HU2
                      obtain ⟨hbl1, hbl2⟩ := hbl
                      clear hC h5 c2 h5'
                      have hcase : (ok = false ∧ tailQ a D = (0, 0)) ∨ (ok = true ∧ b < 56320 ∧ tailQ a D = (0, 0)) ∨ (ok = true ∧ 56320 ≤ b ∧ 57343 < b ∧ tailQ a D = (0, 0)) ∨ (ok = true ∧ 56320 ≤ b ∧ b ≤ 57343 ∧ tailQ a D = (65536 + (a - 55296) * 1024 + b - 56320, 11)) := by
                        rcases hok with h | ⟨h, h2⟩
                        · exact .inl h
                        · by_cases b1 : b < 56320
                          · exact .inr (.inl ⟨h, b1, by rw [h2, if_pos (.inl b1)]⟩)
                          · by_cases b2 : 57343 < b
                            · exact .inr (.inr (.inl ⟨h, by omega, b2, by rw [h2, if_pos (.inr b2)]⟩))
                            · exact .inr (.inr (.inr ⟨h, by omega, by omega, by rw [h2, if_neg (by omega)]⟩))
                      have HCS := Lib.hid hcase
                      have HE2 := Lib.hid hE2
                      clear hcase hok hE2
                      go_upto_region 12 with (go_at_call 27; refine (HU.out _).mono ?_; rintro e w3 ⟨rfl, rfl⟩)
                      rcases HCS.out with ⟨rfl, ht⟩ | ⟨rfl, b1, ht⟩ | ⟨rfl, b1, b2, ht⟩ | ⟨rfl, b1, b2, ht⟩
                      all_goals
                        have HT := Lib.hid (HE2.out.trans ht)
                        clear ht HCS
                        go_wp2_with first
                          | (go_at_call 28; refine (HC.out _).mono ?_; rintro e w4 ⟨rfl, rfl⟩)
                          | (go_at_call 27; refine (HU2.out _).mono ?_; rintro e w5 ⟨rfl, rfl⟩)
                        go_ret2
                        exact ⟨by rw [HT.out]; rfl, HHB.out⟩
end Go.Proofs.YthlijkpeafgenaaDoor
