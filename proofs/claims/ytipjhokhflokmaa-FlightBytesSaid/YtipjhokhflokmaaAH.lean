/- lockageref18's least, trim. -/
import Derived.Test.YtipjhokhflokmaaAG
set_option linter.unusedVariables false
set_option linter.unusedSimpArgs false
namespace Go.Proofs.Ytipjhokhflokmaa
open Go.RowKit Go.Maps
open Go.Proofs.YtipjhokhflokmaaW.PrintWords

theorem leastF_first {n : Int} {t : Tm} {r : List Tm} (h : t.at' ≤ n) : leastF t.at' (t :: r) = leastF n (t :: r) := by
  show leastF (min t.at' t.at') r = leastF (min n t.at') r
  rw [show min t.at' t.at' = min n t.at' by omega]
set_option maxHeartbeats 1600000 in
theorem rleast_any (w : World) (y : FV) (h : RdE tenc 2 w y.2.v y.1.ws) (h1 : 1 ≤ y.1.ws.length) (hl : y.1.ws.length ≤ 1000) (he : ∀ t ∈ y.1.ws, t.at' ≤ endS y.1) :
    Calls Try.prog 53 #[FV.v y] w fun e w' => e = .returned (.int .i64 (leastS y.1)) ∧ Below w.heap.size w w' := by
  obtain ⟨⟨fk, fs, fi, fb, fd, ft, fo, ws⟩, ⟨A, n, c⟩⟩ := y
  have hr : RdE tenc 2 w (.slice A n c) ws := h
  have hn : ws.length = n := hr.len
  simp only at h1 hl he
  have hz0 : ws[0]? = some (ws[0]'(by omega)) := List.getElem?_eq_getElem _
  have hls : leastS ⟨fk, fs, fi, fb, fd, ft, fo, ws⟩ = leastF (ws[0]'(by omega)).at' ws := by
    unfold leastS
    cases ws with
    | nil => simp at h1
    | cons a r => exact (leastF_first (he a (List.mem_cons_self ..))).symm
  show Calls Try.prog 53 #[.agg #[str fk, .bool fs, .int .i64 fi, .int .i64 fb, str fd, .int .i64 ft, .bool fo, .slice A n c]] w fun e w' => e = .returned (.int .i64 (leastS ⟨fk, fs, fi, fb, fd, ft, fo, ws⟩)) ∧ Below w.heap.size w w'
  rw [hls]
  generalize ws[0]'(by omega) = t0 at hz0
  obtain ⟨ti0, E⟩ := t0
  simp only
  have hal : Below w.heap.size w (w.alloc (.cells #[str fk, .bool fs, .int .i64 fi, .int .i64 fb, str fd, .int .i64 ft, .bool fo, .slice A n c] 45)) := (Below.refl _ _).alloc (Nat.le_refl _) _
  have hx := heap_alloc_new w (.cells #[str fk, .bool fs, .int .i64 fi, .int .i64 fb, str fd, .int .i64 ft, .bool fo, .slice A n c] 45)
  have HX := Lib.hid hx
  have HAL := Lib.hid hal
  have HR := Lib.hid hr
  obtain ⟨b0, o0, hA, _, z0, z1⟩ := (hr.below hal).tm hz0
  clear h hr hal hx hls he hz0
  subst hA
  have hn1 : 1 ≤ (n : Int) := by omega
  go_enter Try.func53, Try.ntmps53
  go_upto_region 1 with fail
  generalize w.alloc (.cells #[str fk, .bool fs, .int .i64 fi, .int .i64 fb, str fd, .int .i64 ft, .bool fo, .slice (some ⟨b0, o0, none⟩) n c] 45) = U at *
  have c7 : U.cell? ⟨w.heap.size, 7, none⟩ = some (.slice (some ⟨b0, o0, none⟩) n c) := box_at HX.out 7 _ rfl
  simp only [Nat.zero_mul, Nat.add_zero] at z0 z1
  go_upto_region 2 with fail
  clear c7 z0 z1
  go_wp2_with fail
  go_loopg [3, 4] n (fun gg s3 s4 wr => ∃ kk : Nat, kk ≤ n ∧ n - kk ≤ gg ∧ s3 = .int .i64 (leastF E (ws.take kk)) ∧ s4 = .int .i64 kk ∧ Aside (Below U.heap.size U wr))
  case atStart => exact ⟨0, Nat.zero_le _, by omega, rfl, rfl, (show Aside _ from Below.refl _ _)⟩
  case round =>
    obtain ⟨kk, hkk, hg, rfl, rfl, HB⟩ := hrel
    have c7 : wr.cell? ⟨w.heap.size, 7, none⟩ = some (.slice (some ⟨b0, o0, none⟩) n c) := box_at (keep HB.out HX.out) 7 _ rfl
    by_cases hlt : kk < n
    · have h1 : (kk : Int) < (n : Int) := by omega
      have ht : ws[kk]? = some (ws[kk]'(by omega)) := List.getElem?_eq_getElem _
      have hte : ws.take (kk + 1) = ws.take kk ++ [ws[kk]'(by omega)] := List.take_succ_eq_append_getElem (by omega)
      generalize ws[kk]'(by omega) = t at ht hte
      obtain ⟨b2, o2, hA2, _, j0, j1⟩ := ((HR.out.below HAL.out).below HB.out).tm ht
      injection hA2 with hA2
      injection hA2 with e1 e2
      subst e1; subst e2
      obtain ⟨ti, ta⟩ := t
      obtain ⟨L, hL⟩ : ∃ L, leastF E (ws.take kk) = L := ⟨_, rfl⟩
      have hL2 : leastF E (ws.take (kk + 1)) = min L ta := by rw [hte, leastF_snoc, hL]
      rw [hL]
      have HL2 := Lib.hid hL2
      clear ht hte hL hL2
      go_wp2_with fail
      all_goals
        go_roundg (n - (kk + 1))
        case measure => omega
        case rel =>
          refine ⟨kk + 1, by omega, by omega, ?_, by go_num, HB⟩
          rw [HL2.out]
          first
            | (congr 1; omega)
            | rfl
    · have h1 : ¬ (kk : Int) < (n : Int) := by omega
      go_wp2_with fail
      go_ret
      rw [List.take_of_length_le (by omega)]
      exact ⟨rfl, HAL.out.trans (HB.out.mono HAL.out.size)⟩

set_option maxRecDepth 100000 in
set_option maxHeartbeats 1600000 in
theorem trim_any (w : World) (y : FV) (h : RdE tenc 2 w y.2.v y.1.ws) (h1 : 1 ≤ y.1.ws.length) (hl : y.1.ws.length ≤ 1000) (he : ∀ t ∈ y.1.ws, y.1.base ≤ t.at' ∧ t.at' ≤ endS y.1) (hk : okN y.1) :
    Calls Try.prog 54 #[FV.v y] w fun e w' => e = .returned (FV.v (trimS y.1, y.2)) ∧ Below w.heap.size w w' := by
  have hge : y.1.base ≤ leastS y.1 := leastF_ge _ _ _ (by unfold endS; omega) (fun u hu => (he u hu).1)
  have hle := leastS_le y.1
  have C53 := Lib.hid (fun (W : World) (hb : Below w.heap.size w W) => rleast_any W y (h.below hb) h1 hl (fun t ht => (he t ht).2))
  obtain ⟨q0, q1, q2⟩ := hk
  have hend : endS y.1 = y.1.base + y.1.data.length := rfl
  have htr : trimS y.1 = { y.1 with data := y.1.data.drop (leastS y.1 - y.1.base).toNat, base := leastS y.1 } := rfl
  rw [htr]
  clear htr he h1 hl h
  generalize leastS y.1 = lm at *
  generalize endS y.1 = E at *
  obtain ⟨⟨fk, fs, fi, fb, fd, ft, fo, ws⟩, ⟨A, n, c⟩⟩ := y
  simp only at q0 q1 q2 hge hend hle
  obtain ⟨dd, hdd⟩ := Int.eq_ofNat_of_zero_le (show 0 ≤ lm - fb by omega)
  have hddl : dd ≤ fd.length := by omega
  have hwd2 : IntKind.i64.wrap (lm - fb) = lm - fb := by rw [IntKind.wrap_i64]; omega
  have hd0 : (0 : Int) ≤ (dd : Int) := by omega
  have hddi : (dd : Int) ≤ (fd.length : Int) := by omega
  have hex1 := ext_drop fd dd fd.length rfl
  obtain ⟨r, hr⟩ : ∃ r, fd.drop dd = r := ⟨_, rfl⟩
  rw [hr] at hex1
  have hex2 : (⟨fd.toArray⟩ : ByteArray).extract (lm - fb).toNat fd.length = ⟨r.toArray⟩ := by rw [hdd, Int.toNat_natCast]; exact hex1
  have hl0 : 0 ≤ lm - fb := by omega
  have hl1 : lm - fb ≤ (fd.length : Int) := by omega
  have hl2 : (lm - fb).toNat ≤ fd.length := by omega
  show Calls Try.prog 54 #[.agg #[str fk, .bool fs, .int .i64 fi, .int .i64 fb, str fd, .int .i64 ft, .bool fo, .slice A n c]] w fun e w' => e = .returned (.agg #[str fk, .bool fs, .int .i64 fi, .int .i64 lm, str (fd.drop (lm - fb).toNat), .int .i64 ft, .bool fo, .slice A n c]) ∧ Below w.heap.size w w'
  rw [show fd.drop (lm - fb).toNat = r by rw [hdd, Int.toNat_natCast]; exact hr]
  have hal1 : Below w.heap.size w (w.alloc (.cells #[str fk, .bool fs, .int .i64 fi, .int .i64 fb, str fd, .int .i64 ft, .bool fo, .slice A n c] 45)) := (Below.refl _ _).alloc (Nat.le_refl _) _
  have hal2 : Below w.heap.size w ((w.alloc (.cells #[str fk, .bool fs, .int .i64 fi, .int .i64 fb, str fd, .int .i64 ft, .bool fo, .slice A n c] 45)).alloc (.cells #[.string { data := #[] }, .bool false, .int .i64 0, .int .i64 0, .string { data := #[] }, .int .i64 0, .bool false, .slice none 0 0] 45)) := hal1.alloc (by simp) _
  have x1 : ((w.alloc (.cells #[str fk, .bool fs, .int .i64 fi, .int .i64 fb, str fd, .int .i64 ft, .bool fo, .slice A n c] 45)).alloc (.cells #[.string { data := #[] }, .bool false, .int .i64 0, .int .i64 0, .string { data := #[] }, .int .i64 0, .bool false, .slice none 0 0] 45)).heap[w.heap.size]? = some (.cells #[str fk, .bool fs, .int .i64 fi, .int .i64 fb, str fd, .int .i64 ft, .bool fo, .slice A n c] 45) := keep ((Below.refl _ _).alloc (Nat.le_refl _) _) (heap_alloc_new w _)
  have x2 : ((w.alloc (.cells #[str fk, .bool fs, .int .i64 fi, .int .i64 fb, str fd, .int .i64 ft, .bool fo, .slice A n c] 45)).alloc (.cells #[.string { data := #[] }, .bool false, .int .i64 0, .int .i64 0, .string { data := #[] }, .int .i64 0, .bool false, .slice none 0 0] 45)).heap[w.heap.size + 1]? = some (.cells #[.string { data := #[] }, .bool false, .int .i64 0, .int .i64 0, .string { data := #[] }, .int .i64 0, .bool false, .slice none 0 0] 45) := by
    have := heap_alloc_new (w.alloc (.cells #[str fk, .bool fs, .int .i64 fi, .int .i64 fb, str fd, .int .i64 ft, .bool fo, .slice A n c] 45)) (.cells #[.string { data := #[] }, .bool false, .int .i64 0, .int .i64 0, .string { data := #[] }, .int .i64 0, .bool false, .slice none 0 0] 45)
    rwa [show (w.alloc (.cells #[str fk, .bool fs, .int .i64 fi, .int .i64 fb, str fd, .int .i64 ft, .bool fo, .slice A n c] 45)).heap.size = w.heap.size + 1 by simp] at this
  clear hr hdd hend hle hge hal1
  go_enter Try.func54, Try.ntmps54
  go_upto_region 1 with fail
  generalize (w.alloc (.cells #[str fk, .bool fs, .int .i64 fi, .int .i64 fb, str fd, .int .i64 ft, .bool fo, .slice A n c] 45)).alloc (.cells #[.string { data := #[] }, .bool false, .int .i64 0, .int .i64 0, .string { data := #[] }, .int .i64 0, .bool false, .slice none 0 0] 45) = U at *
  have HX1 := Lib.hid x1
  have HX2 := Lib.hid x2
  have HAL := Lib.hid hal2
  clear x1 x2 hal2
  have c0 : U.cell? ⟨w.heap.size, 0, none⟩ = some (str fk) := box_at HX1.out 0 _ rfl
  have c1 : U.cell? ⟨w.heap.size, 1, none⟩ = some (.bool fs) := box_at HX1.out 1 _ rfl
  have c2 : U.cell? ⟨w.heap.size, 2, none⟩ = some (.int .i64 fi) := box_at HX1.out 2 _ rfl
  have c3 : U.cell? ⟨w.heap.size, 3, none⟩ = some (.int .i64 fb) := box_at HX1.out 3 _ rfl
  have c4 : U.cell? ⟨w.heap.size, 4, none⟩ = some (str fd) := box_at HX1.out 4 _ rfl
  have c5 : U.cell? ⟨w.heap.size, 5, none⟩ = some (.int .i64 ft) := box_at HX1.out 5 _ rfl
  have c6 : U.cell? ⟨w.heap.size, 6, none⟩ = some (.bool fo) := box_at HX1.out 6 _ rfl
  have c7 : U.cell? ⟨w.heap.size, 7, none⟩ = some (.slice A n c) := box_at HX1.out 7 _ rfl
  go_upto_region 2 with (go_at_call 53; refine (C53.out U HAL.out).mono ?_; rintro e w1 ⟨rfl, hb1⟩; have HB1 := Lib.hid (HAL.out.trans (hb1.mono HAL.out.size)); have HX3 := Lib.hid (keep hb1 HX1.out); have HX4 := Lib.hid (keep hb1 HX2.out); clear hb1)
  clear c0 c1 c2 c3 c4 c5 c6 c7 HX1 HX2 C53
  have c0 : w1.cell? ⟨w.heap.size, 0, none⟩ = some (str fk) := box_at HX3.out 0 _ rfl
  have c1 : w1.cell? ⟨w.heap.size, 1, none⟩ = some (.bool fs) := box_at HX3.out 1 _ rfl
  have c2 : w1.cell? ⟨w.heap.size, 2, none⟩ = some (.int .i64 fi) := box_at HX3.out 2 _ rfl
  have c3 : w1.cell? ⟨w.heap.size, 3, none⟩ = some (.int .i64 fb) := box_at HX3.out 3 _ rfl
  have c4 : w1.cell? ⟨w.heap.size, 4, none⟩ = some (str fd) := box_at HX3.out 4 _ rfl
  have c5 : w1.cell? ⟨w.heap.size, 5, none⟩ = some (.int .i64 ft) := box_at HX3.out 5 _ rfl
  have c6 : w1.cell? ⟨w.heap.size, 6, none⟩ = some (.bool fo) := box_at HX3.out 6 _ rfl
  have c7 : w1.cell? ⟨w.heap.size, 7, none⟩ = some (.slice A n c) := box_at HX3.out 7 _ rfl
  have cf := box_free HX3.out
  have hne : ¬ w.heap.size = w.heap.size + 1 := by omega
  have hne2 : ¬ w.heap.size + 1 = w.heap.size := by omega
  have z0 : w1.cell? ⟨w.heap.size + 1, 0, none⟩ = some (.string { data := #[] }) := box_at HX4.out 0 _ rfl
  have z1 : w1.cell? ⟨w.heap.size + 1, 1, none⟩ = some (.bool false) := box_at HX4.out 1 _ rfl
  have z2 : w1.cell? ⟨w.heap.size + 1, 2, none⟩ = some (.int .i64 0) := box_at HX4.out 2 _ rfl
  have z3 : w1.cell? ⟨w.heap.size + 1, 3, none⟩ = some (.int .i64 0) := box_at HX4.out 3 _ rfl
  have z4 : w1.cell? ⟨w.heap.size + 1, 4, none⟩ = some (.string { data := #[] }) := box_at HX4.out 4 _ rfl
  have z5 : w1.cell? ⟨w.heap.size + 1, 5, none⟩ = some (.int .i64 0) := box_at HX4.out 5 _ rfl
  have z6 : w1.cell? ⟨w.heap.size + 1, 6, none⟩ = some (.bool false) := box_at HX4.out 6 _ rfl
  have z7 : w1.cell? ⟨w.heap.size + 1, 7, none⟩ = some (.slice none 0 0) := box_at HX4.out 7 _ rfl
  have zf := box_free HX4.out
  go_wp2_with fail
  refine bodyPost_ret (v := .agg #[str fk, .bool fs, .int .i64 fi, .int .i64 lm, str r, .int .i64 ft, .bool fo, .slice A n c]) (by simp [results, Try.results54, go_sem, z0, z1, z2, z3, z4, z5, z6, z7]) rfl ⟨rfl, ?_⟩
  have hlo : w.heap.size ≤ w.heap.size + 1 := Nat.le_succ _
  exact (((((((((HB1.out.setCell (Nat.le_refl _) _).setCell (Nat.le_refl _) _).setCell hlo _).setCell hlo _).setCell hlo _).setCell hlo _).setCell hlo _).setCell hlo _).setCell hlo _).setCell hlo _

end Go.Proofs.Ytipjhokhflokmaa
