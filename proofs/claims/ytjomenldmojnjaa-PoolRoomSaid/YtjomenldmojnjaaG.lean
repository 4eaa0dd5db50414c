/- Contracts of pool.bad, cmp.Compare, the closures of pool.Pick, slices.MinFunc. -/
import Derived.Test.YtjomenldmojnjaaF
set_option linter.unusedVariables false
set_option linter.unusedSimpArgs false
namespace Go.Proofs.Ytjomenldmojnjaa
open Go.RowKit
open Go.Proofs.YtjomenldmojnjaaW.PrintWords

def badB (b : Bk) : Bool := decide (5 ≤ b.f)
theorem bad_any (b : Bk) (w : World) : Calls Try.prog 24 #[b.v] w fun e w' => e = .returned (.bool (badB b)) ∧ Below w.heap.size w w' := by
  obtain ⟨o, r, i, f⟩ := b
  unfold Bk.v badB
  simp only
  go_enter Try.func24, Try.ntmps24
  go_wp2_with fail
  go_ret
  exact ⟨rfl, (Below.refl _ _).alloc (Nat.le_refl _) _⟩
theorem good_any (b : Bk) (w : World) : Calls Try.prog 23 #[b.v] w fun e w' => e = .returned (.bool (!badB b)) ∧ Below w.heap.size w w' := by
  have HC := Lib.hid (fun w => bad_any b w)
  obtain ⟨o, r, i, f⟩ := b
  unfold Bk.v at HC ⊢
  simp only at HC ⊢
  have hb0 : Below w.heap.size w (w.alloc (.cells #[.int .i64 o, .int .i64 r, .int .i64 i, .int .i64 f] 32)) := (Below.refl _ _).alloc (Nat.le_refl _) _
  go_enter Try.func23, Try.ntmps23
  go_wp2_with (go_at_call 24; refine (HC.out _).mono ?_; rintro e w9 ⟨rfl, hb⟩)
  go_ret
  exact ⟨rfl, hb0.trans (hb.mono hb0.size)⟩
theorem eg23 : ∀ args w, (callFunc 23 args).run Try.prog w = .ok (.enter 23 args) w := enters_of Try.func23 (by kernel_rfl) rfl
theorem eg26 : ∀ args w, (callFunc 26 args).run Try.prog w = .ok (.enter 26 args) w := enters_of Try.func26 (by kernel_rfl) rfl
theorem pred_good (w : World) : PredB Try.prog 23 #[] Bk.v (fun b => !badB b) w := fun W x hb => by
  simpa using good_any x W

def cmpI (a b : Int) : Int := if a < b then -1 else if b < a then 1 else 0
theorem nan_any (a : Int) (w : World) : Calls Try.prog 34 #[.int .i64 a] w fun e w' => e = .returned (.bool false) ∧ w' = w := by
  go_enter Try.func34, Try.ntmps34
  go_wp2_with fail
  go_ret
  exact ⟨by simp, rfl⟩
theorem compare_any (a b : Int) (w : World) : Calls Try.prog 27 #[.int .i64 a, .int .i64 b] w fun e w' => e = .returned (.int .i64 (cmpI a b)) ∧ w' = w := by
  by_cases h0 : a < b
  · have HF := Lib.hid (show cmpI a b = -1 by simp [cmpI, h0])
    go_enter Try.func27, Try.ntmps27
    go_wp2_with (go_at_call 34; refine (nan_any _ _).mono ?_; rintro e w9 ⟨rfl, hw9⟩; subst w9)
    go_ret
    exact ⟨ret_int HF.out.symm, rfl⟩
  · by_cases h1 : b < a
    · have HF := Lib.hid (show cmpI a b = 1 by simp [cmpI, h0, h1])
      go_enter Try.func27, Try.ntmps27
      go_wp2_with (go_at_call 34; refine (nan_any _ _).mono ?_; rintro e w9 ⟨rfl, hw9⟩; subst w9)
      go_ret
      exact ⟨ret_int HF.out.symm, rfl⟩
    · have HF := Lib.hid (show cmpI a b = 0 by simp [cmpI, h0, h1])
      go_enter Try.func27, Try.ntmps27
      go_wp2_with (go_at_call 34; refine (nan_any _ _).mono ?_; rintro e w9 ⟨rfl, hw9⟩; subst w9)
      go_ret
      exact ⟨ret_int HF.out.symm, rfl⟩

def S3 (W : World) (p0 p1 p2 : Addr) (v0 v1 v2 : Value) (w' : World) : Prop := w'.cell? p0 = some v0 ∧ w'.cell? p1 = some v1 ∧ w'.cell? p2 = some v2 ∧ Below W.heap.size W w'
theorem S3.b {W w' : World} {p0 p1 p2 : Addr} {v0 v1 v2 : Value} (h : S3 W p0 p1 p2 v0 v1 v2 w') : Below W.heap.size W w' := h.2.2.2
theorem S3.below {W w1 w2 : World} {p0 p1 p2 : Addr} {v0 v1 v2 : Value} (hb : Below w1.heap.size w1 w2) (h : S3 W p0 p1 p2 v0 v1 v2 w1) : S3 W p0 p1 p2 v0 v1 v2 w2 :=
  ⟨pw_cell_below hb h.1, pw_cell_below hb h.2.1, pw_cell_below hb h.2.2.1, h.2.2.2.trans (hb.mono h.2.2.2.size)⟩
/-- how many are open at place i -/
def oAt (bs : List Bk) (i : Nat) : Int := ((bs[i]?).map Bk.o).getD 0
theorem pick2_any (w : World) (bx : Nat) (A : Option Addr) (n c : Nat) (nx : Int) (bs : List Bk) (hx : w.heap[bx]? = some (.cells #[.slice A n c, .int .i64 nx] 24 (0, 0))) (hr : RdE enc 4 w (.slice A n c) bs) (i k : Nat) (hi : i < bs.length) (hk : k < bs.length) :
    Calls Try.prog 26 #[.int .i64 i, .int .i64 k, .pointer (some ⟨bx, 0, none⟩)] w fun e w' => e = .returned (.int .i64 (cmpI (oAt bs i) (oAt bs k))) ∧ Below w.heap.size w w' := by
  have ln := hr.len
  obtain ⟨b, off, rfl, hbl, hc⟩ := hr.get (by omega)
  have hat : bs[i]? = some bs[i] := List.getElem?_eq_getElem hi
  have hat2 : bs[k]? = some bs[k] := List.getElem?_eq_getElem hk
  have k0 : w.cell? ⟨b, off + i * 4, none⟩ = some (.int .i64 bs[i].o) := hc i 0 _ _ hat rfl
  have k1 : w.cell? ⟨b, off + k * 4, none⟩ = some (.int .i64 bs[k].o) := hc k 0 _ _ hat2 rfl
  have e0 : oAt bs i = bs[i].o := by simp [oAt, hat]
  have e1 : oAt bs k = bs[k].o := by simp [oAt, hat2]
  rw [e0, e1]
  generalize bs[i].o = x at k0
  generalize bs[k].o = y at k1
  have z0 := box_at hx 0 _ rfl
  have hi1 : (i : Int) < (n : Int) := by omega
  have hk1 : (k : Int) < (n : Int) := by omega
  clear hc hr hat hat2 e0 e1 hx hbl
  go_enter Try.func26, Try.ntmps26
  go_wp2_with fail
  have HS := Lib.hid (show S3 w ⟨bx, 0, none⟩ ⟨b, off + i * 4, none⟩ ⟨b, off + k * 4, none⟩ (.slice (some ⟨b, off, none⟩) n c) (.int .i64 x) (.int .i64 y) w from ⟨z0, k0, k1, Below.refl _ _⟩)
  clear z0 k0 k1
  go_region_held3 (fun w' => w'.cell? ⟨bx, 0, none⟩ = some (.slice (some ⟨b, off, none⟩) n c) ∧ w'.cell? ⟨b, off + i * 4, none⟩ = some (.int .i64 x) ∧ w'.cell? ⟨b, off + k * 4, none⟩ = some (.int .i64 y) ∧ Below w.heap.size w w')
    (first | exact HS.out.below (below_drew (Below.refl _ _)) | (refine S3.below ?_ ‹_›; assumption))
    (first
     | (go_at_call 27
        refine (compare_any x y _).mono ?_
        rintro e w3 ⟨rfl, hw3⟩; subst w3))
  have hlast := (‹S3 w _ _ _ _ _ _ _›).b
  go_wp2_with fail
  go_ret
  exact ⟨rfl, hlast⟩

set_option maxHeartbeats 1000000 in
theorem minFunc_nats (g : Nat) (lb : Array Value) (eg : ∀ args w, (callFunc g args).run Try.prog w = .ok (.enter g args) w) (cmp : Nat → Nat → Int) (w : World) (v : Value) (x0 : Nat) (rest : List Nat)
    (hr : Rd w v ((x0 :: rest).map (fun x : Nat => Value.int .i64 (x : Int))))
    (hp : ∀ (W : World) (x y : Nat), Below w.heap.size w W → x ∈ x0 :: rest → y ∈ x0 :: rest → Calls Try.prog g (#[.int .i64 x, .int .i64 y] ++ lb) W fun e w' => e = .returned (.int .i64 (cmp x y)) ∧ Below W.heap.size W w') :
    Calls Try.prog 25 #[v, .func (.func g) #[] lb] w fun e w' => e = .returned (.int .i64 ((rest.foldl (fun m y => if cmp y m < 0 then y else m) x0 : Nat) : Int)) ∧ Below w.heap.size w w' := by
  obtain ⟨A, c, rfl, _, hm, hrr⟩ := hr
  rw [List.length_map, List.length_cons] at hm hrr ⊢
  obtain ⟨b, off, rfl, hbl, hc⟩ := hrr (by omega)
  have hc0 : w.cell? ⟨b, off, none⟩ = some (.int .i64 x0) := hc 0 _ rfl
  have HP := Lib.hid hp
  have HC := Lib.hid hc
  have h1 : ¬ ((rest.length : Int) + 1 < 1) := by omega
  clear hp hc hrr
  go_enter Try.func25, Try.ntmps25
  go_wp2_with fail
  go_loopg [5, 6] rest.length (fun gg s5 s6 wr => ∃ (j m : Nat), j ≤ rest.length ∧ rest.length - j ≤ gg ∧ s6 = .int .i64 ((j : Int) + 1) ∧ s5 = .int .i64 m ∧ Below w.heap.size w wr ∧ Aside (m = (rest.take j).foldl (fun m y => if cmp y m < 0 then y else m) x0 ∧ m ∈ x0 :: rest))
  case atStart => exact ⟨0, x0, Nat.zero_le _, by omega, rfl, rfl, Below.refl _ _, ⟨rfl, by simp⟩⟩
  case round =>
    obtain ⟨j, m, hj, hg, rfl, rfl, hB, HA⟩ := hrel
    have HA := Lib.hid HA.out
    by_cases hlt : j < rest.length
    · have hltz : (j : Int) + 1 < (rest.length : Int) + 1 := by omega
      have hcell : wr.cell? ⟨b, off + (j + 1), none⟩ = some (.int .i64 rest[j]) := (hB.cell (p := ⟨b, off + (j + 1), none⟩) (hbl)).trans (HC.out (j + 1) _ (by simp [hlt]))
      have hmem : rest[j] ∈ x0 :: rest := List.mem_cons_of_mem _ (List.getElem_mem hlt)
      have hts : rest.take (j + 1) = rest.take j ++ [rest[j]] := List.take_succ_eq_append_getElem hlt
      generalize rest[j] = y at hcell hmem hts
      have HMEM := Lib.hid hmem
      have HTS := Lib.hid hts
      have HQ := Lib.hid (HP.out wr y m hB hmem HA.out.2)
      clear hmem hts
      generalize hcm : cmp y m = q at *
      have HCM := Lib.hid hcm
      clear hcm
      by_cases hq : q < 0
      · go_wp2_with (go_at_fn g; refine (HQ.out).mono ?_; rintro e w' ⟨rfl, hb'⟩; have hcell' := pw_cell_below hb' hcell)
        go_roundg (rest.length - (j + 1))
        case measure => omega
        case rel => exact ⟨j + 1, y, by omega, by omega, by simp, rfl, hB.trans (hb'.mono hB.size), ⟨by rw [HTS.out, List.foldl_append, ← HA.out.1]; show y = if cmp y m < 0 then y else m; rw [HCM.out, if_pos hq], HMEM.out⟩⟩
      · go_wp2_with (go_at_fn g; refine (HQ.out).mono ?_; rintro e w' ⟨rfl, hb'⟩; have hcell' := pw_cell_below hb' hcell)
        go_roundg (rest.length - (j + 1))
        case measure => omega
        case rel => exact ⟨j + 1, m, by omega, by omega, by simp, rfl, hB.trans (hb'.mono hB.size), ⟨by rw [HTS.out, List.foldl_append, ← HA.out.1]; show m = if cmp y m < 0 then y else m; rw [HCM.out, if_neg (by omega)], HA.out.2⟩⟩
    · have hltz : ¬ ((j : Int) + 1 < (rest.length : Int) + 1) := by omega
      have HF := Lib.hid (show rest.foldl (fun m y => if cmp y m < 0 then y else m) x0 = m by rw [HA.out.1, List.take_of_length_le (by omega)])
      go_wp2_with fail
      go_ret
      exact ⟨by rw [HF.out]; rfl, hB⟩
end Go.Proofs.Ytjomenldmojnjaa
