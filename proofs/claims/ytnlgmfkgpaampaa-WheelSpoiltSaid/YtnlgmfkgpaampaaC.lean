/- The closure of wheel.is; lockageref04.many, lockagelaw04.few, lockageref04.find. -/
import Derived.Test.YtnlgmfkgpaampaaB
set_option linter.unusedVariables false
set_option linter.unusedSimpArgs false
namespace Go.Proofs.Ytnlgmfkgpaampaa
open Go.RowKit
open Go.Proofs.YtnlgmfkgpaampaaW.PrintWords

theorem eg33 : ∀ args w, (callFunc 33 args).run Try.prog w = .ok (.enter 33 args) w := enters_of Try.func33 (by kernel_rfl) rfl
theorem is_any (w : World) (id : Int) : Calls Try.prog 25 #[.int .i64 id] w fun e w' => e = .returned (.func (.func 33) #[] #[.pointer (some ⟨w.heap.size, 0, none⟩)]) ∧ w'.heap[w.heap.size]? = some (.cells #[.int .i64 id] 3 (0, 0)) ∧ Below w.heap.size w w' := by
  go_enter Try.func25, Try.ntmps25
  go_wp2
  go_ret
  exact ⟨rfl, heap_alloc_new _ _, (Below.refl _ _).alloc (Nat.le_refl _) _⟩
theorem pred_is (w : World) (bx : Nat) (id : Int) (hx : w.heap[bx]? = some (.cells #[.int .i64 id] 3 (0, 0))) : PredB Try.prog 33 #[.pointer (some ⟨bx, 0, none⟩)] Tm.v (fun t => t.id == id) w := fun W x hb => by
  obtain ⟨i, a⟩ := x
  have hx1 := keep hb hx
  have hx2 : (W.alloc (.cells #[.int .i64 i, .int .i64 a] 34)).heap[bx]? = some (.cells #[.int .i64 id] 3 (0, 0)) := keep ((Below.refl _ _).alloc (Nat.le_refl _) _) hx1
  have z0 : (W.alloc (.cells #[.int .i64 i, .int .i64 a] 34)).cell? ⟨bx, 0, none⟩ = some (.int .i64 id) := box_at hx2 0 _ rfl
  clear hx hx1 hx2
  show Calls Try.prog 33 #[.agg #[.int .i64 i, .int .i64 a], .pointer (some ⟨bx, 0, none⟩)] W _
  go_enter Try.func33, Try.ntmps33
  go_wp2
  go_ret
  exact ⟨rfl, (Below.refl _ _).alloc (Nat.le_refl _) _⟩

/-- how many there are in the first k slots -/
def tot (n : Nat → Nat) : Nat → Nat
  | 0 => 0
  | k + 1 => tot n k + n k
theorem tot_mono (n : Nat → Nat) {k m : Nat} (h : k ≤ m) : tot n k ≤ tot n m := by
  induction m with
  | zero => rw [Nat.le_zero.1 h]; exact Nat.le_refl _
  | succ m ih =>
    rcases Nat.lt_or_ge k (m + 1) with h1 | h1
    · have := ih (by omega)
      simp only [tot]
      omega
    · rw [show k = m + 1 by omega]; exact Nat.le_refl _

set_option maxHeartbeats 1000000 in
theorem many_any (w : World) (nw : Int) (A : Nat → Option Addr) (n c : Nat → Nat) (ht : tot n 8 ≤ 4611686018427387904) :
    Calls Try.prog 31 #[.agg #[.int .i64 nw, .slice (A 0) (n 0) (c 0), .slice (A 1) (n 1) (c 1), .slice (A 2) (n 2) (c 2), .slice (A 3) (n 3) (c 3), .slice (A 4) (n 4) (c 4), .slice (A 5) (n 5) (c 5), .slice (A 6) (n 6) (c 6), .slice (A 7) (n 7) (c 7)]] w fun e w' => e = .returned (.int .i64 (tot n 8 : Nat)) ∧ Below w.heap.size w w' := by
  have HB := Lib.hid (BoxW.alloc w nw (fun i => .slice (A i) (n i) (c i)))
  have HW := Lib.hid (show Below w.heap.size w (w.alloc (.cells #[.int .i64 nw, .slice (A 0) (n 0) (c 0), .slice (A 1) (n 1) (c 1), .slice (A 2) (n 2) (c 2), .slice (A 3) (n 3) (c 3), .slice (A 4) (n 4) (c 4), .slice (A 5) (n 5) (c 5), .slice (A 6) (n 6) (c 6), .slice (A 7) (n 7) (c 7)] 25)) from (Below.refl _ _).alloc (Nat.le_refl _) _)
  go_enter Try.func31, Try.ntmps31
  go_wp2_with fail
  generalize hV : w.alloc (.cells #[.int .i64 nw, .slice (A 0) (n 0) (c 0), .slice (A 1) (n 1) (c 1), .slice (A 2) (n 2) (c 2), .slice (A 3) (n 3) (c 3), .slice (A 4) (n 4) (c 4), .slice (A 5) (n 5) (c 5), .slice (A 6) (n 6) (c 6), .slice (A 7) (n 7) (c 7)] 25) = V at *
  clear hV
  go_loopg [3, 4] 8 (fun gg s3 s4 wr => ∃ kk : Nat, kk ≤ 8 ∧ 8 - kk ≤ gg ∧ s4 = .int .i64 kk ∧ s3 = .int .i64 (tot n kk : Nat) ∧ wr = V)
  case atStart => exact ⟨0, by omega, by omega, rfl, rfl, rfl⟩
  case round =>
    obtain ⟨kk, hkk, hg, rfl, rfl, hwr⟩ := hrel
    subst hwr
    by_cases hlt : kk < 8
    · have hlt1 : (kk : Int) < 8 := by omega
      have z := HB.out.slot hlt
      have hm : tot n kk + n kk ≤ tot n 8 := tot_mono n (show kk + 1 ≤ 8 by omega)
      have hw : IntKind.i64.wrap ((tot n kk : Nat) + (n kk : Nat) : Int) = (tot n (kk + 1) : Nat) := by
        show _ = ((tot n kk + n kk : Nat) : Int)
        rw [IntKind.wrap_i64]
        omega
      go_wp2_with fail
      go_roundg (8 - (kk + 1))
      case measure => omega
      case rel => exact ⟨kk + 1, by omega, by omega, by simp, rfl, rfl⟩
    · obtain rfl : kk = 8 := by omega
      go_wp2_with fail
      go_ret
      exact ⟨rfl, HW.out⟩

def WhR (w : World) (A : Nat → Option Addr) (n c : Nat → Nat) (ts : Nat → List Tm) : Prop := ∀ i, i < 8 → RdE tenc 2 w (.slice (A i) (n i) (c i)) (ts i)
theorem WhR.below {w w1 : World} {A : Nat → Option Addr} {n c : Nat → Nat} {ts : Nat → List Tm} (h : WhR w A n c ts) (hb : Below w.heap.size w w1) : WhR w1 A n c ts := fun i hi => (h i hi).below hb
/-- where the first timer of an id stands -/
def FindIs (ts : Nat → List Tm) (id r s : Int) : Prop :=
  (r = -1 ∧ s = -1 ∧ ∀ i, i < 8 → ∀ t ∈ ts i, t.id ≠ id) ∨
  ∃ i k t, r = (i : Nat) ∧ s = (k : Nat) ∧ i < 8 ∧ (ts i)[k]? = some t ∧ t.id = id ∧ (∀ j x, j < k → (ts i)[j]? = some x → x.id ≠ id) ∧ ∀ i', i' < i → ∀ t ∈ ts i', t.id ≠ id

set_option maxHeartbeats 2000000 in
theorem find_any (w : World) (nw : Int) (A : Nat → Option Addr) (n c : Nat → Nat) (ts : Nat → List Tm) (id : Int) (hr : WhR w A n c ts) :
    Calls Try.prog 30 #[.agg #[.int .i64 nw, .slice (A 0) (n 0) (c 0), .slice (A 1) (n 1) (c 1), .slice (A 2) (n 2) (c 2), .slice (A 3) (n 3) (c 3), .slice (A 4) (n 4) (c 4), .slice (A 5) (n 5) (c 5), .slice (A 6) (n 6) (c 6), .slice (A 7) (n 7) (c 7)], .int .i64 id] w fun e w' => ∃ r s : Int, e = .returned (.tuple #[.int .i64 r, .int .i64 s]) ∧ FindIs ts id r s ∧ Below w.heap.size w w' := by
  have HB := Lib.hid (BoxW.alloc w nw (fun i => .slice (A i) (n i) (c i)))
  have hal : Below w.heap.size w (w.alloc (.cells #[.int .i64 nw, .slice (A 0) (n 0) (c 0), .slice (A 1) (n 1) (c 1), .slice (A 2) (n 2) (c 2), .slice (A 3) (n 3) (c 3), .slice (A 4) (n 4) (c 4), .slice (A 5) (n 5) (c 5), .slice (A 6) (n 6) (c 6), .slice (A 7) (n 7) (c 7)] 25)) := (Below.refl _ _).alloc (Nat.le_refl _) _
  have HW := Lib.hid hal
  have HR := Lib.hid (hr.below hal)
  clear hr hal
  go_enter Try.func30, Try.ntmps30
  go_wp2_with fail
  generalize hV : w.alloc (.cells #[.int .i64 nw, .slice (A 0) (n 0) (c 0), .slice (A 1) (n 1) (c 1), .slice (A 2) (n 2) (c 2), .slice (A 3) (n 3) (c 3), .slice (A 4) (n 4) (c 4), .slice (A 5) (n 5) (c 5), .slice (A 6) (n 6) (c 6), .slice (A 7) (n 7) (c 7)] 25) = V at *
  clear hV
  go_loopg [6] 8 (fun gg s6 wr => ∃ kk : Nat, kk ≤ 8 ∧ 8 - kk ≤ gg ∧ s6 = .int .i64 kk ∧ wr = V ∧ Aside (∀ i', i' < kk → ∀ t ∈ ts i', t.id ≠ id))
  case atStart => exact ⟨0, by omega, by omega, rfl, rfl, show Aside _ from fun i' h => absurd h (by omega)⟩
  case round =>
    obtain ⟨kk, hkk, hg, rfl, hwr, HA⟩ := hrel
    subst hwr
    by_cases hlt : kk < 8
    · have hlt1 : (kk : Int) < 8 := by omega
      have z := HB.out.slot hlt
      have hR := HR.out kk hlt
      have hln := hR.len
      have HRK := Lib.hid hR
      clear hR
      have hmx := HRK.out.max
      have hnk : n kk ≤ 9223372036854775807 := by omega
      clear hmx
      generalize A kk = Ak at *
      generalize c kk = ck at *
      generalize n kk = nk at *
      go_wp2_with fail
      go_loopg [7] nk (fun gg s7 wx => ∃ jj : Nat, jj ≤ nk ∧ nk - jj ≤ gg ∧ s7 = .int .i64 jj ∧ wx = wr ∧ Aside (∀ j x, j < jj → (ts kk)[j]? = some x → x.id ≠ id))
      case atStart => exact ⟨0, by omega, by omega, rfl, rfl, show Aside _ from fun j x h => absurd h (by omega)⟩
      case round =>
        obtain ⟨jj, hjj, hgj, rfl, hwx, HJ⟩ := hrel
        subst hwx
        by_cases hltj : jj < nk
        · have hltj1 : (jj : Int) < (nk : Int) := by omega
          obtain ⟨b, off, rfl, hbl, hcell⟩ := HRK.out.get (by omega)
          have hat : (ts kk)[jj]? = some ((ts kk)[jj]'(by omega)) := List.getElem?_eq_getElem _
          generalize (ts kk)[jj]'(by omega) = y at hat
          have k0 : wr.cell? ⟨b, off + jj * 2, none⟩ = some (.int .i64 y.id) := hcell jj 0 _ _ hat rfl
          have HAT := Lib.hid hat
          clear hcell hat
          by_cases hid : y.id = id
          · have hid1 : (y.id == id) = true := by simp [hid]
            have HID := Lib.hid hid
            clear hid
            go_wp2_with fail
            refine bodyPost_ret (v := .tuple #[.int .i64 kk, .int .i64 jj]) (by simp [results, Try.results30, go_sem]) rfl ?_
            exact ⟨_, _, rfl, .inr ⟨kk, jj, y, rfl, rfl, hlt, HAT.out, HID.out, HJ.out, HA.out⟩, HW.out⟩
          · have hid1 : (y.id == id) = false := by simp [hid]
            have HID := Lib.hid hid
            clear hid
            go_wp2_with fail
            go_roundg (nk - (jj + 1))
            case measure => omega
            case rel =>
              refine ⟨jj + 1, by omega, by omega, by simp, rfl, (show Aside _ from fun j x hj hx => ?_)⟩
              rcases Nat.lt_or_ge j jj with h | h
              · exact HJ.out j x h hx
              · obtain rfl : j = jj := by omega
                rw [HAT.out] at hx
                injection hx with hx
                subst hx
                exact HID.out
        · have hjn : jj = nk := by omega
          have hltj1 : ¬ (jj : Int) < (nk : Int) := by omega
          have HN : Aside (∀ t ∈ ts kk, t.id ≠ id) := fun t ht => by
            obtain ⟨j, hj⟩ := List.getElem?_of_mem ht
            exact HJ.out j t (by have := (List.getElem?_eq_some_iff.1 hj).1; omega) hj
          clear hjn
          go_wp2_with fail
          go_roundg (8 - (kk + 1))
          case measure => omega
          case rel =>
            refine ⟨kk + 1, by omega, by omega, by simp, rfl, (show Aside _ from fun i' hi' t ht => ?_)⟩
            rcases Nat.lt_or_ge i' kk with h | h
            · exact HA.out i' h t ht
            · obtain rfl : i' = kk := by omega
              exact HN.out t ht
    · obtain rfl : kk = 8 := by omega
      go_wp2_with fail
      refine bodyPost_ret (v := .tuple #[.int .i64 (-1), .int .i64 (-1)]) (by simp [results, Try.results30, go_sem]) rfl ?_
      exact ⟨_, _, rfl, .inl ⟨rfl, rfl, HA.out⟩, HW.out⟩
end Go.Proofs.Ytnlgmfkgpaampaa
