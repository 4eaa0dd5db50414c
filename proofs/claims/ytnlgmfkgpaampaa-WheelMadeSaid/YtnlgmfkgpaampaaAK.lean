/- Contract of lockagelaw04.WheelMade. -/
import Derived.Test.YtnlgmfkgpaampaaAJ
import Derived.Test.YtnlgmfkgpaampaaAE
set_option linter.unusedVariables false
set_option linter.unusedSimpArgs false
namespace Go.Proofs.Ytnlgmfkgpaampaa
open Go.RowKit
open Go.Proofs.YtnlgmfkgpaampaaW.PrintWords

set_option maxHeartbeats 4000000 in
theorem wheelMade_any (w : World) (Al : Option Addr) (nl cl : Nat) (l : List Nat) (id more : Nat) (hl : Rd w (.slice Al nl cl) (u8s l)) (h8 : ∀ x ∈ l, x < 256) (hid : id < 256) (hmo : more < 256) :
    Calls Try.prog 4 #[.slice Al nl cl, .int .u8 id, .int .u8 more] w fun e w' => e = .returned (.bool true) ∧ Below w.heap.size w w' := by
  have hm := Lib.hid (made_any w Al nl cl l hl h8)
  have hok := OkW.run (l.take 60) OkW.start
  have htk : (l.take 60).length ≤ 60 := by rw [List.length_take]; omega
  rw [show (l.take 60).foldl stepW (0, fun _ => []) = madeW l from rfl] at hok
  generalize madeW l = st at hm hok
  obtain ⟨nw, ts⟩ := st
  have hnw0 : 0 ≤ nw := hok.n.1
  have hnw6 : nw ≤ 60 := by have := hok.n.2; simp only at this; omega
  have hcn : cnt ts ≤ 60 := by have := hok.c; simp only at this; omega
  have HI := Lib.hid (show ∀ i, i < 8 → ∀ t ∈ ts i, t.id ≤ 9223372036854775807 from fun i hi t ht => by have := hok.i i hi t ht; omega)
  clear hl h8 hok htk
  go_enter Try.func4, Try.ntmps4
  go_wp2_with fail
  refine hm.out.mono ?_
  rintro e w1 ⟨A, n, c, rfl, hO, hB1⟩
  have htot : tot n 8 ≤ 1000 := by have := cnt_tot hO.rd; simp only at this; omega
  have HO := Lib.hid hO.rd
  have HB1 := Lib.hid hB1
  clear hm hO hB1
  obtain ⟨i10, hi10⟩ : ∃ k : Nat, id % 10 = k := ⟨_, rfl⟩
  obtain ⟨m20, hm20⟩ : ∃ k : Nat, more % 20 = k := ⟨_, rfl⟩
  have hwi : IntKind.i64.wrap (id : Int) = (id : Int) := by rw [IntKind.wrap_i64]; omega
  have hwm : IntKind.i64.wrap (more : Int) = (more : Int) := by rw [IntKind.wrap_i64]; omega
  have ti : (id : Int).tmod 10 = (i10 : Int) := by rw [Int.tmod_eq_emod_of_nonneg (by omega)]; omega
  have tm : (more : Int).tmod 20 = (m20 : Int) := by rw [Int.tmod_eq_emod_of_nonneg (by omega)]; omega
  have ei : (id : Int) % 10 = (i10 : Int) := by omega
  have em : (more : Int) % 20 = (m20 : Int) := by omega
  have h10 : i10 < 10 := by omega
  have h20 : m20 < 20 := by omega
  have w1' : IntKind.i64.wrap (i10 : Int) = (i10 : Int) := by rw [IntKind.wrap_i64]; omega
  have w2' : IntKind.i64.wrap (m20 : Int) = (m20 : Int) := by rw [IntKind.wrap_i64]; omega
  have w3' : IntKind.i64.wrap ((i10 : Int) - 1) = (i10 : Int) - 1 := by rw [IntKind.wrap_i64]; omega
  have w4' : IntKind.i64.wrap (nw + (m20 : Int)) = nw + (m20 : Int) := by rw [IntKind.wrap_i64]; omega
  have w5' : IntKind.i64.wrap (nw + (m20 : Int) - 2) = nw + (m20 : Int) - 2 := by rw [IntKind.wrap_i64]; omega
  clear hi10 hm20
  go_upto_region 2 with fail
  have hal : Below w1.heap.size w1 (w1.alloc (.cells #[.int .i64 nw, .slice (A 0) (n 0) (c 0), .slice (A 1) (n 1) (c 1), .slice (A 2) (n 2) (c 2), .slice (A 3) (n 3) (c 3), .slice (A 4) (n 4) (c 4), .slice (A 5) (n 5) (c 5), .slice (A 6) (n 6) (c 6), .slice (A 7) (n 7) (c 7)] 25)) := (Below.refl _ _).alloc (Nat.le_refl _) _
  have HX := Lib.hid (BoxW.alloc w1 nw (fun i => .slice (A i) (n i) (c i)))
  have HB := Lib.hid (HB1.out.trans (hal.mono HB1.out.size))
  have HT := Lib.hid (HO.out.below hal)
  clear hal
  generalize w1.alloc (.cells #[.int .i64 nw, .slice (A 0) (n 0) (c 0), .slice (A 1) (n 1) (c 1), .slice (A 2) (n 2) (c 2), .slice (A 3) (n 3) (c 3), .slice (A 4) (n 4) (c 4), .slice (A 5) (n 5) (c 5), .slice (A 6) (n 6) (c 6), .slice (A 7) (n 7) (c 7)] 25) = W at *
  go_wp2_with (first
    | (go_at_call 7; refine (awake_any W).mono ?_; rintro e w5 ⟨rfl, hb5⟩; have HX5 := Lib.hid (HX.out.below hb5); have HT5 := Lib.hid (HT.out.below hb5); have HB5 := Lib.hid (HB.out.trans (hb5.mono HB.out.size)); clear hb5; have z0 := HX5.out.now; have z1 := HX5.out.slot (show 0 < 8 by omega); have z2 := HX5.out.slot (show 1 < 8 by omega); have z3 := HX5.out.slot (show 2 < 8 by omega); have z4 := HX5.out.slot (show 3 < 8 by omega); have z5 := HX5.out.slot (show 4 < 8 by omega); have z6 := HX5.out.slot (show 5 < 8 by omega); have z7 := HX5.out.slot (show 6 < 8 by omega); have z8 := HX5.out.slot (show 7 < 8 by omega))
    | (go_at_call 9; refine (told_any w5 nw A n c ts ((i10 : Int) - 1) (nw + (m20 : Int) - 2) HT5.out htot HI.out).mono ?_; rintro e w6 ⟨rfl, hb6⟩; have HB6 := Lib.hid (HB5.out.trans (hb6.mono HB5.out.size)); clear hb6))
  go_ret
  exact ⟨by simp, HB6.out⟩
end Go.Proofs.Ytnlgmfkgpaampaa
