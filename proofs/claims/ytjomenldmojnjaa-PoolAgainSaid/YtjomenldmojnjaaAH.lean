/- Contract of lockagelaw17.PoolAgain. -/
import Derived.Test.YtjomenldmojnjaaX
import Derived.Test.YtjomenldmojnjaaY
set_option linter.unusedVariables false
set_option linter.unusedSimpArgs false
namespace Go.Proofs.Ytjomenldmojnjaa
open Go.RowKit
open Go.Proofs.YtjomenldmojnjaaW.PrintWords

set_option maxHeartbeats 8000000 in
theorem poolAgain_any (w : World) (s0 : ByteArray) (how : Nat) (tries most : Int) (begun : Bool) (e0 : Int) (hhow : how < 256) :
    Calls Try.prog 6 #[.string s0, .int .u8 how, .int .i64 tries, .int .i64 most, .bool begun, .int .i64 e0] w fun e w' => e = .returned (.bool true) ∧ Below w.heap.size w w' := by
  obtain ⟨r, hr⟩ : ∃ r, how % 8 = r := ⟨_, rfl⟩
  have hq : (how : Int) % 8 = (r : Int) := by omega
  have hr8 : r < 8 := by rw [← hr]; exact Nat.mod_lt _ (by omega)
  have hr8' : (r : Int) < 8 := by omega
  have hwi : IntKind.i64.wrap (how : Int) = (how : Int) := by rw [IntKind.wrap_i64]; omega
  clear hr
  obtain ⟨s1, hs1⟩ : ∃ s : ByteArray, (w.alloc (.cells #[.string ⟨#[71, 69, 84]⟩, .string ⟨#[72, 69, 65, 68]⟩, .string ⟨#[80, 85, 84]⟩, .string ⟨#[68, 69, 76, 69, 84, 69]⟩, .string ⟨#[79, 80, 84, 73, 79, 78, 83]⟩, .string ⟨#[80, 79, 83, 84]⟩, .string ⟨#[103, 101, 116]⟩, .string ⟨#[80, 65, 84, 67, 72]⟩] 9)).cell? ⟨w.heap.size, r, none⟩ = some (.string s) := by
    have hx := heap_alloc_new w (.cells #[.string ⟨#[71, 69, 84]⟩, .string ⟨#[72, 69, 65, 68]⟩, .string ⟨#[80, 85, 84]⟩, .string ⟨#[68, 69, 76, 69, 84, 69]⟩, .string ⟨#[79, 80, 84, 73, 79, 78, 83]⟩, .string ⟨#[80, 79, 83, 84]⟩, .string ⟨#[103, 101, 116]⟩, .string ⟨#[80, 65, 84, 67, 72]⟩] 9)
    obtain rfl | rfl | rfl | rfl | rfl | rfl | rfl | rfl : r = 0 ∨ r = 1 ∨ r = 2 ∨ r = 3 ∨ r = 4 ∨ r = 5 ∨ r = 6 ∨ r = 7 := by omega
    · exact ⟨_, box_at hx 0 _ rfl⟩
    · exact ⟨_, box_at hx 1 _ rfl⟩
    · exact ⟨_, box_at hx 2 _ rfl⟩
    · exact ⟨_, box_at hx 3 _ rfl⟩
    · exact ⟨_, box_at hx 4 _ rfl⟩
    · exact ⟨_, box_at hx 5 _ rfl⟩
    · exact ⟨_, box_at hx 6 _ rfl⟩
    · exact ⟨_, box_at hx 7 _ rfl⟩
  go_enter Try.func6, Try.ntmps6
  go_wp2_with fail
  clear hs1 hq hwi
  have hB0 : Below w.heap.size w ((w.alloc (.cells #[.string ⟨#[71, 69, 84]⟩, .string ⟨#[72, 69, 65, 68]⟩, .string ⟨#[80, 85, 84]⟩, .string ⟨#[68, 69, 76, 69, 84, 69]⟩, .string ⟨#[79, 80, 84, 73, 79, 78, 83]⟩, .string ⟨#[80, 79, 83, 84]⟩, .string ⟨#[103, 101, 116]⟩, .string ⟨#[80, 65, 84, 67, 72]⟩] 9)).alloc (.cells #[.string s0, .string s1] 9)) := ((Below.refl _ _).alloc (Nat.le_refl _) _).alloc (by simp) _
  have x0 := heap_alloc_new (w.alloc (.cells #[.string ⟨#[71, 69, 84]⟩, .string ⟨#[72, 69, 65, 68]⟩, .string ⟨#[80, 85, 84]⟩, .string ⟨#[68, 69, 76, 69, 84, 69]⟩, .string ⟨#[79, 80, 84, 73, 79, 78, 83]⟩, .string ⟨#[80, 79, 83, 84]⟩, .string ⟨#[103, 101, 116]⟩, .string ⟨#[80, 65, 84, 67, 72]⟩] 9)) (.cells #[.string s0, .string s1] 9)
  generalize hV : (w.alloc (.cells #[.string ⟨#[71, 69, 84]⟩, .string ⟨#[72, 69, 65, 68]⟩, .string ⟨#[80, 85, 84]⟩, .string ⟨#[68, 69, 76, 69, 84, 69]⟩, .string ⟨#[79, 80, 84, 73, 79, 78, 83]⟩, .string ⟨#[80, 79, 83, 84]⟩, .string ⟨#[103, 101, 116]⟩, .string ⟨#[80, 65, 84, 67, 72]⟩] 9)) = V at *
  have sV : V.heap.size = w.heap.size + 1 := by rw [← hV]; simp
  rw [sV] at x0
  clear hV
  have HX := Lib.hid x0
  have HB := Lib.hid hB0
  clear x0 hB0
  generalize V.alloc (.cells #[.string s0, .string s1] 9) = W at *
  clear sV
  go_loopg [26] 2 (fun gg s26 wr => ∃ kk : Nat, kk ≤ 2 ∧ 2 - kk ≤ gg ∧ s26 = .int .i64 kk ∧ Below w.heap.size w wr ∧ Aside (wr.heap[w.heap.size + 1]? = some (.cells #[.string s0, .string s1] 9 (0, 0))))
  case atStart =>
    refine ⟨0, by omega, by omega, rfl, HB.out, ?_⟩
    exact HX.out
  case round =>
    obtain ⟨kk, hkk, hg, rfl, hB, HA⟩ := hrel
    by_cases hlt : kk < 2
    · have hlt1 : (kk : Int) < 2 := by omega
      obtain ⟨sm, hsm⟩ : ∃ s : ByteArray, wr.cell? ⟨w.heap.size + 1, kk, none⟩ = some (.string s) := by
        obtain rfl | rfl : kk = 0 ∨ kk = 1 := by omega
        · exact ⟨_, box_at HA.out 0 _ rfl⟩
        · exact ⟨_, box_at HA.out 1 _ rfl⟩
      have HX1 := Lib.hid HA.out
      have HB1 := Lib.hid hB
      clear HA hB
      go_wp2_with fail
      clear hsm
      have hal : Below wr.heap.size wr (wr.alloc (.cells #[.int .i64 e0, .int .i64 51, .int .i64 52, .int .i64 4] 35)) := (Below.refl _ _).alloc (Nat.le_refl _) _
      have hx := heap_alloc_new wr (.cells #[.int .i64 e0, .int .i64 51, .int .i64 52, .int .i64 4] 35)
      have HB2 := Lib.hid (HB1.out.trans (hal.mono HB1.out.size))
      have HX2 := Lib.hid (keep hal HX1.out)
      have HY := Lib.hid hx
      generalize hwb : wr.heap.size = wb at *
      generalize wr.alloc (.cells #[.int .i64 e0, .int .i64 51, .int .i64 52, .int .i64 4] 35) = U at *
      clear hal hx
      go_loopg [33] 4 (fun gg s33 wx => ∃ jj : Nat, jj ≤ 4 ∧ 4 - jj ≤ gg ∧ s33 = .int .i64 jj ∧ wx = U)
      case atStart => exact ⟨0, by omega, by omega, rfl, rfl⟩
      case round =>
        obtain ⟨jj, hjj, hgj, rfl, hwr⟩ := hrel
        subst hwr
        by_cases hltj : jj < 4
        · have hltj1 : (jj : Int) < 4 := by omega
          obtain ⟨ev, hev⟩ : ∃ e : Int, wr.cell? ⟨wb, jj, none⟩ = some (.int .i64 e) := by
            obtain rfl | rfl | rfl | rfl : jj = 0 ∨ jj = 1 ∨ jj = 2 ∨ jj = 3 := by omega
            · exact ⟨_, box_at HY.out 0 _ rfl⟩
            · exact ⟨_, box_at HY.out 1 _ rfl⟩
            · exact ⟨_, box_at HY.out 2 _ rfl⟩
            · exact ⟨_, box_at HY.out 3 _ rfl⟩
          obtain ⟨ab, hab⟩ : ∃ b, againB sm tries most begun ev = b := ⟨_, rfl⟩
          have HAB := Lib.hid hab
          clear hab
          go_wp2_with (first
            | (go_at_call 11; refine (again_any _ sm tries most ev begun).mono ?_; rw [HAB.out]; rintro e w9 ⟨rfl, hw9⟩; subst w9)
            | (go_at_call 12; refine (ragain_any _ sm tries most ev begun).mono ?_; rw [HAB.out]; rintro e w9 ⟨rfl, hw9⟩; subst w9))
          go_roundg (4 - (jj + 1))
          case measure => omega
          case rel => exact ⟨jj + 1, by omega, by omega, by simp, rfl⟩
        · have hjm : jj = 4 := by omega
          subst hjm
          go_wp2_with fail
          go_roundg (2 - (kk + 1))
          case measure => omega
          case rel =>
            refine ⟨kk + 1, by omega, by omega, by simp, HB2.out, ?_⟩
            exact HX2.out
    · have hkm : kk = 2 := by omega
      subst hkm
      have HB1 := Lib.hid hB
      clear HA hB
      go_wp2_with (go_at_call 8; refine (awake_any _).mono ?_; rintro e w6 ⟨rfl, hb6⟩; have HB2 := Lib.hid (HB1.out.trans (hb6.mono HB1.out.size)); clear hb6)
      go_ret
      exact ⟨by simp, HB2.out⟩
end Go.Proofs.Ytjomenldmojnjaa
