/- Contract of lockagelaw17.PoolMade. -/
import Derived.Test.YtjomenldmojnjaaAC
import Derived.Test.YtjomenldmojnjaaY
set_option linter.unusedVariables false
set_option linter.unusedSimpArgs false
namespace Go.Proofs.Ytjomenldmojnjaa
open Go.RowKit
open Go.Proofs.YtjomenldmojnjaaW.PrintWords

def SP (W : World) (b : Nat) (x y : Value) (w' : World) : Prop := w'.cell? ⟨b, 0, none⟩ = some x ∧ w'.cell? ⟨b, 1, none⟩ = some y ∧ Below W.heap.size W w'
theorem SP.b {W w' : World} {b : Nat} {x y : Value} (h : SP W b x y w') : Below W.heap.size W w' := h.2.2
theorem SP.below {W w1 w2 : World} {b : Nat} {x y : Value} (hb : Below w1.heap.size w1 w2) (h : SP W b x y w1) : SP W b x y w2 := by
  obtain ⟨h0, h1, hB⟩ := h
  exact ⟨(hb.cell (p := ⟨b, 0, none⟩) (World.block_lt_of_cell? w1 _ h0)).trans h0, (hb.cell (p := ⟨b, 1, none⟩) (World.block_lt_of_cell? w1 _ h1)).trans h1, hB.trans (hb.mono hB.size)⟩

set_option maxHeartbeats 4000000 in
theorem poolMade_any (w : World) (Ar : Option Addr) (nr cr : Nat) (rooms : List Nat) (Al : Option Addr) (nl cl : Nat) (l : List Nat) (i : Nat) (stays failed : Bool) (hr : Rd w (.slice Ar nr cr) (u8s rooms)) (h7 : ∀ x ∈ rooms, x < 256) (hl : Rd w (.slice Al nl cl) (u8s l)) (h8 : ∀ x ∈ l, x < 256) (hi : i < 256) :
    Calls Try.prog 4 #[.slice Ar nr cr, .slice Al nl cl, .int .u8 i, .bool stays, .bool failed] w fun e w' => e = .returned (.bool true) ∧ Below w.heap.size w w' := by
  have hm := Lib.hid (made_any w Ar nr cr rooms Al nl cl l hr h7 hl h8)
  have hok := madeS_len rooms l
  generalize madeS rooms l = st at hm hok
  obtain ⟨bs, nx⟩ := st
  simp only at hok
  clear hr h7 hl h8
  go_enter Try.func4, Try.ntmps4
  go_wp2_with fail
  refine hm.out.mono ?_
  rintro e w1 ⟨A, n, c, rfl, hO, hB1⟩
  have lbs := hO.rd.len
  simp only at lbs
  have HO := Lib.hid hO.rd
  clear hm hO
  obtain ⟨kq, hkq⟩ : ∃ kq, i % n = kq := ⟨_, rfl⟩
  have hwi : IntKind.i64.wrap (i : Int) = (i : Int) := by rw [IntKind.wrap_i64]; omega
  have htm : (i : Int).tmod (n : Int) = (kq : Int) := by rw [Int.tmod_eq_emod_of_nonneg (by omega), ← hkq]; simp
  have hq : (i : Int) % (n : Int) = (kq : Int) := by rw [← hkq]; simp
  have hkn : kq < n := by rw [← hkq]; exact Nat.mod_lt _ (by omega)
  have hn0 : ¬ n = 0 := by omega
  have hn0' : ¬ (n : Int) = 0 := by omega
  have wkq : IntKind.i64.wrap (kq : Int) = (kq : Int) := by rw [IntKind.wrap_i64]; omega
  clear hkq hkn
  go_wp2_with fail
  have hw : Below w1.heap.size w1 (w1.alloc (.cells #[.slice A n c, .int .i64 nx] 24)) := (Below.refl _ _).alloc (Nat.le_refl _) _
  have x0 := heap_alloc_new w1 (.cells #[.slice A n c, .int .i64 nx] 24)
  have HS := Lib.hid (show SP (w1.alloc (.cells #[.slice A n c, .int .i64 nx] 24)) w1.heap.size (.slice A n c) (.int .i64 nx) (w1.alloc (.cells #[.slice A n c, .int .i64 nx] 24)) from
    ⟨box_at x0 0 _ rfl, box_at x0 1 _ rfl, Below.refl _ _⟩)
  have HT := Lib.hid (HO.out.below hw)
  have HB := Lib.hid (hB1.trans (hw.mono hB1.size))
  have HX := Lib.hid x0
  generalize hW : (w1.alloc (.cells #[.slice A n c, .int .i64 nx] 24)) = W at *
  clear hW hw x0
  go_region_held3 (fun w' => w'.cell? ⟨w1.heap.size, 0, none⟩ = some (.slice A n c) ∧ w'.cell? ⟨w1.heap.size, 1, none⟩ = some (.int .i64 nx) ∧ Below W.heap.size W w')
    (first | exact HS.out.below (below_drew (Below.refl _ _)) | (refine SP.below ?_ ‹_›; assumption))
    (first
     | (go_at_call 8; refine (awake_any _).mono ?_; rintro e w5 ⟨rfl, hb5⟩)
     | (go_at_call 9; refine (told_any _ A n c nx bs kq stays failed (HT.out.below (‹SP W _ _ _ _›).b) (by omega)).mono ?_; rintro e w6 ⟨rfl, hb6⟩))
  have BV : Below W.heap.size W w6 := ((below_drew (Below.refl _ _)).trans hb5).trans (hb6.mono (show W.heap.size ≤ w5.heap.size from hb5.size))
  have BV' := Lib.hid (HB.out.trans (BV.mono HB.out.size))
  clear BV
  go_wp2_with fail
  go_ret
  exact ⟨by simp, BV'.out⟩
end Go.Proofs.Ytjomenldmojnjaa
