/- Contracts of pool.own and of the reference's. -/
import Derived.Test.YtjomenldmojnjaaC
set_option linter.unusedVariables false
set_option linter.unusedSimpArgs false
namespace Go.Proofs.Ytjomenldmojnjaa
open Go.RowKit
open Go.Proofs.YtjomenldmojnjaaW.PrintWords

theorem OwE.box {α : Type} {enc : α → List Value} {m : Nat} {e : TypeId} {w : World} {base : Nat} {v : Value} {es : List α} (h : OwE enc m e w base v es) {p : Addr} (hp : p.block < base) (u : Value) : OwE enc m e (w.setCell p u) base v es :=
  h.far (fun k hk => by have := h.lo k hk; omega) u

set_option maxHeartbeats 1000000 in
theorem own_any (w : World) (A : Option Addr) (n c : Nat) (nx : Int) (bs : List Bk) (hr : RdE enc 4 w (.slice A n c) bs) (hl : bs.length ≤ 1000) :
    Calls Try.prog 28 #[.agg #[.slice A n c, .int .i64 nx]] w fun e w' => ∃ A1 n1 c1, e = .returned (.agg #[.slice A1 n1 c1, .int .i64 nx]) ∧ OwE enc 4 32 w' w.heap.size (.slice A1 n1 c1) bs ∧ Below w.heap.size w w' := by
  have hW : Below w.heap.size w ((w.alloc (.cells #[.slice A n c, .int .i64 nx] 24)).alloc (.cells #[.slice none 0 0, .int .i64 0] 24)) := ((Below.refl _ _).alloc (Nat.le_refl _) _).alloc (by simp) _
  have x1 : ((w.alloc (.cells #[.slice A n c, .int .i64 nx] 24)).alloc (.cells #[.slice none 0 0, .int .i64 0] 24)).heap[w.heap.size]? = some (.cells #[.slice A n c, .int .i64 nx] 24 (0, 0)) := keep ((Below.refl _ _).alloc (Nat.le_refl _) _) (heap_alloc_new w (.cells #[.slice A n c, .int .i64 nx] 24))
  have x2 : ((w.alloc (.cells #[.slice A n c, .int .i64 nx] 24)).alloc (.cells #[.slice none 0 0, .int .i64 0] 24)).heap[w.heap.size + 1]? = some (.cells #[.slice none 0 0, .int .i64 0] 24 (0, 0)) := by
    have := heap_alloc_new (w.alloc (.cells #[.slice A n c, .int .i64 nx] 24)) (.cells #[.slice none 0 0, .int .i64 0] 24)
    simpa using this
  have HR := Lib.hid hr
  have HW := Lib.hid hW
  have X1 := Lib.hid x1
  have X2 := Lib.hid x2
  clear hr hW x1 x2
  go_enter Try.func28, Try.ntmps28
  go_wp2_with (go_at_call 35; refine (clone_bks _ _ bs (HR.out.below HW.out) hl).mono ?_; rintro e w1 ⟨A1, n1, c1, rfl, hO, hb⟩; have y1 := keep hb X1.out; have y2 := keep hb X2.out; have HO := Lib.hid hO; have HB := Lib.hid (HW.out.trans (hb.mono (by simp; omega))); have hs1 := hb.size; clear hO hb; have z0 := box_at y1 0 _ rfl; have z1 := box_at y1 1 _ rfl; have zf := box_free y1; have u0 := box_at y2 0 _ rfl; have u1 := box_at y2 1 _ rfl; have uf := box_free y2; clear y1 y2)
  refine bodyPost_ret (v := .agg #[.slice A1 n1 c1, .int .i64 nx]) (by simp [results, Try.results28, go_sem, u0, u1]) rfl ?_
  refine ⟨A1, n1, c1, rfl, ?_, ((HB.out.setCell (by simp) _).setCell (by simp) _).setCell (by simp) _⟩
  exact (((HO.out.box (by simp; omega) _).box (by simp) _).box (by simp) _).lower (by simp; omega)
set_option maxHeartbeats 1000000 in
theorem rown_any (w : World) (A : Option Addr) (n c : Nat) (nx : Int) (bs : List Bk) (hr : RdE enc 4 w (.slice A n c) bs) (hl : bs.length ≤ 1000) :
    Calls Try.prog 31 #[.agg #[.slice A n c, .int .i64 nx]] w fun e w' => ∃ A1 n1 c1, e = .returned (.agg #[.slice A1 n1 c1, .int .i64 nx]) ∧ OwE enc 4 32 w' w.heap.size (.slice A1 n1 c1) bs ∧ Below w.heap.size w w' := by
  have hW : Below w.heap.size w ((w.alloc (.cells #[.slice A n c, .int .i64 nx] 24)).alloc (.cells #[.slice none 0 0, .int .i64 0] 24)) := ((Below.refl _ _).alloc (Nat.le_refl _) _).alloc (by simp) _
  have x1 : ((w.alloc (.cells #[.slice A n c, .int .i64 nx] 24)).alloc (.cells #[.slice none 0 0, .int .i64 0] 24)).heap[w.heap.size]? = some (.cells #[.slice A n c, .int .i64 nx] 24 (0, 0)) := keep ((Below.refl _ _).alloc (Nat.le_refl _) _) (heap_alloc_new w (.cells #[.slice A n c, .int .i64 nx] 24))
  have x2 : ((w.alloc (.cells #[.slice A n c, .int .i64 nx] 24)).alloc (.cells #[.slice none 0 0, .int .i64 0] 24)).heap[w.heap.size + 1]? = some (.cells #[.slice none 0 0, .int .i64 0] 24 (0, 0)) := by
    have := heap_alloc_new (w.alloc (.cells #[.slice A n c, .int .i64 nx] 24)) (.cells #[.slice none 0 0, .int .i64 0] 24)
    simpa using this
  have HR := Lib.hid hr
  have HW := Lib.hid hW
  have X1 := Lib.hid x1
  have X2 := Lib.hid x2
  clear hr hW x1 x2
  go_enter Try.func31, Try.ntmps31
  go_wp2_with (at_builtin; refine wp_appE (w.heap.size + 2) rfl _ _ 22 32 (.agg #[.int .i64 0, .int .i64 0, .int .i64 0, .int .i64 0]) 32 rfl Try.underlying22 Try.info32 rfl (by omega) (by omega) (.slice none 0 0) (.slice A n c) [] bs rfl rfl ?c1 ?c2 enc1 ?c3 ?c4 ?c5)
  case c1 => exact OwE.nil encL _ _ _
  case c2 => exact HR.out.below HW.out
  case c3 => simp; omega
  case c4 => simp
  case c5 =>
    intro v1 w1 hO hg hat
    obtain ⟨A1, n1, c1, rfl⟩ := hO.slice'
    have hb := below_of_grown hg
    have y1 := keep hb X1.out; have y2 := keep hb X2.out
    have HO := Lib.hid hO; have HB := Lib.hid (HW.out.trans (hb.mono (by simp; omega))); have hs1 := hb.size
    clear hO hb
    have z0 := box_at y1 0 _ rfl; have z1 := box_at y1 1 _ rfl; have zf := box_free y1; have u0 := box_at y2 0 _ rfl; have u1 := box_at y2 1 _ rfl; have uf := box_free y2
    clear y1 y2 hg hat
    go_wp2_with fail
    refine bodyPost_ret (v := .agg #[.slice A1 n1 c1, .int .i64 nx]) (by simp [results, Try.results31, go_sem, u0, u1]) rfl ?_
    refine ⟨A1, n1, c1, rfl, ?_, ((HB.out.setCell (by simp) _).setCell (by simp) _).setCell (by simp) _⟩
    exact (((HO.out.box (by simp) _).box (by simp) _).box (by simp) _).lower (by simp)
end Go.Proofs.Ytjomenldmojnjaa
