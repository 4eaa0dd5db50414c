/- strings.Builder.WriteRune at this dump. -/
import Derived.Test.YthlijkpeafgenaaDoorB
import Derived.Shelf.Strings.BuilderRune
set_option linter.unusedVariables false
set_option linter.unusedSimpArgs false
namespace Go.Proofs
open Go.Shelf
def Tryd.lays168_ren : Go.Shelf.Ren := ⟨fun | 168 => 13 | 240 => 19 | 242 => 22 | 276 => 29 | 278 => 35 | n => n, fun | 0 => 0 | 3 => 3 | 4 => 4 | 5 => 5 | 9 => 9 | 20 => 20 | 37 => 22 | 70 => 34 | 72 => 36 | 75 => 38 | 80 => 44 | 164 => 64 | 21 => 21 | 46 => 57 | 51 => 72 | n => n, fun | n => n⟩
theorem Tryd.lays168 : Go.Proofs.Lays.n168 Tryd.prog Tryd.lays168_ren := {
  mixed := by kernel_rfl
  f168 := Tryd.func13.trans (congrArg some (by kernel_rfl))
  f240 := Tryd.func19.trans (congrArg some (by kernel_rfl))
  f242 := Tryd.func22.trans (congrArg some (by kernel_rfl))
  f276 := Tryd.func29.trans (congrArg some (by kernel_rfl))
  f278 := Tryd.func35.trans (congrArg some (by kernel_rfl))
  t0 := by first | exact Tryd.underlying0 | kernel_rfl
  a0 := by first | exact Tryd.isAgg0 | (intro w; kernel_rfl)
  z0 := by first | exact Tryd.sizeOf0 | (intro w; kernel_rfl)
  v0 := by first | exact Tryd.zeroValue0 | (intro w; kernel_rfl)
  t3 := by first | exact Tryd.underlying3 | kernel_rfl
  a3 := by first | exact Tryd.isAgg3 | (intro w; kernel_rfl)
  z3 := by first | exact Tryd.sizeOf3 | (intro w; kernel_rfl)
  v3 := by first | exact Tryd.zeroValue3 | (intro w; kernel_rfl)
  t4 := by first | exact Tryd.underlying4 | kernel_rfl
  a4 := by first | exact Tryd.isAgg4 | (intro w; kernel_rfl)
  z4 := by first | exact Tryd.sizeOf4 | (intro w; kernel_rfl)
  v4 := by first | exact Tryd.zeroValue4 | (intro w; kernel_rfl)
  t5 := by first | exact Tryd.underlying5 | kernel_rfl
  a5 := by first | exact Tryd.isAgg5 | (intro w; kernel_rfl)
  z5 := by first | exact Tryd.sizeOf5 | (intro w; kernel_rfl)
  v5 := by first | exact Tryd.zeroValue5 | (intro w; kernel_rfl)
  t9 := by first | exact Tryd.underlying9 | kernel_rfl
  a9 := by first | exact Tryd.isAgg9 | (intro w; kernel_rfl)
  z9 := by first | exact Tryd.sizeOf9 | (intro w; kernel_rfl)
  v9 := by first | exact Tryd.zeroValue9 | (intro w; kernel_rfl)
  t20 := by first | exact Tryd.underlying20 | kernel_rfl
  a20 := by first | exact Tryd.isAgg20 | (intro w; kernel_rfl)
  z20 := by first | exact Tryd.sizeOf20 | (intro w; kernel_rfl)
  v20 := by first | exact Tryd.zeroValue20 | (intro w; kernel_rfl)
  t21 := by first | exact Tryd.underlying21 | kernel_rfl
  a21 := by first | exact Tryd.isAgg21 | (intro w; kernel_rfl)
  z21 := by first | exact Tryd.sizeOf21 | (intro w; kernel_rfl)
  v21 := by first | exact Tryd.zeroValue21 | (intro w; kernel_rfl)
  t37 := by first | exact Tryd.underlying22 | kernel_rfl
  a37 := by first | exact Tryd.isAgg22 | (intro w; kernel_rfl)
  z37 := by first | exact Tryd.sizeOf22 | (intro w; kernel_rfl)
  v37 := by first | exact Tryd.zeroValue22 | (intro w; kernel_rfl)
  t46 := by first | exact Tryd.underlying57 | kernel_rfl
  a46 := by first | exact Tryd.isAgg57 | (intro w; kernel_rfl)
  z46 := by first | exact Tryd.sizeOf57 | (intro w; kernel_rfl)
  v46 := by first | exact Tryd.zeroValue57 | (intro w; kernel_rfl)
  t51 := by first | exact Tryd.underlying72 | kernel_rfl
  a51 := by first | exact Tryd.isAgg72 | (intro w; kernel_rfl)
  z51 := by first | exact Tryd.sizeOf72 | (intro w; kernel_rfl)
  v51 := by first | exact Tryd.zeroValue72 | (intro w; kernel_rfl)
  t70 := by first | exact Tryd.underlying34 | kernel_rfl
  a70 := by first | exact Tryd.isAgg34 | (intro w; kernel_rfl)
  z70 := by first | exact Tryd.sizeOf34 | (intro w; kernel_rfl)
  v70 := by first | exact Tryd.zeroValue34 | (intro w; kernel_rfl)
  t72 := by first | exact Tryd.underlying36 | kernel_rfl
  a72 := by first | exact Tryd.isAgg36 | (intro w; kernel_rfl)
  z72 := by first | exact Tryd.sizeOf36 | (intro w; kernel_rfl)
  v72 := by first | exact Tryd.zeroValue36 | (intro w; kernel_rfl)
  t75 := by first | exact Tryd.underlying38 | kernel_rfl
  a75 := by first | exact Tryd.isAgg38 | (intro w; kernel_rfl)
  z75 := by first | exact Tryd.sizeOf38 | (intro w; kernel_rfl)
  v75 := by first | exact Tryd.zeroValue38 | (intro w; kernel_rfl)
  t164 := by first | exact Tryd.underlying64 | kernel_rfl
  a164 := by first | exact Tryd.isAgg64 | (intro w; kernel_rfl)
  z164 := by first | exact Tryd.sizeOf64 | (intro w; kernel_rfl)
  v164 := by first | exact Tryd.zeroValue64 | (intro w; kernel_rfl) }
theorem Tryd.Builder_Extra_168 : Builder.Extra Tryd.prog Tryd.lays168_ren := {
  sizeBuilder := by kernel_rfl
  liesBuilder := by kernel_rfl
  t5 := Tryd.underlying5
  a5 := Tryd.isAgg5
  z5 := Tryd.sizeOf5
  v5 := Tryd.zeroValue5
  infoByte := by kernel_rfl
  cellsByte := by kernel_rfl
  sizeByte := by kernel_rfl
  neB5 := by decide }
end Go.Proofs
namespace Go.Proofs.YthlijkpeafgenaaDoor
open Go.RowKit Go.Lib
open Go.Proofs.YthlijkpeafgenaaDoorW.PrintWords

theorem wr_any (b : Nat) (l : List UInt8) (r : Int) (w : World) (hr0 : -2147483648 ≤ r) (hr1 : r ≤ 2147483647) (h : Bld w b l) (hlen : l.length ≤ 1000000000) (hb : b ≤ w.heap.size) :
    Calls Tryd.prog 13 #[.pointer (some ⟨b, 0, none⟩), .int .i32 r] w fun e w' => ∃ k : Int, e = .returned (.tuple #[.int .i64 k, .nilIface]) ∧ Bld w' b (l ++ encodeRune r) ∧ Below b w w' ∧ OthersKept 5 (some b) w w' := by
  refine (Any.Builder_WriteRune_k Tryd.lays168 Tryd.Builder_Extra_168 b b (byteCells l) r hr0 hr1 w h (by rw [byteCells_length]; omega) hb).mono ?_
  rintro e w' ⟨rfl, h1, h2, h3⟩
  refine ⟨_, rfl, ?_, h2, h3⟩
  unfold Bld
  rw [byteCells_append, byteCells_encodeRune]
  exact .inr h1
end Go.Proofs.YthlijkpeafgenaaDoor
