/- strings.Builder at this dump. -/
import Derived.Test.YthlijkpeafgenaaDoorShelf
import Derived.Test.YthlijkpeafgenaaDoorLU
import Derived.Lib.BufferWrite
import Derived.Lib.OthersKept
import Derived.Shelf.Strings.BuilderK
set_option linter.unusedVariables false
set_option linter.unusedSimpArgs false
namespace Go.Proofs
open Go.Shelf
def Tryd.lays240_ren : Go.Shelf.Ren := ⟨fun | 166 => 12 | 167 => 10 | 240 => 19 | 276 => 29 | 169 => 14 | n => n, fun | 0 => 0 | 3 => 3 | 4 => 4 | 5 => 5 | 9 => 9 | 20 => 20 | 37 => 22 | 70 => 34 | 72 => 36 | 75 => 38 | 80 => 44 | 164 => 64 | n => n, fun | n => n⟩
theorem Tryd.lays240 : Go.Proofs.Lays.n240 Tryd.prog Tryd.lays240_ren := {
  mixed := by kernel_rfl
  f240 := Tryd.func19.trans (congrArg some (by kernel_rfl))
  f276 := Tryd.func29.trans (congrArg some (by kernel_rfl))
  t0 := by first | exact Tryd.underlying0 | kernel_rfl
  a0 := by first | exact Tryd.isAgg0 | (intro w; kernel_rfl)
  z0 := by first | exact Tryd.sizeOf0 | (intro w; kernel_rfl)
  v0 := by first | exact Tryd.zeroValue0 | (intro w; kernel_rfl)
  t4 := by first | exact Tryd.underlying4 | kernel_rfl
  a4 := by first | exact Tryd.isAgg4 | (intro w; kernel_rfl)
  z4 := by first | exact Tryd.sizeOf4 | (intro w; kernel_rfl)
  v4 := by first | exact Tryd.zeroValue4 | (intro w; kernel_rfl)
  t9 := by first | exact Tryd.underlying9 | kernel_rfl
  a9 := by first | exact Tryd.isAgg9 | (intro w; kernel_rfl)
  z9 := by first | exact Tryd.sizeOf9 | (intro w; kernel_rfl)
  v9 := by first | exact Tryd.zeroValue9 | (intro w; kernel_rfl)
  t20 := by first | exact Tryd.underlying20 | kernel_rfl
  a20 := by first | exact Tryd.isAgg20 | (intro w; kernel_rfl)
  z20 := by first | exact Tryd.sizeOf20 | (intro w; kernel_rfl)
  v20 := by first | exact Tryd.zeroValue20 | (intro w; kernel_rfl)
  t70 := by first | exact Tryd.underlying34 | kernel_rfl
  a70 := by first | exact Tryd.isAgg34 | (intro w; kernel_rfl)
  z70 := by first | exact Tryd.sizeOf34 | (intro w; kernel_rfl)
  v70 := by first | exact Tryd.zeroValue34 | (intro w; kernel_rfl)
  t72 := by first | exact Tryd.underlying36 | kernel_rfl
  a72 := by first | exact Tryd.isAgg36 | (intro w; kernel_rfl)
  z72 := by first | exact Tryd.sizeOf36 | (intro w; kernel_rfl)
  v72 := by first | exact Tryd.zeroValue36 | (intro w; kernel_rfl)
  t164 := by first | exact Tryd.underlying64 | kernel_rfl
  a164 := by first | exact Tryd.isAgg64 | (intro w; kernel_rfl)
  z164 := by first | exact Tryd.sizeOf64 | (intro w; kernel_rfl)
  v164 := by first | exact Tryd.zeroValue64 | (intro w; kernel_rfl) }
theorem Tryd.Builder_X72_240 : Builder.X72 Tryd.prog Tryd.lays240_ren := {
  sizeBuilder := by kernel_rfl
  liesBuilder := by kernel_rfl }
def Tryd.lays166_ren : Go.Shelf.Ren := ⟨fun | 166 => 12 | 167 => 10 | 240 => 19 | 276 => 29 | 169 => 14 | n => n, fun | 0 => 0 | 3 => 3 | 4 => 4 | 5 => 5 | 9 => 9 | 20 => 20 | 37 => 22 | 70 => 34 | 72 => 36 | 75 => 38 | 80 => 44 | 164 => 64 | n => n, fun | n => n⟩
theorem Tryd.lays166 : Go.Proofs.Lays.n166 Tryd.prog Tryd.lays166_ren := {
  mixed := by kernel_rfl
  f166 := Tryd.func12.trans (congrArg some (by kernel_rfl))
  f240 := Tryd.func19.trans (congrArg some (by kernel_rfl))
  f276 := Tryd.func29.trans (congrArg some (by kernel_rfl))
  t0 := by first | exact Tryd.underlying0 | kernel_rfl
  a0 := by first | exact Tryd.isAgg0 | (intro w; kernel_rfl)
  z0 := by first | exact Tryd.sizeOf0 | (intro w; kernel_rfl)
  v0 := by first | exact Tryd.zeroValue0 | (intro w; kernel_rfl)
  t3 := by first | exact Tryd.underlying3 | kernel_rfl
  a3 := by first | exact Tryd.isAgg3 | (intro w; kernel_rfl)
  z3 := by first | exact Tryd.sizeOf3 | (intro w; kernel_rfl)
  v3 := by first | exact Tryd.zeroValue3 | (intro w; kernel_rfl)
  t4 := by first | exact Tryd.underlying4 | kernel_rfl
  a4 := by first | exact Tryd.isAgg4 | (intro w; kernel_rfl)
  z4 := by first | exact Tryd.sizeOf4 | (intro w; kernel_rfl)
  v4 := by first | exact Tryd.zeroValue4 | (intro w; kernel_rfl)
  t9 := by first | exact Tryd.underlying9 | kernel_rfl
  a9 := by first | exact Tryd.isAgg9 | (intro w; kernel_rfl)
  z9 := by first | exact Tryd.sizeOf9 | (intro w; kernel_rfl)
  v9 := by first | exact Tryd.zeroValue9 | (intro w; kernel_rfl)
  t20 := by first | exact Tryd.underlying20 | kernel_rfl
  a20 := by first | exact Tryd.isAgg20 | (intro w; kernel_rfl)
  z20 := by first | exact Tryd.sizeOf20 | (intro w; kernel_rfl)
  v20 := by first | exact Tryd.zeroValue20 | (intro w; kernel_rfl)
  t37 := by first | exact Tryd.underlying22 | kernel_rfl
  a37 := by first | exact Tryd.isAgg22 | (intro w; kernel_rfl)
  z37 := by first | exact Tryd.sizeOf22 | (intro w; kernel_rfl)
  v37 := by first | exact Tryd.zeroValue22 | (intro w; kernel_rfl)
  t70 := by first | exact Tryd.underlying34 | kernel_rfl
  a70 := by first | exact Tryd.isAgg34 | (intro w; kernel_rfl)
  z70 := by first | exact Tryd.sizeOf34 | (intro w; kernel_rfl)
  v70 := by first | exact Tryd.zeroValue34 | (intro w; kernel_rfl)
  t72 := by first | exact Tryd.underlying36 | kernel_rfl
  a72 := by first | exact Tryd.isAgg36 | (intro w; kernel_rfl)
  z72 := by first | exact Tryd.sizeOf36 | (intro w; kernel_rfl)
  v72 := by first | exact Tryd.zeroValue36 | (intro w; kernel_rfl)
  t75 := by first | exact Tryd.underlying38 | kernel_rfl
  a75 := by first | exact Tryd.isAgg38 | (intro w; kernel_rfl)
  z75 := by first | exact Tryd.sizeOf38 | (intro w; kernel_rfl)
  v75 := by first | exact Tryd.zeroValue38 | (intro w; kernel_rfl)
  t164 := by first | exact Tryd.underlying64 | kernel_rfl
  a164 := by first | exact Tryd.isAgg64 | (intro w; kernel_rfl)
  z164 := by first | exact Tryd.sizeOf64 | (intro w; kernel_rfl)
  v164 := by first | exact Tryd.zeroValue64 | (intro w; kernel_rfl) }
theorem Tryd.Builder_Extra_166 : Builder.Extra Tryd.prog Tryd.lays166_ren := {
  sizeBuilder := by kernel_rfl
  liesBuilder := by kernel_rfl
  t5 := Tryd.underlying5
  a5 := Tryd.isAgg5
  z5 := Tryd.sizeOf5
  v5 := Tryd.zeroValue5
  infoByte := by kernel_rfl
  cellsByte := by kernel_rfl
  sizeByte := by kernel_rfl
  neB5 := by decide }
def Tryd.lays167_ren : Go.Shelf.Ren := ⟨fun | 166 => 12 | 167 => 10 | 240 => 19 | 276 => 29 | 169 => 14 | n => n, fun | 0 => 0 | 3 => 3 | 4 => 4 | 5 => 5 | 9 => 9 | 20 => 20 | 37 => 22 | 70 => 34 | 72 => 36 | 75 => 38 | 80 => 44 | 164 => 64 | n => n, fun | n => n⟩
theorem Tryd.lays167 : Go.Proofs.Lays.n167 Tryd.prog Tryd.lays167_ren := {
  mixed := by kernel_rfl
  f167 := Tryd.func10.trans (congrArg some (by kernel_rfl))
  f240 := Tryd.func19.trans (congrArg some (by kernel_rfl))
  f276 := Tryd.func29.trans (congrArg some (by kernel_rfl))
  t0 := by first | exact Tryd.underlying0 | kernel_rfl
  a0 := by first | exact Tryd.isAgg0 | (intro w; kernel_rfl)
  z0 := by first | exact Tryd.sizeOf0 | (intro w; kernel_rfl)
  v0 := by first | exact Tryd.zeroValue0 | (intro w; kernel_rfl)
  t4 := by first | exact Tryd.underlying4 | kernel_rfl
  a4 := by first | exact Tryd.isAgg4 | (intro w; kernel_rfl)
  z4 := by first | exact Tryd.sizeOf4 | (intro w; kernel_rfl)
  v4 := by first | exact Tryd.zeroValue4 | (intro w; kernel_rfl)
  t5 := by first | exact Tryd.underlying5 | kernel_rfl
  a5 := by first | exact Tryd.isAgg5 | (intro w; kernel_rfl)
  z5 := by first | exact Tryd.sizeOf5 | (intro w; kernel_rfl)
  v5 := by first | exact Tryd.zeroValue5 | (intro w; kernel_rfl)
  t9 := by first | exact Tryd.underlying9 | kernel_rfl
  a9 := by first | exact Tryd.isAgg9 | (intro w; kernel_rfl)
  z9 := by first | exact Tryd.sizeOf9 | (intro w; kernel_rfl)
  v9 := by first | exact Tryd.zeroValue9 | (intro w; kernel_rfl)
  t20 := by first | exact Tryd.underlying20 | kernel_rfl
  a20 := by first | exact Tryd.isAgg20 | (intro w; kernel_rfl)
  z20 := by first | exact Tryd.sizeOf20 | (intro w; kernel_rfl)
  v20 := by first | exact Tryd.zeroValue20 | (intro w; kernel_rfl)
  t37 := by first | exact Tryd.underlying22 | kernel_rfl
  a37 := by first | exact Tryd.isAgg22 | (intro w; kernel_rfl)
  z37 := by first | exact Tryd.sizeOf22 | (intro w; kernel_rfl)
  v37 := by first | exact Tryd.zeroValue22 | (intro w; kernel_rfl)
  t70 := by first | exact Tryd.underlying34 | kernel_rfl
  a70 := by first | exact Tryd.isAgg34 | (intro w; kernel_rfl)
  z70 := by first | exact Tryd.sizeOf34 | (intro w; kernel_rfl)
  v70 := by first | exact Tryd.zeroValue34 | (intro w; kernel_rfl)
  t72 := by first | exact Tryd.underlying36 | kernel_rfl
  a72 := by first | exact Tryd.isAgg36 | (intro w; kernel_rfl)
  z72 := by first | exact Tryd.sizeOf36 | (intro w; kernel_rfl)
  v72 := by first | exact Tryd.zeroValue36 | (intro w; kernel_rfl)
  t75 := by first | exact Tryd.underlying38 | kernel_rfl
  a75 := by first | exact Tryd.isAgg38 | (intro w; kernel_rfl)
  z75 := by first | exact Tryd.sizeOf38 | (intro w; kernel_rfl)
  v75 := by first | exact Tryd.zeroValue38 | (intro w; kernel_rfl)
  t164 := by first | exact Tryd.underlying64 | kernel_rfl
  a164 := by first | exact Tryd.isAgg64 | (intro w; kernel_rfl)
  z164 := by first | exact Tryd.sizeOf64 | (intro w; kernel_rfl)
  v164 := by first | exact Tryd.zeroValue64 | (intro w; kernel_rfl) }
theorem Tryd.Builder_Extra_167 : Builder.Extra Tryd.prog Tryd.lays167_ren := {
  sizeBuilder := by kernel_rfl
  liesBuilder := by kernel_rfl
  t5 := Tryd.underlying5
  a5 := Tryd.isAgg5
  z5 := Tryd.sizeOf5
  v5 := Tryd.zeroValue5
  infoByte := by kernel_rfl
  cellsByte := by kernel_rfl
  sizeByte := by kernel_rfl
  neB5 := by decide }
end Go.Proofs
namespace Go.Proofs.YthlijkpeafgenaaDoor
open Go.RowKit Go.Lib
open Go.Proofs.YthlijkpeafgenaaDoorW.PrintWords

/-- a builder of one's own that holds l -/
def Bld (W : World) (b : Nat) (l : List UInt8) : Prop := IsBuilderF 36 5 b b (byteCells l) W
theorem strCells_mk (l : List UInt8) : strCells ⟨l.toArray⟩ = byteCells l := rfl
theorem ws_any (b : Nat) (l s : List UInt8) (w : World) (h : Bld w b l) (hlen : l.length + s.length ≤ 140737488355328) (hb : b ≤ w.heap.size) :
    Calls Tryd.prog 12 #[.pointer (some ⟨b, 0, none⟩), .string ⟨s.toArray⟩] w fun e w' => e = .returned (.tuple #[.int .i64 s.length, .nilIface]) ∧ Bld w' b (l ++ s) ∧ Below b w w' ∧ OthersKept 5 (some b) w w' := by
  refine (Any.Builder_WriteString_k Tryd.lays166 Tryd.Builder_Extra_166 b b (byteCells l) ⟨s.toArray⟩ w h (by rw [byteCells_length]; simpa [ByteArray.size] using hlen) hb).mono ?_
  rintro e w' ⟨rfl, h1, h2, h3⟩
  refine ⟨by simp [ByteArray.size], ?_, h2, h3⟩
  rw [strCells_mk, ← byteCells_append] at h1
  exact .inr h1
theorem wb_any (b : Nat) (l : List UInt8) (c : UInt8) (w : World) (h : Bld w b l) (hlen : l.length ≤ 1000000000) (hb : b ≤ w.heap.size) :
    Calls Tryd.prog 10 #[.pointer (some ⟨b, 0, none⟩), .int .u8 (c.toNat : Int)] w fun e w' => e = .returned .nilIface ∧ Bld w' b (l ++ [c]) ∧ Below b w w' ∧ OthersKept 5 (some b) w w' := by
  refine (Any.Builder_WriteByte_k Tryd.lays167 Tryd.Builder_Extra_167 b b (byteCells l) (c.toNat : Int) w h (by rw [byteCells_length]; omega) hb).mono ?_
  rintro e w' ⟨rfl, h1, h2, h3⟩
  refine ⟨rfl, ?_, h2, h3⟩
  unfold Bld
  rw [byteCells_append]
  exact .inr h1
theorem str_any (b : Nat) (l : List UInt8) (w : World) (h : Bld w b l) (hb : b ≤ w.heap.size) :
    Calls Tryd.prog 14 #[.pointer (some ⟨b, 0, none⟩)] w fun e w' => e = .returned (.string ⟨l.toArray⟩) ∧ Bld w' b l ∧ Below b w w' ∧ OthersKept 5 (some b) w w' :=
  Tryd.Builder_String_any_k b b l w h hb
end Go.Proofs.YthlijkpeafgenaaDoor
