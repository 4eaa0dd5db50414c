/- What the listed tables give the walks. -/
import Derived.Test.YthlijkpeafgenaaDoorRows
import Derived.Test.YthlijkpeafgenaaDoorAB
import Derived.LaidMore
import Derived.Lay
import Derived.OpenShut
import Derived.Stop.Joined
import Derived.Handed
import Derived.Lib.LaidU8
set_option linter.unusedVariables false
namespace Go.Proofs.YthlijkpeafgenaaDoor
open Go.ChangeShapes Go.WideShapes Go.ChangeAt Go.RowKit Go.Joins

theorem own : ownKnob Tryd.prog.godebug = none := by kernel_rfl
theorem laidOut : laidOutB Tryd.prog = true := by kernel_rfl
def laid3 : List (String × DataW Unit) := [("math/bits.deBruijn32tab", Rows.laid_math_bits_deBruijn32tab), ("math/bits.deBruijn64tab", Rows.laid_math_bits_deBruijn64tab), ("internal/strconv.uint64pow10", Rows.laid_internal_strconv_uint64pow10), ("unicode/utf8.acceptRanges", Rows.laid_unicode_utf8_acceptRanges), ("unicode/utf8.first", Rows.laid_unicode_utf8_first)]
theorem g64 : Tryd.prog.globalNamed "math/bits.deBruijn64tab" = some 5 := by kernel_rfl
theorem ty64 : (Tryd.prog.globals[5]?).map (·.type) = some 95 := by kernel_rfl
def tab64 : List Int := [0, 1, 56, 2, 57, 49, 28, 3, 61, 58, 42, 50, 38, 29, 17, 4, 62, 47, 59, 36, 45, 43, 51, 22, 53, 39, 33, 30, 24, 18, 12, 5, 63, 55, 48, 27, 60, 41, 37, 16, 46, 35, 44, 21, 52, 32, 23, 11, 54, 26, 40, 15, 34, 20, 31, 10, 25, 14, 19, 9, 13, 8, 7, 6]
theorem extra260 : U8Extra Tryd.prog Tryd.lays260_ren := { n3 := by kernel_rfl, n4 := by kernel_rfl, y3 := by kernel_rfl, y4 := by kernel_rfl, c5 := by kernel_rfl, c119 := by kernel_rfl, c138 := by kernel_rfl }
theorem first_is : Rows.laid_unicode_utf8_first = Lib.firstData := by kernel_rfl
theorem accept_is : (Rows.laid_unicode_utf8_acceptRanges : DataW Unit) = Lib.acceptData := by kernel_rfl
theorem of_laid {W : World} (h : laidMetH Tryd.prog laid3 W) : Tb W := by
  rw [MakeChecks.laidMetH_plain _ _ _ (by kernel_rfl)] at h
  obtain ⟨ps, h, _⟩ := h
  have h1 := Lib.LaidVars_reads h "unicode/utf8.first" Rows.laid_unicode_utf8_first (by simp [laid3])
  have h2 := Lib.LaidVars_reads h "unicode/utf8.acceptRanges" Rows.laid_unicode_utf8_acceptRanges (by simp [laid3])
  have h3 := Lib.LaidVars_reads h "math/bits.deBruijn64tab" Rows.laid_math_bits_deBruijn64tab (by simp [laid3])
  rw [first_is] at h1
  rw [accept_is] at h2
  refine ⟨utf8Tabs_of_reads Tryd.lays260 extra260 h1 h2, ?_⟩
  obtain ⟨g, t, cs, fuel, p, hg, ht, hv, hd⟩ := h3
  obtain rfl := Option.some.inj (g64.symm.trans hg)
  obtain rfl := Option.some.inj (ty64.symm.trans ht)
  have e := Lib.cells_of_tab (k := .u8) (zs := tab64) Tryd.underlying95 Tryd.underlying5 (by kernel_rfl) (by kernel_rfl) hd
  have htab : Lib.TabIs Tryd.prog W "math/bits.deBruijn64tab" .u8 tab64 := by
    unfold Lib.TabIs
    rw [hv, ← e]
  exact htab.cell g64 15 (by decide)
end Go.Proofs.YthlijkpeafgenaaDoor
