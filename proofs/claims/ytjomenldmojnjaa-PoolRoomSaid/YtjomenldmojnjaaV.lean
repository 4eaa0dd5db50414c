/- What awake's calls answer: plain. -/
import Derived.Test.YtjomenldmojnjaaU
set_option linter.unusedVariables false
namespace Go.Proofs.Ytjomenldmojnjaa

def p0 : List Bk := [⟨0, 1, 0, 0⟩, ⟨0, 1, 0, 0⟩]
def p1 : List Bk := [⟨1, 1, 0, 0⟩, ⟨0, 1, 0, 0⟩]
def p2 : List Bk := [⟨1, 1, 0, 0⟩, ⟨1, 1, 0, 0⟩]
def p3 : List Bk := [⟨0, 1, 1, 0⟩, ⟨1, 1, 0, 0⟩]
theorem aw1 : openS p0 0 = ⟨p1, 1, 0, false, 0⟩ := by rfl
theorem aw2 : openS p1 1 = ⟨p2, 0, 1, false, 0⟩ := by rfl
theorem aw3 : pickS p2 0 = (0, 4) := by rfl
theorem aw4 : closeS p2 0 0 true false = ⟨p3, 0, 0⟩ := by rfl
theorem aw5 : openS p3 0 = ⟨p2, 1, 0, true, 0⟩ := by rfl
theorem aw6 : closeS p0 0 0 false false = ⟨p0, 0, 5⟩ := by rfl
theorem aw7 : rightB p2 1 = true := by rfl
theorem aw8 : rightB [] 0 = false := by rfl
end Go.Proofs.Ytjomenldmojnjaa
