/-
  No cell of these rows narrows 'for every input' (looked for: loops, veiled, ifaces, maps, wideKeys, modest, calm, conditions, laid).
  DERIVED. THE GIVEN ROWS OF THIS SEAT. 4 by the template 'for every input the law returns true; each argument reads behind the call as it read before'; 0 by the template 'total and deterministic' (their statements: YtnlgmfkgpaampaaTotals.lean).
  GIVEN WITH THE SEED: the statements are not yours to turn. If you find one false, say at which input.
  Laid BY PROGRAM, IN A SANDBOX (cutbox-rows.mjs): the forced cells as the released guide's own fill.sh prints them over the translation c7f2d73a382ac906… (all of the seat's roots in one cut). By AI agents, Wed Nov 11 2026. No macro, syntax, notation, axiom, sorry.
-/
import Derived.Test.YtnlgmfkgpaampaaChecked
import GoSem.Claim
import GoSem.ClaimJoined
import GoSem.ClaimMapViews
import Derived.JoinedTies
import Derived.KernelRfl
namespace Go.Proofs.Ytnlgmfkgpaampaa
/- THE CELL 'sum', in the pinned program and in every row, IS THE sha256 OF THE DUMP (.gsa) THAT YtnlgmfkgpaampaaProg.lean LOADS. Nothing in Lean hashes anything: it is a label: what it is worth is what the hold of that sum in a sandbox is worth. -/
noncomputable def Try.pinned : Pinned := { name := "ytnlgmfkgpaampaa", sum := "c7f2d73a382ac906d6c79fbf932760ff79d6d38727feaf5a97b8da91e339c42f", checked := Try.checked }
namespace Rows
def none {H : Type} : Left H := { results := [], args := [] }

/-- 'lockagelaw04.WheelAny': WHATEVER THE INPUT: true; the input reads as it did. -/
def wheelAnySpec : ChangeSpec := { name := "wheelAny", fn := fun _ => fun
  | [d1, d2, d3] => { results := [.lit (.bool true)], args := [d1, d2, d3] }
  | _ => none }
def wheelAnyRow : OpenClaim := { program := "ytnlgmfkgpaampaa", sum := "c7f2d73a382ac906d6c79fbf932760ff79d6d38727feaf5a97b8da91e339c42f", func := "lockage/lockagelaw04.WheelAny", spec := "wheelAny", unfollowed := true, recurses := true, apart := false }
def WheelAnySaid : Prop := wheelAnyRow.holds Try.pinned (OpenSpec.ofChange wheelAnySpec)

/-- ITS FALSE NEIGHBOUR: 'it returns false'. Refute it at one input. -/
def wheelAnyWrong : ChangeSpec := { name := "wheelAny", fn := fun _ => fun
  | [d1, d2, d3] => { results := [.lit (.bool false)], args := [d1, d2, d3] }
  | _ => none }
def WheelAnyWrongFalsely : Prop := wheelAnyRow.holds Try.pinned (OpenSpec.ofChange wheelAnyWrong)

/-- 'lockagelaw04.WheelMade': WHATEVER THE INPUT: true; the input reads as it did. -/
def wheelMadeSpec : ChangeSpec := { name := "wheelMade", fn := fun _ => fun
  | [d1, d2, d3] => { results := [.lit (.bool true)], args := [d1, d2, d3] }
  | _ => none }
def wheelMadeRow : OpenClaim := { program := "ytnlgmfkgpaampaa", sum := "c7f2d73a382ac906d6c79fbf932760ff79d6d38727feaf5a97b8da91e339c42f", func := "lockage/lockagelaw04.WheelMade", spec := "wheelMade", unfollowed := true, recurses := true, apart := false }
def WheelMadeSaid : Prop := wheelMadeRow.holds Try.pinned (OpenSpec.ofChange wheelMadeSpec)

/-- ITS FALSE NEIGHBOUR: 'it returns false'. Refute it at one input. -/
def wheelMadeWrong : ChangeSpec := { name := "wheelMade", fn := fun _ => fun
  | [d1, d2, d3] => { results := [.lit (.bool false)], args := [d1, d2, d3] }
  | _ => none }
def WheelMadeWrongFalsely : Prop := wheelMadeRow.holds Try.pinned (OpenSpec.ofChange wheelMadeWrong)

/-- 'lockagelaw04.WheelSpoilt': WHATEVER THE INPUT: true; the input reads as it did. -/
def wheelSpoiltSpec : ChangeSpec := { name := "wheelSpoilt", fn := fun _ => fun
  | [d1, d2, d3, d4] => { results := [.lit (.bool true)], args := [d1, d2, d3, d4] }
  | _ => none }
def wheelSpoiltRow : OpenClaim := { program := "ytnlgmfkgpaampaa", sum := "c7f2d73a382ac906d6c79fbf932760ff79d6d38727feaf5a97b8da91e339c42f", func := "lockage/lockagelaw04.WheelSpoilt", spec := "wheelSpoilt", unfollowed := true, recurses := true, apart := false }
def WheelSpoiltSaid : Prop := wheelSpoiltRow.holds Try.pinned (OpenSpec.ofChange wheelSpoiltSpec)

/-- ITS FALSE NEIGHBOUR: 'it returns false'. Refute it at one input. -/
def wheelSpoiltWrong : ChangeSpec := { name := "wheelSpoilt", fn := fun _ => fun
  | [d1, d2, d3, d4] => { results := [.lit (.bool false)], args := [d1, d2, d3, d4] }
  | _ => none }
def WheelSpoiltWrongFalsely : Prop := wheelSpoiltRow.holds Try.pinned (OpenSpec.ofChange wheelSpoiltWrong)

/-- 'lockagelaw04.WheelOnce': WHATEVER THE INPUT: true; the input reads as it did. -/
def wheelOnceSpec : ChangeSpec := { name := "wheelOnce", fn := fun _ => fun
  | [d] => { results := [.lit (.bool true)], args := [d] }
  | _ => none }
def wheelOnceRow : OpenClaim := { program := "ytnlgmfkgpaampaa", sum := "c7f2d73a382ac906d6c79fbf932760ff79d6d38727feaf5a97b8da91e339c42f", func := "lockage/lockagelaw04.WheelOnce", spec := "wheelOnce", unfollowed := true, recurses := true, apart := false }
def WheelOnceSaid : Prop := wheelOnceRow.holds Try.pinned (OpenSpec.ofChange wheelOnceSpec)

/-- ITS FALSE NEIGHBOUR: 'it returns false'. Refute it at one input. -/
def wheelOnceWrong : ChangeSpec := { name := "wheelOnce", fn := fun _ => fun
  | [d] => { results := [.lit (.bool false)], args := [d] }
  | _ => none }
def WheelOnceWrongFalsely : Prop := wheelOnceRow.holds Try.pinned (OpenSpec.ofChange wheelOnceWrong)

/- THE SECOND FORM. 'bulk': how many values and letters a reading holds, each counted each time it is reached (what is shared counts as often as it is met; a slice's spare places count too). A statement '..UptoSaid' is the law's where the arguments, and the package variables that the reading takes, are together of bulk at most 1048576: NARROWER than '..Said'. Prove '..Said' where nothing that the law and all that it calls make is longer than what came in: it says more and counts as full. Else prove '..UptoSaid'. A law counts once. -/
mutual
def uptoBulk {H : Type} : DataW H → Nat
  | .lit (.string bytes) => bytes.length + 1
  | .lit _ => 1
  | .nil => 1
  | .ptr d => uptoBulk d + 1
  | .slice elems spare => uptoBulkAll elems + uptoBulkAll spare + 1
  | .agg parts => uptoBulkAll parts + 1
  | .iface _ d => uptoBulk d + 1
  | .map entries => uptoBulkEntries entries + 1
  | .held _ => 1
def uptoBulkAll {H : Type} : List (DataW H) → Nat
  | [] => 0
  | d :: r => uptoBulk d + uptoBulkAll r
def uptoBulkEntries {H : Type} : List (Lit × DataW H) → Nat
  | [] => 0
  | x :: r => uptoBulkEntry x + uptoBulkEntries r
def uptoBulkEntry {H : Type} : Lit × DataW H → Nat
  | (.string bytes, d) => bytes.length + uptoBulk d + 1
  | (_, d) => uptoBulk d + 1
 end
def uptoSmall : (H : Type) → List (DataW H) → Bool := fun _ ds => decide (uptoBulkAll ds ≤ 1048576)
def OpenSpec.upto (s : _root_.Go.ChangeSpec) : _root_.Go.OpenSpec := { _root_.Go.OpenSpec.ofChange s with cond := some uptoSmall }

/-- 'lockagelaw04.WheelAny', WHERE WHAT IT READS IS OF BULK AT MOST 1048576: true; the input reads as it did. -/
def wheelAnyUptoRow : OpenClaim := { program := "ytnlgmfkgpaampaa", sum := "c7f2d73a382ac906d6c79fbf932760ff79d6d38727feaf5a97b8da91e339c42f", func := "lockage/lockagelaw04.WheelAny", spec := "wheelAny", unfollowed := true, recurses := true, apart := false, narrowed := true }
def WheelAnyUptoSaid : Prop := wheelAnyUptoRow.holds Try.pinned (OpenSpec.upto wheelAnySpec)

/-- 'lockagelaw04.WheelMade', WHERE WHAT IT READS IS OF BULK AT MOST 1048576: true; the input reads as it did. -/
def wheelMadeUptoRow : OpenClaim := { program := "ytnlgmfkgpaampaa", sum := "c7f2d73a382ac906d6c79fbf932760ff79d6d38727feaf5a97b8da91e339c42f", func := "lockage/lockagelaw04.WheelMade", spec := "wheelMade", unfollowed := true, recurses := true, apart := false, narrowed := true }
def WheelMadeUptoSaid : Prop := wheelMadeUptoRow.holds Try.pinned (OpenSpec.upto wheelMadeSpec)

/-- 'lockagelaw04.WheelSpoilt', WHERE WHAT IT READS IS OF BULK AT MOST 1048576: true; the input reads as it did. -/
def wheelSpoiltUptoRow : OpenClaim := { program := "ytnlgmfkgpaampaa", sum := "c7f2d73a382ac906d6c79fbf932760ff79d6d38727feaf5a97b8da91e339c42f", func := "lockage/lockagelaw04.WheelSpoilt", spec := "wheelSpoilt", unfollowed := true, recurses := true, apart := false, narrowed := true }
def WheelSpoiltUptoSaid : Prop := wheelSpoiltUptoRow.holds Try.pinned (OpenSpec.upto wheelSpoiltSpec)

/-- 'lockagelaw04.WheelOnce', WHERE WHAT IT READS IS OF BULK AT MOST 1048576: true; the input reads as it did. -/
def wheelOnceUptoRow : OpenClaim := { program := "ytnlgmfkgpaampaa", sum := "c7f2d73a382ac906d6c79fbf932760ff79d6d38727feaf5a97b8da91e339c42f", func := "lockage/lockagelaw04.WheelOnce", spec := "wheelOnce", unfollowed := true, recurses := true, apart := false, narrowed := true }
def WheelOnceUptoSaid : Prop := wheelOnceUptoRow.holds Try.pinned (OpenSpec.upto wheelOnceSpec)

end Rows
end Go.Proofs.Ytnlgmfkgpaampaa
