/-
  No cell of these rows narrows 'for every input' (looked for: loops, veiled, ifaces, maps, wideKeys, modest, calm, conditions, laid).
  DERIVED. THE GIVEN ROWS OF THIS SEAT. 6 by the template 'for every input the law returns true; each argument reads behind the call as it read before'; 0 by the template 'total and deterministic' (their statements: YtipjhokhflokmaaTotals.lean).
  GIVEN WITH THE SEED: the statements are not yours to turn. If you find one false, say at which input.
  Laid BY PROGRAM, IN A SANDBOX (cutbox-rows.mjs): the forced cells as the released guide's own fill.sh prints them over the translation f7db0c2acfb7e20c… (all of the seat's roots in one cut). By AI agents, Wed Nov 11 2026. No macro, syntax, notation, axiom, sorry.
-/
import Derived.Test.YtipjhokhflokmaaChecked
import GoSem.Claim
import GoSem.ClaimJoined
import GoSem.ClaimMapViews
import Derived.JoinedTies
import Derived.KernelRfl
namespace Go.Proofs.Ytipjhokhflokmaa
/- THE CELL 'sum', in the pinned program and in every row, IS THE sha256 OF THE DUMP (.gsa) THAT YtipjhokhflokmaaProg.lean LOADS. Nothing in Lean hashes anything: it is a label: what it is worth is what the hold of that sum in a sandbox is worth. -/
noncomputable def Try.pinned : Pinned := { name := "ytipjhokhflokmaa", sum := "f7db0c2acfb7e20c28e07b595397b43bf716e19cddff27276d7f437dad6094c5", checked := Try.checked }
namespace Rows
def none {H : Type} : Left H := { results := [], args := [] }

/-- 'lockagelaw18.FlightBytes': WHATEVER THE INPUT: true; the input reads as it did. -/
def flightBytesSpec : ChangeSpec := { name := "flightBytes", fn := fun _ => fun
  | [d1, d2, d3] => { results := [.lit (.bool true)], args := [d1, d2, d3] }
  | _ => none }
def flightBytesRow : OpenClaim := { program := "ytipjhokhflokmaa", sum := "f7db0c2acfb7e20c28e07b595397b43bf716e19cddff27276d7f437dad6094c5", func := "lockage/lockagelaw18.FlightBytes", spec := "flightBytes", unfollowed := true, recurses := true, apart := false }
def FlightBytesSaid : Prop := flightBytesRow.holds Try.pinned (OpenSpec.ofChange flightBytesSpec)

/-- ITS FALSE NEIGHBOUR: 'it returns false'. Refute it at one input. -/
def flightBytesWrong : ChangeSpec := { name := "flightBytes", fn := fun _ => fun
  | [d1, d2, d3] => { results := [.lit (.bool false)], args := [d1, d2, d3] }
  | _ => none }
def FlightBytesWrongFalsely : Prop := flightBytesRow.holds Try.pinned (OpenSpec.ofChange flightBytesWrong)

/-- 'lockagelaw18.FlightAny': WHATEVER THE INPUT: true; the input reads as it did. -/
def flightAnySpec : ChangeSpec := { name := "flightAny", fn := fun _ => fun
  | [d1, d2, d3, d4, d5, d6] => { results := [.lit (.bool true)], args := [d1, d2, d3, d4, d5, d6] }
  | _ => none }
def flightAnyRow : OpenClaim := { program := "ytipjhokhflokmaa", sum := "f7db0c2acfb7e20c28e07b595397b43bf716e19cddff27276d7f437dad6094c5", func := "lockage/lockagelaw18.FlightAny", spec := "flightAny", unfollowed := true, recurses := true, apart := false }
def FlightAnySaid : Prop := flightAnyRow.holds Try.pinned (OpenSpec.ofChange flightAnySpec)

/-- ITS FALSE NEIGHBOUR: 'it returns false'. Refute it at one input. -/
def flightAnyWrong : ChangeSpec := { name := "flightAny", fn := fun _ => fun
  | [d1, d2, d3, d4, d5, d6] => { results := [.lit (.bool false)], args := [d1, d2, d3, d4, d5, d6] }
  | _ => none }
def FlightAnyWrongFalsely : Prop := flightAnyRow.holds Try.pinned (OpenSpec.ofChange flightAnyWrong)

/-- 'lockagelaw18.FlightMade': WHATEVER THE INPUT: true; the input reads as it did. -/
def flightMadeSpec : ChangeSpec := { name := "flightMade", fn := fun _ => fun
  | [d1, d2, d3, d4, d5, d6] => { results := [.lit (.bool true)], args := [d1, d2, d3, d4, d5, d6] }
  | _ => none }
def flightMadeRow : OpenClaim := { program := "ytipjhokhflokmaa", sum := "f7db0c2acfb7e20c28e07b595397b43bf716e19cddff27276d7f437dad6094c5", func := "lockage/lockagelaw18.FlightMade", spec := "flightMade", unfollowed := true, recurses := true, apart := false }
def FlightMadeSaid : Prop := flightMadeRow.holds Try.pinned (OpenSpec.ofChange flightMadeSpec)

/-- ITS FALSE NEIGHBOUR: 'it returns false'. Refute it at one input. -/
def flightMadeWrong : ChangeSpec := { name := "flightMade", fn := fun _ => fun
  | [d1, d2, d3, d4, d5, d6] => { results := [.lit (.bool false)], args := [d1, d2, d3, d4, d5, d6] }
  | _ => none }
def FlightMadeWrongFalsely : Prop := flightMadeRow.holds Try.pinned (OpenSpec.ofChange flightMadeWrong)

/-- 'lockagelaw18.FlightSpoilt': WHATEVER THE INPUT: true; the input reads as it did. -/
def flightSpoiltSpec : ChangeSpec := { name := "flightSpoilt", fn := fun _ => fun
  | [d1, d2, d3, d4, d5] => { results := [.lit (.bool true)], args := [d1, d2, d3, d4, d5] }
  | _ => none }
def flightSpoiltRow : OpenClaim := { program := "ytipjhokhflokmaa", sum := "f7db0c2acfb7e20c28e07b595397b43bf716e19cddff27276d7f437dad6094c5", func := "lockage/lockagelaw18.FlightSpoilt", spec := "flightSpoilt", unfollowed := true, recurses := true, apart := false }
def FlightSpoiltSaid : Prop := flightSpoiltRow.holds Try.pinned (OpenSpec.ofChange flightSpoiltSpec)

/-- ITS FALSE NEIGHBOUR: 'it returns false'. Refute it at one input. -/
def flightSpoiltWrong : ChangeSpec := { name := "flightSpoilt", fn := fun _ => fun
  | [d1, d2, d3, d4, d5] => { results := [.lit (.bool false)], args := [d1, d2, d3, d4, d5] }
  | _ => none }
def FlightSpoiltWrongFalsely : Prop := flightSpoiltRow.holds Try.pinned (OpenSpec.ofChange flightSpoiltWrong)

/-- 'lockagelaw18.FlightFull': WHATEVER THE INPUT: true; the input reads as it did. -/
def flightFullSpec : ChangeSpec := { name := "flightFull", fn := fun _ => fun
  | [d1, d2, d3] => { results := [.lit (.bool true)], args := [d1, d2, d3] }
  | _ => none }
def flightFullRow : OpenClaim := { program := "ytipjhokhflokmaa", sum := "f7db0c2acfb7e20c28e07b595397b43bf716e19cddff27276d7f437dad6094c5", func := "lockage/lockagelaw18.FlightFull", spec := "flightFull", unfollowed := true, recurses := true, apart := false }
def FlightFullSaid : Prop := flightFullRow.holds Try.pinned (OpenSpec.ofChange flightFullSpec)

/-- ITS FALSE NEIGHBOUR: 'it returns false'. Refute it at one input. -/
def flightFullWrong : ChangeSpec := { name := "flightFull", fn := fun _ => fun
  | [d1, d2, d3] => { results := [.lit (.bool false)], args := [d1, d2, d3] }
  | _ => none }
def FlightFullWrongFalsely : Prop := flightFullRow.holds Try.pinned (OpenSpec.ofChange flightFullWrong)

/-- 'lockagelaw18.FlightOne': WHATEVER THE INPUT: true; the input reads as it did. -/
def flightOneSpec : ChangeSpec := { name := "flightOne", fn := fun _ => fun
  | [d1, d2, d3, d4] => { results := [.lit (.bool true)], args := [d1, d2, d3, d4] }
  | _ => none }
def flightOneRow : OpenClaim := { program := "ytipjhokhflokmaa", sum := "f7db0c2acfb7e20c28e07b595397b43bf716e19cddff27276d7f437dad6094c5", func := "lockage/lockagelaw18.FlightOne", spec := "flightOne", unfollowed := true, recurses := true, apart := false }
def FlightOneSaid : Prop := flightOneRow.holds Try.pinned (OpenSpec.ofChange flightOneSpec)

/-- ITS FALSE NEIGHBOUR: 'it returns false'. Refute it at one input. -/
def flightOneWrong : ChangeSpec := { name := "flightOne", fn := fun _ => fun
  | [d1, d2, d3, d4] => { results := [.lit (.bool false)], args := [d1, d2, d3, d4] }
  | _ => none }
def FlightOneWrongFalsely : Prop := flightOneRow.holds Try.pinned (OpenSpec.ofChange flightOneWrong)

/- THE SECOND FORM. 'bulk': how many values and letters a reading holds, each counted each time it is reached (what is shared counts as often as it is met; a slice's spare places count too). A statement '..UptoSaid' is the law's where the arguments, and the package variables that the reading takes, are together of bulk at most 1048576: NARROWER than '..Said'. Prove '..Said' where nothing that the law and all that it calls make is longer than what came in: it says more and counts as full. Else prove '..UptoSaid'. A law counts once. -/
mutual
def uptoBulk {H : Type} : DataW H → Nat
  | .lit (.string bytes) => bytes.length + 1
  | .lit _ => 1
  | .nil => 1
  | .ptr d => uptoBulk d + 1
  | .slice elems spare => uptoBulkAll elems + uptoBulkAll spare + 1
  | .agg parts => uptoBulkAll parts + 1
  | .iface _ d => uptoBulk d + 1
  | .map entries => uptoBulkEntries entries + 1
  | .held _ => 1
def uptoBulkAll {H : Type} : List (DataW H) → Nat
  | [] => 0
  | d :: r => uptoBulk d + uptoBulkAll r
def uptoBulkEntries {H : Type} : List (Lit × DataW H) → Nat
  | [] => 0
  | x :: r => uptoBulkEntry x + uptoBulkEntries r
def uptoBulkEntry {H : Type} : Lit × DataW H → Nat
  | (.string bytes, d) => bytes.length + uptoBulk d + 1
  | (_, d) => uptoBulk d + 1
 end
def uptoSmall : (H : Type) → List (DataW H) → Bool := fun _ ds => decide (uptoBulkAll ds ≤ 1048576)
def OpenSpec.upto (s : _root_.Go.ChangeSpec) : _root_.Go.OpenSpec := { _root_.Go.OpenSpec.ofChange s with cond := some uptoSmall }

/-- 'lockagelaw18.FlightBytes', WHERE WHAT IT READS IS OF BULK AT MOST 1048576: true; the input reads as it did. -/
def flightBytesUptoRow : OpenClaim := { program := "ytipjhokhflokmaa", sum := "f7db0c2acfb7e20c28e07b595397b43bf716e19cddff27276d7f437dad6094c5", func := "lockage/lockagelaw18.FlightBytes", spec := "flightBytes", unfollowed := true, recurses := true, apart := false, narrowed := true }
def FlightBytesUptoSaid : Prop := flightBytesUptoRow.holds Try.pinned (OpenSpec.upto flightBytesSpec)

/-- 'lockagelaw18.FlightAny', WHERE WHAT IT READS IS OF BULK AT MOST 1048576: true; the input reads as it did. -/
def flightAnyUptoRow : OpenClaim := { program := "ytipjhokhflokmaa", sum := "f7db0c2acfb7e20c28e07b595397b43bf716e19cddff27276d7f437dad6094c5", func := "lockage/lockagelaw18.FlightAny", spec := "flightAny", unfollowed := true, recurses := true, apart := false, narrowed := true }
def FlightAnyUptoSaid : Prop := flightAnyUptoRow.holds Try.pinned (OpenSpec.upto flightAnySpec)

/-- 'lockagelaw18.FlightMade', WHERE WHAT IT READS IS OF BULK AT MOST 1048576: true; the input reads as it did. -/
def flightMadeUptoRow : OpenClaim := { program := "ytipjhokhflokmaa", sum := "f7db0c2acfb7e20c28e07b595397b43bf716e19cddff27276d7f437dad6094c5", func := "lockage/lockagelaw18.FlightMade", spec := "flightMade", unfollowed := true, recurses := true, apart := false, narrowed := true }
def FlightMadeUptoSaid : Prop := flightMadeUptoRow.holds Try.pinned (OpenSpec.upto flightMadeSpec)

/-- 'lockagelaw18.FlightSpoilt', WHERE WHAT IT READS IS OF BULK AT MOST 1048576: true; the input reads as it did. -/
def flightSpoiltUptoRow : OpenClaim := { program := "ytipjhokhflokmaa", sum := "f7db0c2acfb7e20c28e07b595397b43bf716e19cddff27276d7f437dad6094c5", func := "lockage/lockagelaw18.FlightSpoilt", spec := "flightSpoilt", unfollowed := true, recurses := true, apart := false, narrowed := true }
def FlightSpoiltUptoSaid : Prop := flightSpoiltUptoRow.holds Try.pinned (OpenSpec.upto flightSpoiltSpec)

/-- 'lockagelaw18.FlightFull', WHERE WHAT IT READS IS OF BULK AT MOST 1048576: true; the input reads as it did. -/
def flightFullUptoRow : OpenClaim := { program := "ytipjhokhflokmaa", sum := "f7db0c2acfb7e20c28e07b595397b43bf716e19cddff27276d7f437dad6094c5", func := "lockage/lockagelaw18.FlightFull", spec := "flightFull", unfollowed := true, recurses := true, apart := false, narrowed := true }
def FlightFullUptoSaid : Prop := flightFullUptoRow.holds Try.pinned (OpenSpec.upto flightFullSpec)

/-- 'lockagelaw18.FlightOne', WHERE WHAT IT READS IS OF BULK AT MOST 1048576: true; the input reads as it did. -/
def flightOneUptoRow : OpenClaim := { program := "ytipjhokhflokmaa", sum := "f7db0c2acfb7e20c28e07b595397b43bf716e19cddff27276d7f437dad6094c5", func := "lockage/lockagelaw18.FlightOne", spec := "flightOne", unfollowed := true, recurses := true, apart := false, narrowed := true }
def FlightOneUptoSaid : Prop := flightOneUptoRow.holds Try.pinned (OpenSpec.upto flightOneSpec)

end Rows
end Go.Proofs.Ytipjhokhflokmaa
