/-
  No cell of these rows narrows 'for every input' (looked for: loops, veiled, ifaces, maps, wideKeys, modest, calm, conditions, laid).
  DERIVED. THE GIVEN ROWS OF THIS SEAT. 5 by the template 'for every input the law returns true; each argument reads behind the call as it read before'; 0 by the template 'total and deterministic' (their statements: YtjomenldmojnjaaTotals.lean).
  GIVEN WITH THE SEED: the statements are not yours to turn. If you find one false, say at which input.
  Laid BY PROGRAM, IN A SANDBOX (cutbox-rows.mjs): the forced cells as the released guide's own fill.sh prints them over the translation 18ad660c56e21cc1… (all of the seat's roots in one cut). By AI agents, Wed Nov 11 2026. No macro, syntax, notation, axiom, sorry.
-/
import Derived.Test.YtjomenldmojnjaaChecked
import GoSem.Claim
import GoSem.ClaimJoined
import GoSem.ClaimMapViews
import Derived.JoinedTies
import Derived.KernelRfl
namespace Go.Proofs.Ytjomenldmojnjaa
/- THE CELL 'sum', in the pinned program and in every row, IS THE sha256 OF THE DUMP (.gsa) THAT YtjomenldmojnjaaProg.lean LOADS. Nothing in Lean hashes anything: it is a label: what it is worth is what the hold of that sum in a sandbox is worth. -/
noncomputable def Try.pinned : Pinned := { name := "ytjomenldmojnjaa", sum := "18ad660c56e21cc19ae3f4b4f64bd4ec84ba798839ba8ad79b8ad2434d18f40f", checked := Try.checked }
namespace Rows
def none {H : Type} : Left H := { results := [], args := [] }

/-- 'lockagelaw17.PoolAny': WHATEVER THE INPUT: true; the input reads as it did. -/
def poolAnySpec : ChangeSpec := { name := "poolAny", fn := fun _ => fun
  | [d1, d2, d3, d4] => { results := [.lit (.bool true)], args := [d1, d2, d3, d4] }
  | _ => none }
def poolAnyRow : OpenClaim := { program := "ytjomenldmojnjaa", sum := "18ad660c56e21cc19ae3f4b4f64bd4ec84ba798839ba8ad79b8ad2434d18f40f", func := "lockage/lockagelaw17.PoolAny", spec := "poolAny", unfollowed := true, recurses := true, apart := false }
def PoolAnySaid : Prop := poolAnyRow.holds Try.pinned (OpenSpec.ofChange poolAnySpec)

/-- ITS FALSE NEIGHBOUR: 'it returns false'. Refute it at one input. -/
def poolAnyWrong : ChangeSpec := { name := "poolAny", fn := fun _ => fun
  | [d1, d2, d3, d4] => { results := [.lit (.bool false)], args := [d1, d2, d3, d4] }
  | _ => none }
def PoolAnyWrongFalsely : Prop := poolAnyRow.holds Try.pinned (OpenSpec.ofChange poolAnyWrong)

/-- 'lockagelaw17.PoolMade': WHATEVER THE INPUT: true; the input reads as it did. -/
def poolMadeSpec : ChangeSpec := { name := "poolMade", fn := fun _ => fun
  | [d1, d2, d3, d4, d5] => { results := [.lit (.bool true)], args := [d1, d2, d3, d4, d5] }
  | _ => none }
def poolMadeRow : OpenClaim := { program := "ytjomenldmojnjaa", sum := "18ad660c56e21cc19ae3f4b4f64bd4ec84ba798839ba8ad79b8ad2434d18f40f", func := "lockage/lockagelaw17.PoolMade", spec := "poolMade", unfollowed := true, recurses := true, apart := false }
def PoolMadeSaid : Prop := poolMadeRow.holds Try.pinned (OpenSpec.ofChange poolMadeSpec)

/-- ITS FALSE NEIGHBOUR: 'it returns false'. Refute it at one input. -/
def poolMadeWrong : ChangeSpec := { name := "poolMade", fn := fun _ => fun
  | [d1, d2, d3, d4, d5] => { results := [.lit (.bool false)], args := [d1, d2, d3, d4, d5] }
  | _ => none }
def PoolMadeWrongFalsely : Prop := poolMadeRow.holds Try.pinned (OpenSpec.ofChange poolMadeWrong)

/-- 'lockagelaw17.PoolSpoilt': WHATEVER THE INPUT: true; the input reads as it did. -/
def poolSpoiltSpec : ChangeSpec := { name := "poolSpoilt", fn := fun _ => fun
  | [d1, d2, d3, d4, d5] => { results := [.lit (.bool true)], args := [d1, d2, d3, d4, d5] }
  | _ => none }
def poolSpoiltRow : OpenClaim := { program := "ytjomenldmojnjaa", sum := "18ad660c56e21cc19ae3f4b4f64bd4ec84ba798839ba8ad79b8ad2434d18f40f", func := "lockage/lockagelaw17.PoolSpoilt", spec := "poolSpoilt", unfollowed := true, recurses := true, apart := false }
def PoolSpoiltSaid : Prop := poolSpoiltRow.holds Try.pinned (OpenSpec.ofChange poolSpoiltSpec)

/-- ITS FALSE NEIGHBOUR: 'it returns false'. Refute it at one input. -/
def poolSpoiltWrong : ChangeSpec := { name := "poolSpoilt", fn := fun _ => fun
  | [d1, d2, d3, d4, d5] => { results := [.lit (.bool false)], args := [d1, d2, d3, d4, d5] }
  | _ => none }
def PoolSpoiltWrongFalsely : Prop := poolSpoiltRow.holds Try.pinned (OpenSpec.ofChange poolSpoiltWrong)

/-- 'lockagelaw17.PoolAgain': WHATEVER THE INPUT: true; the input reads as it did. -/
def poolAgainSpec : ChangeSpec := { name := "poolAgain", fn := fun _ => fun
  | [d1, d2, d3, d4, d5, d6] => { results := [.lit (.bool true)], args := [d1, d2, d3, d4, d5, d6] }
  | _ => none }
def poolAgainRow : OpenClaim := { program := "ytjomenldmojnjaa", sum := "18ad660c56e21cc19ae3f4b4f64bd4ec84ba798839ba8ad79b8ad2434d18f40f", func := "lockage/lockagelaw17.PoolAgain", spec := "poolAgain", unfollowed := true, recurses := true, apart := false }
def PoolAgainSaid : Prop := poolAgainRow.holds Try.pinned (OpenSpec.ofChange poolAgainSpec)

/-- ITS FALSE NEIGHBOUR: 'it returns false'. Refute it at one input. -/
def poolAgainWrong : ChangeSpec := { name := "poolAgain", fn := fun _ => fun
  | [d1, d2, d3, d4, d5, d6] => { results := [.lit (.bool false)], args := [d1, d2, d3, d4, d5, d6] }
  | _ => none }
def PoolAgainWrongFalsely : Prop := poolAgainRow.holds Try.pinned (OpenSpec.ofChange poolAgainWrong)

/-- 'lockagelaw17.PoolRoom': WHATEVER THE INPUT: true; the input reads as it did. -/
def poolRoomSpec : ChangeSpec := { name := "poolRoom", fn := fun _ => fun
  | [d1, d2] => { results := [.lit (.bool true)], args := [d1, d2] }
  | _ => none }
def poolRoomRow : OpenClaim := { program := "ytjomenldmojnjaa", sum := "18ad660c56e21cc19ae3f4b4f64bd4ec84ba798839ba8ad79b8ad2434d18f40f", func := "lockage/lockagelaw17.PoolRoom", spec := "poolRoom", unfollowed := true, recurses := true, apart := false }
def PoolRoomSaid : Prop := poolRoomRow.holds Try.pinned (OpenSpec.ofChange poolRoomSpec)

/-- ITS FALSE NEIGHBOUR: 'it returns false'. Refute it at one input. -/
def poolRoomWrong : ChangeSpec := { name := "poolRoom", fn := fun _ => fun
  | [d1, d2] => { results := [.lit (.bool false)], args := [d1, d2] }
  | _ => none }
def PoolRoomWrongFalsely : Prop := poolRoomRow.holds Try.pinned (OpenSpec.ofChange poolRoomWrong)

/- THE SECOND FORM. 'bulk': how many values and letters a reading holds, each counted each time it is reached (what is shared counts as often as it is met; a slice's spare places count too). A statement '..UptoSaid' is the law's where the arguments, and the package variables that the reading takes, are together of bulk at most 1048576: NARROWER than '..Said'. Prove '..Said' where nothing that the law and all that it calls make is longer than what came in: it says more and counts as full. Else prove '..UptoSaid'. A law counts once. -/
mutual
def uptoBulk {H : Type} : DataW H → Nat
  | .lit (.string bytes) => bytes.length + 1
  | .lit _ => 1
  | .nil => 1
  | .ptr d => uptoBulk d + 1
  | .slice elems spare => uptoBulkAll elems + uptoBulkAll spare + 1
  | .agg parts => uptoBulkAll parts + 1
  | .iface _ d => uptoBulk d + 1
  | .map entries => uptoBulkEntries entries + 1
  | .held _ => 1
def uptoBulkAll {H : Type} : List (DataW H) → Nat
  | [] => 0
  | d :: r => uptoBulk d + uptoBulkAll r
def uptoBulkEntries {H : Type} : List (Lit × DataW H) → Nat
  | [] => 0
  | x :: r => uptoBulkEntry x + uptoBulkEntries r
def uptoBulkEntry {H : Type} : Lit × DataW H → Nat
  | (.string bytes, d) => bytes.length + uptoBulk d + 1
  | (_, d) => uptoBulk d + 1
 end
def uptoSmall : (H : Type) → List (DataW H) → Bool := fun _ ds => decide (uptoBulkAll ds ≤ 1048576)
def OpenSpec.upto (s : _root_.Go.ChangeSpec) : _root_.Go.OpenSpec := { _root_.Go.OpenSpec.ofChange s with cond := some uptoSmall }

/-- 'lockagelaw17.PoolAny', WHERE WHAT IT READS IS OF BULK AT MOST 1048576: true; the input reads as it did. -/
def poolAnyUptoRow : OpenClaim := { program := "ytjomenldmojnjaa", sum := "18ad660c56e21cc19ae3f4b4f64bd4ec84ba798839ba8ad79b8ad2434d18f40f", func := "lockage/lockagelaw17.PoolAny", spec := "poolAny", unfollowed := true, recurses := true, apart := false, narrowed := true }
def PoolAnyUptoSaid : Prop := poolAnyUptoRow.holds Try.pinned (OpenSpec.upto poolAnySpec)

/-- 'lockagelaw17.PoolMade', WHERE WHAT IT READS IS OF BULK AT MOST 1048576: true; the input reads as it did. -/
def poolMadeUptoRow : OpenClaim := { program := "ytjomenldmojnjaa", sum := "18ad660c56e21cc19ae3f4b4f64bd4ec84ba798839ba8ad79b8ad2434d18f40f", func := "lockage/lockagelaw17.PoolMade", spec := "poolMade", unfollowed := true, recurses := true, apart := false, narrowed := true }
def PoolMadeUptoSaid : Prop := poolMadeUptoRow.holds Try.pinned (OpenSpec.upto poolMadeSpec)

/-- 'lockagelaw17.PoolSpoilt', WHERE WHAT IT READS IS OF BULK AT MOST 1048576: true; the input reads as it did. -/
def poolSpoiltUptoRow : OpenClaim := { program := "ytjomenldmojnjaa", sum := "18ad660c56e21cc19ae3f4b4f64bd4ec84ba798839ba8ad79b8ad2434d18f40f", func := "lockage/lockagelaw17.PoolSpoilt", spec := "poolSpoilt", unfollowed := true, recurses := true, apart := false, narrowed := true }
def PoolSpoiltUptoSaid : Prop := poolSpoiltUptoRow.holds Try.pinned (OpenSpec.upto poolSpoiltSpec)

/-- 'lockagelaw17.PoolAgain', WHERE WHAT IT READS IS OF BULK AT MOST 1048576: true; the input reads as it did. -/
def poolAgainUptoRow : OpenClaim := { program := "ytjomenldmojnjaa", sum := "18ad660c56e21cc19ae3f4b4f64bd4ec84ba798839ba8ad79b8ad2434d18f40f", func := "lockage/lockagelaw17.PoolAgain", spec := "poolAgain", unfollowed := true, recurses := true, apart := false, narrowed := true }
def PoolAgainUptoSaid : Prop := poolAgainUptoRow.holds Try.pinned (OpenSpec.upto poolAgainSpec)

/-- 'lockagelaw17.PoolRoom', WHERE WHAT IT READS IS OF BULK AT MOST 1048576: true; the input reads as it did. -/
def poolRoomUptoRow : OpenClaim := { program := "ytjomenldmojnjaa", sum := "18ad660c56e21cc19ae3f4b4f64bd4ec84ba798839ba8ad79b8ad2434d18f40f", func := "lockage/lockagelaw17.PoolRoom", spec := "poolRoom", unfollowed := true, recurses := true, apart := false, narrowed := true }
def PoolRoomUptoSaid : Prop := poolRoomUptoRow.holds Try.pinned (OpenSpec.upto poolRoomSpec)

end Rows
end Go.Proofs.Ytjomenldmojnjaa
