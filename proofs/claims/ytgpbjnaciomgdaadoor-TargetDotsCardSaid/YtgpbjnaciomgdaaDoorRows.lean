/-
  NARROWER THAN 'FOR EVERY INPUT', by the rows' own cells (each row's printed sentence says how): TargetText: laid · TargetSmall: laid · TargetLong: laid · TargetTwice: laid · TargetDots: laid.
  DERIVED. THE GIVEN ROWS OF THIS SEAT. 5 by the template 'for every input the law returns true; each argument reads behind the call as it read before'; 0 by the template 'total and deterministic' (their statements: YtgpbjnaciomgdaaDoorTotals.lean).
  GIVEN WITH THE SEED: the statements are not yours to turn. If you find one false, say at which input.
  Laid BY PROGRAM, IN A SANDBOX (cutbox-rows.mjs): the forced cells as the released guide's own fill.sh prints them over the translation 12e7b0aea9dbc760… (all of the seat's roots in one cut). By AI agents, Wed Nov 11 2026. No macro, syntax, notation, axiom, sorry.
-/
import Derived.Test.YtgpbjnaciomgdaaDoorChecked
import GoSem.PinnedTables
import GoSem.Claim
import GoSem.ClaimJoined
import GoSem.ClaimMapViews
import Derived.JoinedTies
import Derived.KernelRfl
namespace Go.Proofs.YtgpbjnaciomgdaaDoor
/- THE CELL 'sum', in the pinned program and in every row, IS THE sha256 OF THE DUMP (.gsa) THAT YtgpbjnaciomgdaaDoorProg.lean LOADS. Nothing in Lean hashes anything: it is a label: what it is worth is what the hold of that sum in a sandbox is worth. -/
noncomputable def Tryd.pinned : Pinned := { name := "ytgpbjnaciomgdaadoor", sum := "12e7b0aea9dbc760a375c59439edfea2cef84840c852a06101327e24e75735d9", checked := Tryd.checked }
namespace Rows
def none {H : Type} : Left H := { results := [], args := [] }

/- WHAT THE LISTED PACKAGE-LEVEL VARIABLES READ AS WHEN THE CALL BEGINS. Each datum BY PROGRAM (the guide's laid-datum.mjs) off the statement by which the dump's own 'gosem.cut.vars' lays the variable. In a bare row this is a premise. The card (YtgpbjnaciomgdaaDoorCards.lean) ties it to the program's text. -/
def laid_unicode_utf8_acceptRanges {H : Type} : DataW H := .agg [.agg [.lit (.int .u8 128), .lit (.int .u8 191)], .agg [.lit (.int .u8 160), .lit (.int .u8 191)], .agg [.lit (.int .u8 128), .lit (.int .u8 159)], .agg [.lit (.int .u8 144), .lit (.int .u8 191)], .agg [.lit (.int .u8 128), .lit (.int .u8 143)], .agg [.lit (.int .u8 0), .lit (.int .u8 0)], .agg [.lit (.int .u8 0), .lit (.int .u8 0)], .agg [.lit (.int .u8 0), .lit (.int .u8 0)], .agg [.lit (.int .u8 0), .lit (.int .u8 0)], .agg [.lit (.int .u8 0), .lit (.int .u8 0)], .agg [.lit (.int .u8 0), .lit (.int .u8 0)], .agg [.lit (.int .u8 0), .lit (.int .u8 0)], .agg [.lit (.int .u8 0), .lit (.int .u8 0)], .agg [.lit (.int .u8 0), .lit (.int .u8 0)], .agg [.lit (.int .u8 0), .lit (.int .u8 0)], .agg [.lit (.int .u8 0), .lit (.int .u8 0)]]
/-- One of Go's own tables, pinned by name: the form's constant. -/
def laid_unicode_utf8_first : DataW Unit := Go.Pinned.utf8First

/-- 'lockagelaw13.TargetText': WHATEVER THE INPUT: true; the input reads as it did. -/
def targetTextSpec : ChangeSpec := { name := "targetText", fn := fun _ => fun
  | [d] => { results := [.lit (.bool true)], args := [d] }
  | _ => none }
def targetTextRow : OpenClaim := { program := "ytgpbjnaciomgdaadoor", sum := "12e7b0aea9dbc760a375c59439edfea2cef84840c852a06101327e24e75735d9", func := "lockage/lockagelaw13.TargetText", spec := "targetText", inPlace := ["internal/bytealg.IndexByteString", "internal/bytealg.IndexString", "internal/abi.NoEscape", "internal/bytealg.CountString"], unfollowed := true, recurses := true, named := ["internal/bytealg.MaxLen", "unicode/utf8.first", "unicode/utf8.acceptRanges"], apart := false, laid := [("unicode/utf8.acceptRanges", laid_unicode_utf8_acceptRanges), ("unicode/utf8.first", laid_unicode_utf8_first)] }
def TargetTextSaid : Prop := targetTextRow.holds Tryd.pinned (OpenSpec.ofChange targetTextSpec)

/-- ITS FALSE NEIGHBOUR: 'it returns false'. Refute it at one input. -/
def targetTextWrong : ChangeSpec := { name := "targetText", fn := fun _ => fun
  | [d] => { results := [.lit (.bool false)], args := [d] }
  | _ => none }
def TargetTextWrongFalsely : Prop := targetTextRow.holds Tryd.pinned (OpenSpec.ofChange targetTextWrong)

/-- 'lockagelaw13.TargetSmall': WHATEVER THE INPUT: true; the input reads as it did. -/
def targetSmallSpec : ChangeSpec := { name := "targetSmall", fn := fun _ => fun
  | [d] => { results := [.lit (.bool true)], args := [d] }
  | _ => none }
def targetSmallRow : OpenClaim := { program := "ytgpbjnaciomgdaadoor", sum := "12e7b0aea9dbc760a375c59439edfea2cef84840c852a06101327e24e75735d9", func := "lockage/lockagelaw13.TargetSmall", spec := "targetSmall", inPlace := ["internal/bytealg.IndexByteString", "internal/bytealg.IndexString", "internal/abi.NoEscape", "internal/bytealg.CountString"], unfollowed := true, recurses := true, named := ["internal/bytealg.MaxLen", "unicode/utf8.first", "unicode/utf8.acceptRanges"], apart := false, laid := [("unicode/utf8.acceptRanges", laid_unicode_utf8_acceptRanges), ("unicode/utf8.first", laid_unicode_utf8_first)] }
def TargetSmallSaid : Prop := targetSmallRow.holds Tryd.pinned (OpenSpec.ofChange targetSmallSpec)

/-- ITS FALSE NEIGHBOUR: 'it returns false'. Refute it at one input. -/
def targetSmallWrong : ChangeSpec := { name := "targetSmall", fn := fun _ => fun
  | [d] => { results := [.lit (.bool false)], args := [d] }
  | _ => none }
def TargetSmallWrongFalsely : Prop := targetSmallRow.holds Tryd.pinned (OpenSpec.ofChange targetSmallWrong)

/-- 'lockagelaw13.TargetLong': WHATEVER THE INPUT: true; the input reads as it did. -/
def targetLongSpec : ChangeSpec := { name := "targetLong", fn := fun _ => fun
  | [d1, d2] => { results := [.lit (.bool true)], args := [d1, d2] }
  | _ => none }
def targetLongRow : OpenClaim := { program := "ytgpbjnaciomgdaadoor", sum := "12e7b0aea9dbc760a375c59439edfea2cef84840c852a06101327e24e75735d9", func := "lockage/lockagelaw13.TargetLong", spec := "targetLong", inPlace := ["internal/bytealg.IndexByteString", "internal/bytealg.IndexString", "internal/abi.NoEscape", "internal/bytealg.CountString"], unfollowed := true, recurses := true, named := ["internal/bytealg.MaxLen", "unicode/utf8.first", "unicode/utf8.acceptRanges"], apart := false, laid := [("unicode/utf8.acceptRanges", laid_unicode_utf8_acceptRanges), ("unicode/utf8.first", laid_unicode_utf8_first)] }
def TargetLongSaid : Prop := targetLongRow.holds Tryd.pinned (OpenSpec.ofChange targetLongSpec)

/-- ITS FALSE NEIGHBOUR: 'it returns false'. Refute it at one input. -/
def targetLongWrong : ChangeSpec := { name := "targetLong", fn := fun _ => fun
  | [d1, d2] => { results := [.lit (.bool false)], args := [d1, d2] }
  | _ => none }
def TargetLongWrongFalsely : Prop := targetLongRow.holds Tryd.pinned (OpenSpec.ofChange targetLongWrong)

/-- 'lockagelaw13.TargetTwice': WHATEVER THE INPUT: true; the input reads as it did. -/
def targetTwiceSpec : ChangeSpec := { name := "targetTwice", fn := fun _ => fun
  | [d1, d2, d3] => { results := [.lit (.bool true)], args := [d1, d2, d3] }
  | _ => none }
def targetTwiceRow : OpenClaim := { program := "ytgpbjnaciomgdaadoor", sum := "12e7b0aea9dbc760a375c59439edfea2cef84840c852a06101327e24e75735d9", func := "lockage/lockagelaw13.TargetTwice", spec := "targetTwice", inPlace := ["internal/bytealg.IndexByteString", "internal/bytealg.IndexString", "internal/abi.NoEscape", "internal/bytealg.CountString"], unfollowed := true, recurses := true, named := ["internal/bytealg.MaxLen", "unicode/utf8.first", "unicode/utf8.acceptRanges"], apart := false, laid := [("unicode/utf8.acceptRanges", laid_unicode_utf8_acceptRanges), ("unicode/utf8.first", laid_unicode_utf8_first)] }
def TargetTwiceSaid : Prop := targetTwiceRow.holds Tryd.pinned (OpenSpec.ofChange targetTwiceSpec)

/-- ITS FALSE NEIGHBOUR: 'it returns false'. Refute it at one input. -/
def targetTwiceWrong : ChangeSpec := { name := "targetTwice", fn := fun _ => fun
  | [d1, d2, d3] => { results := [.lit (.bool false)], args := [d1, d2, d3] }
  | _ => none }
def TargetTwiceWrongFalsely : Prop := targetTwiceRow.holds Tryd.pinned (OpenSpec.ofChange targetTwiceWrong)

/-- 'lockagelaw13.TargetDots': WHATEVER THE INPUT: true; the input reads as it did. -/
def targetDotsSpec : ChangeSpec := { name := "targetDots", fn := fun _ => fun
  | [d1, d2] => { results := [.lit (.bool true)], args := [d1, d2] }
  | _ => none }
def targetDotsRow : OpenClaim := { program := "ytgpbjnaciomgdaadoor", sum := "12e7b0aea9dbc760a375c59439edfea2cef84840c852a06101327e24e75735d9", func := "lockage/lockagelaw13.TargetDots", spec := "targetDots", inPlace := ["internal/bytealg.IndexByteString", "internal/bytealg.IndexString", "internal/abi.NoEscape", "internal/bytealg.CountString"], unfollowed := true, recurses := true, named := ["internal/bytealg.MaxLen", "unicode/utf8.first", "unicode/utf8.acceptRanges"], apart := false, laid := [("unicode/utf8.acceptRanges", laid_unicode_utf8_acceptRanges), ("unicode/utf8.first", laid_unicode_utf8_first)] }
def TargetDotsSaid : Prop := targetDotsRow.holds Tryd.pinned (OpenSpec.ofChange targetDotsSpec)

/-- ITS FALSE NEIGHBOUR: 'it returns false'. Refute it at one input. -/
def targetDotsWrong : ChangeSpec := { name := "targetDots", fn := fun _ => fun
  | [d1, d2] => { results := [.lit (.bool false)], args := [d1, d2] }
  | _ => none }
def TargetDotsWrongFalsely : Prop := targetDotsRow.holds Tryd.pinned (OpenSpec.ofChange targetDotsWrong)

/- THE SECOND FORM. 'bulk': how many values and letters a reading holds, each counted each time it is reached (what is shared counts as often as it is met; a slice's spare places count too). A statement '..UptoSaid' is the law's where the arguments, and the package variables that the reading takes, are together of bulk at most 1048576: NARROWER than '..Said'. Prove '..Said' where nothing that the law and all that it calls make is longer than what came in: it says more and counts as full. Else prove '..UptoSaid'. A law counts once. -/
mutual
def uptoBulk {H : Type} : DataW H → Nat
  | .lit (.string bytes) => bytes.length + 1
  | .lit _ => 1
  | .nil => 1
  | .ptr d => uptoBulk d + 1
  | .slice elems spare => uptoBulkAll elems + uptoBulkAll spare + 1
  | .agg parts => uptoBulkAll parts + 1
  | .iface _ d => uptoBulk d + 1
  | .map entries => uptoBulkEntries entries + 1
  | .held _ => 1
def uptoBulkAll {H : Type} : List (DataW H) → Nat
  | [] => 0
  | d :: r => uptoBulk d + uptoBulkAll r
def uptoBulkEntries {H : Type} : List (Lit × DataW H) → Nat
  | [] => 0
  | x :: r => uptoBulkEntry x + uptoBulkEntries r
def uptoBulkEntry {H : Type} : Lit × DataW H → Nat
  | (.string bytes, d) => bytes.length + uptoBulk d + 1
  | (_, d) => uptoBulk d + 1
 end
def uptoSmall : (H : Type) → List (DataW H) → Bool := fun _ ds => decide (uptoBulkAll ds ≤ 1048576)
def OpenSpec.upto (s : _root_.Go.ChangeSpec) : _root_.Go.OpenSpec := { _root_.Go.OpenSpec.ofChange s with cond := some uptoSmall }

/-- 'lockagelaw13.TargetText', WHERE WHAT IT READS IS OF BULK AT MOST 1048576: true; the input reads as it did. -/
def targetTextUptoRow : OpenClaim := { program := "ytgpbjnaciomgdaadoor", sum := "12e7b0aea9dbc760a375c59439edfea2cef84840c852a06101327e24e75735d9", func := "lockage/lockagelaw13.TargetText", spec := "targetText", inPlace := ["internal/bytealg.IndexByteString", "internal/bytealg.IndexString", "internal/abi.NoEscape", "internal/bytealg.CountString"], unfollowed := true, recurses := true, named := ["internal/bytealg.MaxLen", "unicode/utf8.first", "unicode/utf8.acceptRanges"], apart := false, laid := [("unicode/utf8.acceptRanges", laid_unicode_utf8_acceptRanges), ("unicode/utf8.first", laid_unicode_utf8_first)], narrowed := true }
def TargetTextUptoSaid : Prop := targetTextUptoRow.holds Tryd.pinned (OpenSpec.upto targetTextSpec)

/-- 'lockagelaw13.TargetSmall', WHERE WHAT IT READS IS OF BULK AT MOST 1048576: true; the input reads as it did. -/
def targetSmallUptoRow : OpenClaim := { program := "ytgpbjnaciomgdaadoor", sum := "12e7b0aea9dbc760a375c59439edfea2cef84840c852a06101327e24e75735d9", func := "lockage/lockagelaw13.TargetSmall", spec := "targetSmall", inPlace := ["internal/bytealg.IndexByteString", "internal/bytealg.IndexString", "internal/abi.NoEscape", "internal/bytealg.CountString"], unfollowed := true, recurses := true, named := ["internal/bytealg.MaxLen", "unicode/utf8.first", "unicode/utf8.acceptRanges"], apart := false, laid := [("unicode/utf8.acceptRanges", laid_unicode_utf8_acceptRanges), ("unicode/utf8.first", laid_unicode_utf8_first)], narrowed := true }
def TargetSmallUptoSaid : Prop := targetSmallUptoRow.holds Tryd.pinned (OpenSpec.upto targetSmallSpec)

/-- 'lockagelaw13.TargetLong', WHERE WHAT IT READS IS OF BULK AT MOST 1048576: true; the input reads as it did. -/
def targetLongUptoRow : OpenClaim := { program := "ytgpbjnaciomgdaadoor", sum := "12e7b0aea9dbc760a375c59439edfea2cef84840c852a06101327e24e75735d9", func := "lockage/lockagelaw13.TargetLong", spec := "targetLong", inPlace := ["internal/bytealg.IndexByteString", "internal/bytealg.IndexString", "internal/abi.NoEscape", "internal/bytealg.CountString"], unfollowed := true, recurses := true, named := ["internal/bytealg.MaxLen", "unicode/utf8.first", "unicode/utf8.acceptRanges"], apart := false, laid := [("unicode/utf8.acceptRanges", laid_unicode_utf8_acceptRanges), ("unicode/utf8.first", laid_unicode_utf8_first)], narrowed := true }
def TargetLongUptoSaid : Prop := targetLongUptoRow.holds Tryd.pinned (OpenSpec.upto targetLongSpec)

/-- 'lockagelaw13.TargetTwice', WHERE WHAT IT READS IS OF BULK AT MOST 1048576: true; the input reads as it did. -/
def targetTwiceUptoRow : OpenClaim := { program := "ytgpbjnaciomgdaadoor", sum := "12e7b0aea9dbc760a375c59439edfea2cef84840c852a06101327e24e75735d9", func := "lockage/lockagelaw13.TargetTwice", spec := "targetTwice", inPlace := ["internal/bytealg.IndexByteString", "internal/bytealg.IndexString", "internal/abi.NoEscape", "internal/bytealg.CountString"], unfollowed := true, recurses := true, named := ["internal/bytealg.MaxLen", "unicode/utf8.first", "unicode/utf8.acceptRanges"], apart := false, laid := [("unicode/utf8.acceptRanges", laid_unicode_utf8_acceptRanges), ("unicode/utf8.first", laid_unicode_utf8_first)], narrowed := true }
def TargetTwiceUptoSaid : Prop := targetTwiceUptoRow.holds Tryd.pinned (OpenSpec.upto targetTwiceSpec)

/-- 'lockagelaw13.TargetDots', WHERE WHAT IT READS IS OF BULK AT MOST 1048576: true; the input reads as it did. -/
def targetDotsUptoRow : OpenClaim := { program := "ytgpbjnaciomgdaadoor", sum := "12e7b0aea9dbc760a375c59439edfea2cef84840c852a06101327e24e75735d9", func := "lockage/lockagelaw13.TargetDots", spec := "targetDots", inPlace := ["internal/bytealg.IndexByteString", "internal/bytealg.IndexString", "internal/abi.NoEscape", "internal/bytealg.CountString"], unfollowed := true, recurses := true, named := ["internal/bytealg.MaxLen", "unicode/utf8.first", "unicode/utf8.acceptRanges"], apart := false, laid := [("unicode/utf8.acceptRanges", laid_unicode_utf8_acceptRanges), ("unicode/utf8.first", laid_unicode_utf8_first)], narrowed := true }
def TargetDotsUptoSaid : Prop := targetDotsUptoRow.holds Tryd.pinned (OpenSpec.upto targetDotsSpec)

end Rows
end Go.Proofs.YtgpbjnaciomgdaaDoor
