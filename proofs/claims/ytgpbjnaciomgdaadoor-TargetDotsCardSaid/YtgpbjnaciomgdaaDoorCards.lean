/-
  DERIVED. GIVEN WITH THE SEED: THE CARDS: each row of YtgpbjnaciomgdaaDoorRows.lean that lists a variable, with what it lists TIED to the program's text (the seventh form; the later family's looks); each row that meets fmt, with fmt's text TOLD by the authors' own Lean function (tested against real Go, not proved from fmt's source: count such statements apart). THE CARD IS WHAT COUNTS. Prove the row's statement (the work); the ties are given (YtgpbjnaciomgdaaDoorTie.lean); close each card by the builder's one call (the guide's Derived/Test/ToyasCard.lean, 'card_holds'). Laid BY PROGRAM, IN A SANDBOX (cutbox-door.mjs). By AI agents, Wed Nov 11 2026. No macro, syntax, notation, axiom, sorry.
-/
import Derived.Test.YtgpbjnaciomgdaaDoorRows
import GoSem.ClaimSeven
namespace Go.Proofs.YtgpbjnaciomgdaaDoor
namespace Rows

/-- THE TIED CARD OF 'lockagelaw13.TargetText'. -/
def targetTextCard : Claim7 := { stood := { row := targetTextRow, standIns := [], harness := (true, "1e5acf336af1ded0dcc41298adcc6cb6f71da33b028766b700dacbb136d83a1a"), looks := false }, kinds := [], alts := [], laidByText := true, laidKinds := [.data, .pinned], laidTests := true, laidLooks := .later }
def TargetTextCardSaid : Prop := Claim7.holds Tryd.pinned (.plain (OpenSpec.ofChange targetTextSpec)) targetTextCard

/-- THE TIED CARD OF 'lockagelaw13.TargetSmall'. -/
def targetSmallCard : Claim7 := { stood := { row := targetSmallRow, standIns := [], harness := (true, "1e5acf336af1ded0dcc41298adcc6cb6f71da33b028766b700dacbb136d83a1a"), looks := false }, kinds := [], alts := [], laidByText := true, laidKinds := [.data, .pinned], laidTests := true, laidLooks := .later }
def TargetSmallCardSaid : Prop := Claim7.holds Tryd.pinned (.plain (OpenSpec.ofChange targetSmallSpec)) targetSmallCard

/-- THE TIED CARD OF 'lockagelaw13.TargetLong'. -/
def targetLongCard : Claim7 := { stood := { row := targetLongRow, standIns := [], harness := (true, "1e5acf336af1ded0dcc41298adcc6cb6f71da33b028766b700dacbb136d83a1a"), looks := false }, kinds := [], alts := [], laidByText := true, laidKinds := [.data, .pinned], laidTests := true, laidLooks := .later }
def TargetLongCardSaid : Prop := Claim7.holds Tryd.pinned (.plain (OpenSpec.ofChange targetLongSpec)) targetLongCard

/-- THE TIED CARD OF 'lockagelaw13.TargetTwice'. -/
def targetTwiceCard : Claim7 := { stood := { row := targetTwiceRow, standIns := [], harness := (true, "1e5acf336af1ded0dcc41298adcc6cb6f71da33b028766b700dacbb136d83a1a"), looks := false }, kinds := [], alts := [], laidByText := true, laidKinds := [.data, .pinned], laidTests := true, laidLooks := .later }
def TargetTwiceCardSaid : Prop := Claim7.holds Tryd.pinned (.plain (OpenSpec.ofChange targetTwiceSpec)) targetTwiceCard

/-- THE TIED CARD OF 'lockagelaw13.TargetDots'. -/
def targetDotsCard : Claim7 := { stood := { row := targetDotsRow, standIns := [], harness := (true, "1e5acf336af1ded0dcc41298adcc6cb6f71da33b028766b700dacbb136d83a1a"), looks := false }, kinds := [], alts := [], laidByText := true, laidKinds := [.data, .pinned], laidTests := true, laidLooks := .later }
def TargetDotsCardSaid : Prop := Claim7.holds Tryd.pinned (.plain (OpenSpec.ofChange targetDotsSpec)) targetDotsCard

/-- THE SECOND FORM's CARD OF 'lockagelaw13.TargetText'. -/
def targetTextUptoCard : Claim7 := { stood := { row := targetTextUptoRow, standIns := [], harness := (true, "1e5acf336af1ded0dcc41298adcc6cb6f71da33b028766b700dacbb136d83a1a"), looks := false }, kinds := [], alts := [], laidByText := true, laidKinds := [.data, .pinned], laidTests := true, laidLooks := .later }
def TargetTextUptoCardSaid : Prop := Claim7.holds Tryd.pinned (.plain (OpenSpec.upto targetTextSpec)) targetTextUptoCard

/-- THE SECOND FORM's CARD OF 'lockagelaw13.TargetSmall'. -/
def targetSmallUptoCard : Claim7 := { stood := { row := targetSmallUptoRow, standIns := [], harness := (true, "1e5acf336af1ded0dcc41298adcc6cb6f71da33b028766b700dacbb136d83a1a"), looks := false }, kinds := [], alts := [], laidByText := true, laidKinds := [.data, .pinned], laidTests := true, laidLooks := .later }
def TargetSmallUptoCardSaid : Prop := Claim7.holds Tryd.pinned (.plain (OpenSpec.upto targetSmallSpec)) targetSmallUptoCard

/-- THE SECOND FORM's CARD OF 'lockagelaw13.TargetLong'. -/
def targetLongUptoCard : Claim7 := { stood := { row := targetLongUptoRow, standIns := [], harness := (true, "1e5acf336af1ded0dcc41298adcc6cb6f71da33b028766b700dacbb136d83a1a"), looks := false }, kinds := [], alts := [], laidByText := true, laidKinds := [.data, .pinned], laidTests := true, laidLooks := .later }
def TargetLongUptoCardSaid : Prop := Claim7.holds Tryd.pinned (.plain (OpenSpec.upto targetLongSpec)) targetLongUptoCard

/-- THE SECOND FORM's CARD OF 'lockagelaw13.TargetTwice'. -/
def targetTwiceUptoCard : Claim7 := { stood := { row := targetTwiceUptoRow, standIns := [], harness := (true, "1e5acf336af1ded0dcc41298adcc6cb6f71da33b028766b700dacbb136d83a1a"), looks := false }, kinds := [], alts := [], laidByText := true, laidKinds := [.data, .pinned], laidTests := true, laidLooks := .later }
def TargetTwiceUptoCardSaid : Prop := Claim7.holds Tryd.pinned (.plain (OpenSpec.upto targetTwiceSpec)) targetTwiceUptoCard

/-- THE SECOND FORM's CARD OF 'lockagelaw13.TargetDots'. -/
def targetDotsUptoCard : Claim7 := { stood := { row := targetDotsUptoRow, standIns := [], harness := (true, "1e5acf336af1ded0dcc41298adcc6cb6f71da33b028766b700dacbb136d83a1a"), looks := false }, kinds := [], alts := [], laidByText := true, laidKinds := [.data, .pinned], laidTests := true, laidLooks := .later }
def TargetDotsUptoCardSaid : Prop := Claim7.holds Tryd.pinned (.plain (OpenSpec.upto targetDotsSpec)) targetDotsUptoCard
end Rows
end Go.Proofs.YtgpbjnaciomgdaaDoor
