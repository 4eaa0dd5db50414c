/-
  DERIVED. GIVEN WITH THE SEED: THE CARDS: each row of YthlijkpeafgenaaDoorRows.lean that lists a variable, with what it lists TIED to the program's text (the seventh form; the later family's looks); each row that meets fmt, with fmt's text TOLD by the authors' own Lean function (tested against real Go, not proved from fmt's source: count such statements apart). THE CARD IS WHAT COUNTS. Prove the row's statement (the work); the ties are given (YthlijkpeafgenaaDoorTie.lean); close each card by the builder's one call (the guide's Derived/Test/ToyasCard.lean, 'card_holds'). Laid BY PROGRAM, IN A SANDBOX (cutbox-door.mjs). By AI agents, Wed Nov 11 2026. No macro, syntax, notation, axiom, sorry.
-/
import Derived.Test.YthlijkpeafgenaaDoorRows
import GoSem.ClaimSeven
namespace Go.Proofs.YthlijkpeafgenaaDoor
namespace Rows

/-- THE TIED CARD OF 'lockagelaw10.QuoteBack'. -/
def quoteBackCard : Claim7 := { stood := { row := quoteBackRow, standIns := [], harness := (true, "f348d859d6c1976c3fecc8baad72ddefd0692a79bab589c1fa5888f27f7e9c17"), looks := false }, kinds := [], alts := [], laidByText := true, laidKinds := [.data, .data, .data, .data, .pinned], laidTests := true, laidLooks := .later }
def QuoteBackCardSaid : Prop := Claim7.holds Tryd.pinned (.plain (OpenSpec.ofChange quoteBackSpec)) quoteBackCard

/-- THE TIED CARD OF 'lockagelaw10.QuoteValid'. -/
def quoteValidCard : Claim7 := { stood := { row := quoteValidRow, standIns := [], harness := (true, "f348d859d6c1976c3fecc8baad72ddefd0692a79bab589c1fa5888f27f7e9c17"), looks := false }, kinds := [], alts := [], laidByText := true, laidKinds := [.data, .data, .data, .data, .pinned], laidTests := true, laidLooks := .later }
def QuoteValidCardSaid : Prop := Claim7.holds Tryd.pinned (.plain (OpenSpec.ofChange quoteValidSpec)) quoteValidCard

/-- THE SECOND FORM's CARD OF 'lockagelaw10.QuoteBack'. -/
def quoteBackUptoCard : Claim7 := { stood := { row := quoteBackUptoRow, standIns := [], harness := (true, "f348d859d6c1976c3fecc8baad72ddefd0692a79bab589c1fa5888f27f7e9c17"), looks := false }, kinds := [], alts := [], laidByText := true, laidKinds := [.data, .data, .data, .data, .pinned], laidTests := true, laidLooks := .later }
def QuoteBackUptoCardSaid : Prop := Claim7.holds Tryd.pinned (.plain (OpenSpec.upto quoteBackSpec)) quoteBackUptoCard

/-- THE SECOND FORM's CARD OF 'lockagelaw10.QuoteValid'. -/
def quoteValidUptoCard : Claim7 := { stood := { row := quoteValidUptoRow, standIns := [], harness := (true, "f348d859d6c1976c3fecc8baad72ddefd0692a79bab589c1fa5888f27f7e9c17"), looks := false }, kinds := [], alts := [], laidByText := true, laidKinds := [.data, .data, .data, .data, .pinned], laidTests := true, laidLooks := .later }
def QuoteValidUptoCardSaid : Prop := Claim7.holds Tryd.pinned (.plain (OpenSpec.upto quoteValidSpec)) quoteValidUptoCard
end Rows
end Go.Proofs.YthlijkpeafgenaaDoor
