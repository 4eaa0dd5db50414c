/-
  DERIVED. GIVEN WITH THE SEED: THE CARDS: each row of YtoegjpfngmilhaaDoorRows.lean that lists a variable, with what it lists TIED to the program's text (the seventh form; the later family's looks); each row that meets fmt, with fmt's text TOLD by the authors' own Lean function (tested against real Go, not proved from fmt's source: count such statements apart). THE CARD IS WHAT COUNTS. Prove the row's statement (the work); the ties are given (YtoegjpfngmilhaaDoorTie.lean); close each card by the builder's one call (the guide's Derived/Test/ToyasCard.lean, 'card_holds'). Laid BY PROGRAM, IN A SANDBOX (cutbox-door.mjs). By AI agents, Wed Nov 11 2026. No macro, syntax, notation, axiom, sorry.
-/
import Derived.Test.YtoegjpfngmilhaaDoorRows
import GoSem.ClaimSeven
namespace Go.Proofs.YtoegjpfngmilhaaDoor
namespace Rows

/-- THE TIED CARD OF 'lockagelaw14.RouteAny'. -/
def routeAnyCard : Claim7 := { stood := { row := routeAnyRow, standIns := [], harness := (true, "22f9a463a985452ba00487521a7793bbeb02911f0699ae285120748beeff1b30"), looks := false }, kinds := [], alts := [], laidByText := true, laidKinds := [.data, .pinned], laidTests := true, laidLooks := .later }
def RouteAnyCardSaid : Prop := Claim7.holds Tryd.pinned (.plain (OpenSpec.ofChange routeAnySpec)) routeAnyCard

/-- THE TIED CARD OF 'lockagelaw14.RouteMade'. -/
def routeMadeCard : Claim7 := { stood := { row := routeMadeRow, standIns := [], harness := (true, "22f9a463a985452ba00487521a7793bbeb02911f0699ae285120748beeff1b30"), looks := false }, kinds := [], alts := [], laidByText := true, laidKinds := [.data, .pinned], laidTests := true, laidLooks := .later }
def RouteMadeCardSaid : Prop := Claim7.holds Tryd.pinned (.plain (OpenSpec.ofChange routeMadeSpec)) routeMadeCard

/-- THE TIED CARD OF 'lockagelaw14.RouteOrder'. -/
def routeOrderCard : Claim7 := { stood := { row := routeOrderRow, standIns := [], harness := (true, "22f9a463a985452ba00487521a7793bbeb02911f0699ae285120748beeff1b30"), looks := false }, kinds := [], alts := [], laidByText := true, laidKinds := [.data, .pinned], laidTests := true, laidLooks := .later }
def RouteOrderCardSaid : Prop := Claim7.holds Tryd.pinned (.plain (OpenSpec.ofChange routeOrderSpec)) routeOrderCard

/-- THE TIED CARD OF 'lockagelaw14.RouteUnder'. -/
def routeUnderCard : Claim7 := { stood := { row := routeUnderRow, standIns := [], harness := (true, "22f9a463a985452ba00487521a7793bbeb02911f0699ae285120748beeff1b30"), looks := false }, kinds := [], alts := [], laidByText := true, laidKinds := [.data, .pinned], laidTests := true, laidLooks := .later }
def RouteUnderCardSaid : Prop := Claim7.holds Tryd.pinned (.plain (OpenSpec.ofChange routeUnderSpec)) routeUnderCard

/-- THE SECOND FORM's CARD OF 'lockagelaw14.RouteAny'. -/
def routeAnyUptoCard : Claim7 := { stood := { row := routeAnyUptoRow, standIns := [], harness := (true, "22f9a463a985452ba00487521a7793bbeb02911f0699ae285120748beeff1b30"), looks := false }, kinds := [], alts := [], laidByText := true, laidKinds := [.data, .pinned], laidTests := true, laidLooks := .later }
def RouteAnyUptoCardSaid : Prop := Claim7.holds Tryd.pinned (.plain (OpenSpec.upto routeAnySpec)) routeAnyUptoCard

/-- THE SECOND FORM's CARD OF 'lockagelaw14.RouteMade'. -/
def routeMadeUptoCard : Claim7 := { stood := { row := routeMadeUptoRow, standIns := [], harness := (true, "22f9a463a985452ba00487521a7793bbeb02911f0699ae285120748beeff1b30"), looks := false }, kinds := [], alts := [], laidByText := true, laidKinds := [.data, .pinned], laidTests := true, laidLooks := .later }
def RouteMadeUptoCardSaid : Prop := Claim7.holds Tryd.pinned (.plain (OpenSpec.upto routeMadeSpec)) routeMadeUptoCard

/-- THE SECOND FORM's CARD OF 'lockagelaw14.RouteOrder'. -/
def routeOrderUptoCard : Claim7 := { stood := { row := routeOrderUptoRow, standIns := [], harness := (true, "22f9a463a985452ba00487521a7793bbeb02911f0699ae285120748beeff1b30"), looks := false }, kinds := [], alts := [], laidByText := true, laidKinds := [.data, .pinned], laidTests := true, laidLooks := .later }
def RouteOrderUptoCardSaid : Prop := Claim7.holds Tryd.pinned (.plain (OpenSpec.upto routeOrderSpec)) routeOrderUptoCard

/-- THE SECOND FORM's CARD OF 'lockagelaw14.RouteUnder'. -/
def routeUnderUptoCard : Claim7 := { stood := { row := routeUnderUptoRow, standIns := [], harness := (true, "22f9a463a985452ba00487521a7793bbeb02911f0699ae285120748beeff1b30"), looks := false }, kinds := [], alts := [], laidByText := true, laidKinds := [.data, .pinned], laidTests := true, laidLooks := .later }
def RouteUnderUptoCardSaid : Prop := Claim7.holds Tryd.pinned (.plain (OpenSpec.upto routeUnderSpec)) routeUnderUptoCard
end Rows
end Go.Proofs.YtoegjpfngmilhaaDoor
