/-
  DERIVED. GIVEN WITH THE SEED: THE CARDS: each row of YthamnnhpagllcaaDoorRows.lean that lists a variable, with what it lists TIED to the program's text (the seventh form; the later family's looks); each row that meets fmt, with fmt's text TOLD by the authors' own Lean function (tested against real Go, not proved from fmt's source: count such statements apart). THE CARD IS WHAT COUNTS. Prove the row's statement (the work); the ties are given (YthamnnhpagllcaaDoorTie.lean); close each card by the builder's one call (the guide's Derived/Test/ToyasCard.lean, 'card_holds'). Laid BY PROGRAM, IN A SANDBOX (cutbox-door.mjs). By AI agents, Wed Nov 11 2026. No macro, syntax, notation, axiom, sorry.
-/
import Derived.Test.YthamnnhpagllcaaDoorRows
import GoSem.ClaimSeven
namespace Go.Proofs.YthamnnhpagllcaaDoor
namespace Rows

/-- THE TIED CARD OF 'haversacklaw6.FaultWraps'. -/
def faultWrapsCard : Claim7 := { stood := { row := faultWrapsRow, standIns := [], harness := (true, "723eaedc3f553d2c55d2fddcf4cb7f7acac469db6d2bcc6cd83a002f51cac668"), looks := true }, kinds := [], alts := [], laidByText := true, laidKinds := [.data, .data, .data, .handle], laidTests := true, laidLooks := .later }
def FaultWrapsCardSaid : Prop := Claim7.holds Tryd.pinned (.plain (OpenSpec.ofChange faultWrapsSpec)) faultWrapsCard

/-- THE TIED CARD OF 'haversacklaw6.FaultAs'. -/
def faultAsCard : Claim7 := { stood := { row := faultAsRow, standIns := [], harness := (true, "723eaedc3f553d2c55d2fddcf4cb7f7acac469db6d2bcc6cd83a002f51cac668"), looks := true }, kinds := [], alts := [], laidByText := true, laidKinds := [.data, .data, .data, .handle], laidTests := true, laidLooks := .later }
def FaultAsCardSaid : Prop := Claim7.holds Tryd.pinned (.plain (OpenSpec.ofChange faultAsSpec)) faultAsCard

/-- THE TIED CARD OF 'haversacklaw6.FaultJoins'. -/
def faultJoinsCard : Claim7 := { stood := { row := faultJoinsRow, standIns := [], harness := (true, "723eaedc3f553d2c55d2fddcf4cb7f7acac469db6d2bcc6cd83a002f51cac668"), looks := true }, kinds := [], alts := [], laidByText := true, laidKinds := [.data, .data, .data, .handle], laidTests := true, laidLooks := .later }
def FaultJoinsCardSaid : Prop := Claim7.holds Tryd.pinned (.plain (OpenSpec.ofChange faultJoinsSpec)) faultJoinsCard

/-- THE TIED CARD OF 'haversacklaw6.FaultNested'. -/
def faultNestedCard : Claim7 := { stood := { row := faultNestedRow, standIns := [], harness := (true, "723eaedc3f553d2c55d2fddcf4cb7f7acac469db6d2bcc6cd83a002f51cac668"), looks := true }, kinds := [], alts := [], laidByText := true, laidKinds := [.data, .data, .data, .handle], laidTests := true, laidLooks := .later }
def FaultNestedCardSaid : Prop := Claim7.holds Tryd.pinned (.plain (OpenSpec.ofChange faultNestedSpec)) faultNestedCard

/-- THE SECOND FORM's CARD OF 'haversacklaw6.FaultWraps'. -/
def faultWrapsUptoCard : Claim7 := { stood := { row := faultWrapsUptoRow, standIns := [], harness := (true, "723eaedc3f553d2c55d2fddcf4cb7f7acac469db6d2bcc6cd83a002f51cac668"), looks := true }, kinds := [], alts := [], laidByText := true, laidKinds := [.data, .data, .data, .handle], laidTests := true, laidLooks := .later }
def FaultWrapsUptoCardSaid : Prop := Claim7.holds Tryd.pinned (.plain (OpenSpec.upto faultWrapsSpec)) faultWrapsUptoCard

/-- THE SECOND FORM's CARD OF 'haversacklaw6.FaultAs'. -/
def faultAsUptoCard : Claim7 := { stood := { row := faultAsUptoRow, standIns := [], harness := (true, "723eaedc3f553d2c55d2fddcf4cb7f7acac469db6d2bcc6cd83a002f51cac668"), looks := true }, kinds := [], alts := [], laidByText := true, laidKinds := [.data, .data, .data, .handle], laidTests := true, laidLooks := .later }
def FaultAsUptoCardSaid : Prop := Claim7.holds Tryd.pinned (.plain (OpenSpec.upto faultAsSpec)) faultAsUptoCard

/-- THE SECOND FORM's CARD OF 'haversacklaw6.FaultJoins'. -/
def faultJoinsUptoCard : Claim7 := { stood := { row := faultJoinsUptoRow, standIns := [], harness := (true, "723eaedc3f553d2c55d2fddcf4cb7f7acac469db6d2bcc6cd83a002f51cac668"), looks := true }, kinds := [], alts := [], laidByText := true, laidKinds := [.data, .data, .data, .handle], laidTests := true, laidLooks := .later }
def FaultJoinsUptoCardSaid : Prop := Claim7.holds Tryd.pinned (.plain (OpenSpec.upto faultJoinsSpec)) faultJoinsUptoCard

/-- THE SECOND FORM's CARD OF 'haversacklaw6.FaultNested'. -/
def faultNestedUptoCard : Claim7 := { stood := { row := faultNestedUptoRow, standIns := [], harness := (true, "723eaedc3f553d2c55d2fddcf4cb7f7acac469db6d2bcc6cd83a002f51cac668"), looks := true }, kinds := [], alts := [], laidByText := true, laidKinds := [.data, .data, .data, .handle], laidTests := true, laidLooks := .later }
def FaultNestedUptoCardSaid : Prop := Claim7.holds Tryd.pinned (.plain (OpenSpec.upto faultNestedSpec)) faultNestedUptoCard
end Rows
end Go.Proofs.YthamnnhpagllcaaDoor
