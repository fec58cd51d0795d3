/-
  DERIVED. GIVEN WITH THE SEED: THE CARDS: each row of YtbafdijklcoeoaaDoorRows.lean that lists a variable, with what it lists TIED to the program's text (the seventh form; the later family's looks); each row that meets fmt, with fmt's text TOLD by the authors' own Lean function (tested against real Go, not proved from fmt's source: count such statements apart). THE CARD IS WHAT COUNTS. Prove the row's statement (the work); the ties are given (YtbafdijklcoeoaaDoorTie.lean); close each card by the builder's one call (the guide's Derived/Test/ToyasCard.lean, 'card_holds'). Laid BY PROGRAM, IN A SANDBOX (cutbox-door.mjs). By AI agents, Wed Nov 11 2026. No macro, syntax, notation, axiom, sorry.
-/
import Derived.Test.YtbafdijklcoeoaaDoorRows
import GoSem.ClaimSeven
namespace Go.Proofs.YtbafdijklcoeoaaDoor
namespace Rows

/-- THE TIED CARD OF 'stickfullaw02.UtfDecodes'. -/
def utfDecodesCard : Claim7 := { stood := { row := utfDecodesRow, standIns := [], harness := (true, "7dd60580667a230b85fad35f2402e63b93e441170d750063cdc37dfd045c6521"), looks := false }, kinds := [], alts := [], laidByText := true, laidKinds := [.data, .data, .pinned], laidTests := true, laidLooks := .later }
def UtfDecodesCardSaid : Prop := Claim7.holds Tryd.pinned (.plain (OpenSpec.ofChange utfDecodesSpec)) utfDecodesCard

/-- THE TIED CARD OF 'stickfullaw02.UtfEncodes'. -/
def utfEncodesCard : Claim7 := { stood := { row := utfEncodesRow, standIns := [], harness := (true, "7dd60580667a230b85fad35f2402e63b93e441170d750063cdc37dfd045c6521"), looks := false }, kinds := [], alts := [], laidByText := true, laidKinds := [.data, .data, .pinned], laidTests := true, laidLooks := .later }
def UtfEncodesCardSaid : Prop := Claim7.holds Tryd.pinned (.plain (OpenSpec.ofChange utfEncodesSpec)) utfEncodesCard

/-- THE TIED CARD OF 'stickfullaw02.UtfWhole'. -/
def utfWholeCard : Claim7 := { stood := { row := utfWholeRow, standIns := [], harness := (true, "7dd60580667a230b85fad35f2402e63b93e441170d750063cdc37dfd045c6521"), looks := false }, kinds := [], alts := [], laidByText := true, laidKinds := [.data, .data, .pinned], laidTests := true, laidLooks := .later }
def UtfWholeCardSaid : Prop := Claim7.holds Tryd.pinned (.plain (OpenSpec.ofChange utfWholeSpec)) utfWholeCard

/-- THE TIED CARD OF 'stickfullaw02.UtfBehind'. -/
def utfBehindCard : Claim7 := { stood := { row := utfBehindRow, standIns := [], harness := (true, "7dd60580667a230b85fad35f2402e63b93e441170d750063cdc37dfd045c6521"), looks := false }, kinds := [], alts := [], laidByText := true, laidKinds := [.data, .data, .pinned], laidTests := true, laidLooks := .later }
def UtfBehindCardSaid : Prop := Claim7.holds Tryd.pinned (.plain (OpenSpec.ofChange utfBehindSpec)) utfBehindCard

/-- THE TIED CARD OF 'stickfullaw02.UtfAgain'. -/
def utfAgainCard : Claim7 := { stood := { row := utfAgainRow, standIns := [], harness := (true, "7dd60580667a230b85fad35f2402e63b93e441170d750063cdc37dfd045c6521"), looks := false }, kinds := [], alts := [], laidByText := true, laidKinds := [.data, .data, .pinned], laidTests := true, laidLooks := .later }
def UtfAgainCardSaid : Prop := Claim7.holds Tryd.pinned (.plain (OpenSpec.ofChange utfAgainSpec)) utfAgainCard

/-- THE TIED CARD OF 'stickfullaw02.UtfBytes'. -/
def utfBytesCard : Claim7 := { stood := { row := utfBytesRow, standIns := [], harness := (true, "7dd60580667a230b85fad35f2402e63b93e441170d750063cdc37dfd045c6521"), looks := false }, kinds := [], alts := [], laidByText := true, laidKinds := [.data, .data, .pinned], laidTests := true, laidLooks := .later }
def UtfBytesCardSaid : Prop := Claim7.holds Tryd.pinned (.plain (OpenSpec.ofChange utfBytesSpec)) utfBytesCard

/-- THE SECOND FORM's CARD OF 'stickfullaw02.UtfDecodes'. -/
def utfDecodesUptoCard : Claim7 := { stood := { row := utfDecodesUptoRow, standIns := [], harness := (true, "7dd60580667a230b85fad35f2402e63b93e441170d750063cdc37dfd045c6521"), looks := false }, kinds := [], alts := [], laidByText := true, laidKinds := [.data, .data, .pinned], laidTests := true, laidLooks := .later }
def UtfDecodesUptoCardSaid : Prop := Claim7.holds Tryd.pinned (.plain (OpenSpec.upto utfDecodesSpec)) utfDecodesUptoCard

/-- THE SECOND FORM's CARD OF 'stickfullaw02.UtfEncodes'. -/
def utfEncodesUptoCard : Claim7 := { stood := { row := utfEncodesUptoRow, standIns := [], harness := (true, "7dd60580667a230b85fad35f2402e63b93e441170d750063cdc37dfd045c6521"), looks := false }, kinds := [], alts := [], laidByText := true, laidKinds := [.data, .data, .pinned], laidTests := true, laidLooks := .later }
def UtfEncodesUptoCardSaid : Prop := Claim7.holds Tryd.pinned (.plain (OpenSpec.upto utfEncodesSpec)) utfEncodesUptoCard

/-- THE SECOND FORM's CARD OF 'stickfullaw02.UtfWhole'. -/
def utfWholeUptoCard : Claim7 := { stood := { row := utfWholeUptoRow, standIns := [], harness := (true, "7dd60580667a230b85fad35f2402e63b93e441170d750063cdc37dfd045c6521"), looks := false }, kinds := [], alts := [], laidByText := true, laidKinds := [.data, .data, .pinned], laidTests := true, laidLooks := .later }
def UtfWholeUptoCardSaid : Prop := Claim7.holds Tryd.pinned (.plain (OpenSpec.upto utfWholeSpec)) utfWholeUptoCard

/-- THE SECOND FORM's CARD OF 'stickfullaw02.UtfBehind'. -/
def utfBehindUptoCard : Claim7 := { stood := { row := utfBehindUptoRow, standIns := [], harness := (true, "7dd60580667a230b85fad35f2402e63b93e441170d750063cdc37dfd045c6521"), looks := false }, kinds := [], alts := [], laidByText := true, laidKinds := [.data, .data, .pinned], laidTests := true, laidLooks := .later }
def UtfBehindUptoCardSaid : Prop := Claim7.holds Tryd.pinned (.plain (OpenSpec.upto utfBehindSpec)) utfBehindUptoCard

/-- THE SECOND FORM's CARD OF 'stickfullaw02.UtfAgain'. -/
def utfAgainUptoCard : Claim7 := { stood := { row := utfAgainUptoRow, standIns := [], harness := (true, "7dd60580667a230b85fad35f2402e63b93e441170d750063cdc37dfd045c6521"), looks := false }, kinds := [], alts := [], laidByText := true, laidKinds := [.data, .data, .pinned], laidTests := true, laidLooks := .later }
def UtfAgainUptoCardSaid : Prop := Claim7.holds Tryd.pinned (.plain (OpenSpec.upto utfAgainSpec)) utfAgainUptoCard

/-- THE SECOND FORM's CARD OF 'stickfullaw02.UtfBytes'. -/
def utfBytesUptoCard : Claim7 := { stood := { row := utfBytesUptoRow, standIns := [], harness := (true, "7dd60580667a230b85fad35f2402e63b93e441170d750063cdc37dfd045c6521"), looks := false }, kinds := [], alts := [], laidByText := true, laidKinds := [.data, .data, .pinned], laidTests := true, laidLooks := .later }
def UtfBytesUptoCardSaid : Prop := Claim7.holds Tryd.pinned (.plain (OpenSpec.upto utfBytesSpec)) utfBytesUptoCard
end Rows
end Go.Proofs.YtbafdijklcoeoaaDoor
