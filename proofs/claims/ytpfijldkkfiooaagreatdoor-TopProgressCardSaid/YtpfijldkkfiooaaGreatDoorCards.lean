/-
  DERIVED. GIVEN WITH THE SEED: THE CARDS: each row of YtpfijldkkfiooaaGreatDoorRows.lean that lists a variable, with what it lists TIED to the program's text (the seventh form; the later family's looks); each row that meets fmt, with fmt's text TOLD by the authors' own Lean function (tested against real Go, not proved from fmt's source: count such statements apart). THE CARD IS WHAT COUNTS. Prove the row's statement (the work); the ties are given (YtpfijldkkfiooaaGreatDoorTie.lean); close each card by the builder's one call (the guide's Derived/Test/ToyasCard.lean, 'card_holds'). Laid BY PROGRAM, IN A SANDBOX (cutbox-door.mjs). By AI agents, Wed Nov 11 2026. No macro, syntax, notation, axiom, sorry.
-/
import Derived.Test.YtpfijldkkfiooaaGreatDoorRows
import GoSem.ClaimSeven
namespace Go.Proofs.YtpfijldkkfiooaaGreatDoor
namespace Rows

/-- THE TIED CARD OF 'quadrilletop.TopAgain'. -/
def topAgainCard : Claim7 := { stood := { row := topAgainRow, standIns := [], harness := (true, "c003083851c4145e9b485e1c10402ef697cc3a8e20588172964b099e0e01a0ae"), looks := true }, kinds := [], alts := [], laidByText := true, laidKinds := [.data, .data, .data, .listed, .data], laidTests := true, laidLooks := .later }
def TopAgainCardSaid : Prop := Claim7.holds Tryz.pinned (.plain (OpenSpec.ofChange topAgainSpec)) topAgainCard

/-- THE TIED CARD OF 'quadrilletop.TopAlone'. -/
def topAloneCard : Claim7 := { stood := { row := topAloneRow, standIns := [], harness := (true, "c003083851c4145e9b485e1c10402ef697cc3a8e20588172964b099e0e01a0ae"), looks := true }, kinds := [], alts := [], laidByText := true, laidKinds := [.data, .data, .data, .listed, .data], laidTests := true, laidLooks := .later }
def TopAloneCardSaid : Prop := Claim7.holds Tryz.pinned (.plain (OpenSpec.ofChange topAloneSpec)) topAloneCard

/-- THE TIED CARD OF 'quadrilletop.TopHome'. -/
def topHomeCard : Claim7 := { stood := { row := topHomeRow, standIns := [], harness := (true, "c003083851c4145e9b485e1c10402ef697cc3a8e20588172964b099e0e01a0ae"), looks := true }, kinds := [], alts := [], laidByText := true, laidKinds := [.data, .data, .data, .listed, .data], laidTests := true, laidLooks := .later }
def TopHomeCardSaid : Prop := Claim7.holds Tryz.pinned (.plain (OpenSpec.ofChange topHomeSpec)) topHomeCard

/-- THE TIED CARD OF 'quadrilletop.TopProgress'. -/
def topProgressCard : Claim7 := { stood := { row := topProgressRow, standIns := [], harness := (true, "c003083851c4145e9b485e1c10402ef697cc3a8e20588172964b099e0e01a0ae"), looks := true }, kinds := [], alts := [], laidByText := true, laidKinds := [.data, .data, .data, .listed, .data], laidTests := true, laidLooks := .later }
def TopProgressCardSaid : Prop := Claim7.holds Tryz.pinned (.plain (OpenSpec.ofChange topProgressSpec)) topProgressCard

/-- THE SECOND FORM's CARD OF 'quadrilletop.TopAgain'. -/
def topAgainUptoCard : Claim7 := { stood := { row := topAgainUptoRow, standIns := [], harness := (true, "c003083851c4145e9b485e1c10402ef697cc3a8e20588172964b099e0e01a0ae"), looks := true }, kinds := [], alts := [], laidByText := true, laidKinds := [.data, .data, .data, .listed, .data], laidTests := true, laidLooks := .later }
def TopAgainUptoCardSaid : Prop := Claim7.holds Tryz.pinned (.plain (OpenSpec.upto topAgainSpec)) topAgainUptoCard

/-- THE SECOND FORM's CARD OF 'quadrilletop.TopAlone'. -/
def topAloneUptoCard : Claim7 := { stood := { row := topAloneUptoRow, standIns := [], harness := (true, "c003083851c4145e9b485e1c10402ef697cc3a8e20588172964b099e0e01a0ae"), looks := true }, kinds := [], alts := [], laidByText := true, laidKinds := [.data, .data, .data, .listed, .data], laidTests := true, laidLooks := .later }
def TopAloneUptoCardSaid : Prop := Claim7.holds Tryz.pinned (.plain (OpenSpec.upto topAloneSpec)) topAloneUptoCard

/-- THE SECOND FORM's CARD OF 'quadrilletop.TopHome'. -/
def topHomeUptoCard : Claim7 := { stood := { row := topHomeUptoRow, standIns := [], harness := (true, "c003083851c4145e9b485e1c10402ef697cc3a8e20588172964b099e0e01a0ae"), looks := true }, kinds := [], alts := [], laidByText := true, laidKinds := [.data, .data, .data, .listed, .data], laidTests := true, laidLooks := .later }
def TopHomeUptoCardSaid : Prop := Claim7.holds Tryz.pinned (.plain (OpenSpec.upto topHomeSpec)) topHomeUptoCard

/-- THE SECOND FORM's CARD OF 'quadrilletop.TopProgress'. -/
def topProgressUptoCard : Claim7 := { stood := { row := topProgressUptoRow, standIns := [], harness := (true, "c003083851c4145e9b485e1c10402ef697cc3a8e20588172964b099e0e01a0ae"), looks := true }, kinds := [], alts := [], laidByText := true, laidKinds := [.data, .data, .data, .listed, .data], laidTests := true, laidLooks := .later }
def TopProgressUptoCardSaid : Prop := Claim7.holds Tryz.pinned (.plain (OpenSpec.upto topProgressSpec)) topProgressUptoCard
end Rows
end Go.Proofs.YtpfijldkkfiooaaGreatDoor
