/-
  DERIVED. GIVEN WITH THE SEED: THE CARDS: each row of YthidminepegnoaaGreatDoorRows.lean that lists a variable, with what it lists TIED to the program's text (the seventh form; the later family's looks); each row that meets fmt, with fmt's text TOLD by the authors' own Lean function (tested against real Go, not proved from fmt's source: count such statements apart). THE CARD IS WHAT COUNTS. Prove the row's statement (the work); the ties are given (YthidminepegnoaaGreatDoorTie.lean); close each card by the builder's one call (the guide's Derived/Test/ToyasCard.lean, 'card_holds'). Laid BY PROGRAM, IN A SANDBOX (cutbox-door.mjs). By AI agents, Wed Nov 11 2026. No macro, syntax, notation, axiom, sorry.
-/
import Derived.Test.YthidminepegnoaaGreatDoorRows
import GoSem.ClaimSeven
namespace Go.Proofs.YthidminepegnoaaGreatDoor
namespace Rows

/-- THE TIED CARD OF 'tesseralaw22.TxnPlays'. -/
def txnPlaysCard : Claim7 := { stood := { row := txnPlaysRow, standIns := [], harness := (true, "3ac1308205891b1a20791941fa7fc0898bbe0d4554a25a4f6ddef82d9d2bd979"), looks := false }, kinds := [], alts := [], laidByText := true, laidKinds := [.data, .pinned], laidTests := true, laidLooks := .later }
def TxnPlaysCardSaid : Prop := Claim7.holds Tryz.pinned (.plain (OpenSpec.ofChange txnPlaysSpec)) txnPlaysCard

/-- THE TIED CARD OF 'tesseralaw22.TxnSteps'. -/
def txnStepsCard : Claim7 := { stood := { row := txnStepsRow, standIns := [], harness := (true, "3ac1308205891b1a20791941fa7fc0898bbe0d4554a25a4f6ddef82d9d2bd979"), looks := false }, kinds := [], alts := [], laidByText := true, laidKinds := [.data, .pinned], laidTests := true, laidLooks := .later }
def TxnStepsCardSaid : Prop := Claim7.holds Tryz.pinned (.plain (OpenSpec.ofChange txnStepsSpec)) txnStepsCard

/-- THE SECOND FORM's CARD OF 'tesseralaw22.TxnPlays'. -/
def txnPlaysUptoCard : Claim7 := { stood := { row := txnPlaysUptoRow, standIns := [], harness := (true, "3ac1308205891b1a20791941fa7fc0898bbe0d4554a25a4f6ddef82d9d2bd979"), looks := false }, kinds := [], alts := [], laidByText := true, laidKinds := [.data, .pinned], laidTests := true, laidLooks := .later }
def TxnPlaysUptoCardSaid : Prop := Claim7.holds Tryz.pinned (.plain (OpenSpec.upto txnPlaysSpec)) txnPlaysUptoCard

/-- THE SECOND FORM's CARD OF 'tesseralaw22.TxnSteps'. -/
def txnStepsUptoCard : Claim7 := { stood := { row := txnStepsUptoRow, standIns := [], harness := (true, "3ac1308205891b1a20791941fa7fc0898bbe0d4554a25a4f6ddef82d9d2bd979"), looks := false }, kinds := [], alts := [], laidByText := true, laidKinds := [.data, .pinned], laidTests := true, laidLooks := .later }
def TxnStepsUptoCardSaid : Prop := Claim7.holds Tryz.pinned (.plain (OpenSpec.upto txnStepsSpec)) txnStepsUptoCard
end Rows
end Go.Proofs.YthidminepegnoaaGreatDoor
