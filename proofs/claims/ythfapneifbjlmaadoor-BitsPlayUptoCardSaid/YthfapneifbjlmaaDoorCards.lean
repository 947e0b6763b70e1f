/-
  DERIVED. GIVEN WITH THE SEED: THE CARDS: each row of YthfapneifbjlmaaDoorRows.lean that lists a variable, with what it lists TIED to the program's text (the seventh form; the later family's looks); each row that meets fmt, with fmt's text TOLD by the authors' own Lean function (tested against real Go, not proved from fmt's source: count such statements apart). THE CARD IS WHAT COUNTS. Prove the row's statement (the work); the ties are given (YthfapneifbjlmaaDoorTie.lean); close each card by the builder's one call (the guide's Derived/Test/ToyasCard.lean, 'card_holds'). Laid BY PROGRAM, IN A SANDBOX (cutbox-door.mjs). By AI agents, Wed Nov 11 2026. No macro, syntax, notation, axiom, sorry.
-/
import Derived.Test.YthfapneifbjlmaaDoorRows
import GoSem.ClaimSeven
namespace Go.Proofs.YthfapneifbjlmaaDoor
namespace Rows

/-- THE TIED CARD OF 'sextantlaw03.BitsSubsets'. -/
def bitsSubsetsCard : Claim7 := { stood := { row := bitsSubsetsRow, standIns := [], harness := (true, "d7ecfb738bf7ea5b7319125b1ad64f3d4b5ca58d78ad52cbd21884e56bf29758"), looks := false }, kinds := [], alts := [], laidByText := true, laidKinds := [.data], laidTests := true, laidLooks := .later }
def BitsSubsetsCardSaid : Prop := Claim7.holds Tryd.pinned (.plain (OpenSpec.ofChange bitsSubsetsSpec)) bitsSubsetsCard

/-- THE TIED CARD OF 'sextantlaw03.BitsOf'. -/
def bitsOfCard : Claim7 := { stood := { row := bitsOfRow, standIns := [], harness := (true, "d7ecfb738bf7ea5b7319125b1ad64f3d4b5ca58d78ad52cbd21884e56bf29758"), looks := false }, kinds := [], alts := [], laidByText := true, laidKinds := [.data], laidTests := true, laidLooks := .later }
def BitsOfCardSaid : Prop := Claim7.holds Tryd.pinned (.plain (OpenSpec.ofChange bitsOfSpec)) bitsOfCard

/-- THE TIED CARD OF 'sextantlaw03.BitsParts'. -/
def bitsPartsCard : Claim7 := { stood := { row := bitsPartsRow, standIns := [], harness := (true, "d7ecfb738bf7ea5b7319125b1ad64f3d4b5ca58d78ad52cbd21884e56bf29758"), looks := false }, kinds := [], alts := [], laidByText := true, laidKinds := [.data], laidTests := true, laidLooks := .later }
def BitsPartsCardSaid : Prop := Claim7.holds Tryd.pinned (.plain (OpenSpec.ofChange bitsPartsSpec)) bitsPartsCard

/-- THE TIED CARD OF 'sextantlaw03.BitsNobody'. -/
def bitsNobodyCard : Claim7 := { stood := { row := bitsNobodyRow, standIns := [], harness := (true, "d7ecfb738bf7ea5b7319125b1ad64f3d4b5ca58d78ad52cbd21884e56bf29758"), looks := false }, kinds := [], alts := [], laidByText := true, laidKinds := [.data], laidTests := true, laidLooks := .later }
def BitsNobodyCardSaid : Prop := Claim7.holds Tryd.pinned (.plain (OpenSpec.ofChange bitsNobodySpec)) bitsNobodyCard

/-- THE TIED CARD OF 'sextantlaw03.BitsPlay'. -/
def bitsPlayCard : Claim7 := { stood := { row := bitsPlayRow, standIns := [], harness := (true, "d7ecfb738bf7ea5b7319125b1ad64f3d4b5ca58d78ad52cbd21884e56bf29758"), looks := false }, kinds := [], alts := [], laidByText := true, laidKinds := [.data], laidTests := true, laidLooks := .later }
def BitsPlayCardSaid : Prop := Claim7.holds Tryd.pinned (.plain (OpenSpec.ofChange bitsPlaySpec)) bitsPlayCard

/-- THE SECOND FORM's CARD OF 'sextantlaw03.BitsSubsets'. -/
def bitsSubsetsUptoCard : Claim7 := { stood := { row := bitsSubsetsUptoRow, standIns := [], harness := (true, "d7ecfb738bf7ea5b7319125b1ad64f3d4b5ca58d78ad52cbd21884e56bf29758"), looks := false }, kinds := [], alts := [], laidByText := true, laidKinds := [.data], laidTests := true, laidLooks := .later }
def BitsSubsetsUptoCardSaid : Prop := Claim7.holds Tryd.pinned (.plain (OpenSpec.upto bitsSubsetsSpec)) bitsSubsetsUptoCard

/-- THE SECOND FORM's CARD OF 'sextantlaw03.BitsOf'. -/
def bitsOfUptoCard : Claim7 := { stood := { row := bitsOfUptoRow, standIns := [], harness := (true, "d7ecfb738bf7ea5b7319125b1ad64f3d4b5ca58d78ad52cbd21884e56bf29758"), looks := false }, kinds := [], alts := [], laidByText := true, laidKinds := [.data], laidTests := true, laidLooks := .later }
def BitsOfUptoCardSaid : Prop := Claim7.holds Tryd.pinned (.plain (OpenSpec.upto bitsOfSpec)) bitsOfUptoCard

/-- THE SECOND FORM's CARD OF 'sextantlaw03.BitsParts'. -/
def bitsPartsUptoCard : Claim7 := { stood := { row := bitsPartsUptoRow, standIns := [], harness := (true, "d7ecfb738bf7ea5b7319125b1ad64f3d4b5ca58d78ad52cbd21884e56bf29758"), looks := false }, kinds := [], alts := [], laidByText := true, laidKinds := [.data], laidTests := true, laidLooks := .later }
def BitsPartsUptoCardSaid : Prop := Claim7.holds Tryd.pinned (.plain (OpenSpec.upto bitsPartsSpec)) bitsPartsUptoCard

/-- THE SECOND FORM's CARD OF 'sextantlaw03.BitsNobody'. -/
def bitsNobodyUptoCard : Claim7 := { stood := { row := bitsNobodyUptoRow, standIns := [], harness := (true, "d7ecfb738bf7ea5b7319125b1ad64f3d4b5ca58d78ad52cbd21884e56bf29758"), looks := false }, kinds := [], alts := [], laidByText := true, laidKinds := [.data], laidTests := true, laidLooks := .later }
def BitsNobodyUptoCardSaid : Prop := Claim7.holds Tryd.pinned (.plain (OpenSpec.upto bitsNobodySpec)) bitsNobodyUptoCard

/-- THE SECOND FORM's CARD OF 'sextantlaw03.BitsPlay'. -/
def bitsPlayUptoCard : Claim7 := { stood := { row := bitsPlayUptoRow, standIns := [], harness := (true, "d7ecfb738bf7ea5b7319125b1ad64f3d4b5ca58d78ad52cbd21884e56bf29758"), looks := false }, kinds := [], alts := [], laidByText := true, laidKinds := [.data], laidTests := true, laidLooks := .later }
def BitsPlayUptoCardSaid : Prop := Claim7.holds Tryd.pinned (.plain (OpenSpec.upto bitsPlaySpec)) bitsPlayUptoCard
end Rows
end Go.Proofs.YthfapneifbjlmaaDoor
