/-
  DERIVED. GIVEN WITH THE SEED: THE CARDS: each row of YtcdfomoglkhboaaDoorRows.lean that lists a variable, with what it lists TIED to the program's text (the seventh form; the later family's looks); each row that meets fmt, with fmt's text TOLD by the authors' own Lean function (tested against real Go, not proved from fmt's source: count such statements apart). THE CARD IS WHAT COUNTS. Prove the row's statement (the work); the ties are given (YtcdfomoglkhboaaDoorTie.lean); close each card by the builder's one call (the guide's Derived/Test/ToyasCard.lean, 'card_holds'). Laid BY PROGRAM, IN A SANDBOX (cutbox-door.mjs). By AI agents, Wed Nov 11 2026. No macro, syntax, notation, axiom, sorry.
-/
import Derived.Test.YtcdfomoglkhboaaDoorRows
import GoSem.ClaimSeven
namespace Go.Proofs.YtcdfomoglkhboaaDoor
namespace Rows

/-- THE TIED CARD OF 'laws.FnExactInsText'. -/
def fnExactInsTextCard : Claim7 := { stood := { row := fnExactInsTextRow, standIns := [], harness := (true, "37c6dd113489aa38a5de7502071f4485bc3610212fa3ca3a8a8326148173470b"), looks := true }, kinds := [], alts := [], laidByText := true, laidKinds := [.data, .data, .data], laidTests := true, laidLooks := .later }
def FnExactInsTextCardSaid : Prop := Claim7.holds Tryd.pinned (.plain (OpenSpec.ofChange fnExactInsTextSpec)) fnExactInsTextCard

/-- THE TIED CARD OF 'laws.FnExactPrgPrint'. -/
def fnExactPrgPrintCard : Claim7 := { stood := { row := fnExactPrgPrintRow, standIns := [], harness := (true, "37c6dd113489aa38a5de7502071f4485bc3610212fa3ca3a8a8326148173470b"), looks := true }, kinds := [], alts := [], laidByText := true, laidKinds := [.data, .data, .data], laidTests := true, laidLooks := .later }
def FnExactPrgPrintCardSaid : Prop := Claim7.holds Tryd.pinned (.plain (OpenSpec.ofChange fnExactPrgPrintSpec)) fnExactPrgPrintCard

/-- THE SECOND FORM's CARD OF 'laws.FnExactInsText'. -/
def fnExactInsTextUptoCard : Claim7 := { stood := { row := fnExactInsTextUptoRow, standIns := [], harness := (true, "37c6dd113489aa38a5de7502071f4485bc3610212fa3ca3a8a8326148173470b"), looks := true }, kinds := [], alts := [], laidByText := true, laidKinds := [.data, .data, .data], laidTests := true, laidLooks := .later }
def FnExactInsTextUptoCardSaid : Prop := Claim7.holds Tryd.pinned (.plain (OpenSpec.upto fnExactInsTextSpec)) fnExactInsTextUptoCard

/-- THE SECOND FORM's CARD OF 'laws.FnExactPrgPrint'. -/
def fnExactPrgPrintUptoCard : Claim7 := { stood := { row := fnExactPrgPrintUptoRow, standIns := [], harness := (true, "37c6dd113489aa38a5de7502071f4485bc3610212fa3ca3a8a8326148173470b"), looks := true }, kinds := [], alts := [], laidByText := true, laidKinds := [.data, .data, .data], laidTests := true, laidLooks := .later }
def FnExactPrgPrintUptoCardSaid : Prop := Claim7.holds Tryd.pinned (.plain (OpenSpec.upto fnExactPrgPrintSpec)) fnExactPrgPrintUptoCard
end Rows
end Go.Proofs.YtcdfomoglkhboaaDoor
