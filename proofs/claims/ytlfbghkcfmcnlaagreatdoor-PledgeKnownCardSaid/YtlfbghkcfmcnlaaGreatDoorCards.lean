/-
  DERIVED. GIVEN WITH THE SEED: THE CARDS: each row of YtlfbghkcfmcnlaaGreatDoorRows.lean that lists a variable, with what it lists TIED to the program's text (the seventh form; the later family's looks); each row that meets fmt, with fmt's text TOLD by the authors' own Lean function (tested against real Go, not proved from fmt's source: count such statements apart). THE CARD IS WHAT COUNTS. Prove the row's statement (the work); the ties are given (YtlfbghkcfmcnlaaGreatDoorTie.lean); close each card by the builder's one call (the guide's Derived/Test/ToyasCard.lean, 'card_holds'). Laid BY PROGRAM, IN A SANDBOX (cutbox-door.mjs). By AI agents, Wed Nov 11 2026. No macro, syntax, notation, axiom, sorry.
-/
import Derived.Test.YtlfbghkcfmcnlaaGreatDoorRows
import GoSem.ClaimSeven
namespace Go.Proofs.YtlfbghkcfmcnlaaGreatDoor
namespace Rows

/-- THE TIED CARD OF 'lombardlaw01.PledgeTexts'. -/
def pledgeTextsCard : Claim7 := { stood := { row := pledgeTextsRow, standIns := [], harness := (true, "25316cc3095d61cde1903f4e9279ea966503e621fc6781a60833e0de5cdee46a"), looks := true }, kinds := [], alts := [], laidByText := true, laidKinds := [.data, .pinned], laidTests := true, laidLooks := .later }
def PledgeTextsCardSaid : Prop := Claim7.holds Tryz.pinned (.plain (OpenSpec.ofChange pledgeTextsSpec)) pledgeTextsCard

/-- THE TIED CARD OF 'lombardlaw01.PledgeBack'. -/
def pledgeBackCard : Claim7 := { stood := { row := pledgeBackRow, standIns := [], harness := (true, "25316cc3095d61cde1903f4e9279ea966503e621fc6781a60833e0de5cdee46a"), looks := true }, kinds := [], alts := [], laidByText := true, laidKinds := [.data, .pinned], laidTests := true, laidLooks := .later }
def PledgeBackCardSaid : Prop := Claim7.holds Tryz.pinned (.plain (OpenSpec.ofChange pledgeBackSpec)) pledgeBackCard

/-- THE TIED CARD OF 'lombardlaw01.PledgeKnown'. -/
def pledgeKnownCard : Claim7 := { stood := { row := pledgeKnownRow, standIns := [], harness := (true, "25316cc3095d61cde1903f4e9279ea966503e621fc6781a60833e0de5cdee46a"), looks := true }, kinds := [], alts := [], laidByText := true, laidKinds := [.data, .pinned], laidTests := true, laidLooks := .later }
def PledgeKnownCardSaid : Prop := Claim7.holds Tryz.pinned (.plain (OpenSpec.ofChange pledgeKnownSpec)) pledgeKnownCard

/-- THE SECOND FORM's CARD OF 'lombardlaw01.PledgeTexts'. -/
def pledgeTextsUptoCard : Claim7 := { stood := { row := pledgeTextsUptoRow, standIns := [], harness := (true, "25316cc3095d61cde1903f4e9279ea966503e621fc6781a60833e0de5cdee46a"), looks := true }, kinds := [], alts := [], laidByText := true, laidKinds := [.data, .pinned], laidTests := true, laidLooks := .later }
def PledgeTextsUptoCardSaid : Prop := Claim7.holds Tryz.pinned (.plain (OpenSpec.upto pledgeTextsSpec)) pledgeTextsUptoCard

/-- THE SECOND FORM's CARD OF 'lombardlaw01.PledgeBack'. -/
def pledgeBackUptoCard : Claim7 := { stood := { row := pledgeBackUptoRow, standIns := [], harness := (true, "25316cc3095d61cde1903f4e9279ea966503e621fc6781a60833e0de5cdee46a"), looks := true }, kinds := [], alts := [], laidByText := true, laidKinds := [.data, .pinned], laidTests := true, laidLooks := .later }
def PledgeBackUptoCardSaid : Prop := Claim7.holds Tryz.pinned (.plain (OpenSpec.upto pledgeBackSpec)) pledgeBackUptoCard

/-- THE SECOND FORM's CARD OF 'lombardlaw01.PledgeKnown'. -/
def pledgeKnownUptoCard : Claim7 := { stood := { row := pledgeKnownUptoRow, standIns := [], harness := (true, "25316cc3095d61cde1903f4e9279ea966503e621fc6781a60833e0de5cdee46a"), looks := true }, kinds := [], alts := [], laidByText := true, laidKinds := [.data, .pinned], laidTests := true, laidLooks := .later }
def PledgeKnownUptoCardSaid : Prop := Claim7.holds Tryz.pinned (.plain (OpenSpec.upto pledgeKnownSpec)) pledgeKnownUptoCard
end Rows
end Go.Proofs.YtlfbghkcfmcnlaaGreatDoor
