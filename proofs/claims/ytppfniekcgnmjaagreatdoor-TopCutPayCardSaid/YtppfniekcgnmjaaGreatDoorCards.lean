/-
  DERIVED. GIVEN WITH THE SEED: THE CARDS: each row of YtppfniekcgnmjaaGreatDoorRows.lean that lists a variable, with what it lists TIED to the program's text (the seventh form; the later family's looks); each row that meets fmt, with fmt's text TOLD by the authors' own Lean function (tested against real Go, not proved from fmt's source: count such statements apart). THE CARD IS WHAT COUNTS. Prove the row's statement (the work); the ties are given (YtppfniekcgnmjaaGreatDoorTie.lean); close each card by the builder's one call (the guide's Derived/Test/ToyasCard.lean, 'card_holds'). Laid BY PROGRAM, IN A SANDBOX (cutbox-door.mjs). By AI agents, Wed Nov 11 2026. No macro, syntax, notation, axiom, sorry.
-/
import Derived.Test.YtppfniekcgnmjaaGreatDoorRows
import GoSem.ClaimSeven
namespace Go.Proofs.YtppfniekcgnmjaaGreatDoor
namespace Rows

/-- THE TIED CARD OF 'lombardtop.TopCutPay'. -/
def topCutPayCard : Claim7 := { stood := { row := topCutPayRow, standIns := [], harness := (true, "e014ca9e1eb5e38ff3d79d27812e397d094d240ec74105150b330ac55eb679a3"), looks := false }, kinds := [], alts := [], laidByText := true, laidKinds := [.funcs], laidTests := true, laidLooks := .later }
def TopCutPayCardSaid : Prop := Claim7.holds Tryz.pinned (.plain (OpenSpec.ofChange topCutPaySpec)) topCutPayCard

/-- THE TIED CARD OF 'lombardtop.TopSold'. -/
def topSoldCard : Claim7 := { stood := { row := topSoldRow, standIns := [], harness := (true, "e014ca9e1eb5e38ff3d79d27812e397d094d240ec74105150b330ac55eb679a3"), looks := false }, kinds := [], alts := [], laidByText := true, laidKinds := [.funcs], laidTests := true, laidLooks := .later }
def TopSoldCardSaid : Prop := Claim7.holds Tryz.pinned (.plain (OpenSpec.ofChange topSoldSpec)) topSoldCard

/-- THE SECOND FORM's CARD OF 'lombardtop.TopCutPay'. -/
def topCutPayUptoCard : Claim7 := { stood := { row := topCutPayUptoRow, standIns := [], harness := (true, "e014ca9e1eb5e38ff3d79d27812e397d094d240ec74105150b330ac55eb679a3"), looks := false }, kinds := [], alts := [], laidByText := true, laidKinds := [.funcs], laidTests := true, laidLooks := .later }
def TopCutPayUptoCardSaid : Prop := Claim7.holds Tryz.pinned (.plain (OpenSpec.upto topCutPaySpec)) topCutPayUptoCard

/-- THE SECOND FORM's CARD OF 'lombardtop.TopSold'. -/
def topSoldUptoCard : Claim7 := { stood := { row := topSoldUptoRow, standIns := [], harness := (true, "e014ca9e1eb5e38ff3d79d27812e397d094d240ec74105150b330ac55eb679a3"), looks := false }, kinds := [], alts := [], laidByText := true, laidKinds := [.funcs], laidTests := true, laidLooks := .later }
def TopSoldUptoCardSaid : Prop := Claim7.holds Tryz.pinned (.plain (OpenSpec.upto topSoldSpec)) topSoldUptoCard
end Rows
end Go.Proofs.YtppfniekcgnmjaaGreatDoor
