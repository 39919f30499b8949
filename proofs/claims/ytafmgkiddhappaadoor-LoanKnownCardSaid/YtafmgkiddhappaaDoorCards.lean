/-
  DERIVED. GIVEN WITH THE SEED: THE CARDS: each row of YtafmgkiddhappaaDoorRows.lean that lists a variable, with what it lists TIED to the program's text (the seventh form; the later family's looks); each row that meets fmt, with fmt's text TOLD by the authors' own Lean function (tested against real Go, not proved from fmt's source: count such statements apart). THE CARD IS WHAT COUNTS. Prove the row's statement (the work); the ties are given (YtafmgkiddhappaaDoorTie.lean); close each card by the builder's one call (the guide's Derived/Test/ToyasCard.lean, 'card_holds'). Laid BY PROGRAM, IN A SANDBOX (cutbox-door.mjs). By AI agents, Wed Nov 11 2026. No macro, syntax, notation, axiom, sorry.
-/
import Derived.Test.YtafmgkiddhappaaDoorRows
import GoSem.ClaimSeven
namespace Go.Proofs.YtafmgkiddhappaaDoor
namespace Rows

/-- THE TIED CARD OF 'lombardlaw02.LoanValues'. -/
def loanValuesCard : Claim7 := { stood := { row := loanValuesRow, standIns := [], harness := (true, "65b3b36db14a972528f0a67e1e42ef034977a6fb90fa564422fadd4c72f2e963"), looks := false }, kinds := [], alts := [], laidByText := true, laidKinds := [.funcs], laidTests := true, laidLooks := .later }
def LoanValuesCardSaid : Prop := Claim7.holds Tryd.pinned (.plain (OpenSpec.ofChange loanValuesSpec)) loanValuesCard

/-- THE TIED CARD OF 'lombardlaw02.LoanKeeps'. -/
def loanKeepsCard : Claim7 := { stood := { row := loanKeepsRow, standIns := [], harness := (true, "65b3b36db14a972528f0a67e1e42ef034977a6fb90fa564422fadd4c72f2e963"), looks := false }, kinds := [], alts := [], laidByText := true, laidKinds := [.funcs], laidTests := true, laidLooks := .later }
def LoanKeepsCardSaid : Prop := Claim7.holds Tryd.pinned (.plain (OpenSpec.ofChange loanKeepsSpec)) loanKeepsCard

/-- THE TIED CARD OF 'lombardlaw02.LoanTrue'. -/
def loanTrueCard : Claim7 := { stood := { row := loanTrueRow, standIns := [], harness := (true, "65b3b36db14a972528f0a67e1e42ef034977a6fb90fa564422fadd4c72f2e963"), looks := false }, kinds := [], alts := [], laidByText := true, laidKinds := [.funcs], laidTests := true, laidLooks := .later }
def LoanTrueCardSaid : Prop := Claim7.holds Tryd.pinned (.plain (OpenSpec.ofChange loanTrueSpec)) loanTrueCard

/-- THE TIED CARD OF 'lombardlaw02.LoanFair'. -/
def loanFairCard : Claim7 := { stood := { row := loanFairRow, standIns := [], harness := (true, "65b3b36db14a972528f0a67e1e42ef034977a6fb90fa564422fadd4c72f2e963"), looks := false }, kinds := [], alts := [], laidByText := true, laidKinds := [.funcs], laidTests := true, laidLooks := .later }
def LoanFairCardSaid : Prop := Claim7.holds Tryd.pinned (.plain (OpenSpec.ofChange loanFairSpec)) loanFairCard

/-- THE TIED CARD OF 'lombardlaw02.LoanEarly'. -/
def loanEarlyCard : Claim7 := { stood := { row := loanEarlyRow, standIns := [], harness := (true, "65b3b36db14a972528f0a67e1e42ef034977a6fb90fa564422fadd4c72f2e963"), looks := false }, kinds := [], alts := [], laidByText := true, laidKinds := [.funcs], laidTests := true, laidLooks := .later }
def LoanEarlyCardSaid : Prop := Claim7.holds Tryd.pinned (.plain (OpenSpec.ofChange loanEarlySpec)) loanEarlyCard

/-- THE TIED CARD OF 'lombardlaw02.LoanHeld'. -/
def loanHeldCard : Claim7 := { stood := { row := loanHeldRow, standIns := [], harness := (true, "65b3b36db14a972528f0a67e1e42ef034977a6fb90fa564422fadd4c72f2e963"), looks := false }, kinds := [], alts := [], laidByText := true, laidKinds := [.funcs], laidTests := true, laidLooks := .later }
def LoanHeldCardSaid : Prop := Claim7.holds Tryd.pinned (.plain (OpenSpec.ofChange loanHeldSpec)) loanHeldCard

/-- THE TIED CARD OF 'lombardlaw02.LoanFewest'. -/
def loanFewestCard : Claim7 := { stood := { row := loanFewestRow, standIns := [], harness := (true, "65b3b36db14a972528f0a67e1e42ef034977a6fb90fa564422fadd4c72f2e963"), looks := false }, kinds := [], alts := [], laidByText := true, laidKinds := [.funcs], laidTests := true, laidLooks := .later }
def LoanFewestCardSaid : Prop := Claim7.holds Tryd.pinned (.plain (OpenSpec.ofChange loanFewestSpec)) loanFewestCard

/-- THE TIED CARD OF 'lombardlaw02.LoanRuns'. -/
def loanRunsCard : Claim7 := { stood := { row := loanRunsRow, standIns := [], harness := (true, "65b3b36db14a972528f0a67e1e42ef034977a6fb90fa564422fadd4c72f2e963"), looks := false }, kinds := [], alts := [], laidByText := true, laidKinds := [.funcs], laidTests := true, laidLooks := .later }
def LoanRunsCardSaid : Prop := Claim7.holds Tryd.pinned (.plain (OpenSpec.ofChange loanRunsSpec)) loanRunsCard

/-- THE TIED CARD OF 'lombardlaw02.LoanLaw'. -/
def loanLawCard : Claim7 := { stood := { row := loanLawRow, standIns := [], harness := (true, "65b3b36db14a972528f0a67e1e42ef034977a6fb90fa564422fadd4c72f2e963"), looks := false }, kinds := [], alts := [], laidByText := true, laidKinds := [.funcs], laidTests := true, laidLooks := .later }
def LoanLawCardSaid : Prop := Claim7.holds Tryd.pinned (.plain (OpenSpec.ofChange loanLawSpec)) loanLawCard

/-- THE TIED CARD OF 'lombardlaw02.LoanOnce'. -/
def loanOnceCard : Claim7 := { stood := { row := loanOnceRow, standIns := [], harness := (true, "65b3b36db14a972528f0a67e1e42ef034977a6fb90fa564422fadd4c72f2e963"), looks := false }, kinds := [], alts := [], laidByText := true, laidKinds := [.funcs], laidTests := true, laidLooks := .later }
def LoanOnceCardSaid : Prop := Claim7.holds Tryd.pinned (.plain (OpenSpec.ofChange loanOnceSpec)) loanOnceCard

/-- THE TIED CARD OF 'lombardlaw02.LoanLends'. -/
def loanLendsCard : Claim7 := { stood := { row := loanLendsRow, standIns := [], harness := (true, "65b3b36db14a972528f0a67e1e42ef034977a6fb90fa564422fadd4c72f2e963"), looks := false }, kinds := [], alts := [], laidByText := true, laidKinds := [.funcs], laidTests := true, laidLooks := .later }
def LoanLendsCardSaid : Prop := Claim7.holds Tryd.pinned (.plain (OpenSpec.ofChange loanLendsSpec)) loanLendsCard

/-- THE TIED CARD OF 'lombardlaw02.LoanKnown'. -/
def loanKnownCard : Claim7 := { stood := { row := loanKnownRow, standIns := [], harness := (true, "65b3b36db14a972528f0a67e1e42ef034977a6fb90fa564422fadd4c72f2e963"), looks := false }, kinds := [], alts := [], laidByText := true, laidKinds := [.funcs], laidTests := true, laidLooks := .later }
def LoanKnownCardSaid : Prop := Claim7.holds Tryd.pinned (.plain (OpenSpec.ofChange loanKnownSpec)) loanKnownCard

/-- THE TIED CARD OF 'lombardlaw02.LoanEqual'. -/
def loanEqualCard : Claim7 := { stood := { row := loanEqualRow, standIns := [], harness := (true, "65b3b36db14a972528f0a67e1e42ef034977a6fb90fa564422fadd4c72f2e963"), looks := false }, kinds := [], alts := [], laidByText := true, laidKinds := [.funcs], laidTests := true, laidLooks := .later }
def LoanEqualCardSaid : Prop := Claim7.holds Tryd.pinned (.plain (OpenSpec.ofChange loanEqualSpec)) loanEqualCard

/-- THE SECOND FORM's CARD OF 'lombardlaw02.LoanValues'. -/
def loanValuesUptoCard : Claim7 := { stood := { row := loanValuesUptoRow, standIns := [], harness := (true, "65b3b36db14a972528f0a67e1e42ef034977a6fb90fa564422fadd4c72f2e963"), looks := false }, kinds := [], alts := [], laidByText := true, laidKinds := [.funcs], laidTests := true, laidLooks := .later }
def LoanValuesUptoCardSaid : Prop := Claim7.holds Tryd.pinned (.plain (OpenSpec.upto loanValuesSpec)) loanValuesUptoCard

/-- THE SECOND FORM's CARD OF 'lombardlaw02.LoanKeeps'. -/
def loanKeepsUptoCard : Claim7 := { stood := { row := loanKeepsUptoRow, standIns := [], harness := (true, "65b3b36db14a972528f0a67e1e42ef034977a6fb90fa564422fadd4c72f2e963"), looks := false }, kinds := [], alts := [], laidByText := true, laidKinds := [.funcs], laidTests := true, laidLooks := .later }
def LoanKeepsUptoCardSaid : Prop := Claim7.holds Tryd.pinned (.plain (OpenSpec.upto loanKeepsSpec)) loanKeepsUptoCard

/-- THE SECOND FORM's CARD OF 'lombardlaw02.LoanTrue'. -/
def loanTrueUptoCard : Claim7 := { stood := { row := loanTrueUptoRow, standIns := [], harness := (true, "65b3b36db14a972528f0a67e1e42ef034977a6fb90fa564422fadd4c72f2e963"), looks := false }, kinds := [], alts := [], laidByText := true, laidKinds := [.funcs], laidTests := true, laidLooks := .later }
def LoanTrueUptoCardSaid : Prop := Claim7.holds Tryd.pinned (.plain (OpenSpec.upto loanTrueSpec)) loanTrueUptoCard

/-- THE SECOND FORM's CARD OF 'lombardlaw02.LoanFair'. -/
def loanFairUptoCard : Claim7 := { stood := { row := loanFairUptoRow, standIns := [], harness := (true, "65b3b36db14a972528f0a67e1e42ef034977a6fb90fa564422fadd4c72f2e963"), looks := false }, kinds := [], alts := [], laidByText := true, laidKinds := [.funcs], laidTests := true, laidLooks := .later }
def LoanFairUptoCardSaid : Prop := Claim7.holds Tryd.pinned (.plain (OpenSpec.upto loanFairSpec)) loanFairUptoCard

/-- THE SECOND FORM's CARD OF 'lombardlaw02.LoanEarly'. -/
def loanEarlyUptoCard : Claim7 := { stood := { row := loanEarlyUptoRow, standIns := [], harness := (true, "65b3b36db14a972528f0a67e1e42ef034977a6fb90fa564422fadd4c72f2e963"), looks := false }, kinds := [], alts := [], laidByText := true, laidKinds := [.funcs], laidTests := true, laidLooks := .later }
def LoanEarlyUptoCardSaid : Prop := Claim7.holds Tryd.pinned (.plain (OpenSpec.upto loanEarlySpec)) loanEarlyUptoCard

/-- THE SECOND FORM's CARD OF 'lombardlaw02.LoanHeld'. -/
def loanHeldUptoCard : Claim7 := { stood := { row := loanHeldUptoRow, standIns := [], harness := (true, "65b3b36db14a972528f0a67e1e42ef034977a6fb90fa564422fadd4c72f2e963"), looks := false }, kinds := [], alts := [], laidByText := true, laidKinds := [.funcs], laidTests := true, laidLooks := .later }
def LoanHeldUptoCardSaid : Prop := Claim7.holds Tryd.pinned (.plain (OpenSpec.upto loanHeldSpec)) loanHeldUptoCard

/-- THE SECOND FORM's CARD OF 'lombardlaw02.LoanFewest'. -/
def loanFewestUptoCard : Claim7 := { stood := { row := loanFewestUptoRow, standIns := [], harness := (true, "65b3b36db14a972528f0a67e1e42ef034977a6fb90fa564422fadd4c72f2e963"), looks := false }, kinds := [], alts := [], laidByText := true, laidKinds := [.funcs], laidTests := true, laidLooks := .later }
def LoanFewestUptoCardSaid : Prop := Claim7.holds Tryd.pinned (.plain (OpenSpec.upto loanFewestSpec)) loanFewestUptoCard

/-- THE SECOND FORM's CARD OF 'lombardlaw02.LoanRuns'. -/
def loanRunsUptoCard : Claim7 := { stood := { row := loanRunsUptoRow, standIns := [], harness := (true, "65b3b36db14a972528f0a67e1e42ef034977a6fb90fa564422fadd4c72f2e963"), looks := false }, kinds := [], alts := [], laidByText := true, laidKinds := [.funcs], laidTests := true, laidLooks := .later }
def LoanRunsUptoCardSaid : Prop := Claim7.holds Tryd.pinned (.plain (OpenSpec.upto loanRunsSpec)) loanRunsUptoCard

/-- THE SECOND FORM's CARD OF 'lombardlaw02.LoanLaw'. -/
def loanLawUptoCard : Claim7 := { stood := { row := loanLawUptoRow, standIns := [], harness := (true, "65b3b36db14a972528f0a67e1e42ef034977a6fb90fa564422fadd4c72f2e963"), looks := false }, kinds := [], alts := [], laidByText := true, laidKinds := [.funcs], laidTests := true, laidLooks := .later }
def LoanLawUptoCardSaid : Prop := Claim7.holds Tryd.pinned (.plain (OpenSpec.upto loanLawSpec)) loanLawUptoCard

/-- THE SECOND FORM's CARD OF 'lombardlaw02.LoanOnce'. -/
def loanOnceUptoCard : Claim7 := { stood := { row := loanOnceUptoRow, standIns := [], harness := (true, "65b3b36db14a972528f0a67e1e42ef034977a6fb90fa564422fadd4c72f2e963"), looks := false }, kinds := [], alts := [], laidByText := true, laidKinds := [.funcs], laidTests := true, laidLooks := .later }
def LoanOnceUptoCardSaid : Prop := Claim7.holds Tryd.pinned (.plain (OpenSpec.upto loanOnceSpec)) loanOnceUptoCard

/-- THE SECOND FORM's CARD OF 'lombardlaw02.LoanLends'. -/
def loanLendsUptoCard : Claim7 := { stood := { row := loanLendsUptoRow, standIns := [], harness := (true, "65b3b36db14a972528f0a67e1e42ef034977a6fb90fa564422fadd4c72f2e963"), looks := false }, kinds := [], alts := [], laidByText := true, laidKinds := [.funcs], laidTests := true, laidLooks := .later }
def LoanLendsUptoCardSaid : Prop := Claim7.holds Tryd.pinned (.plain (OpenSpec.upto loanLendsSpec)) loanLendsUptoCard

/-- THE SECOND FORM's CARD OF 'lombardlaw02.LoanKnown'. -/
def loanKnownUptoCard : Claim7 := { stood := { row := loanKnownUptoRow, standIns := [], harness := (true, "65b3b36db14a972528f0a67e1e42ef034977a6fb90fa564422fadd4c72f2e963"), looks := false }, kinds := [], alts := [], laidByText := true, laidKinds := [.funcs], laidTests := true, laidLooks := .later }
def LoanKnownUptoCardSaid : Prop := Claim7.holds Tryd.pinned (.plain (OpenSpec.upto loanKnownSpec)) loanKnownUptoCard

/-- THE SECOND FORM's CARD OF 'lombardlaw02.LoanEqual'. -/
def loanEqualUptoCard : Claim7 := { stood := { row := loanEqualUptoRow, standIns := [], harness := (true, "65b3b36db14a972528f0a67e1e42ef034977a6fb90fa564422fadd4c72f2e963"), looks := false }, kinds := [], alts := [], laidByText := true, laidKinds := [.funcs], laidTests := true, laidLooks := .later }
def LoanEqualUptoCardSaid : Prop := Claim7.holds Tryd.pinned (.plain (OpenSpec.upto loanEqualSpec)) loanEqualUptoCard
end Rows
end Go.Proofs.YtafmgkiddhappaaDoor
