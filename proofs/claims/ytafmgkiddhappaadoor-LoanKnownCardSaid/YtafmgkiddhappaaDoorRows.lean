/-
  NARROWER THAN 'FOR EVERY INPUT', by the rows' own cells (each row's printed sentence says how): LoanValues: laid · LoanKeeps: laid · LoanTrue: laid · LoanFair: laid · LoanEarly: laid · LoanHeld: laid · LoanFewest: laid · LoanRuns: laid · LoanLaw: laid · LoanOnce: laid · LoanLends: laid · LoanKnown: laid · LoanEqual: loops, laid.
  DERIVED. THE GIVEN ROWS OF THIS SEAT. 13 by the template 'for every input the law returns true; each argument reads behind the call as it read before'; 0 by the template 'total and deterministic' (their statements: YtafmgkiddhappaaDoorTotals.lean).
  GIVEN WITH THE SEED: the statements are not yours to turn. If you find one false, say at which input.
  Laid BY PROGRAM, IN A SANDBOX (cutbox-rows.mjs): the forced cells as the released guide's own fill.sh prints them over the translation d7774f3d3c04e4b9… (all of the seat's roots in one cut). By AI agents, Wed Nov 11 2026. No macro, syntax, notation, axiom, sorry.
-/
import Derived.Test.YtafmgkiddhappaaDoorChecked
import GoSem.Claim
import GoSem.ClaimJoined
import GoSem.ClaimMapViews
import Derived.JoinedTies
import Derived.KernelRfl
namespace Go.Proofs.YtafmgkiddhappaaDoor
/- THE CELL 'sum', in the pinned program and in every row, IS THE sha256 OF THE DUMP (.gsa) THAT YtafmgkiddhappaaDoorProg.lean LOADS. Nothing in Lean hashes anything: it is a label: what it is worth is what the hold of that sum in a sandbox is worth. -/
noncomputable def Tryd.pinned : Pinned := { name := "ytafmgkiddhappaadoor", sum := "d7774f3d3c04e4b96f9bc33cd35a576c47cf68f6a1e634a7e8b8cb20d6b747a7", checked := Tryd.checked }
namespace Rows
def none {H : Type} : Left H := { results := [], args := [] }

/- WHAT THE LISTED PACKAGE-LEVEL VARIABLES READ AS WHEN THE CALL BEGINS. Each datum BY PROGRAM (the guide's laid-datum.mjs) off the statement by which the dump's own 'gosem.cut.vars' lays the variable. In a bare row this is a premise. The card (YtafmgkiddhappaaDoorCards.lean) ties it to the program's text. -/
def laid_lombard_loan_ways {H : Type} : DataW H := .iface "func table" (.agg [.iface "func" (.lit (.string [40, 42, 108, 111, 109, 98, 97, 114, 100, 47, 108, 111, 97, 110, 46, 108, 111, 97, 110, 41, 46, 112, 97, 121])), .iface "func" (.lit (.string [40, 42, 108, 111, 109, 98, 97, 114, 100, 47, 108, 111, 97, 110, 46, 108, 111, 97, 110, 41, 46, 114, 101, 110, 101, 119])), .iface "func" (.lit (.string [40, 42, 108, 111, 109, 98, 97, 114, 100, 47, 108, 111, 97, 110, 46, 108, 111, 97, 110, 41, 46, 104, 111, 108, 100])), .iface "func" (.lit (.string [40, 42, 108, 111, 109, 98, 97, 114, 100, 47, 108, 111, 97, 110, 46, 108, 111, 97, 110, 41, 46, 114, 101, 100, 101, 101, 109]))])

/-- 'lombardlaw02.LoanValues': WHATEVER THE INPUT: true; the input reads as it did. -/
def loanValuesSpec : ChangeSpec := { name := "loanValues", fn := fun _ => fun
  | [d1, d2, d3] => { results := [.lit (.bool true)], args := [d1, d2, d3] }
  | _ => none }
def loanValuesRow : OpenClaim := { program := "ytafmgkiddhappaadoor", sum := "d7774f3d3c04e4b96f9bc33cd35a576c47cf68f6a1e634a7e8b8cb20d6b747a7", func := "lombard/lombardlaw02.LoanValues", spec := "loanValues", unfollowed := true, recurses := true, named := ["lombard/loan.ways"], apart := false, laid := [("lombard/loan.ways", laid_lombard_loan_ways)] }
def LoanValuesSaid : Prop := loanValuesRow.holds Tryd.pinned (OpenSpec.ofChange loanValuesSpec)

/-- ITS FALSE NEIGHBOUR: 'it returns false'. Refute it at one input. -/
def loanValuesWrong : ChangeSpec := { name := "loanValues", fn := fun _ => fun
  | [d1, d2, d3] => { results := [.lit (.bool false)], args := [d1, d2, d3] }
  | _ => none }
def LoanValuesWrongFalsely : Prop := loanValuesRow.holds Tryd.pinned (OpenSpec.ofChange loanValuesWrong)

/-- 'lombardlaw02.LoanKeeps': WHATEVER THE INPUT: true; the input reads as it did. -/
def loanKeepsSpec : ChangeSpec := { name := "loanKeeps", fn := fun _ => fun
  | [d1, d2] => { results := [.lit (.bool true)], args := [d1, d2] }
  | _ => none }
def loanKeepsRow : OpenClaim := { program := "ytafmgkiddhappaadoor", sum := "d7774f3d3c04e4b96f9bc33cd35a576c47cf68f6a1e634a7e8b8cb20d6b747a7", func := "lombard/lombardlaw02.LoanKeeps", spec := "loanKeeps", unfollowed := true, recurses := true, named := ["lombard/loan.ways"], apart := false, laid := [("lombard/loan.ways", laid_lombard_loan_ways)] }
def LoanKeepsSaid : Prop := loanKeepsRow.holds Tryd.pinned (OpenSpec.ofChange loanKeepsSpec)

/-- ITS FALSE NEIGHBOUR: 'it returns false'. Refute it at one input. -/
def loanKeepsWrong : ChangeSpec := { name := "loanKeeps", fn := fun _ => fun
  | [d1, d2] => { results := [.lit (.bool false)], args := [d1, d2] }
  | _ => none }
def LoanKeepsWrongFalsely : Prop := loanKeepsRow.holds Tryd.pinned (OpenSpec.ofChange loanKeepsWrong)

/-- 'lombardlaw02.LoanTrue': WHATEVER THE INPUT: true; the input reads as it did. -/
def loanTrueSpec : ChangeSpec := { name := "loanTrue", fn := fun _ => fun
  | [d1, d2, d3] => { results := [.lit (.bool true)], args := [d1, d2, d3] }
  | _ => none }
def loanTrueRow : OpenClaim := { program := "ytafmgkiddhappaadoor", sum := "d7774f3d3c04e4b96f9bc33cd35a576c47cf68f6a1e634a7e8b8cb20d6b747a7", func := "lombard/lombardlaw02.LoanTrue", spec := "loanTrue", unfollowed := true, recurses := true, named := ["lombard/loan.ways"], apart := false, laid := [("lombard/loan.ways", laid_lombard_loan_ways)] }
def LoanTrueSaid : Prop := loanTrueRow.holds Tryd.pinned (OpenSpec.ofChange loanTrueSpec)

/-- ITS FALSE NEIGHBOUR: 'it returns false'. Refute it at one input. -/
def loanTrueWrong : ChangeSpec := { name := "loanTrue", fn := fun _ => fun
  | [d1, d2, d3] => { results := [.lit (.bool false)], args := [d1, d2, d3] }
  | _ => none }
def LoanTrueWrongFalsely : Prop := loanTrueRow.holds Tryd.pinned (OpenSpec.ofChange loanTrueWrong)

/-- 'lombardlaw02.LoanFair': WHATEVER THE INPUT: true; the input reads as it did. -/
def loanFairSpec : ChangeSpec := { name := "loanFair", fn := fun _ => fun
  | [d1, d2, d3] => { results := [.lit (.bool true)], args := [d1, d2, d3] }
  | _ => none }
def loanFairRow : OpenClaim := { program := "ytafmgkiddhappaadoor", sum := "d7774f3d3c04e4b96f9bc33cd35a576c47cf68f6a1e634a7e8b8cb20d6b747a7", func := "lombard/lombardlaw02.LoanFair", spec := "loanFair", unfollowed := true, recurses := true, named := ["lombard/loan.ways"], apart := false, laid := [("lombard/loan.ways", laid_lombard_loan_ways)] }
def LoanFairSaid : Prop := loanFairRow.holds Tryd.pinned (OpenSpec.ofChange loanFairSpec)

/-- ITS FALSE NEIGHBOUR: 'it returns false'. Refute it at one input. -/
def loanFairWrong : ChangeSpec := { name := "loanFair", fn := fun _ => fun
  | [d1, d2, d3] => { results := [.lit (.bool false)], args := [d1, d2, d3] }
  | _ => none }
def LoanFairWrongFalsely : Prop := loanFairRow.holds Tryd.pinned (OpenSpec.ofChange loanFairWrong)

/-- 'lombardlaw02.LoanEarly': WHATEVER THE INPUT: true; the input reads as it did. -/
def loanEarlySpec : ChangeSpec := { name := "loanEarly", fn := fun _ => fun
  | [d1, d2] => { results := [.lit (.bool true)], args := [d1, d2] }
  | _ => none }
def loanEarlyRow : OpenClaim := { program := "ytafmgkiddhappaadoor", sum := "d7774f3d3c04e4b96f9bc33cd35a576c47cf68f6a1e634a7e8b8cb20d6b747a7", func := "lombard/lombardlaw02.LoanEarly", spec := "loanEarly", unfollowed := true, recurses := true, named := ["lombard/loan.ways"], apart := false, laid := [("lombard/loan.ways", laid_lombard_loan_ways)] }
def LoanEarlySaid : Prop := loanEarlyRow.holds Tryd.pinned (OpenSpec.ofChange loanEarlySpec)

/-- ITS FALSE NEIGHBOUR: 'it returns false'. Refute it at one input. -/
def loanEarlyWrong : ChangeSpec := { name := "loanEarly", fn := fun _ => fun
  | [d1, d2] => { results := [.lit (.bool false)], args := [d1, d2] }
  | _ => none }
def LoanEarlyWrongFalsely : Prop := loanEarlyRow.holds Tryd.pinned (OpenSpec.ofChange loanEarlyWrong)

/-- 'lombardlaw02.LoanHeld': WHATEVER THE INPUT: true; the input reads as it did. -/
def loanHeldSpec : ChangeSpec := { name := "loanHeld", fn := fun _ => fun
  | [d1, d2] => { results := [.lit (.bool true)], args := [d1, d2] }
  | _ => none }
def loanHeldRow : OpenClaim := { program := "ytafmgkiddhappaadoor", sum := "d7774f3d3c04e4b96f9bc33cd35a576c47cf68f6a1e634a7e8b8cb20d6b747a7", func := "lombard/lombardlaw02.LoanHeld", spec := "loanHeld", unfollowed := true, recurses := true, named := ["lombard/loan.ways"], apart := false, laid := [("lombard/loan.ways", laid_lombard_loan_ways)] }
def LoanHeldSaid : Prop := loanHeldRow.holds Tryd.pinned (OpenSpec.ofChange loanHeldSpec)

/-- ITS FALSE NEIGHBOUR: 'it returns false'. Refute it at one input. -/
def loanHeldWrong : ChangeSpec := { name := "loanHeld", fn := fun _ => fun
  | [d1, d2] => { results := [.lit (.bool false)], args := [d1, d2] }
  | _ => none }
def LoanHeldWrongFalsely : Prop := loanHeldRow.holds Tryd.pinned (OpenSpec.ofChange loanHeldWrong)

/-- 'lombardlaw02.LoanFewest': WHATEVER THE INPUT: true; the input reads as it did. -/
def loanFewestSpec : ChangeSpec := { name := "loanFewest", fn := fun _ => fun
  | [d1, d2, d3] => { results := [.lit (.bool true)], args := [d1, d2, d3] }
  | _ => none }
def loanFewestRow : OpenClaim := { program := "ytafmgkiddhappaadoor", sum := "d7774f3d3c04e4b96f9bc33cd35a576c47cf68f6a1e634a7e8b8cb20d6b747a7", func := "lombard/lombardlaw02.LoanFewest", spec := "loanFewest", unfollowed := true, recurses := true, named := ["lombard/loan.ways"], apart := false, laid := [("lombard/loan.ways", laid_lombard_loan_ways)] }
def LoanFewestSaid : Prop := loanFewestRow.holds Tryd.pinned (OpenSpec.ofChange loanFewestSpec)

/-- ITS FALSE NEIGHBOUR: 'it returns false'. Refute it at one input. -/
def loanFewestWrong : ChangeSpec := { name := "loanFewest", fn := fun _ => fun
  | [d1, d2, d3] => { results := [.lit (.bool false)], args := [d1, d2, d3] }
  | _ => none }
def LoanFewestWrongFalsely : Prop := loanFewestRow.holds Tryd.pinned (OpenSpec.ofChange loanFewestWrong)

/-- 'lombardlaw02.LoanRuns': WHATEVER THE INPUT: true; the input reads as it did. -/
def loanRunsSpec : ChangeSpec := { name := "loanRuns", fn := fun _ => fun
  | [d1, d2, d3] => { results := [.lit (.bool true)], args := [d1, d2, d3] }
  | _ => none }
def loanRunsRow : OpenClaim := { program := "ytafmgkiddhappaadoor", sum := "d7774f3d3c04e4b96f9bc33cd35a576c47cf68f6a1e634a7e8b8cb20d6b747a7", func := "lombard/lombardlaw02.LoanRuns", spec := "loanRuns", unfollowed := true, recurses := true, named := ["lombard/loan.ways"], apart := false, laid := [("lombard/loan.ways", laid_lombard_loan_ways)] }
def LoanRunsSaid : Prop := loanRunsRow.holds Tryd.pinned (OpenSpec.ofChange loanRunsSpec)

/-- ITS FALSE NEIGHBOUR: 'it returns false'. Refute it at one input. -/
def loanRunsWrong : ChangeSpec := { name := "loanRuns", fn := fun _ => fun
  | [d1, d2, d3] => { results := [.lit (.bool false)], args := [d1, d2, d3] }
  | _ => none }
def LoanRunsWrongFalsely : Prop := loanRunsRow.holds Tryd.pinned (OpenSpec.ofChange loanRunsWrong)

/-- 'lombardlaw02.LoanLaw': WHATEVER THE INPUT: true; the input reads as it did. -/
def loanLawSpec : ChangeSpec := { name := "loanLaw", fn := fun _ => fun
  | [d1, d2, d3] => { results := [.lit (.bool true)], args := [d1, d2, d3] }
  | _ => none }
def loanLawRow : OpenClaim := { program := "ytafmgkiddhappaadoor", sum := "d7774f3d3c04e4b96f9bc33cd35a576c47cf68f6a1e634a7e8b8cb20d6b747a7", func := "lombard/lombardlaw02.LoanLaw", spec := "loanLaw", unfollowed := true, recurses := true, named := ["lombard/loan.ways"], apart := false, laid := [("lombard/loan.ways", laid_lombard_loan_ways)] }
def LoanLawSaid : Prop := loanLawRow.holds Tryd.pinned (OpenSpec.ofChange loanLawSpec)

/-- ITS FALSE NEIGHBOUR: 'it returns false'. Refute it at one input. -/
def loanLawWrong : ChangeSpec := { name := "loanLaw", fn := fun _ => fun
  | [d1, d2, d3] => { results := [.lit (.bool false)], args := [d1, d2, d3] }
  | _ => none }
def LoanLawWrongFalsely : Prop := loanLawRow.holds Tryd.pinned (OpenSpec.ofChange loanLawWrong)

/-- 'lombardlaw02.LoanOnce': WHATEVER THE INPUT: true; the input reads as it did. -/
def loanOnceSpec : ChangeSpec := { name := "loanOnce", fn := fun _ => fun
  | [d1, d2, d3] => { results := [.lit (.bool true)], args := [d1, d2, d3] }
  | _ => none }
def loanOnceRow : OpenClaim := { program := "ytafmgkiddhappaadoor", sum := "d7774f3d3c04e4b96f9bc33cd35a576c47cf68f6a1e634a7e8b8cb20d6b747a7", func := "lombard/lombardlaw02.LoanOnce", spec := "loanOnce", unfollowed := true, recurses := true, named := ["lombard/loan.ways"], apart := false, laid := [("lombard/loan.ways", laid_lombard_loan_ways)] }
def LoanOnceSaid : Prop := loanOnceRow.holds Tryd.pinned (OpenSpec.ofChange loanOnceSpec)

/-- ITS FALSE NEIGHBOUR: 'it returns false'. Refute it at one input. -/
def loanOnceWrong : ChangeSpec := { name := "loanOnce", fn := fun _ => fun
  | [d1, d2, d3] => { results := [.lit (.bool false)], args := [d1, d2, d3] }
  | _ => none }
def LoanOnceWrongFalsely : Prop := loanOnceRow.holds Tryd.pinned (OpenSpec.ofChange loanOnceWrong)

/-- 'lombardlaw02.LoanLends': WHATEVER THE INPUT: true; the input reads as it did. -/
def loanLendsSpec : ChangeSpec := { name := "loanLends", fn := fun _ => fun
  | [d1, d2, d3] => { results := [.lit (.bool true)], args := [d1, d2, d3] }
  | _ => none }
def loanLendsRow : OpenClaim := { program := "ytafmgkiddhappaadoor", sum := "d7774f3d3c04e4b96f9bc33cd35a576c47cf68f6a1e634a7e8b8cb20d6b747a7", func := "lombard/lombardlaw02.LoanLends", spec := "loanLends", unfollowed := true, recurses := true, named := ["lombard/loan.ways"], apart := false, laid := [("lombard/loan.ways", laid_lombard_loan_ways)] }
def LoanLendsSaid : Prop := loanLendsRow.holds Tryd.pinned (OpenSpec.ofChange loanLendsSpec)

/-- ITS FALSE NEIGHBOUR: 'it returns false'. Refute it at one input. -/
def loanLendsWrong : ChangeSpec := { name := "loanLends", fn := fun _ => fun
  | [d1, d2, d3] => { results := [.lit (.bool false)], args := [d1, d2, d3] }
  | _ => none }
def LoanLendsWrongFalsely : Prop := loanLendsRow.holds Tryd.pinned (OpenSpec.ofChange loanLendsWrong)

/-- 'lombardlaw02.LoanKnown': WHATEVER THE INPUT: true; the input reads as it did. -/
def loanKnownSpec : ChangeSpec := { name := "loanKnown", fn := fun _ => fun
  | [] => { results := [.lit (.bool true)], args := [] }
  | _ => none }
def loanKnownRow : OpenClaim := { program := "ytafmgkiddhappaadoor", sum := "d7774f3d3c04e4b96f9bc33cd35a576c47cf68f6a1e634a7e8b8cb20d6b747a7", func := "lombard/lombardlaw02.LoanKnown", spec := "loanKnown", unfollowed := true, recurses := true, named := ["lombard/loan.ways"], apart := false, laid := [("lombard/loan.ways", laid_lombard_loan_ways)] }
def LoanKnownSaid : Prop := loanKnownRow.holds Tryd.pinned (OpenSpec.ofChange loanKnownSpec)

/-- ITS FALSE NEIGHBOUR: 'it returns false'. Refute it at one input. -/
def loanKnownWrong : ChangeSpec := { name := "loanKnown", fn := fun _ => fun
  | [] => { results := [.lit (.bool false)], args := [] }
  | _ => none }
def LoanKnownWrongFalsely : Prop := loanKnownRow.holds Tryd.pinned (OpenSpec.ofChange loanKnownWrong)

/-- 'lombardlaw02.LoanEqual': WHATEVER THE INPUT: true; the input reads as it did. -/
def loanEqualSpec : ChangeSpec := { name := "loanEqual", fn := fun _ => fun
  | [d1, d2, d3] => { results := [.lit (.bool true)], args := [d1, d2, d3] }
  | _ => none }
def loanEqualRow : OpenClaim := { program := "ytafmgkiddhappaadoor", sum := "d7774f3d3c04e4b96f9bc33cd35a576c47cf68f6a1e634a7e8b8cb20d6b747a7", func := "lombard/lombardlaw02.LoanEqual", spec := "loanEqual", unfollowed := true, recurses := true, named := ["lombard/loan.ways"], loops := true, apart := false, laid := [("lombard/loan.ways", laid_lombard_loan_ways)] }
def LoanEqualSaid : Prop := loanEqualRow.holds Tryd.pinned (OpenSpec.ofChange loanEqualSpec)

/-- ITS FALSE NEIGHBOUR: 'it returns false'. Refute it at one input. -/
def loanEqualWrong : ChangeSpec := { name := "loanEqual", fn := fun _ => fun
  | [d1, d2, d3] => { results := [.lit (.bool false)], args := [d1, d2, d3] }
  | _ => none }
def LoanEqualWrongFalsely : Prop := loanEqualRow.holds Tryd.pinned (OpenSpec.ofChange loanEqualWrong)

/- THE SECOND FORM. 'bulk': how many values and letters a reading holds, each counted each time it is reached (what is shared counts as often as it is met; a slice's spare places count too). A statement '..UptoSaid' is the law's where the arguments, and the package variables that the reading takes, are together of bulk at most 1048576: NARROWER than '..Said'. Prove '..Said' where nothing that the law and all that it calls make is longer than what came in: it says more and counts as full. Else prove '..UptoSaid'. A law counts once. -/
mutual
def uptoBulk {H : Type} : DataW H → Nat
  | .lit (.string bytes) => bytes.length + 1
  | .lit _ => 1
  | .nil => 1
  | .ptr d => uptoBulk d + 1
  | .slice elems spare => uptoBulkAll elems + uptoBulkAll spare + 1
  | .agg parts => uptoBulkAll parts + 1
  | .iface _ d => uptoBulk d + 1
  | .map entries => uptoBulkEntries entries + 1
  | .held _ => 1
def uptoBulkAll {H : Type} : List (DataW H) → Nat
  | [] => 0
  | d :: r => uptoBulk d + uptoBulkAll r
def uptoBulkEntries {H : Type} : List (Lit × DataW H) → Nat
  | [] => 0
  | x :: r => uptoBulkEntry x + uptoBulkEntries r
def uptoBulkEntry {H : Type} : Lit × DataW H → Nat
  | (.string bytes, d) => bytes.length + uptoBulk d + 1
  | (_, d) => uptoBulk d + 1
 end
def uptoSmall : (H : Type) → List (DataW H) → Bool := fun _ ds => decide (uptoBulkAll ds ≤ 1048576)
def OpenSpec.upto (s : _root_.Go.ChangeSpec) : _root_.Go.OpenSpec := { _root_.Go.OpenSpec.ofChange s with cond := some uptoSmall }

/-- 'lombardlaw02.LoanValues', WHERE WHAT IT READS IS OF BULK AT MOST 1048576: true; the input reads as it did. -/
def loanValuesUptoRow : OpenClaim := { program := "ytafmgkiddhappaadoor", sum := "d7774f3d3c04e4b96f9bc33cd35a576c47cf68f6a1e634a7e8b8cb20d6b747a7", func := "lombard/lombardlaw02.LoanValues", spec := "loanValues", unfollowed := true, recurses := true, named := ["lombard/loan.ways"], apart := false, laid := [("lombard/loan.ways", laid_lombard_loan_ways)], narrowed := true }
def LoanValuesUptoSaid : Prop := loanValuesUptoRow.holds Tryd.pinned (OpenSpec.upto loanValuesSpec)

/-- 'lombardlaw02.LoanKeeps', WHERE WHAT IT READS IS OF BULK AT MOST 1048576: true; the input reads as it did. -/
def loanKeepsUptoRow : OpenClaim := { program := "ytafmgkiddhappaadoor", sum := "d7774f3d3c04e4b96f9bc33cd35a576c47cf68f6a1e634a7e8b8cb20d6b747a7", func := "lombard/lombardlaw02.LoanKeeps", spec := "loanKeeps", unfollowed := true, recurses := true, named := ["lombard/loan.ways"], apart := false, laid := [("lombard/loan.ways", laid_lombard_loan_ways)], narrowed := true }
def LoanKeepsUptoSaid : Prop := loanKeepsUptoRow.holds Tryd.pinned (OpenSpec.upto loanKeepsSpec)

/-- 'lombardlaw02.LoanTrue', WHERE WHAT IT READS IS OF BULK AT MOST 1048576: true; the input reads as it did. -/
def loanTrueUptoRow : OpenClaim := { program := "ytafmgkiddhappaadoor", sum := "d7774f3d3c04e4b96f9bc33cd35a576c47cf68f6a1e634a7e8b8cb20d6b747a7", func := "lombard/lombardlaw02.LoanTrue", spec := "loanTrue", unfollowed := true, recurses := true, named := ["lombard/loan.ways"], apart := false, laid := [("lombard/loan.ways", laid_lombard_loan_ways)], narrowed := true }
def LoanTrueUptoSaid : Prop := loanTrueUptoRow.holds Tryd.pinned (OpenSpec.upto loanTrueSpec)

/-- 'lombardlaw02.LoanFair', WHERE WHAT IT READS IS OF BULK AT MOST 1048576: true; the input reads as it did. -/
def loanFairUptoRow : OpenClaim := { program := "ytafmgkiddhappaadoor", sum := "d7774f3d3c04e4b96f9bc33cd35a576c47cf68f6a1e634a7e8b8cb20d6b747a7", func := "lombard/lombardlaw02.LoanFair", spec := "loanFair", unfollowed := true, recurses := true, named := ["lombard/loan.ways"], apart := false, laid := [("lombard/loan.ways", laid_lombard_loan_ways)], narrowed := true }
def LoanFairUptoSaid : Prop := loanFairUptoRow.holds Tryd.pinned (OpenSpec.upto loanFairSpec)

/-- 'lombardlaw02.LoanEarly', WHERE WHAT IT READS IS OF BULK AT MOST 1048576: true; the input reads as it did. -/
def loanEarlyUptoRow : OpenClaim := { program := "ytafmgkiddhappaadoor", sum := "d7774f3d3c04e4b96f9bc33cd35a576c47cf68f6a1e634a7e8b8cb20d6b747a7", func := "lombard/lombardlaw02.LoanEarly", spec := "loanEarly", unfollowed := true, recurses := true, named := ["lombard/loan.ways"], apart := false, laid := [("lombard/loan.ways", laid_lombard_loan_ways)], narrowed := true }
def LoanEarlyUptoSaid : Prop := loanEarlyUptoRow.holds Tryd.pinned (OpenSpec.upto loanEarlySpec)

/-- 'lombardlaw02.LoanHeld', WHERE WHAT IT READS IS OF BULK AT MOST 1048576: true; the input reads as it did. -/
def loanHeldUptoRow : OpenClaim := { program := "ytafmgkiddhappaadoor", sum := "d7774f3d3c04e4b96f9bc33cd35a576c47cf68f6a1e634a7e8b8cb20d6b747a7", func := "lombard/lombardlaw02.LoanHeld", spec := "loanHeld", unfollowed := true, recurses := true, named := ["lombard/loan.ways"], apart := false, laid := [("lombard/loan.ways", laid_lombard_loan_ways)], narrowed := true }
def LoanHeldUptoSaid : Prop := loanHeldUptoRow.holds Tryd.pinned (OpenSpec.upto loanHeldSpec)

/-- 'lombardlaw02.LoanFewest', WHERE WHAT IT READS IS OF BULK AT MOST 1048576: true; the input reads as it did. -/
def loanFewestUptoRow : OpenClaim := { program := "ytafmgkiddhappaadoor", sum := "d7774f3d3c04e4b96f9bc33cd35a576c47cf68f6a1e634a7e8b8cb20d6b747a7", func := "lombard/lombardlaw02.LoanFewest", spec := "loanFewest", unfollowed := true, recurses := true, named := ["lombard/loan.ways"], apart := false, laid := [("lombard/loan.ways", laid_lombard_loan_ways)], narrowed := true }
def LoanFewestUptoSaid : Prop := loanFewestUptoRow.holds Tryd.pinned (OpenSpec.upto loanFewestSpec)

/-- 'lombardlaw02.LoanRuns', WHERE WHAT IT READS IS OF BULK AT MOST 1048576: true; the input reads as it did. -/
def loanRunsUptoRow : OpenClaim := { program := "ytafmgkiddhappaadoor", sum := "d7774f3d3c04e4b96f9bc33cd35a576c47cf68f6a1e634a7e8b8cb20d6b747a7", func := "lombard/lombardlaw02.LoanRuns", spec := "loanRuns", unfollowed := true, recurses := true, named := ["lombard/loan.ways"], apart := false, laid := [("lombard/loan.ways", laid_lombard_loan_ways)], narrowed := true }
def LoanRunsUptoSaid : Prop := loanRunsUptoRow.holds Tryd.pinned (OpenSpec.upto loanRunsSpec)

/-- 'lombardlaw02.LoanLaw', WHERE WHAT IT READS IS OF BULK AT MOST 1048576: true; the input reads as it did. -/
def loanLawUptoRow : OpenClaim := { program := "ytafmgkiddhappaadoor", sum := "d7774f3d3c04e4b96f9bc33cd35a576c47cf68f6a1e634a7e8b8cb20d6b747a7", func := "lombard/lombardlaw02.LoanLaw", spec := "loanLaw", unfollowed := true, recurses := true, named := ["lombard/loan.ways"], apart := false, laid := [("lombard/loan.ways", laid_lombard_loan_ways)], narrowed := true }
def LoanLawUptoSaid : Prop := loanLawUptoRow.holds Tryd.pinned (OpenSpec.upto loanLawSpec)

/-- 'lombardlaw02.LoanOnce', WHERE WHAT IT READS IS OF BULK AT MOST 1048576: true; the input reads as it did. -/
def loanOnceUptoRow : OpenClaim := { program := "ytafmgkiddhappaadoor", sum := "d7774f3d3c04e4b96f9bc33cd35a576c47cf68f6a1e634a7e8b8cb20d6b747a7", func := "lombard/lombardlaw02.LoanOnce", spec := "loanOnce", unfollowed := true, recurses := true, named := ["lombard/loan.ways"], apart := false, laid := [("lombard/loan.ways", laid_lombard_loan_ways)], narrowed := true }
def LoanOnceUptoSaid : Prop := loanOnceUptoRow.holds Tryd.pinned (OpenSpec.upto loanOnceSpec)

/-- 'lombardlaw02.LoanLends', WHERE WHAT IT READS IS OF BULK AT MOST 1048576: true; the input reads as it did. -/
def loanLendsUptoRow : OpenClaim := { program := "ytafmgkiddhappaadoor", sum := "d7774f3d3c04e4b96f9bc33cd35a576c47cf68f6a1e634a7e8b8cb20d6b747a7", func := "lombard/lombardlaw02.LoanLends", spec := "loanLends", unfollowed := true, recurses := true, named := ["lombard/loan.ways"], apart := false, laid := [("lombard/loan.ways", laid_lombard_loan_ways)], narrowed := true }
def LoanLendsUptoSaid : Prop := loanLendsUptoRow.holds Tryd.pinned (OpenSpec.upto loanLendsSpec)

/-- 'lombardlaw02.LoanKnown', WHERE WHAT IT READS IS OF BULK AT MOST 1048576: true; the input reads as it did. -/
def loanKnownUptoRow : OpenClaim := { program := "ytafmgkiddhappaadoor", sum := "d7774f3d3c04e4b96f9bc33cd35a576c47cf68f6a1e634a7e8b8cb20d6b747a7", func := "lombard/lombardlaw02.LoanKnown", spec := "loanKnown", unfollowed := true, recurses := true, named := ["lombard/loan.ways"], apart := false, laid := [("lombard/loan.ways", laid_lombard_loan_ways)], narrowed := true }
def LoanKnownUptoSaid : Prop := loanKnownUptoRow.holds Tryd.pinned (OpenSpec.upto loanKnownSpec)

/-- 'lombardlaw02.LoanEqual', WHERE WHAT IT READS IS OF BULK AT MOST 1048576: true; the input reads as it did. -/
def loanEqualUptoRow : OpenClaim := { program := "ytafmgkiddhappaadoor", sum := "d7774f3d3c04e4b96f9bc33cd35a576c47cf68f6a1e634a7e8b8cb20d6b747a7", func := "lombard/lombardlaw02.LoanEqual", spec := "loanEqual", unfollowed := true, recurses := true, named := ["lombard/loan.ways"], loops := true, apart := false, laid := [("lombard/loan.ways", laid_lombard_loan_ways)], narrowed := true }
def LoanEqualUptoSaid : Prop := loanEqualUptoRow.holds Tryd.pinned (OpenSpec.upto loanEqualSpec)

end Rows
end Go.Proofs.YtafmgkiddhappaaDoor
