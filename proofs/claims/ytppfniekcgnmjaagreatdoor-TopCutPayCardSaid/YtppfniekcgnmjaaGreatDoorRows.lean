/-
  NARROWER THAN 'FOR EVERY INPUT', by the rows' own cells (each row's printed sentence says how): TopCutPay: laid · TopSold: laid.
  DERIVED. THE GIVEN ROWS OF THIS SEAT. 2 by the template 'for every input the law returns true; each argument reads behind the call as it read before'; 0 by the template 'total and deterministic' (their statements: YtppfniekcgnmjaaGreatDoorTotals.lean).
  GIVEN WITH THE SEED: the statements are not yours to turn. If you find one false, say at which input.
  Laid BY PROGRAM, IN A SANDBOX (cutbox-rows.mjs): the forced cells as the released guide's own fill.sh prints them over the translation 943b9da68cbac786… (all of the seat's roots in one cut). By AI agents, Wed Nov 11 2026. No macro, syntax, notation, axiom, sorry.
-/
import Derived.Test.YtppfniekcgnmjaaGreatDoorChecked
import GoSem.Claim
import GoSem.ClaimJoined
import GoSem.ClaimMapViews
import Derived.JoinedTies
import Derived.KernelRfl
namespace Go.Proofs.YtppfniekcgnmjaaGreatDoor
/- THE CELL 'sum', in the pinned program and in every row, IS THE sha256 OF THE DUMP (.gsa) THAT YtppfniekcgnmjaaGreatDoorProg.lean LOADS. Nothing in Lean hashes anything: it is a label: what it is worth is what the hold of that sum in a sandbox is worth. -/
noncomputable def Tryz.pinned : Pinned := { name := "ytppfniekcgnmjaagreatdoor", sum := "943b9da68cbac7861e5bd0b65d2d2727a79a4272846eb7b23e6ae7b140553ffe", checked := Tryz.checked }
namespace Rows
def none {H : Type} : Left H := { results := [], args := [] }

/- WHAT THE LISTED PACKAGE-LEVEL VARIABLES READ AS WHEN THE CALL BEGINS. Each datum BY PROGRAM (the guide's laid-datum.mjs) off the statement by which the dump's own 'gosem.cut.vars' lays the variable. In a bare row this is a premise. The card (YtppfniekcgnmjaaGreatDoorCards.lean) ties it to the program's text. -/
def laid_lombard_loan_ways {H : Type} : DataW H := .iface "func table" (.agg [.iface "func" (.lit (.string [40, 42, 108, 111, 109, 98, 97, 114, 100, 47, 108, 111, 97, 110, 46, 108, 111, 97, 110, 41, 46, 112, 97, 121])), .iface "func" (.lit (.string [40, 42, 108, 111, 109, 98, 97, 114, 100, 47, 108, 111, 97, 110, 46, 108, 111, 97, 110, 41, 46, 114, 101, 110, 101, 119])), .iface "func" (.lit (.string [40, 42, 108, 111, 109, 98, 97, 114, 100, 47, 108, 111, 97, 110, 46, 108, 111, 97, 110, 41, 46, 104, 111, 108, 100])), .iface "func" (.lit (.string [40, 42, 108, 111, 109, 98, 97, 114, 100, 47, 108, 111, 97, 110, 46, 108, 111, 97, 110, 41, 46, 114, 101, 100, 101, 101, 109]))])

/-- 'lombardtop.TopCutPay': WHATEVER THE INPUT: true; the input reads as it did. -/
def topCutPaySpec : ChangeSpec := { name := "topCutPay", fn := fun _ => fun
  | [d1, d2, d3] => { results := [.lit (.bool true)], args := [d1, d2, d3] }
  | _ => none }
def topCutPayRow : OpenClaim := { program := "ytppfniekcgnmjaagreatdoor", sum := "943b9da68cbac7861e5bd0b65d2d2727a79a4272846eb7b23e6ae7b140553ffe", func := "lombard/lombardtop.TopCutPay", spec := "topCutPay", unfollowed := true, recurses := true, named := ["lombard/loan.ways"], plainKeys := false, apart := false, laid := [("lombard/loan.ways", laid_lombard_loan_ways)] }
def TopCutPaySaid : Prop := topCutPayRow.holds Tryz.pinned (OpenSpec.ofChange topCutPaySpec)

/-- ITS FALSE NEIGHBOUR: 'it returns false'. Refute it at one input. -/
def topCutPayWrong : ChangeSpec := { name := "topCutPay", fn := fun _ => fun
  | [d1, d2, d3] => { results := [.lit (.bool false)], args := [d1, d2, d3] }
  | _ => none }
def TopCutPayWrongFalsely : Prop := topCutPayRow.holds Tryz.pinned (OpenSpec.ofChange topCutPayWrong)

/-- 'lombardtop.TopSold': WHATEVER THE INPUT: true; the input reads as it did. -/
def topSoldSpec : ChangeSpec := { name := "topSold", fn := fun _ => fun
  | [d] => { results := [.lit (.bool true)], args := [d] }
  | _ => none }
def topSoldRow : OpenClaim := { program := "ytppfniekcgnmjaagreatdoor", sum := "943b9da68cbac7861e5bd0b65d2d2727a79a4272846eb7b23e6ae7b140553ffe", func := "lombard/lombardtop.TopSold", spec := "topSold", inPlace := ["internal/abi.NoEscape", "internal/bytealg.MakeNoZero"], unfollowed := true, recurses := true, named := ["lombard/loan.ways"], plainKeys := false, apart := false, laid := [("lombard/loan.ways", laid_lombard_loan_ways)] }
def TopSoldSaid : Prop := topSoldRow.holds Tryz.pinned (OpenSpec.ofChange topSoldSpec)

/-- ITS FALSE NEIGHBOUR: 'it returns false'. Refute it at one input. -/
def topSoldWrong : ChangeSpec := { name := "topSold", fn := fun _ => fun
  | [d] => { results := [.lit (.bool false)], args := [d] }
  | _ => none }
def TopSoldWrongFalsely : Prop := topSoldRow.holds Tryz.pinned (OpenSpec.ofChange topSoldWrong)

/- THE SECOND FORM. 'bulk': how many values and letters a reading holds, each counted each time it is reached (what is shared counts as often as it is met; a slice's spare places count too). A statement '..UptoSaid' is the law's where the arguments, and the package variables that the reading takes, are together of bulk at most 1048576: NARROWER than '..Said'. Prove '..Said' where nothing that the law and all that it calls make is longer than what came in: it says more and counts as full. Else prove '..UptoSaid'. A law counts once. -/
mutual
def uptoBulk {H : Type} : DataW H → Nat
  | .lit (.string bytes) => bytes.length + 1
  | .lit _ => 1
  | .nil => 1
  | .ptr d => uptoBulk d + 1
  | .slice elems spare => uptoBulkAll elems + uptoBulkAll spare + 1
  | .agg parts => uptoBulkAll parts + 1
  | .iface _ d => uptoBulk d + 1
  | .map entries => uptoBulkEntries entries + 1
  | .held _ => 1
def uptoBulkAll {H : Type} : List (DataW H) → Nat
  | [] => 0
  | d :: r => uptoBulk d + uptoBulkAll r
def uptoBulkEntries {H : Type} : List (Lit × DataW H) → Nat
  | [] => 0
  | x :: r => uptoBulkEntry x + uptoBulkEntries r
def uptoBulkEntry {H : Type} : Lit × DataW H → Nat
  | (.string bytes, d) => bytes.length + uptoBulk d + 1
  | (_, d) => uptoBulk d + 1
 end
def uptoSmall : (H : Type) → List (DataW H) → Bool := fun _ ds => decide (uptoBulkAll ds ≤ 1048576)
def OpenSpec.upto (s : _root_.Go.ChangeSpec) : _root_.Go.OpenSpec := { _root_.Go.OpenSpec.ofChange s with cond := some uptoSmall }

/-- 'lombardtop.TopCutPay', WHERE WHAT IT READS IS OF BULK AT MOST 1048576: true; the input reads as it did. -/
def topCutPayUptoRow : OpenClaim := { program := "ytppfniekcgnmjaagreatdoor", sum := "943b9da68cbac7861e5bd0b65d2d2727a79a4272846eb7b23e6ae7b140553ffe", func := "lombard/lombardtop.TopCutPay", spec := "topCutPay", unfollowed := true, recurses := true, named := ["lombard/loan.ways"], plainKeys := false, apart := false, laid := [("lombard/loan.ways", laid_lombard_loan_ways)], narrowed := true }
def TopCutPayUptoSaid : Prop := topCutPayUptoRow.holds Tryz.pinned (OpenSpec.upto topCutPaySpec)

/-- 'lombardtop.TopSold', WHERE WHAT IT READS IS OF BULK AT MOST 1048576: true; the input reads as it did. -/
def topSoldUptoRow : OpenClaim := { program := "ytppfniekcgnmjaagreatdoor", sum := "943b9da68cbac7861e5bd0b65d2d2727a79a4272846eb7b23e6ae7b140553ffe", func := "lombard/lombardtop.TopSold", spec := "topSold", inPlace := ["internal/abi.NoEscape", "internal/bytealg.MakeNoZero"], unfollowed := true, recurses := true, named := ["lombard/loan.ways"], plainKeys := false, apart := false, laid := [("lombard/loan.ways", laid_lombard_loan_ways)], narrowed := true }
def TopSoldUptoSaid : Prop := topSoldUptoRow.holds Tryz.pinned (OpenSpec.upto topSoldSpec)

end Rows
end Go.Proofs.YtppfniekcgnmjaaGreatDoor
