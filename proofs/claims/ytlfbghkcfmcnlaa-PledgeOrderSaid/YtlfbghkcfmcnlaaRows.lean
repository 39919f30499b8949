/-
  NARROWER THAN 'FOR EVERY INPUT', by the rows' own cells (each row's printed sentence says how): PledgeCovers: loops · PledgeOrder: loops · PledgeMore: loops · PledgeChecks: loops.
  DERIVED. THE GIVEN ROWS OF THIS SEAT. 10 by the template 'for every input the law returns true; each argument reads behind the call as it read before'; 0 by the template 'total and deterministic' (their statements: YtlfbghkcfmcnlaaTotals.lean).
  GIVEN WITH THE SEED: the statements are not yours to turn. If you find one false, say at which input.
  Laid BY PROGRAM, IN A SANDBOX (cutbox-rows.mjs): the forced cells as the released guide's own fill.sh prints them over the translation aede4e58b2d44965… (all of the seat's roots in one cut). By AI agents, Wed Nov 11 2026. No macro, syntax, notation, axiom, sorry.
-/
import Derived.Test.YtlfbghkcfmcnlaaChecked
import GoSem.Claim
import GoSem.ClaimJoined
import GoSem.ClaimMapViews
import Derived.JoinedTies
import Derived.KernelRfl
namespace Go.Proofs.Ytlfbghkcfmcnlaa
/- THE CELL 'sum', in the pinned program and in every row, IS THE sha256 OF THE DUMP (.gsa) THAT YtlfbghkcfmcnlaaProg.lean LOADS. Nothing in Lean hashes anything: it is a label: what it is worth is what the hold of that sum in a sandbox is worth. -/
noncomputable def Try.pinned : Pinned := { name := "ytlfbghkcfmcnlaa", sum := "aede4e58b2d449650fdd9c3dea8b829e4c27268ab8cb83a3bda1cb667025d72e", checked := Try.checked }
namespace Rows
def none {H : Type} : Left H := { results := [], args := [] }

/-- 'lombardlaw01.PledgeCovers': WHATEVER THE INPUT: true; the input reads as it did. -/
def pledgeCoversSpec : ChangeSpec := { name := "pledgeCovers", fn := fun _ => fun
  | [d1, d2, d3] => { results := [.lit (.bool true)], args := [d1, d2, d3] }
  | _ => none }
def pledgeCoversRow : OpenClaim := { program := "ytlfbghkcfmcnlaa", sum := "aede4e58b2d449650fdd9c3dea8b829e4c27268ab8cb83a3bda1cb667025d72e", func := "lombard/lombardlaw01.PledgeCovers", spec := "pledgeCovers", inPlace := ["internal/abi.NoEscape", "internal/bytealg.MakeNoZero"], unfollowed := true, recurses := true, loops := true, apart := false }
def PledgeCoversSaid : Prop := pledgeCoversRow.holds Try.pinned (OpenSpec.ofChange pledgeCoversSpec)

/-- ITS FALSE NEIGHBOUR: 'it returns false'. Refute it at one input. -/
def pledgeCoversWrong : ChangeSpec := { name := "pledgeCovers", fn := fun _ => fun
  | [d1, d2, d3] => { results := [.lit (.bool false)], args := [d1, d2, d3] }
  | _ => none }
def PledgeCoversWrongFalsely : Prop := pledgeCoversRow.holds Try.pinned (OpenSpec.ofChange pledgeCoversWrong)

/-- 'lombardlaw01.PledgeReads': WHATEVER THE INPUT: true; the input reads as it did. -/
def pledgeReadsSpec : ChangeSpec := { name := "pledgeReads", fn := fun _ => fun
  | [d1, d2, d3] => { results := [.lit (.bool true)], args := [d1, d2, d3] }
  | _ => none }
def pledgeReadsRow : OpenClaim := { program := "ytlfbghkcfmcnlaa", sum := "aede4e58b2d449650fdd9c3dea8b829e4c27268ab8cb83a3bda1cb667025d72e", func := "lombard/lombardlaw01.PledgeReads", spec := "pledgeReads", inPlace := ["internal/abi.NoEscape", "internal/bytealg.MakeNoZero"], unfollowed := true, recurses := true, apart := false }
def PledgeReadsSaid : Prop := pledgeReadsRow.holds Try.pinned (OpenSpec.ofChange pledgeReadsSpec)

/-- ITS FALSE NEIGHBOUR: 'it returns false'. Refute it at one input. -/
def pledgeReadsWrong : ChangeSpec := { name := "pledgeReads", fn := fun _ => fun
  | [d1, d2, d3] => { results := [.lit (.bool false)], args := [d1, d2, d3] }
  | _ => none }
def PledgeReadsWrongFalsely : Prop := pledgeReadsRow.holds Try.pinned (OpenSpec.ofChange pledgeReadsWrong)

/-- 'lombardlaw01.PledgeLeast': WHATEVER THE INPUT: true; the input reads as it did. -/
def pledgeLeastSpec : ChangeSpec := { name := "pledgeLeast", fn := fun _ => fun
  | [d1, d2] => { results := [.lit (.bool true)], args := [d1, d2] }
  | _ => none }
def pledgeLeastRow : OpenClaim := { program := "ytlfbghkcfmcnlaa", sum := "aede4e58b2d449650fdd9c3dea8b829e4c27268ab8cb83a3bda1cb667025d72e", func := "lombard/lombardlaw01.PledgeLeast", spec := "pledgeLeast", inPlace := ["internal/abi.NoEscape", "internal/bytealg.MakeNoZero"], unfollowed := true, recurses := true, apart := false }
def PledgeLeastSaid : Prop := pledgeLeastRow.holds Try.pinned (OpenSpec.ofChange pledgeLeastSpec)

/-- ITS FALSE NEIGHBOUR: 'it returns false'. Refute it at one input. -/
def pledgeLeastWrong : ChangeSpec := { name := "pledgeLeast", fn := fun _ => fun
  | [d1, d2] => { results := [.lit (.bool false)], args := [d1, d2] }
  | _ => none }
def PledgeLeastWrongFalsely : Prop := pledgeLeastRow.holds Try.pinned (OpenSpec.ofChange pledgeLeastWrong)

/-- 'lombardlaw01.PledgeTrue': WHATEVER THE INPUT: true; the input reads as it did. -/
def pledgeTrueSpec : ChangeSpec := { name := "pledgeTrue", fn := fun _ => fun
  | [d1, d2, d3] => { results := [.lit (.bool true)], args := [d1, d2, d3] }
  | _ => none }
def pledgeTrueRow : OpenClaim := { program := "ytlfbghkcfmcnlaa", sum := "aede4e58b2d449650fdd9c3dea8b829e4c27268ab8cb83a3bda1cb667025d72e", func := "lombard/lombardlaw01.PledgeTrue", spec := "pledgeTrue", inPlace := ["internal/abi.NoEscape", "internal/bytealg.MakeNoZero"], unfollowed := true, recurses := true, apart := false }
def PledgeTrueSaid : Prop := pledgeTrueRow.holds Try.pinned (OpenSpec.ofChange pledgeTrueSpec)

/-- ITS FALSE NEIGHBOUR: 'it returns false'. Refute it at one input. -/
def pledgeTrueWrong : ChangeSpec := { name := "pledgeTrue", fn := fun _ => fun
  | [d1, d2, d3] => { results := [.lit (.bool false)], args := [d1, d2, d3] }
  | _ => none }
def PledgeTrueWrongFalsely : Prop := pledgeTrueRow.holds Try.pinned (OpenSpec.ofChange pledgeTrueWrong)

/-- 'lombardlaw01.PledgeOrder': WHATEVER THE INPUT: true; the input reads as it did. -/
def pledgeOrderSpec : ChangeSpec := { name := "pledgeOrder", fn := fun _ => fun
  | [d1, d2] => { results := [.lit (.bool true)], args := [d1, d2] }
  | _ => none }
def pledgeOrderRow : OpenClaim := { program := "ytlfbghkcfmcnlaa", sum := "aede4e58b2d449650fdd9c3dea8b829e4c27268ab8cb83a3bda1cb667025d72e", func := "lombard/lombardlaw01.PledgeOrder", spec := "pledgeOrder", inPlace := ["internal/abi.NoEscape", "internal/bytealg.MakeNoZero"], unfollowed := true, recurses := true, loops := true, apart := false }
def PledgeOrderSaid : Prop := pledgeOrderRow.holds Try.pinned (OpenSpec.ofChange pledgeOrderSpec)

/-- ITS FALSE NEIGHBOUR: 'it returns false'. Refute it at one input. -/
def pledgeOrderWrong : ChangeSpec := { name := "pledgeOrder", fn := fun _ => fun
  | [d1, d2] => { results := [.lit (.bool false)], args := [d1, d2] }
  | _ => none }
def PledgeOrderWrongFalsely : Prop := pledgeOrderRow.holds Try.pinned (OpenSpec.ofChange pledgeOrderWrong)

/-- 'lombardlaw01.PledgeMore': WHATEVER THE INPUT: true; the input reads as it did. -/
def pledgeMoreSpec : ChangeSpec := { name := "pledgeMore", fn := fun _ => fun
  | [d1, d2, d3] => { results := [.lit (.bool true)], args := [d1, d2, d3] }
  | _ => none }
def pledgeMoreRow : OpenClaim := { program := "ytlfbghkcfmcnlaa", sum := "aede4e58b2d449650fdd9c3dea8b829e4c27268ab8cb83a3bda1cb667025d72e", func := "lombard/lombardlaw01.PledgeMore", spec := "pledgeMore", inPlace := ["internal/abi.NoEscape", "internal/bytealg.MakeNoZero"], unfollowed := true, recurses := true, loops := true, apart := false }
def PledgeMoreSaid : Prop := pledgeMoreRow.holds Try.pinned (OpenSpec.ofChange pledgeMoreSpec)

/-- ITS FALSE NEIGHBOUR: 'it returns false'. Refute it at one input. -/
def pledgeMoreWrong : ChangeSpec := { name := "pledgeMore", fn := fun _ => fun
  | [d1, d2, d3] => { results := [.lit (.bool false)], args := [d1, d2, d3] }
  | _ => none }
def PledgeMoreWrongFalsely : Prop := pledgeMoreRow.holds Try.pinned (OpenSpec.ofChange pledgeMoreWrong)

/-- 'lombardlaw01.PledgeChecks': WHATEVER THE INPUT: true; the input reads as it did. -/
def pledgeChecksSpec : ChangeSpec := { name := "pledgeChecks", fn := fun _ => fun
  | [d1, d2, d3] => { results := [.lit (.bool true)], args := [d1, d2, d3] }
  | _ => none }
def pledgeChecksRow : OpenClaim := { program := "ytlfbghkcfmcnlaa", sum := "aede4e58b2d449650fdd9c3dea8b829e4c27268ab8cb83a3bda1cb667025d72e", func := "lombard/lombardlaw01.PledgeChecks", spec := "pledgeChecks", inPlace := ["internal/abi.NoEscape", "internal/bytealg.MakeNoZero"], unfollowed := true, recurses := true, loops := true, apart := false }
def PledgeChecksSaid : Prop := pledgeChecksRow.holds Try.pinned (OpenSpec.ofChange pledgeChecksSpec)

/-- ITS FALSE NEIGHBOUR: 'it returns false'. Refute it at one input. -/
def pledgeChecksWrong : ChangeSpec := { name := "pledgeChecks", fn := fun _ => fun
  | [d1, d2, d3] => { results := [.lit (.bool false)], args := [d1, d2, d3] }
  | _ => none }
def PledgeChecksWrongFalsely : Prop := pledgeChecksRow.holds Try.pinned (OpenSpec.ofChange pledgeChecksWrong)

/-- 'lombardlaw01.PledgeFinds': WHATEVER THE INPUT: true; the input reads as it did. -/
def pledgeFindsSpec : ChangeSpec := { name := "pledgeFinds", fn := fun _ => fun
  | [d1, d2, d3] => { results := [.lit (.bool true)], args := [d1, d2, d3] }
  | _ => none }
def pledgeFindsRow : OpenClaim := { program := "ytlfbghkcfmcnlaa", sum := "aede4e58b2d449650fdd9c3dea8b829e4c27268ab8cb83a3bda1cb667025d72e", func := "lombard/lombardlaw01.PledgeFinds", spec := "pledgeFinds", inPlace := ["internal/abi.NoEscape", "internal/bytealg.MakeNoZero"], unfollowed := true, recurses := true, apart := false }
def PledgeFindsSaid : Prop := pledgeFindsRow.holds Try.pinned (OpenSpec.ofChange pledgeFindsSpec)

/-- ITS FALSE NEIGHBOUR: 'it returns false'. Refute it at one input. -/
def pledgeFindsWrong : ChangeSpec := { name := "pledgeFinds", fn := fun _ => fun
  | [d1, d2, d3] => { results := [.lit (.bool false)], args := [d1, d2, d3] }
  | _ => none }
def PledgeFindsWrongFalsely : Prop := pledgeFindsRow.holds Try.pinned (OpenSpec.ofChange pledgeFindsWrong)

/-- 'lombardlaw01.PledgeNoSwap': WHATEVER THE INPUT: true; the input reads as it did. -/
def pledgeNoSwapSpec : ChangeSpec := { name := "pledgeNoSwap", fn := fun _ => fun
  | [d1, d2, d3] => { results := [.lit (.bool true)], args := [d1, d2, d3] }
  | _ => none }
def pledgeNoSwapRow : OpenClaim := { program := "ytlfbghkcfmcnlaa", sum := "aede4e58b2d449650fdd9c3dea8b829e4c27268ab8cb83a3bda1cb667025d72e", func := "lombard/lombardlaw01.PledgeNoSwap", spec := "pledgeNoSwap", inPlace := ["internal/abi.NoEscape", "internal/bytealg.MakeNoZero"], unfollowed := true, recurses := true, apart := false }
def PledgeNoSwapSaid : Prop := pledgeNoSwapRow.holds Try.pinned (OpenSpec.ofChange pledgeNoSwapSpec)

/-- ITS FALSE NEIGHBOUR: 'it returns false'. Refute it at one input. -/
def pledgeNoSwapWrong : ChangeSpec := { name := "pledgeNoSwap", fn := fun _ => fun
  | [d1, d2, d3] => { results := [.lit (.bool false)], args := [d1, d2, d3] }
  | _ => none }
def PledgeNoSwapWrongFalsely : Prop := pledgeNoSwapRow.holds Try.pinned (OpenSpec.ofChange pledgeNoSwapWrong)

/-- 'lombardlaw01.PledgeCheapest': WHATEVER THE INPUT: true; the input reads as it did. -/
def pledgeCheapestSpec : ChangeSpec := { name := "pledgeCheapest", fn := fun _ => fun
  | [d1, d2, d3] => { results := [.lit (.bool true)], args := [d1, d2, d3] }
  | _ => none }
def pledgeCheapestRow : OpenClaim := { program := "ytlfbghkcfmcnlaa", sum := "aede4e58b2d449650fdd9c3dea8b829e4c27268ab8cb83a3bda1cb667025d72e", func := "lombard/lombardlaw01.PledgeCheapest", spec := "pledgeCheapest", inPlace := ["internal/abi.NoEscape", "internal/bytealg.MakeNoZero"], unfollowed := true, recurses := true, apart := false }
def PledgeCheapestSaid : Prop := pledgeCheapestRow.holds Try.pinned (OpenSpec.ofChange pledgeCheapestSpec)

/-- ITS FALSE NEIGHBOUR: 'it returns false'. Refute it at one input. -/
def pledgeCheapestWrong : ChangeSpec := { name := "pledgeCheapest", fn := fun _ => fun
  | [d1, d2, d3] => { results := [.lit (.bool false)], args := [d1, d2, d3] }
  | _ => none }
def PledgeCheapestWrongFalsely : Prop := pledgeCheapestRow.holds Try.pinned (OpenSpec.ofChange pledgeCheapestWrong)

/- THE SECOND FORM. 'bulk': how many values and letters a reading holds, each counted each time it is reached (what is shared counts as often as it is met; a slice's spare places count too). A statement '..UptoSaid' is the law's where the arguments, and the package variables that the reading takes, are together of bulk at most 1048576: NARROWER than '..Said'. Prove '..Said' where nothing that the law and all that it calls make is longer than what came in: it says more and counts as full. Else prove '..UptoSaid'. A law counts once. -/
mutual
def uptoBulk {H : Type} : DataW H → Nat
  | .lit (.string bytes) => bytes.length + 1
  | .lit _ => 1
  | .nil => 1
  | .ptr d => uptoBulk d + 1
  | .slice elems spare => uptoBulkAll elems + uptoBulkAll spare + 1
  | .agg parts => uptoBulkAll parts + 1
  | .iface _ d => uptoBulk d + 1
  | .map entries => uptoBulkEntries entries + 1
  | .held _ => 1
def uptoBulkAll {H : Type} : List (DataW H) → Nat
  | [] => 0
  | d :: r => uptoBulk d + uptoBulkAll r
def uptoBulkEntries {H : Type} : List (Lit × DataW H) → Nat
  | [] => 0
  | x :: r => uptoBulkEntry x + uptoBulkEntries r
def uptoBulkEntry {H : Type} : Lit × DataW H → Nat
  | (.string bytes, d) => bytes.length + uptoBulk d + 1
  | (_, d) => uptoBulk d + 1
 end
def uptoSmall : (H : Type) → List (DataW H) → Bool := fun _ ds => decide (uptoBulkAll ds ≤ 1048576)
def OpenSpec.upto (s : _root_.Go.ChangeSpec) : _root_.Go.OpenSpec := { _root_.Go.OpenSpec.ofChange s with cond := some uptoSmall }

/-- 'lombardlaw01.PledgeCovers', WHERE WHAT IT READS IS OF BULK AT MOST 1048576: true; the input reads as it did. -/
def pledgeCoversUptoRow : OpenClaim := { program := "ytlfbghkcfmcnlaa", sum := "aede4e58b2d449650fdd9c3dea8b829e4c27268ab8cb83a3bda1cb667025d72e", func := "lombard/lombardlaw01.PledgeCovers", spec := "pledgeCovers", inPlace := ["internal/abi.NoEscape", "internal/bytealg.MakeNoZero"], unfollowed := true, recurses := true, loops := true, apart := false, narrowed := true }
def PledgeCoversUptoSaid : Prop := pledgeCoversUptoRow.holds Try.pinned (OpenSpec.upto pledgeCoversSpec)

/-- 'lombardlaw01.PledgeReads', WHERE WHAT IT READS IS OF BULK AT MOST 1048576: true; the input reads as it did. -/
def pledgeReadsUptoRow : OpenClaim := { program := "ytlfbghkcfmcnlaa", sum := "aede4e58b2d449650fdd9c3dea8b829e4c27268ab8cb83a3bda1cb667025d72e", func := "lombard/lombardlaw01.PledgeReads", spec := "pledgeReads", inPlace := ["internal/abi.NoEscape", "internal/bytealg.MakeNoZero"], unfollowed := true, recurses := true, apart := false, narrowed := true }
def PledgeReadsUptoSaid : Prop := pledgeReadsUptoRow.holds Try.pinned (OpenSpec.upto pledgeReadsSpec)

/-- 'lombardlaw01.PledgeLeast', WHERE WHAT IT READS IS OF BULK AT MOST 1048576: true; the input reads as it did. -/
def pledgeLeastUptoRow : OpenClaim := { program := "ytlfbghkcfmcnlaa", sum := "aede4e58b2d449650fdd9c3dea8b829e4c27268ab8cb83a3bda1cb667025d72e", func := "lombard/lombardlaw01.PledgeLeast", spec := "pledgeLeast", inPlace := ["internal/abi.NoEscape", "internal/bytealg.MakeNoZero"], unfollowed := true, recurses := true, apart := false, narrowed := true }
def PledgeLeastUptoSaid : Prop := pledgeLeastUptoRow.holds Try.pinned (OpenSpec.upto pledgeLeastSpec)

/-- 'lombardlaw01.PledgeTrue', WHERE WHAT IT READS IS OF BULK AT MOST 1048576: true; the input reads as it did. -/
def pledgeTrueUptoRow : OpenClaim := { program := "ytlfbghkcfmcnlaa", sum := "aede4e58b2d449650fdd9c3dea8b829e4c27268ab8cb83a3bda1cb667025d72e", func := "lombard/lombardlaw01.PledgeTrue", spec := "pledgeTrue", inPlace := ["internal/abi.NoEscape", "internal/bytealg.MakeNoZero"], unfollowed := true, recurses := true, apart := false, narrowed := true }
def PledgeTrueUptoSaid : Prop := pledgeTrueUptoRow.holds Try.pinned (OpenSpec.upto pledgeTrueSpec)

/-- 'lombardlaw01.PledgeOrder', WHERE WHAT IT READS IS OF BULK AT MOST 1048576: true; the input reads as it did. -/
def pledgeOrderUptoRow : OpenClaim := { program := "ytlfbghkcfmcnlaa", sum := "aede4e58b2d449650fdd9c3dea8b829e4c27268ab8cb83a3bda1cb667025d72e", func := "lombard/lombardlaw01.PledgeOrder", spec := "pledgeOrder", inPlace := ["internal/abi.NoEscape", "internal/bytealg.MakeNoZero"], unfollowed := true, recurses := true, loops := true, apart := false, narrowed := true }
def PledgeOrderUptoSaid : Prop := pledgeOrderUptoRow.holds Try.pinned (OpenSpec.upto pledgeOrderSpec)

/-- 'lombardlaw01.PledgeMore', WHERE WHAT IT READS IS OF BULK AT MOST 1048576: true; the input reads as it did. -/
def pledgeMoreUptoRow : OpenClaim := { program := "ytlfbghkcfmcnlaa", sum := "aede4e58b2d449650fdd9c3dea8b829e4c27268ab8cb83a3bda1cb667025d72e", func := "lombard/lombardlaw01.PledgeMore", spec := "pledgeMore", inPlace := ["internal/abi.NoEscape", "internal/bytealg.MakeNoZero"], unfollowed := true, recurses := true, loops := true, apart := false, narrowed := true }
def PledgeMoreUptoSaid : Prop := pledgeMoreUptoRow.holds Try.pinned (OpenSpec.upto pledgeMoreSpec)

/-- 'lombardlaw01.PledgeChecks', WHERE WHAT IT READS IS OF BULK AT MOST 1048576: true; the input reads as it did. -/
def pledgeChecksUptoRow : OpenClaim := { program := "ytlfbghkcfmcnlaa", sum := "aede4e58b2d449650fdd9c3dea8b829e4c27268ab8cb83a3bda1cb667025d72e", func := "lombard/lombardlaw01.PledgeChecks", spec := "pledgeChecks", inPlace := ["internal/abi.NoEscape", "internal/bytealg.MakeNoZero"], unfollowed := true, recurses := true, loops := true, apart := false, narrowed := true }
def PledgeChecksUptoSaid : Prop := pledgeChecksUptoRow.holds Try.pinned (OpenSpec.upto pledgeChecksSpec)

/-- 'lombardlaw01.PledgeFinds', WHERE WHAT IT READS IS OF BULK AT MOST 1048576: true; the input reads as it did. -/
def pledgeFindsUptoRow : OpenClaim := { program := "ytlfbghkcfmcnlaa", sum := "aede4e58b2d449650fdd9c3dea8b829e4c27268ab8cb83a3bda1cb667025d72e", func := "lombard/lombardlaw01.PledgeFinds", spec := "pledgeFinds", inPlace := ["internal/abi.NoEscape", "internal/bytealg.MakeNoZero"], unfollowed := true, recurses := true, apart := false, narrowed := true }
def PledgeFindsUptoSaid : Prop := pledgeFindsUptoRow.holds Try.pinned (OpenSpec.upto pledgeFindsSpec)

/-- 'lombardlaw01.PledgeNoSwap', WHERE WHAT IT READS IS OF BULK AT MOST 1048576: true; the input reads as it did. -/
def pledgeNoSwapUptoRow : OpenClaim := { program := "ytlfbghkcfmcnlaa", sum := "aede4e58b2d449650fdd9c3dea8b829e4c27268ab8cb83a3bda1cb667025d72e", func := "lombard/lombardlaw01.PledgeNoSwap", spec := "pledgeNoSwap", inPlace := ["internal/abi.NoEscape", "internal/bytealg.MakeNoZero"], unfollowed := true, recurses := true, apart := false, narrowed := true }
def PledgeNoSwapUptoSaid : Prop := pledgeNoSwapUptoRow.holds Try.pinned (OpenSpec.upto pledgeNoSwapSpec)

/-- 'lombardlaw01.PledgeCheapest', WHERE WHAT IT READS IS OF BULK AT MOST 1048576: true; the input reads as it did. -/
def pledgeCheapestUptoRow : OpenClaim := { program := "ytlfbghkcfmcnlaa", sum := "aede4e58b2d449650fdd9c3dea8b829e4c27268ab8cb83a3bda1cb667025d72e", func := "lombard/lombardlaw01.PledgeCheapest", spec := "pledgeCheapest", inPlace := ["internal/abi.NoEscape", "internal/bytealg.MakeNoZero"], unfollowed := true, recurses := true, apart := false, narrowed := true }
def PledgeCheapestUptoSaid : Prop := pledgeCheapestUptoRow.holds Try.pinned (OpenSpec.upto pledgeCheapestSpec)

end Rows
end Go.Proofs.Ytlfbghkcfmcnlaa
