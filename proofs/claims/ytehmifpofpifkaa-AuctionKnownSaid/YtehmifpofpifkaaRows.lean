/-
  No cell of these rows narrows 'for every input' (looked for: loops, veiled, ifaces, maps, wideKeys, modest, calm, conditions, laid).
  DERIVED. THE GIVEN ROWS OF THIS SEAT. 12 by the template 'for every input the law returns true; each argument reads behind the call as it read before'; 0 by the template 'total and deterministic' (their statements: YtehmifpofpifkaaTotals.lean).
  GIVEN WITH THE SEED: the statements are not yours to turn. If you find one false, say at which input.
  Laid BY PROGRAM, IN A SANDBOX (cutbox-rows.mjs): the forced cells as the released guide's own fill.sh prints them over the translation d9178c9b820f274b… (all of the seat's roots in one cut). By AI agents, Wed Nov 11 2026. No macro, syntax, notation, axiom, sorry.
-/
import Derived.Test.YtehmifpofpifkaaChecked
import GoSem.Claim
import GoSem.ClaimJoined
import GoSem.ClaimMapViews
import Derived.JoinedTies
import Derived.KernelRfl
namespace Go.Proofs.Ytehmifpofpifkaa
/- THE CELL 'sum', in the pinned program and in every row, IS THE sha256 OF THE DUMP (.gsa) THAT YtehmifpofpifkaaProg.lean LOADS. Nothing in Lean hashes anything: it is a label: what it is worth is what the hold of that sum in a sandbox is worth. -/
noncomputable def Try.pinned : Pinned := { name := "ytehmifpofpifkaa", sum := "d9178c9b820f274b532a632e7820fa71c481fff2c2c0d4ce9cb2884b1c2a4a01", checked := Try.checked }
namespace Rows
def none {H : Type} : Left H := { results := [], args := [] }

/-- 'lombardlaw06.AuctionRungs': WHATEVER THE INPUT: true; the input reads as it did. -/
def auctionRungsSpec : ChangeSpec := { name := "auctionRungs", fn := fun _ => fun
  | [d1, d2] => { results := [.lit (.bool true)], args := [d1, d2] }
  | _ => none }
def auctionRungsRow : OpenClaim := { program := "ytehmifpofpifkaa", sum := "d9178c9b820f274b532a632e7820fa71c481fff2c2c0d4ce9cb2884b1c2a4a01", func := "lombard/lombardlaw06.AuctionRungs", spec := "auctionRungs", unfollowed := true, recurses := true, apart := false }
def AuctionRungsSaid : Prop := auctionRungsRow.holds Try.pinned (OpenSpec.ofChange auctionRungsSpec)

/-- ITS FALSE NEIGHBOUR: 'it returns false'. Refute it at one input. -/
def auctionRungsWrong : ChangeSpec := { name := "auctionRungs", fn := fun _ => fun
  | [d1, d2] => { results := [.lit (.bool false)], args := [d1, d2] }
  | _ => none }
def AuctionRungsWrongFalsely : Prop := auctionRungsRow.holds Try.pinned (OpenSpec.ofChange auctionRungsWrong)

/-- 'lombardlaw06.AuctionSells': WHATEVER THE INPUT: true; the input reads as it did. -/
def auctionSellsSpec : ChangeSpec := { name := "auctionSells", fn := fun _ => fun
  | [d1, d2] => { results := [.lit (.bool true)], args := [d1, d2] }
  | _ => none }
def auctionSellsRow : OpenClaim := { program := "ytehmifpofpifkaa", sum := "d9178c9b820f274b532a632e7820fa71c481fff2c2c0d4ce9cb2884b1c2a4a01", func := "lombard/lombardlaw06.AuctionSells", spec := "auctionSells", unfollowed := true, recurses := true, apart := false }
def AuctionSellsSaid : Prop := auctionSellsRow.holds Try.pinned (OpenSpec.ofChange auctionSellsSpec)

/-- ITS FALSE NEIGHBOUR: 'it returns false'. Refute it at one input. -/
def auctionSellsWrong : ChangeSpec := { name := "auctionSells", fn := fun _ => fun
  | [d1, d2] => { results := [.lit (.bool false)], args := [d1, d2] }
  | _ => none }
def AuctionSellsWrongFalsely : Prop := auctionSellsRow.holds Try.pinned (OpenSpec.ofChange auctionSellsWrong)

/-- 'lombardlaw06.AuctionRings': WHATEVER THE INPUT: true; the input reads as it did. -/
def auctionRingsSpec : ChangeSpec := { name := "auctionRings", fn := fun _ => fun
  | [d1, d2] => { results := [.lit (.bool true)], args := [d1, d2] }
  | _ => none }
def auctionRingsRow : OpenClaim := { program := "ytehmifpofpifkaa", sum := "d9178c9b820f274b532a632e7820fa71c481fff2c2c0d4ce9cb2884b1c2a4a01", func := "lombard/lombardlaw06.AuctionRings", spec := "auctionRings", unfollowed := true, recurses := true, apart := false }
def AuctionRingsSaid : Prop := auctionRingsRow.holds Try.pinned (OpenSpec.ofChange auctionRingsSpec)

/-- ITS FALSE NEIGHBOUR: 'it returns false'. Refute it at one input. -/
def auctionRingsWrong : ChangeSpec := { name := "auctionRings", fn := fun _ => fun
  | [d1, d2] => { results := [.lit (.bool false)], args := [d1, d2] }
  | _ => none }
def AuctionRingsWrongFalsely : Prop := auctionRingsRow.holds Try.pinned (OpenSpec.ofChange auctionRingsWrong)

/-- 'lombardlaw06.AuctionOrder': WHATEVER THE INPUT: true; the input reads as it did. -/
def auctionOrderSpec : ChangeSpec := { name := "auctionOrder", fn := fun _ => fun
  | [d1, d2, d3] => { results := [.lit (.bool true)], args := [d1, d2, d3] }
  | _ => none }
def auctionOrderRow : OpenClaim := { program := "ytehmifpofpifkaa", sum := "d9178c9b820f274b532a632e7820fa71c481fff2c2c0d4ce9cb2884b1c2a4a01", func := "lombard/lombardlaw06.AuctionOrder", spec := "auctionOrder", unfollowed := true, recurses := true, apart := false }
def AuctionOrderSaid : Prop := auctionOrderRow.holds Try.pinned (OpenSpec.ofChange auctionOrderSpec)

/-- ITS FALSE NEIGHBOUR: 'it returns false'. Refute it at one input. -/
def auctionOrderWrong : ChangeSpec := { name := "auctionOrder", fn := fun _ => fun
  | [d1, d2, d3] => { results := [.lit (.bool false)], args := [d1, d2, d3] }
  | _ => none }
def AuctionOrderWrongFalsely : Prop := auctionOrderRow.holds Try.pinned (OpenSpec.ofChange auctionOrderWrong)

/-- 'lombardlaw06.AuctionPays': WHATEVER THE INPUT: true; the input reads as it did. -/
def auctionPaysSpec : ChangeSpec := { name := "auctionPays", fn := fun _ => fun
  | [d1, d2, d3] => { results := [.lit (.bool true)], args := [d1, d2, d3] }
  | _ => none }
def auctionPaysRow : OpenClaim := { program := "ytehmifpofpifkaa", sum := "d9178c9b820f274b532a632e7820fa71c481fff2c2c0d4ce9cb2884b1c2a4a01", func := "lombard/lombardlaw06.AuctionPays", spec := "auctionPays", unfollowed := true, recurses := true, apart := false }
def AuctionPaysSaid : Prop := auctionPaysRow.holds Try.pinned (OpenSpec.ofChange auctionPaysSpec)

/-- ITS FALSE NEIGHBOUR: 'it returns false'. Refute it at one input. -/
def auctionPaysWrong : ChangeSpec := { name := "auctionPays", fn := fun _ => fun
  | [d1, d2, d3] => { results := [.lit (.bool false)], args := [d1, d2, d3] }
  | _ => none }
def AuctionPaysWrongFalsely : Prop := auctionPaysRow.holds Try.pinned (OpenSpec.ofChange auctionPaysWrong)

/-- 'lombardlaw06.AuctionTruth': WHATEVER THE INPUT: true; the input reads as it did. -/
def auctionTruthSpec : ChangeSpec := { name := "auctionTruth", fn := fun _ => fun
  | [d1, d2, d3] => { results := [.lit (.bool true)], args := [d1, d2, d3] }
  | _ => none }
def auctionTruthRow : OpenClaim := { program := "ytehmifpofpifkaa", sum := "d9178c9b820f274b532a632e7820fa71c481fff2c2c0d4ce9cb2884b1c2a4a01", func := "lombard/lombardlaw06.AuctionTruth", spec := "auctionTruth", unfollowed := true, recurses := true, apart := false }
def AuctionTruthSaid : Prop := auctionTruthRow.holds Try.pinned (OpenSpec.ofChange auctionTruthSpec)

/-- ITS FALSE NEIGHBOUR: 'it returns false'. Refute it at one input. -/
def auctionTruthWrong : ChangeSpec := { name := "auctionTruth", fn := fun _ => fun
  | [d1, d2, d3] => { results := [.lit (.bool false)], args := [d1, d2, d3] }
  | _ => none }
def AuctionTruthWrongFalsely : Prop := auctionTruthRow.holds Try.pinned (OpenSpec.ofChange auctionTruthWrong)

/-- 'lombardlaw06.AuctionMore': WHATEVER THE INPUT: true; the input reads as it did. -/
def auctionMoreSpec : ChangeSpec := { name := "auctionMore", fn := fun _ => fun
  | [d1, d2, d3] => { results := [.lit (.bool true)], args := [d1, d2, d3] }
  | _ => none }
def auctionMoreRow : OpenClaim := { program := "ytehmifpofpifkaa", sum := "d9178c9b820f274b532a632e7820fa71c481fff2c2c0d4ce9cb2884b1c2a4a01", func := "lombard/lombardlaw06.AuctionMore", spec := "auctionMore", unfollowed := true, recurses := true, apart := false }
def AuctionMoreSaid : Prop := auctionMoreRow.holds Try.pinned (OpenSpec.ofChange auctionMoreSpec)

/-- ITS FALSE NEIGHBOUR: 'it returns false'. Refute it at one input. -/
def auctionMoreWrong : ChangeSpec := { name := "auctionMore", fn := fun _ => fun
  | [d1, d2, d3] => { results := [.lit (.bool false)], args := [d1, d2, d3] }
  | _ => none }
def AuctionMoreWrongFalsely : Prop := auctionMoreRow.holds Try.pinned (OpenSpec.ofChange auctionMoreWrong)

/-- 'lombardlaw06.AuctionApart': WHATEVER THE INPUT: true; the input reads as it did. -/
def auctionApartSpec : ChangeSpec := { name := "auctionApart", fn := fun _ => fun
  | [d1, d2, d3] => { results := [.lit (.bool true)], args := [d1, d2, d3] }
  | _ => none }
def auctionApartRow : OpenClaim := { program := "ytehmifpofpifkaa", sum := "d9178c9b820f274b532a632e7820fa71c481fff2c2c0d4ce9cb2884b1c2a4a01", func := "lombard/lombardlaw06.AuctionApart", spec := "auctionApart", unfollowed := true, recurses := true, apart := false }
def AuctionApartSaid : Prop := auctionApartRow.holds Try.pinned (OpenSpec.ofChange auctionApartSpec)

/-- ITS FALSE NEIGHBOUR: 'it returns false'. Refute it at one input. -/
def auctionApartWrong : ChangeSpec := { name := "auctionApart", fn := fun _ => fun
  | [d1, d2, d3] => { results := [.lit (.bool false)], args := [d1, d2, d3] }
  | _ => none }
def AuctionApartWrongFalsely : Prop := auctionApartRow.holds Try.pinned (OpenSpec.ofChange auctionApartWrong)

/-- 'lombardlaw06.AuctionCloses': WHATEVER THE INPUT: true; the input reads as it did. -/
def auctionClosesSpec : ChangeSpec := { name := "auctionCloses", fn := fun _ => fun
  | [d1, d2] => { results := [.lit (.bool true)], args := [d1, d2] }
  | _ => none }
def auctionClosesRow : OpenClaim := { program := "ytehmifpofpifkaa", sum := "d9178c9b820f274b532a632e7820fa71c481fff2c2c0d4ce9cb2884b1c2a4a01", func := "lombard/lombardlaw06.AuctionCloses", spec := "auctionCloses", unfollowed := true, recurses := true, apart := false }
def AuctionClosesSaid : Prop := auctionClosesRow.holds Try.pinned (OpenSpec.ofChange auctionClosesSpec)

/-- ITS FALSE NEIGHBOUR: 'it returns false'. Refute it at one input. -/
def auctionClosesWrong : ChangeSpec := { name := "auctionCloses", fn := fun _ => fun
  | [d1, d2] => { results := [.lit (.bool false)], args := [d1, d2] }
  | _ => none }
def AuctionClosesWrongFalsely : Prop := auctionClosesRow.holds Try.pinned (OpenSpec.ofChange auctionClosesWrong)

/-- 'lombardlaw06.AuctionFairs': WHATEVER THE INPUT: true; the input reads as it did. -/
def auctionFairsSpec : ChangeSpec := { name := "auctionFairs", fn := fun _ => fun
  | [d1, d2] => { results := [.lit (.bool true)], args := [d1, d2] }
  | _ => none }
def auctionFairsRow : OpenClaim := { program := "ytehmifpofpifkaa", sum := "d9178c9b820f274b532a632e7820fa71c481fff2c2c0d4ce9cb2884b1c2a4a01", func := "lombard/lombardlaw06.AuctionFairs", spec := "auctionFairs", unfollowed := true, recurses := true, apart := false }
def AuctionFairsSaid : Prop := auctionFairsRow.holds Try.pinned (OpenSpec.ofChange auctionFairsSpec)

/-- ITS FALSE NEIGHBOUR: 'it returns false'. Refute it at one input. -/
def auctionFairsWrong : ChangeSpec := { name := "auctionFairs", fn := fun _ => fun
  | [d1, d2] => { results := [.lit (.bool false)], args := [d1, d2] }
  | _ => none }
def AuctionFairsWrongFalsely : Prop := auctionFairsRow.holds Try.pinned (OpenSpec.ofChange auctionFairsWrong)

/-- 'lombardlaw06.AuctionLeast': WHATEVER THE INPUT: true; the input reads as it did. -/
def auctionLeastSpec : ChangeSpec := { name := "auctionLeast", fn := fun _ => fun
  | [d1, d2] => { results := [.lit (.bool true)], args := [d1, d2] }
  | _ => none }
def auctionLeastRow : OpenClaim := { program := "ytehmifpofpifkaa", sum := "d9178c9b820f274b532a632e7820fa71c481fff2c2c0d4ce9cb2884b1c2a4a01", func := "lombard/lombardlaw06.AuctionLeast", spec := "auctionLeast", unfollowed := true, recurses := true, apart := false }
def AuctionLeastSaid : Prop := auctionLeastRow.holds Try.pinned (OpenSpec.ofChange auctionLeastSpec)

/-- ITS FALSE NEIGHBOUR: 'it returns false'. Refute it at one input. -/
def auctionLeastWrong : ChangeSpec := { name := "auctionLeast", fn := fun _ => fun
  | [d1, d2] => { results := [.lit (.bool false)], args := [d1, d2] }
  | _ => none }
def AuctionLeastWrongFalsely : Prop := auctionLeastRow.holds Try.pinned (OpenSpec.ofChange auctionLeastWrong)

/-- 'lombardlaw06.AuctionKnown': WHATEVER THE INPUT: true; the input reads as it did. -/
def auctionKnownSpec : ChangeSpec := { name := "auctionKnown", fn := fun _ => fun
  | [] => { results := [.lit (.bool true)], args := [] }
  | _ => none }
def auctionKnownRow : OpenClaim := { program := "ytehmifpofpifkaa", sum := "d9178c9b820f274b532a632e7820fa71c481fff2c2c0d4ce9cb2884b1c2a4a01", func := "lombard/lombardlaw06.AuctionKnown", spec := "auctionKnown", unfollowed := true, recurses := true, apart := false }
def AuctionKnownSaid : Prop := auctionKnownRow.holds Try.pinned (OpenSpec.ofChange auctionKnownSpec)

/-- ITS FALSE NEIGHBOUR: 'it returns false'. Refute it at one input. -/
def auctionKnownWrong : ChangeSpec := { name := "auctionKnown", fn := fun _ => fun
  | [] => { results := [.lit (.bool false)], args := [] }
  | _ => none }
def AuctionKnownWrongFalsely : Prop := auctionKnownRow.holds Try.pinned (OpenSpec.ofChange auctionKnownWrong)

/- THE SECOND FORM. 'bulk': how many values and letters a reading holds, each counted each time it is reached (what is shared counts as often as it is met; a slice's spare places count too). A statement '..UptoSaid' is the law's where the arguments, and the package variables that the reading takes, are together of bulk at most 1048576: NARROWER than '..Said'. Prove '..Said' where nothing that the law and all that it calls make is longer than what came in: it says more and counts as full. Else prove '..UptoSaid'. A law counts once. -/
mutual
def uptoBulk {H : Type} : DataW H → Nat
  | .lit (.string bytes) => bytes.length + 1
  | .lit _ => 1
  | .nil => 1
  | .ptr d => uptoBulk d + 1
  | .slice elems spare => uptoBulkAll elems + uptoBulkAll spare + 1
  | .agg parts => uptoBulkAll parts + 1
  | .iface _ d => uptoBulk d + 1
  | .map entries => uptoBulkEntries entries + 1
  | .held _ => 1
def uptoBulkAll {H : Type} : List (DataW H) → Nat
  | [] => 0
  | d :: r => uptoBulk d + uptoBulkAll r
def uptoBulkEntries {H : Type} : List (Lit × DataW H) → Nat
  | [] => 0
  | x :: r => uptoBulkEntry x + uptoBulkEntries r
def uptoBulkEntry {H : Type} : Lit × DataW H → Nat
  | (.string bytes, d) => bytes.length + uptoBulk d + 1
  | (_, d) => uptoBulk d + 1
 end
def uptoSmall : (H : Type) → List (DataW H) → Bool := fun _ ds => decide (uptoBulkAll ds ≤ 1048576)
def OpenSpec.upto (s : _root_.Go.ChangeSpec) : _root_.Go.OpenSpec := { _root_.Go.OpenSpec.ofChange s with cond := some uptoSmall }

/-- 'lombardlaw06.AuctionRungs', WHERE WHAT IT READS IS OF BULK AT MOST 1048576: true; the input reads as it did. -/
def auctionRungsUptoRow : OpenClaim := { program := "ytehmifpofpifkaa", sum := "d9178c9b820f274b532a632e7820fa71c481fff2c2c0d4ce9cb2884b1c2a4a01", func := "lombard/lombardlaw06.AuctionRungs", spec := "auctionRungs", unfollowed := true, recurses := true, apart := false, narrowed := true }
def AuctionRungsUptoSaid : Prop := auctionRungsUptoRow.holds Try.pinned (OpenSpec.upto auctionRungsSpec)

/-- 'lombardlaw06.AuctionSells', WHERE WHAT IT READS IS OF BULK AT MOST 1048576: true; the input reads as it did. -/
def auctionSellsUptoRow : OpenClaim := { program := "ytehmifpofpifkaa", sum := "d9178c9b820f274b532a632e7820fa71c481fff2c2c0d4ce9cb2884b1c2a4a01", func := "lombard/lombardlaw06.AuctionSells", spec := "auctionSells", unfollowed := true, recurses := true, apart := false, narrowed := true }
def AuctionSellsUptoSaid : Prop := auctionSellsUptoRow.holds Try.pinned (OpenSpec.upto auctionSellsSpec)

/-- 'lombardlaw06.AuctionRings', WHERE WHAT IT READS IS OF BULK AT MOST 1048576: true; the input reads as it did. -/
def auctionRingsUptoRow : OpenClaim := { program := "ytehmifpofpifkaa", sum := "d9178c9b820f274b532a632e7820fa71c481fff2c2c0d4ce9cb2884b1c2a4a01", func := "lombard/lombardlaw06.AuctionRings", spec := "auctionRings", unfollowed := true, recurses := true, apart := false, narrowed := true }
def AuctionRingsUptoSaid : Prop := auctionRingsUptoRow.holds Try.pinned (OpenSpec.upto auctionRingsSpec)

/-- 'lombardlaw06.AuctionOrder', WHERE WHAT IT READS IS OF BULK AT MOST 1048576: true; the input reads as it did. -/
def auctionOrderUptoRow : OpenClaim := { program := "ytehmifpofpifkaa", sum := "d9178c9b820f274b532a632e7820fa71c481fff2c2c0d4ce9cb2884b1c2a4a01", func := "lombard/lombardlaw06.AuctionOrder", spec := "auctionOrder", unfollowed := true, recurses := true, apart := false, narrowed := true }
def AuctionOrderUptoSaid : Prop := auctionOrderUptoRow.holds Try.pinned (OpenSpec.upto auctionOrderSpec)

/-- 'lombardlaw06.AuctionPays', WHERE WHAT IT READS IS OF BULK AT MOST 1048576: true; the input reads as it did. -/
def auctionPaysUptoRow : OpenClaim := { program := "ytehmifpofpifkaa", sum := "d9178c9b820f274b532a632e7820fa71c481fff2c2c0d4ce9cb2884b1c2a4a01", func := "lombard/lombardlaw06.AuctionPays", spec := "auctionPays", unfollowed := true, recurses := true, apart := false, narrowed := true }
def AuctionPaysUptoSaid : Prop := auctionPaysUptoRow.holds Try.pinned (OpenSpec.upto auctionPaysSpec)

/-- 'lombardlaw06.AuctionTruth', WHERE WHAT IT READS IS OF BULK AT MOST 1048576: true; the input reads as it did. -/
def auctionTruthUptoRow : OpenClaim := { program := "ytehmifpofpifkaa", sum := "d9178c9b820f274b532a632e7820fa71c481fff2c2c0d4ce9cb2884b1c2a4a01", func := "lombard/lombardlaw06.AuctionTruth", spec := "auctionTruth", unfollowed := true, recurses := true, apart := false, narrowed := true }
def AuctionTruthUptoSaid : Prop := auctionTruthUptoRow.holds Try.pinned (OpenSpec.upto auctionTruthSpec)

/-- 'lombardlaw06.AuctionMore', WHERE WHAT IT READS IS OF BULK AT MOST 1048576: true; the input reads as it did. -/
def auctionMoreUptoRow : OpenClaim := { program := "ytehmifpofpifkaa", sum := "d9178c9b820f274b532a632e7820fa71c481fff2c2c0d4ce9cb2884b1c2a4a01", func := "lombard/lombardlaw06.AuctionMore", spec := "auctionMore", unfollowed := true, recurses := true, apart := false, narrowed := true }
def AuctionMoreUptoSaid : Prop := auctionMoreUptoRow.holds Try.pinned (OpenSpec.upto auctionMoreSpec)

/-- 'lombardlaw06.AuctionApart', WHERE WHAT IT READS IS OF BULK AT MOST 1048576: true; the input reads as it did. -/
def auctionApartUptoRow : OpenClaim := { program := "ytehmifpofpifkaa", sum := "d9178c9b820f274b532a632e7820fa71c481fff2c2c0d4ce9cb2884b1c2a4a01", func := "lombard/lombardlaw06.AuctionApart", spec := "auctionApart", unfollowed := true, recurses := true, apart := false, narrowed := true }
def AuctionApartUptoSaid : Prop := auctionApartUptoRow.holds Try.pinned (OpenSpec.upto auctionApartSpec)

/-- 'lombardlaw06.AuctionCloses', WHERE WHAT IT READS IS OF BULK AT MOST 1048576: true; the input reads as it did. -/
def auctionClosesUptoRow : OpenClaim := { program := "ytehmifpofpifkaa", sum := "d9178c9b820f274b532a632e7820fa71c481fff2c2c0d4ce9cb2884b1c2a4a01", func := "lombard/lombardlaw06.AuctionCloses", spec := "auctionCloses", unfollowed := true, recurses := true, apart := false, narrowed := true }
def AuctionClosesUptoSaid : Prop := auctionClosesUptoRow.holds Try.pinned (OpenSpec.upto auctionClosesSpec)

/-- 'lombardlaw06.AuctionFairs', WHERE WHAT IT READS IS OF BULK AT MOST 1048576: true; the input reads as it did. -/
def auctionFairsUptoRow : OpenClaim := { program := "ytehmifpofpifkaa", sum := "d9178c9b820f274b532a632e7820fa71c481fff2c2c0d4ce9cb2884b1c2a4a01", func := "lombard/lombardlaw06.AuctionFairs", spec := "auctionFairs", unfollowed := true, recurses := true, apart := false, narrowed := true }
def AuctionFairsUptoSaid : Prop := auctionFairsUptoRow.holds Try.pinned (OpenSpec.upto auctionFairsSpec)

/-- 'lombardlaw06.AuctionLeast', WHERE WHAT IT READS IS OF BULK AT MOST 1048576: true; the input reads as it did. -/
def auctionLeastUptoRow : OpenClaim := { program := "ytehmifpofpifkaa", sum := "d9178c9b820f274b532a632e7820fa71c481fff2c2c0d4ce9cb2884b1c2a4a01", func := "lombard/lombardlaw06.AuctionLeast", spec := "auctionLeast", unfollowed := true, recurses := true, apart := false, narrowed := true }
def AuctionLeastUptoSaid : Prop := auctionLeastUptoRow.holds Try.pinned (OpenSpec.upto auctionLeastSpec)

/-- 'lombardlaw06.AuctionKnown', WHERE WHAT IT READS IS OF BULK AT MOST 1048576: true; the input reads as it did. -/
def auctionKnownUptoRow : OpenClaim := { program := "ytehmifpofpifkaa", sum := "d9178c9b820f274b532a632e7820fa71c481fff2c2c0d4ce9cb2884b1c2a4a01", func := "lombard/lombardlaw06.AuctionKnown", spec := "auctionKnown", unfollowed := true, recurses := true, apart := false, narrowed := true }
def AuctionKnownUptoSaid : Prop := auctionKnownUptoRow.holds Try.pinned (OpenSpec.upto auctionKnownSpec)

end Rows
end Go.Proofs.Ytehmifpofpifkaa
