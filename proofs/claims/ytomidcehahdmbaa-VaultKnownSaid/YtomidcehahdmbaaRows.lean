/-
  No cell of these rows narrows 'for every input' (looked for: loops, veiled, ifaces, maps, wideKeys, modest, calm, conditions, laid).
  DERIVED. THE GIVEN ROWS OF THIS SEAT. 10 by the template 'for every input the law returns true; each argument reads behind the call as it read before'; 0 by the template 'total and deterministic' (their statements: YtomidcehahdmbaaTotals.lean).
  GIVEN WITH THE SEED: the statements are not yours to turn. If you find one false, say at which input.
  Laid BY PROGRAM, IN A SANDBOX (cutbox-rows.mjs): the forced cells as the released guide's own fill.sh prints them over the translation 730c362aca0f14df… (all of the seat's roots in one cut). By AI agents, Wed Nov 11 2026. No macro, syntax, notation, axiom, sorry.
-/
import Derived.Test.YtomidcehahdmbaaChecked
import GoSem.Claim
import GoSem.ClaimJoined
import GoSem.ClaimMapViews
import Derived.JoinedTies
import Derived.KernelRfl
namespace Go.Proofs.Ytomidcehahdmbaa
/- THE CELL 'sum', in the pinned program and in every row, IS THE sha256 OF THE DUMP (.gsa) THAT YtomidcehahdmbaaProg.lean LOADS. Nothing in Lean hashes anything: it is a label: what it is worth is what the hold of that sum in a sandbox is worth. -/
noncomputable def Try.pinned : Pinned := { name := "ytomidcehahdmbaa", sum := "730c362aca0f14df0f4c0511bf81af9e8deddcdea87e59b1228af59954844f1f", checked := Try.checked }
namespace Rows
def none {H : Type} : Left H := { results := [], args := [] }

/-- 'lombardlaw04.VaultEnters': WHATEVER THE INPUT: true; the input reads as it did. -/
def vaultEntersSpec : ChangeSpec := { name := "vaultEnters", fn := fun _ => fun
  | [d1, d2, d3] => { results := [.lit (.bool true)], args := [d1, d2, d3] }
  | _ => none }
def vaultEntersRow : OpenClaim := { program := "ytomidcehahdmbaa", sum := "730c362aca0f14df0f4c0511bf81af9e8deddcdea87e59b1228af59954844f1f", func := "lombard/lombardlaw04.VaultEnters", spec := "vaultEnters", unfollowed := true, recurses := true, apart := false }
def VaultEntersSaid : Prop := vaultEntersRow.holds Try.pinned (OpenSpec.ofChange vaultEntersSpec)

/-- ITS FALSE NEIGHBOUR: 'it returns false'. Refute it at one input. -/
def vaultEntersWrong : ChangeSpec := { name := "vaultEnters", fn := fun _ => fun
  | [d1, d2, d3] => { results := [.lit (.bool false)], args := [d1, d2, d3] }
  | _ => none }
def VaultEntersWrongFalsely : Prop := vaultEntersRow.holds Try.pinned (OpenSpec.ofChange vaultEntersWrong)

/-- 'lombardlaw04.VaultGroups': WHATEVER THE INPUT: true; the input reads as it did. -/
def vaultGroupsSpec : ChangeSpec := { name := "vaultGroups", fn := fun _ => fun
  | [d1, d2] => { results := [.lit (.bool true)], args := [d1, d2] }
  | _ => none }
def vaultGroupsRow : OpenClaim := { program := "ytomidcehahdmbaa", sum := "730c362aca0f14df0f4c0511bf81af9e8deddcdea87e59b1228af59954844f1f", func := "lombard/lombardlaw04.VaultGroups", spec := "vaultGroups", unfollowed := true, recurses := true, apart := false }
def VaultGroupsSaid : Prop := vaultGroupsRow.holds Try.pinned (OpenSpec.ofChange vaultGroupsSpec)

/-- ITS FALSE NEIGHBOUR: 'it returns false'. Refute it at one input. -/
def vaultGroupsWrong : ChangeSpec := { name := "vaultGroups", fn := fun _ => fun
  | [d1, d2] => { results := [.lit (.bool false)], args := [d1, d2] }
  | _ => none }
def VaultGroupsWrongFalsely : Prop := vaultGroupsRow.holds Try.pinned (OpenSpec.ofChange vaultGroupsWrong)

/-- 'lombardlaw04.VaultLeast': WHATEVER THE INPUT: true; the input reads as it did. -/
def vaultLeastSpec : ChangeSpec := { name := "vaultLeast", fn := fun _ => fun
  | [d1, d2, d3] => { results := [.lit (.bool true)], args := [d1, d2, d3] }
  | _ => none }
def vaultLeastRow : OpenClaim := { program := "ytomidcehahdmbaa", sum := "730c362aca0f14df0f4c0511bf81af9e8deddcdea87e59b1228af59954844f1f", func := "lombard/lombardlaw04.VaultLeast", spec := "vaultLeast", unfollowed := true, recurses := true, apart := false }
def VaultLeastSaid : Prop := vaultLeastRow.holds Try.pinned (OpenSpec.ofChange vaultLeastSpec)

/-- ITS FALSE NEIGHBOUR: 'it returns false'. Refute it at one input. -/
def vaultLeastWrong : ChangeSpec := { name := "vaultLeast", fn := fun _ => fun
  | [d1, d2, d3] => { results := [.lit (.bool false)], args := [d1, d2, d3] }
  | _ => none }
def VaultLeastWrongFalsely : Prop := vaultLeastRow.holds Try.pinned (OpenSpec.ofChange vaultLeastWrong)

/-- 'lombardlaw04.VaultDual': WHATEVER THE INPUT: true; the input reads as it did. -/
def vaultDualSpec : ChangeSpec := { name := "vaultDual", fn := fun _ => fun
  | [d1, d2, d3] => { results := [.lit (.bool true)], args := [d1, d2, d3] }
  | _ => none }
def vaultDualRow : OpenClaim := { program := "ytomidcehahdmbaa", sum := "730c362aca0f14df0f4c0511bf81af9e8deddcdea87e59b1228af59954844f1f", func := "lombard/lombardlaw04.VaultDual", spec := "vaultDual", unfollowed := true, recurses := true, apart := false }
def VaultDualSaid : Prop := vaultDualRow.holds Try.pinned (OpenSpec.ofChange vaultDualSpec)

/-- ITS FALSE NEIGHBOUR: 'it returns false'. Refute it at one input. -/
def vaultDualWrong : ChangeSpec := { name := "vaultDual", fn := fun _ => fun
  | [d1, d2, d3] => { results := [.lit (.bool false)], args := [d1, d2, d3] }
  | _ => none }
def VaultDualWrongFalsely : Prop := vaultDualRow.holds Try.pinned (OpenSpec.ofChange vaultDualWrong)

/-- 'lombardlaw04.VaultPlaces': WHATEVER THE INPUT: true; the input reads as it did. -/
def vaultPlacesSpec : ChangeSpec := { name := "vaultPlaces", fn := fun _ => fun
  | [d1, d2] => { results := [.lit (.bool true)], args := [d1, d2] }
  | _ => none }
def vaultPlacesRow : OpenClaim := { program := "ytomidcehahdmbaa", sum := "730c362aca0f14df0f4c0511bf81af9e8deddcdea87e59b1228af59954844f1f", func := "lombard/lombardlaw04.VaultPlaces", spec := "vaultPlaces", unfollowed := true, recurses := true, apart := false }
def VaultPlacesSaid : Prop := vaultPlacesRow.holds Try.pinned (OpenSpec.ofChange vaultPlacesSpec)

/-- ITS FALSE NEIGHBOUR: 'it returns false'. Refute it at one input. -/
def vaultPlacesWrong : ChangeSpec := { name := "vaultPlaces", fn := fun _ => fun
  | [d1, d2] => { results := [.lit (.bool false)], args := [d1, d2] }
  | _ => none }
def VaultPlacesWrongFalsely : Prop := vaultPlacesRow.holds Try.pinned (OpenSpec.ofChange vaultPlacesWrong)

/-- 'lombardlaw04.VaultSwap': WHATEVER THE INPUT: true; the input reads as it did. -/
def vaultSwapSpec : ChangeSpec := { name := "vaultSwap", fn := fun _ => fun
  | [d1, d2, d3] => { results := [.lit (.bool true)], args := [d1, d2, d3] }
  | _ => none }
def vaultSwapRow : OpenClaim := { program := "ytomidcehahdmbaa", sum := "730c362aca0f14df0f4c0511bf81af9e8deddcdea87e59b1228af59954844f1f", func := "lombard/lombardlaw04.VaultSwap", spec := "vaultSwap", unfollowed := true, recurses := true, apart := false }
def VaultSwapSaid : Prop := vaultSwapRow.holds Try.pinned (OpenSpec.ofChange vaultSwapSpec)

/-- ITS FALSE NEIGHBOUR: 'it returns false'. Refute it at one input. -/
def vaultSwapWrong : ChangeSpec := { name := "vaultSwap", fn := fun _ => fun
  | [d1, d2, d3] => { results := [.lit (.bool false)], args := [d1, d2, d3] }
  | _ => none }
def VaultSwapWrongFalsely : Prop := vaultSwapRow.holds Try.pinned (OpenSpec.ofChange vaultSwapWrong)

/-- 'lombardlaw04.VaultPart': WHATEVER THE INPUT: true; the input reads as it did. -/
def vaultPartSpec : ChangeSpec := { name := "vaultPart", fn := fun _ => fun
  | [d1, d2, d3] => { results := [.lit (.bool true)], args := [d1, d2, d3] }
  | _ => none }
def vaultPartRow : OpenClaim := { program := "ytomidcehahdmbaa", sum := "730c362aca0f14df0f4c0511bf81af9e8deddcdea87e59b1228af59954844f1f", func := "lombard/lombardlaw04.VaultPart", spec := "vaultPart", unfollowed := true, recurses := true, apart := false }
def VaultPartSaid : Prop := vaultPartRow.holds Try.pinned (OpenSpec.ofChange vaultPartSpec)

/-- ITS FALSE NEIGHBOUR: 'it returns false'. Refute it at one input. -/
def vaultPartWrong : ChangeSpec := { name := "vaultPart", fn := fun _ => fun
  | [d1, d2, d3] => { results := [.lit (.bool false)], args := [d1, d2, d3] }
  | _ => none }
def VaultPartWrongFalsely : Prop := vaultPartRow.holds Try.pinned (OpenSpec.ofChange vaultPartWrong)

/-- 'lombardlaw04.VaultWays': WHATEVER THE INPUT: true; the input reads as it did. -/
def vaultWaysSpec : ChangeSpec := { name := "vaultWays", fn := fun _ => fun
  | [d1, d2] => { results := [.lit (.bool true)], args := [d1, d2] }
  | _ => none }
def vaultWaysRow : OpenClaim := { program := "ytomidcehahdmbaa", sum := "730c362aca0f14df0f4c0511bf81af9e8deddcdea87e59b1228af59954844f1f", func := "lombard/lombardlaw04.VaultWays", spec := "vaultWays", unfollowed := true, recurses := true, apart := false }
def VaultWaysSaid : Prop := vaultWaysRow.holds Try.pinned (OpenSpec.ofChange vaultWaysSpec)

/-- ITS FALSE NEIGHBOUR: 'it returns false'. Refute it at one input. -/
def vaultWaysWrong : ChangeSpec := { name := "vaultWays", fn := fun _ => fun
  | [d1, d2] => { results := [.lit (.bool false)], args := [d1, d2] }
  | _ => none }
def VaultWaysWrongFalsely : Prop := vaultWaysRow.holds Try.pinned (OpenSpec.ofChange vaultWaysWrong)

/-- 'lombardlaw04.VaultShortest': WHATEVER THE INPUT: true; the input reads as it did. -/
def vaultShortestSpec : ChangeSpec := { name := "vaultShortest", fn := fun _ => fun
  | [d1, d2] => { results := [.lit (.bool true)], args := [d1, d2] }
  | _ => none }
def vaultShortestRow : OpenClaim := { program := "ytomidcehahdmbaa", sum := "730c362aca0f14df0f4c0511bf81af9e8deddcdea87e59b1228af59954844f1f", func := "lombard/lombardlaw04.VaultShortest", spec := "vaultShortest", unfollowed := true, recurses := true, apart := false }
def VaultShortestSaid : Prop := vaultShortestRow.holds Try.pinned (OpenSpec.ofChange vaultShortestSpec)

/-- ITS FALSE NEIGHBOUR: 'it returns false'. Refute it at one input. -/
def vaultShortestWrong : ChangeSpec := { name := "vaultShortest", fn := fun _ => fun
  | [d1, d2] => { results := [.lit (.bool false)], args := [d1, d2] }
  | _ => none }
def VaultShortestWrongFalsely : Prop := vaultShortestRow.holds Try.pinned (OpenSpec.ofChange vaultShortestWrong)

/-- 'lombardlaw04.VaultKnown': WHATEVER THE INPUT: true; the input reads as it did. -/
def vaultKnownSpec : ChangeSpec := { name := "vaultKnown", fn := fun _ => fun
  | [] => { results := [.lit (.bool true)], args := [] }
  | _ => none }
def vaultKnownRow : OpenClaim := { program := "ytomidcehahdmbaa", sum := "730c362aca0f14df0f4c0511bf81af9e8deddcdea87e59b1228af59954844f1f", func := "lombard/lombardlaw04.VaultKnown", spec := "vaultKnown", unfollowed := true, recurses := true, apart := false }
def VaultKnownSaid : Prop := vaultKnownRow.holds Try.pinned (OpenSpec.ofChange vaultKnownSpec)

/-- ITS FALSE NEIGHBOUR: 'it returns false'. Refute it at one input. -/
def vaultKnownWrong : ChangeSpec := { name := "vaultKnown", fn := fun _ => fun
  | [] => { results := [.lit (.bool false)], args := [] }
  | _ => none }
def VaultKnownWrongFalsely : Prop := vaultKnownRow.holds Try.pinned (OpenSpec.ofChange vaultKnownWrong)

/- THE SECOND FORM. 'bulk': how many values and letters a reading holds, each counted each time it is reached (what is shared counts as often as it is met; a slice's spare places count too). A statement '..UptoSaid' is the law's where the arguments, and the package variables that the reading takes, are together of bulk at most 1048576: NARROWER than '..Said'. Prove '..Said' where nothing that the law and all that it calls make is longer than what came in: it says more and counts as full. Else prove '..UptoSaid'. A law counts once. -/
mutual
def uptoBulk {H : Type} : DataW H → Nat
  | .lit (.string bytes) => bytes.length + 1
  | .lit _ => 1
  | .nil => 1
  | .ptr d => uptoBulk d + 1
  | .slice elems spare => uptoBulkAll elems + uptoBulkAll spare + 1
  | .agg parts => uptoBulkAll parts + 1
  | .iface _ d => uptoBulk d + 1
  | .map entries => uptoBulkEntries entries + 1
  | .held _ => 1
def uptoBulkAll {H : Type} : List (DataW H) → Nat
  | [] => 0
  | d :: r => uptoBulk d + uptoBulkAll r
def uptoBulkEntries {H : Type} : List (Lit × DataW H) → Nat
  | [] => 0
  | x :: r => uptoBulkEntry x + uptoBulkEntries r
def uptoBulkEntry {H : Type} : Lit × DataW H → Nat
  | (.string bytes, d) => bytes.length + uptoBulk d + 1
  | (_, d) => uptoBulk d + 1
 end
def uptoSmall : (H : Type) → List (DataW H) → Bool := fun _ ds => decide (uptoBulkAll ds ≤ 1048576)
def OpenSpec.upto (s : _root_.Go.ChangeSpec) : _root_.Go.OpenSpec := { _root_.Go.OpenSpec.ofChange s with cond := some uptoSmall }

/-- 'lombardlaw04.VaultEnters', WHERE WHAT IT READS IS OF BULK AT MOST 1048576: true; the input reads as it did. -/
def vaultEntersUptoRow : OpenClaim := { program := "ytomidcehahdmbaa", sum := "730c362aca0f14df0f4c0511bf81af9e8deddcdea87e59b1228af59954844f1f", func := "lombard/lombardlaw04.VaultEnters", spec := "vaultEnters", unfollowed := true, recurses := true, apart := false, narrowed := true }
def VaultEntersUptoSaid : Prop := vaultEntersUptoRow.holds Try.pinned (OpenSpec.upto vaultEntersSpec)

/-- 'lombardlaw04.VaultGroups', WHERE WHAT IT READS IS OF BULK AT MOST 1048576: true; the input reads as it did. -/
def vaultGroupsUptoRow : OpenClaim := { program := "ytomidcehahdmbaa", sum := "730c362aca0f14df0f4c0511bf81af9e8deddcdea87e59b1228af59954844f1f", func := "lombard/lombardlaw04.VaultGroups", spec := "vaultGroups", unfollowed := true, recurses := true, apart := false, narrowed := true }
def VaultGroupsUptoSaid : Prop := vaultGroupsUptoRow.holds Try.pinned (OpenSpec.upto vaultGroupsSpec)

/-- 'lombardlaw04.VaultLeast', WHERE WHAT IT READS IS OF BULK AT MOST 1048576: true; the input reads as it did. -/
def vaultLeastUptoRow : OpenClaim := { program := "ytomidcehahdmbaa", sum := "730c362aca0f14df0f4c0511bf81af9e8deddcdea87e59b1228af59954844f1f", func := "lombard/lombardlaw04.VaultLeast", spec := "vaultLeast", unfollowed := true, recurses := true, apart := false, narrowed := true }
def VaultLeastUptoSaid : Prop := vaultLeastUptoRow.holds Try.pinned (OpenSpec.upto vaultLeastSpec)

/-- 'lombardlaw04.VaultDual', WHERE WHAT IT READS IS OF BULK AT MOST 1048576: true; the input reads as it did. -/
def vaultDualUptoRow : OpenClaim := { program := "ytomidcehahdmbaa", sum := "730c362aca0f14df0f4c0511bf81af9e8deddcdea87e59b1228af59954844f1f", func := "lombard/lombardlaw04.VaultDual", spec := "vaultDual", unfollowed := true, recurses := true, apart := false, narrowed := true }
def VaultDualUptoSaid : Prop := vaultDualUptoRow.holds Try.pinned (OpenSpec.upto vaultDualSpec)

/-- 'lombardlaw04.VaultPlaces', WHERE WHAT IT READS IS OF BULK AT MOST 1048576: true; the input reads as it did. -/
def vaultPlacesUptoRow : OpenClaim := { program := "ytomidcehahdmbaa", sum := "730c362aca0f14df0f4c0511bf81af9e8deddcdea87e59b1228af59954844f1f", func := "lombard/lombardlaw04.VaultPlaces", spec := "vaultPlaces", unfollowed := true, recurses := true, apart := false, narrowed := true }
def VaultPlacesUptoSaid : Prop := vaultPlacesUptoRow.holds Try.pinned (OpenSpec.upto vaultPlacesSpec)

/-- 'lombardlaw04.VaultSwap', WHERE WHAT IT READS IS OF BULK AT MOST 1048576: true; the input reads as it did. -/
def vaultSwapUptoRow : OpenClaim := { program := "ytomidcehahdmbaa", sum := "730c362aca0f14df0f4c0511bf81af9e8deddcdea87e59b1228af59954844f1f", func := "lombard/lombardlaw04.VaultSwap", spec := "vaultSwap", unfollowed := true, recurses := true, apart := false, narrowed := true }
def VaultSwapUptoSaid : Prop := vaultSwapUptoRow.holds Try.pinned (OpenSpec.upto vaultSwapSpec)

/-- 'lombardlaw04.VaultPart', WHERE WHAT IT READS IS OF BULK AT MOST 1048576: true; the input reads as it did. -/
def vaultPartUptoRow : OpenClaim := { program := "ytomidcehahdmbaa", sum := "730c362aca0f14df0f4c0511bf81af9e8deddcdea87e59b1228af59954844f1f", func := "lombard/lombardlaw04.VaultPart", spec := "vaultPart", unfollowed := true, recurses := true, apart := false, narrowed := true }
def VaultPartUptoSaid : Prop := vaultPartUptoRow.holds Try.pinned (OpenSpec.upto vaultPartSpec)

/-- 'lombardlaw04.VaultWays', WHERE WHAT IT READS IS OF BULK AT MOST 1048576: true; the input reads as it did. -/
def vaultWaysUptoRow : OpenClaim := { program := "ytomidcehahdmbaa", sum := "730c362aca0f14df0f4c0511bf81af9e8deddcdea87e59b1228af59954844f1f", func := "lombard/lombardlaw04.VaultWays", spec := "vaultWays", unfollowed := true, recurses := true, apart := false, narrowed := true }
def VaultWaysUptoSaid : Prop := vaultWaysUptoRow.holds Try.pinned (OpenSpec.upto vaultWaysSpec)

/-- 'lombardlaw04.VaultShortest', WHERE WHAT IT READS IS OF BULK AT MOST 1048576: true; the input reads as it did. -/
def vaultShortestUptoRow : OpenClaim := { program := "ytomidcehahdmbaa", sum := "730c362aca0f14df0f4c0511bf81af9e8deddcdea87e59b1228af59954844f1f", func := "lombard/lombardlaw04.VaultShortest", spec := "vaultShortest", unfollowed := true, recurses := true, apart := false, narrowed := true }
def VaultShortestUptoSaid : Prop := vaultShortestUptoRow.holds Try.pinned (OpenSpec.upto vaultShortestSpec)

/-- 'lombardlaw04.VaultKnown', WHERE WHAT IT READS IS OF BULK AT MOST 1048576: true; the input reads as it did. -/
def vaultKnownUptoRow : OpenClaim := { program := "ytomidcehahdmbaa", sum := "730c362aca0f14df0f4c0511bf81af9e8deddcdea87e59b1228af59954844f1f", func := "lombard/lombardlaw04.VaultKnown", spec := "vaultKnown", unfollowed := true, recurses := true, apart := false, narrowed := true }
def VaultKnownUptoSaid : Prop := vaultKnownUptoRow.holds Try.pinned (OpenSpec.upto vaultKnownSpec)

end Rows
end Go.Proofs.Ytomidcehahdmbaa
