/- Loans: the chapter's examples. Conditions: none. -/
import Derived.Test.YtafmgkiddhappaaDoorPL
import Derived.Test.YtafmgkiddhappaaDoorPI
namespace Go.Proofs.YtafmgkiddhappaaDoor
open Go.Sx Go.RowKit

abbrev mSales : List Sale := [⟨0, 800, 10, 40, 1000⟩, ⟨0, 434, 20, 50, 2000⟩, ⟨0, 70, 10, 30, 900⟩, ⟨1, 0, 5, 10, 40⟩]
abbrev mFade : List Int := [32, 64]
abbrev dealD : Deal := ⟨1000, 16, 500, 2, 50, 10, 3, [103, 104], 100, 100000⟩
theorem ex_crafts : CraftsL mSales mFade 50 800 2 0 = [150, 500, 600] := by decide +kernel
theorem ex_craftsE : CraftsE mSales mFade 50 800 2 0 = 0 := by decide +kernel
theorem ex_value : (valueOf mSales mFade 50 800 2 0 10 12).lo = 650 ∧ (valueOf mSales mFade 50 800 2 0 10 12).hi = 1200 ∧ (valueOf mSales mFade 50 800 2 0 10 12).err = 0 := by decide +kernel
theorem ex_most : MostN 40 300 5000 400 900 = 300 ∧ MostE 40 300 5000 400 900 = 0 := by decide +kernel
theorem ex_lend : LendN 40 300 5000 650 1200 1000 = 406 ∧ LendE 40 300 5000 650 1200 1000 = 0 := by decide +kernel
theorem ex_owe1 : OweA dealD [] 112 = ⟨100000, 400, 0, 10, true⟩ ∧ onE dealD [] 112 = 0 := by decide +kernel
theorem ex_owe2 : OweA dealD [⟨105, 2, 0⟩] 112 = ⟨100000, 450, 100, 7, true⟩ ∧ onE dealD [⟨105, 2, 0⟩] 112 = 0 := by decide +kernel
theorem ex_owe3 : OweA dealD [⟨105, 1, 20050⟩] 112 = ⟨80000, 330, 50, 10, true⟩ ∧ onE dealD [⟨105, 1, 20050⟩] 112 = 0 := by decide +kernel
theorem ex_owe4 : OweA dealD [⟨105, 3, 5⟩] 112 = ⟨100000, 150, 0, 5, true⟩ ∧ onE dealD [⟨105, 3, 5⟩] 112 = 0 := by decide +kernel
theorem ex_legal : LegalN dealD [] 105 = 300 ∧ onE dealD [] 105 = 0 := by decide +kernel
theorem ex_keep : KeepN dealD 140 = [115, 128] ∧ KeepE dealD 140 = 0 := by decide +kernel
end Go.Proofs.YtafmgkiddhappaaDoor
