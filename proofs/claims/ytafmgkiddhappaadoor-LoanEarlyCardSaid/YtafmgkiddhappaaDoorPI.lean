/- Loans: on which days they are renewed to keep them. Conditions: none. -/
import Derived.Test.YtafmgkiddhappaaDoorPG
namespace Go.Proofs.YtafmgkiddhappaaDoor
open Go.Sx Go.RowKit

def keepMu (until_ : Int) (x : Ln) : Nat := 2 * (until_ - x.day).toNat + (if x.ag = 0 then 0 else 1)
def keepF (d : Deal) (until_ : Int) : Nat → Ln → List Int → List Int
  | 0, _, out => out
  | n + 1, x, out => if until_ ≤ x.day then out else if overB d (toL d x (x.day + 1)) then keepF d until_ n (renewL d x) (out ++ [x.day]) else keepF d until_ n (toL d x (x.day + 1)) out
theorem keepF_end (d : Deal) (until_ : Int) (n : Nat) (x : Ln) (out : List Int) (h : until_ ≤ x.day) : keepF d until_ n x out = out := by
  cases n with
  | zero => rfl
  | succ n => rw [keepF, if_pos h]
def keepL (d : Deal) (until_ : Int) : List Int := keepF d until_ (keepMu until_ (openL d)) (openL d) []
theorem toL_one (d : Deal) (x : Ln) : (toL d x (x.day + 1)).day = x.day + 1 := by rw [toL_day]; omega
theorem goN_one (d : Deal) (x : Ln) : goN d (x.day + 1 - x.day).toNat x = stepDay d x := by
  rw [show (x.day + 1 - x.day).toNat = 1 by omega]; rfl
theorem toL_one_ag (d : Deal) (x : Ln) : (toL d x (x.day + 1)).ag ≤ x.ag + 1 ∧ x.ag ≤ (toL d x (x.day + 1)).ag := by
  unfold toL
  rw [goN_one]
  unfold stepDay counted
  repeat' split
  all_goals simp only
  all_goals omega
theorem toL_one_fees (d : Deal) (x : Ln) : (toL d x (x.day + 1)).fees = x.fees := by
  unfold toL
  rw [goN_one]
  unfold stepDay counted
  repeat' split
  all_goals rfl
def KeepN (d : Deal) (until_ : Int) : List Int := if badDeal d then [] else if btw d.start until_ 36500 then (if 32 < (keepL d until_).length then [] else keepL d until_) else []
def KeepE (d : Deal) (until_ : Int) : Int := if badDeal d then 23 else if btw d.start until_ 36500 then (if 32 < (keepL d until_).length then 3 else 0) else 7
end Go.Proofs.YtafmgkiddhappaaDoor
