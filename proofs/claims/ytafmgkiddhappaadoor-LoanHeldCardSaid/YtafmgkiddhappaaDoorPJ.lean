/- Loans: acts, and what they lead to. Conditions: none. -/
import Derived.Test.YtafmgkiddhappaaDoorPG
namespace Go.Proofs.YtafmgkiddhappaaDoor
open Go.Sx Go.RowKit

def deedV (k : Int) : Value := if k = 1 then .iface 191 (.agg #[]) else if k = 2 then .iface 192 (.agg #[]) else if k = 3 then .iface 193 (.agg #[]) else if k = 4 then .iface 194 (.agg #[]) else .nilIface
def isNilK (k : Int) : Bool := !(decide (1 ≤ k) && decide (k ≤ 4))
def okKind (k n : Int) : Bool := if k = 1 then btw 1 n 1073741824 else if k = 2 then n == 0 else if k = 3 then btw 1 n 366 else if k = 4 then n == 0 else false
theorem kinds {k : Int} (h : isNilK k = false) : k = 1 ∨ k = 2 ∨ k = 3 ∨ k = 4 := by
  have := not_f h
  simp only [Bool.and_eq_true, decide_eq_true_eq] at this
  omega
theorem okKind_nil {k n : Int} (h : isNilK k = true) : okKind k n = false := by
  have := not_t h
  simp only [Bool.and_eq_false_iff, decide_eq_false_iff_not] at this
  unfold okKind
  rw [if_neg (by omega), if_neg (by omega), if_neg (by omega), if_neg (by omega)]
def okAct (last pk : Int) (a : Act1) : Bool := okKind a.kind a.n && btw last a.day 36500 && !(pk == 4)
def actsF : Int → Int → List Act1 → Bool
  | _, _, [] => true
  | last, pk, a :: l => okAct last pk a && actsF a.day a.kind l
def actsOk (d : Deal) (l : List Act1) : Bool := actsF d.start 0 l && decide ((l.length : Int) ≤ 32)
def pkOf (l : List Act1) (k : Nat) : Int := if k = 0 then 0 else (l.getD (k - 1) default).kind
theorem actsF_drop (l : List Act1) (k : Nat) (a : Act1) (last : Int) (h : l[k]? = some a) : actsF last (pkOf l k) (l.drop k) = (okAct last (pkOf l k) a && actsF a.day (pkOf l (k + 1)) (l.drop (k + 1))) := by
  obtain ⟨h1, h2⟩ := List.getElem?_eq_some_iff.1 h
  rw [List.drop_eq_getElem_cons h1, h2, actsF]
  have : pkOf l (k + 1) = a.kind := by simp [pkOf, h]
  rw [this]
theorem act_V (l : List Act1) (k : Nat) (last : Int) (a : Act1) :
    ((isNilK a.kind || !(okKind a.kind a.n)) || !(btw last a.day 36500) || (decide ((0 : Int) < k) && ((l.getD ((k : Int) - 1).toNat default).kind == 4))) = !(okAct last (pkOf l k) a) := by
  unfold okAct
  cases hn : isNilK a.kind
  · cases hk : okKind a.kind a.n
    · rfl
    · cases hb : btw last a.day 36500
      · rfl
      · by_cases h0 : k = 0
        · subst h0; simp [pkOf]
        · have h2 : (0 : Int) < k := by omega
          have h3 : ((k : Int) - 1).toNat = k - 1 := by omega
          rw [pkOf, if_neg h0, h3, decide_eq_true h2]; simp
  · rw [okKind_nil hn]; rfl
def actE (_ : Deal) (y : Ln) (a : Act1) : Int := if a.kind = 1 then payE y a.n else if a.kind = 3 then holdE y else 0
def actL (d : Deal) (y : Ln) (a : Act1) : Ln := if a.kind = 1 then payL y a.n else if a.kind = 2 then renewL d y else if a.kind = 3 then holdL y a.n else redeemL y
structure RunR where
  x : Ln
  out : List Acc
  at_ : Int
  e : Int
def runF (d : Deal) : Int → Ln → List Acc → Int → Int → List Act1 → RunR
  | _, x, out, at_, e, [] => ⟨x, out, at_, e⟩
  | i, x, out, _, _, a :: l =>
    if overB d (toL d x a.day) then ⟨toL d x a.day, out, i, 25⟩
    else if actE d (toL d x a.day) a = 0 then runF d (i + 1) (actL d (toL d x a.day) a) (out ++ [(actL d (toL d x a.day) a).acc]) (i + 1) 0 l
    else ⟨actL d (toL d x a.day) a, out, i, actE d (toL d x a.day) a⟩
def runL (d : Deal) (l : List Act1) : RunR := runF d 0 (openL d) [] 0 0 l
theorem encAcc_len (a : Acc) : (encAcc a).length = 5 := rfl
theorem encAcc_one (a : Acc) : ∀ v ∈ encAcc a, v.oneCell' = true := by simp [encAcc, Value.oneCell']
end Go.Proofs.YtafmgkiddhappaaDoor
