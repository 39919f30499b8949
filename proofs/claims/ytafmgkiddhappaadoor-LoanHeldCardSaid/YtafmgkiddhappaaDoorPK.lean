/- Loans: runs. Conditions: none. -/
import Derived.Test.YtafmgkiddhappaaDoorPJ
namespace Go.Proofs.YtafmgkiddhappaaDoor
open Go.Sx Go.RowKit

abbrev WAYS : List Value := [.func (.func 147) #[] #[], .func (.func 66) #[] #[], .func (.func 148) #[] #[], .func (.func 149) #[] #[]]
def wayV (k : Int) : Value := if k = 1 then .func (.func 147) #[] #[] else if k = 2 then .func (.func 66) #[] #[] else if k = 3 then .func (.func 148) #[] #[] else .func (.func 149) #[] #[]
theorem okKind_kinds {k n : Int} (h : okKind k n = true) : k = 1 ∨ k = 2 ∨ k = 3 ∨ k = 4 := by
  cases hn : isNilK k
  · exact kinds hn
  · rw [okKind_nil hn] at h; cases h
theorem way_at {k : Int} (h : k = 1 ∨ k = 2 ∨ k = 3 ∨ k = 4) : WAYS[0 + (k - 1).toNat * 1]? = some (wayV k) := by
  rcases h with rfl | rfl | rfl | rfl <;> rfl
theorem actsF_mem : ∀ (l : List Act1) (last pk : Int), actsF last pk l = true → ∀ a ∈ l, okKind a.kind a.n = true ∧ a.day ≤ 36500
  | [], _, _, _, a, ha => by cases ha
  | b :: l, last, pk, h, a, ha => by
    rw [actsF, Bool.and_eq_true] at h
    rcases List.mem_cons.1 ha with rfl | ha
    · have := h.1
      simp only [okAct, btw, Bool.and_eq_true, decide_eq_true_eq] at this
      exact ⟨this.1.1, this.1.2.2⟩
    · exact actsF_mem l _ _ h.2 a ha
theorem actsOk_mem {d : Deal} {l : List Act1} (h : actsOk d l = true) : (∀ a ∈ l, okKind a.kind a.n = true ∧ a.day ≤ 36500) ∧ l.length ≤ 32 := by
  rw [actsOk, Bool.and_eq_true, decide_eq_true_eq] at h
  exact ⟨actsF_mem l _ _ h.1, by omega⟩
theorem goN_fees (d : Deal) : ∀ (k : Nat) (x : Ln), (goN d k x).fees = x.fees
  | 0, _ => rfl
  | k + 1, x => by
    rw [goN, goN_fees d k]
    unfold stepDay counted
    split <;> rfl
theorem toL_fees (d : Deal) (x : Ln) (day : Int) : (toL d x day).fees = x.fees := by
  unfold toL
  split
  · exact goN_fees d _ x
  · exact goN_fees d _ x
theorem actL_fees {d : Deal} {y : Ln} {a : Act1} (hd : DealOk d) : (actL d y a).fees ≤ y.fees + 10000 := by
  have := hd.te
  unfold actL payL holdL renewL feeL redeemL
  repeat' split
  all_goals first | omega | (simp only; omega)
theorem actL_ok {d : Deal} {y : Ln} {a : Act1} (hd : DealOk d) (hy : LOk y) (hk : okKind a.kind a.n = true) (hf : y.fees ≤ 999990000) : LOk (actL d y a) := by
  unfold actL
  by_cases h1 : a.kind = 1
  · rw [if_pos h1]
    rw [okKind, if_pos h1] at hk
    simp only [btw, Bool.and_eq_true, decide_eq_true_eq] at hk
    exact payL_ok hy hk
  · rw [if_neg h1]
    by_cases h2 : a.kind = 2
    · rw [if_pos h2]; exact renewL_ok hd hy hf
    · rw [if_neg h2]
      by_cases h3 : a.kind = 3
      · rw [if_pos h3]; exact holdL_ok hy
      · rw [if_neg h3]; exact redeemL_ok hy
theorem runF_nil (d : Deal) (i : Int) (x : Ln) (out : List Acc) (at_ e : Int) : runF d i x out at_ e [] = ⟨x, out, at_, e⟩ := rfl
theorem runF_drop (d : Deal) (l : List Act1) (k : Nat) (a : Act1) (i : Int) (x : Ln) (out : List Acc) (at_ e : Int) (h : l[k]? = some a) : runF d i x out at_ e (l.drop k) =
    if overB d (toL d x a.day) then ⟨toL d x a.day, out, i, 25⟩
    else if actE d (toL d x a.day) a = 0 then runF d (i + 1) (actL d (toL d x a.day) a) (out ++ [(actL d (toL d x a.day) a).acc]) (i + 1) 0 (l.drop (k + 1))
    else ⟨actL d (toL d x a.day) a, out, i, actE d (toL d x a.day) a⟩ := by
  obtain ⟨h1, h2⟩ := List.getElem?_eq_some_iff.1 h
  rw [List.drop_eq_getElem_cons h1, h2, runF]
end Go.Proofs.YtafmgkiddhappaaDoor
