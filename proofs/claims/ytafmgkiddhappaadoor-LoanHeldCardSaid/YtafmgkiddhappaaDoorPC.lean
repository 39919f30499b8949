/- Loans: the crafts of a kind, in order. Conditions: none. -/
import Derived.Test.YtafmgkiddhappaaDoorPB
namespace Go.Proofs.YtafmgkiddhappaaDoor
open Go.Sx Go.RowKit

/-- how many at the beginning are at most n -/
def upTo (l : List Int) (n : Int) : Nat := (l.takeWhile (fun x => decide (x ≤ n))).length
def ins (l : List Int) (n : Int) : List Int := l.take (upTo l n) ++ [n] ++ l.drop (upTo l n)
def craftsOf (sales : List Sale) (fade : List Int) (day kind : Int) : List Int :=
  sales.foldl (fun out s => if s.kind = kind then ins out (craftOf fade day s) else out) []
theorem upTo_le (l : List Int) (n : Int) : upTo l n ≤ l.length := (List.takeWhile_sublist _).length_le
theorem upTo_lt : ∀ (l : List Int) (n : Int) (k : Nat) (x : Int), k < upTo l n → l[k]? = some x → x ≤ n
  | [], _, k, x, h, hx => by simp at hx
  | y :: l, n, k, x, h, hx => by
    unfold upTo at h
    by_cases hy : y ≤ n
    · simp only [List.takeWhile_cons, hy, decide_true, if_true, List.length_cons] at h
      cases k with
      | zero => simp at hx; omega
      | succ k => exact upTo_lt l n k x (by unfold upTo; omega) (by simpa using hx)
    · simp [hy] at h
theorem upTo_at : ∀ (l : List Int) (n : Int) (x : Int), l[upTo l n]? = some x → ¬ x ≤ n
  | [], _, x, hx => by simp at hx
  | y :: l, n, x, hx => by
    by_cases hy : y ≤ n
    · have : upTo (y :: l) n = upTo l n + 1 := by simp [upTo, hy]
      rw [this] at hx
      exact upTo_at l n x (by simpa using hx)
    · have : upTo (y :: l) n = 0 := by simp [upTo, hy]
      rw [this] at hx
      simp at hx; omega
theorem ins_len (l : List Int) (n : Int) : (ins l n).length = l.length + 1 := by
  have := upTo_le l n
  simp [ins]; omega
theorem fold_len (fade : List Int) (day kind : Int) : ∀ (sales : List Sale) (out : List Int), (sales.foldl (fun out s => if s.kind = kind then ins out (craftOf fade day s) else out) out).length ≤ out.length + sales.length
  | [], out => by simp
  | s :: l, out => by
    rw [List.foldl_cons]
    refine Nat.le_trans (fold_len fade day kind l _) ?_
    split
    · rw [ins_len, List.length_cons]; omega
    · rw [List.length_cons]; omega
theorem fold_drop {β : Type} (f : β → Sale → β) (sales : List Sale) (out : β) (k : Nat) (s : Sale) (h : sales[k]? = some s) : (sales.drop k).foldl f out = (sales.drop (k + 1)).foldl f (f out s) := by
  obtain ⟨h1, h2⟩ := List.getElem?_eq_some_iff.1 h
  rw [List.drop_eq_getElem_cons h1, h2, List.foldl_cons]
end Go.Proofs.YtafmgkiddhappaaDoor
