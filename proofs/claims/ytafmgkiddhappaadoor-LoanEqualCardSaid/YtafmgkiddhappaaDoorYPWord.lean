/- Lists of texts, as the program looks at them: is one among them, are they different words. Conditions: none. -/
import Derived.Test.YtafmgkiddhappaaDoorYPLend
namespace Go.Proofs.YtafmgkiddhappaaDoor
open Go.Sx Go.RowKit

abbrev smS (l : List ByteArray) : Prop := ∀ s ∈ l, s.size ≤ 9223372036854775807
def hasW (l : List ByteArray) (s : ByteArray) : Bool := l.any (fun q => decide (q = s))
def wordsG : List ByteArray → List ByteArray → Bool
  | _, [] => true
  | pre, s :: l => (isW s && !(hasW pre s)) && wordsG (pre ++ [s]) l
def wordsB (l : List ByteArray) : Bool := wordsG [] l
theorem wordsG_drop (l : List ByteArray) (k : Nat) (s : ByteArray) (h : l[k]? = some s) : wordsG (l.take k) (l.drop k) = ((isW s && !(hasW (l.take k) s)) && wordsG (l.take (k + 1)) (l.drop (k + 1))) := by
  obtain ⟨h1, h2⟩ := List.getElem?_eq_some_iff.1 h
  rw [List.drop_eq_getElem_cons h1, h2, wordsG, List.take_add_one, h]; rfl
abbrev evB (b : Bool) : Value := .bool b
def mapW (l : List ByteArray) : List (ByteArray × Bool) := l.map (fun s => (s, true))
theorem getL_mapW (l : List ByteArray) (s : ByteArray) : (getL (mapW l) s).getD false = hasW l s := by
  induction l with
  | nil => rfl
  | cons q l ih =>
    show (if q = s then some true else getL (mapW l) s).getD false = (decide (q = s) || hasW l s)
    by_cases h : q = s
    · rw [if_pos h, decide_eq_true h]; rfl
    · rw [if_neg h, ih, decide_eq_false h]; rfl
theorem putL_newW (l : List ByteArray) (s : ByteArray) (h : hasW l s = false) : putL (mapW l) s true = mapW (l ++ [s]) := by
  induction l with
  | nil => rfl
  | cons q l ih =>
    simp only [hasW, List.any_cons, Bool.or_eq_false_iff, decide_eq_false_iff_not] at h
    show (if q = s then _ else _) = _
    rw [if_neg h.1]
    show (q, true) :: putL (mapW l) s true = _
    rw [ih h.2]; rfl
theorem words_V (pre : List ByteArray) (s : ByteArray) : (!(isW s) || hasW pre s) = !(isW s && !(hasW pre s)) := by
  cases isW s <;> cases hasW pre s <;> rfl
/-- where a text is in a list; -1: nowhere -/
def firstS (s : ByteArray) : List ByteArray → Nat → Int
  | [], _ => -1
  | q :: l, n => if q = s then n else firstS s l (n + 1)
theorem firstS_drop (s : ByteArray) (l : List ByteArray) (k : Nat) (q : ByteArray) (h : l[k]? = some q) : firstS s (l.drop k) k = if q = s then (k : Int) else firstS s (l.drop (k + 1)) (k + 1) := by
  obtain ⟨h1, h2⟩ := List.getElem?_eq_some_iff.1 h
  rw [List.drop_eq_getElem_cons h1, h2, firstS]
theorem firstS_has (s : ByteArray) (l : List ByteArray) (n : Nat) : decide (0 ≤ firstS s l n) = hasW l s := by
  induction l generalizing n with
  | nil => rfl
  | cons q l ih =>
    rw [firstS]
    show _ = (decide (q = s) || hasW l s)
    by_cases h : q = s
    · rw [if_pos h, decide_eq_true h, Bool.true_or]; exact decide_eq_true (by omega)
    · rw [if_neg h, ih, decide_eq_false h, Bool.false_or]
/-- where the first text is that does not lie in another list; -1: nowhere -/
def firstN (ns : List ByteArray) : List ByteArray → Nat → Int
  | [], _ => -1
  | q :: l, n => if hasW ns q = false then n else firstN ns l (n + 1)
theorem firstN_drop (ns l : List ByteArray) (k : Nat) (q : ByteArray) (h : l[k]? = some q) : firstN ns (l.drop k) k = if hasW ns q = false then (k : Int) else firstN ns (l.drop (k + 1)) (k + 1) := by
  obtain ⟨h1, h2⟩ := List.getElem?_eq_some_iff.1 h
  rw [List.drop_eq_getElem_cons h1, h2, firstN]
theorem firstN_all (ns l : List ByteArray) (n : Nat) : decide (0 ≤ firstN ns l n) = !(l.all (hasW ns)) := by
  induction l generalizing n with
  | nil => rfl
  | cons q l ih =>
    rw [firstN, List.all_cons]
    cases h : hasW ns q with
    | false => rw [if_pos rfl]; exact decide_eq_true (by omega)
    | true => rw [if_neg (by simp), ih, Bool.true_and]
end Go.Proofs.YtafmgkiddhappaaDoor
