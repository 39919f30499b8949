/- Loans: the plain words for what the functions compute. Conditions: none. -/
import Derived.Test.YtafmgkiddhappaaDoorSxH
namespace Go.Proofs.YtafmgkiddhappaaDoor
open Go.Sx Go.RowKit

structure Sale where
  kind : Int
  day : Int
  weight : Int
  metal : Int
  price : Int
  deriving Inhabited, DecidableEq
abbrev encSale (s : Sale) : List Value := [.int .i64 s.kind, .int .i64 s.day, .int .i64 s.weight, .int .i64 s.metal, .int .i64 s.price]

theorem not_t {b : Bool} (h : (!b) = true) : b = false := by cases b <;> simp_all
theorem not_f {b : Bool} (h : (!b) = false) : b = true := by cases b <;> simp_all
/-- the first index of a number, or -1 -/
def seek : List Int → Int → Int → Int
  | [], _, _ => -1
  | x :: l, n, i => if x = n then i else seek l n (i + 1)
theorem seek_drop (l : List Int) (n : Int) (k : Nat) (x : Int) (h : l[k]? = some x) : seek (l.drop k) n k = if x = n then (k : Int) else seek (l.drop (k + 1)) n ((k + 1 : Nat) : Int) := by
  obtain ⟨h1, h2⟩ := List.getElem?_eq_some_iff.1 h
  rw [List.drop_eq_getElem_cons h1, h2, seek]; rfl
def btw (lo n hi : Int) : Bool := decide (lo ≤ n) && decide (n ≤ hi)
def bad64 (n : Int) : Bool := !(btw 0 n 64)
def firstB : List Int → Int → Int
  | [], _ => -1
  | x :: l, i => if bad64 x then i else firstB l (i + 1)
theorem firstB_drop (l : List Int) (k : Nat) (x : Int) (h : l[k]? = some x) : firstB (l.drop k) k = if bad64 x then (k : Int) else firstB (l.drop (k + 1)) ((k + 1 : Nat) : Int) := by
  obtain ⟨h1, h2⟩ := List.getElem?_eq_some_iff.1 h
  rw [List.drop_eq_getElem_cons h1, h2, firstB]; rfl
theorem firstB_any : ∀ (l : List Int) (i : Int), 0 ≤ i → decide (0 ≤ firstB l i) = l.any bad64
  | [], i, _ => by simp [firstB]
  | x :: l, i, h => by
    rw [firstB, List.any_cons]
    by_cases hx : bad64 x = true
    · simp [hx, h]
    · simp only [hx, if_false, Bool.false_or, Bool.false_eq_true]
      exact firstB_any l (i + 1) (by omega)
theorem all_drop {α : Type} (p : α → Bool) (l : List α) (k : Nat) (x : α) (h : l[k]? = some x) : (l.drop k).all p = (p x && (l.drop (k + 1)).all p) := by
  obtain ⟨h1, h2⟩ := List.getElem?_eq_some_iff.1 h
  rw [List.drop_eq_getElem_cons h1, h2, List.all_cons]
def okSale (nf day : Int) (s : Sale) : Bool :=
  btw 0 s.kind (nf - 1) && btw 0 s.day day && btw 0 s.weight 1000 && btw 0 s.metal 100000 && btw 0 s.price 1073741824
def badM (ns : Int) (fade : List Int) (metal day few : Int) : Bool :=
  (decide (0 ≤ firstB fade 0)) || !(btw 1 fade.length 8) || !(btw 0 metal 100000) || !(btw 0 day 36500) || !(btw 1 few 16) || decide (64 < ns)
def badMarket (sales : List Sale) (fade : List Int) (metal day few : Int) : Bool := badM sales.length fade metal day few || !(sales.all (okSale fade.length day))
def errM (b : Bool) : Int := if b then 20 else 0
def okM (ns : Int) (nf metal day few : Int) : Bool := btw 1 nf 8 && btw 0 metal 100000 && btw 0 day 36500 && btw 1 few 16 && decide (ns ≤ 64)
/-- the two checks are one -/
theorem ref_market (sales : List Sale) (fade : List Int) (metal day few : Int) :
    (okM sales.length fade.length metal day few && fade.all (fun n => btw 0 n 64) && sales.all (okSale fade.length day)) = !(badMarket sales fade metal day few) := by
  unfold badMarket badM okM
  rw [firstB_any _ _ (Int.le_refl 0)]
  have h1 : fade.any bad64 = !(fade.all (fun n => btw 0 n 64)) := by simp [List.any_eq_not_all_not, bad64]
  have h2 : decide (64 < (sales.length : Int)) = !(decide ((sales.length : Int) ≤ 64)) := by
    by_cases h : (sales.length : Int) ≤ 64
    · simp [h]
    · simp [h]; omega
  rw [h1, h2]
  simp only [Bool.not_or, Bool.not_not]
  cases fade.all (fun n => btw 0 n 64) <;> cases sales.all (okSale fade.length day) <;> simp

def faded (fade : List Int) (s : Sale) (n : Int) : Int := (n * (fade.getD s.kind.toNat 0)).tdiv 64
end Go.Proofs.YtafmgkiddhappaaDoor
