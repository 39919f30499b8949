/- Loans: values, and what is lent. Conditions: none. -/
import Derived.Test.YtafmgkiddhappaaDoorPE
namespace Go.Proofs.YtafmgkiddhappaaDoor
open Go.Sx Go.RowKit

theorem errM_ne (b : Bool) : (errM b ≠ 0) = (b = true) := by cases b <;> simp [errM]
theorem errM_eq (b : Bool) : (errM b = 0) = (b = false) := by cases b <;> simp [errM]
def CraftsL (sales : List Sale) (fade : List Int) (metal day few kind : Int) : List Int :=
  if badMarket sales fade metal day few then [] else if btw 0 kind (fade.length - 1) then craftsOf sales fade day kind else []
def CraftsE (sales : List Sale) (fade : List Int) (metal day few kind : Int) : Int :=
  if badMarket sales fade metal day few then 20 else if btw 0 kind (fade.length - 1) then 0 else 7
theorem CraftsL_len {sales : List Sale} {fade : List Int} {metal day few kind : Int} : (CraftsL sales fade metal day few kind).length ≤ sales.length := by
  unfold CraftsL
  split
  · simp
  · split
    · exact craftsOf_len ..
    · simp
def spanOk (lo hi most : Int) : Bool := decide (0 ≤ lo) && decide (lo ≤ hi) && decide (hi ≤ most)
def badWare (nf kind wmin wmax : Int) : Bool := !(btw 0 kind (nf - 1)) || !(spanOk wmin wmax 1000)
/-- a value: its least, its greatest, the error -/
structure Val where
  lo : Int
  hi : Int
  err : Int
def midOf (l : List Int) (metal wmin wmax : Int) : Val :=
  ⟨l.getD (((l.length : Int) - 1) / 4).toNat 0 + metal * wmin, l.getD ((l.length : Int) - 1 - ((l.length : Int) - 1) / 4).toNat 0 + metal * wmax, 0⟩
def valueOf (sales : List Sale) (fade : List Int) (metal day few kind wmin wmax : Int) : Val :=
  if badMarket sales fade metal day few then ⟨0, 0, 20⟩ else if badWare fade.length kind wmin wmax then ⟨0, 0, 21⟩
  else if ((craftsOf sales fade day kind).length : Int) < few then ⟨0, 0, 4⟩ else midOf (craftsOf sales fade day kind) metal wmin wmax
theorem badWare_no {nf kind wmin wmax : Int} (h : badWare nf kind wmin wmax = false) : (0 ≤ kind ∧ kind ≤ nf - 1) ∧ (0 ≤ wmin ∧ wmin ≤ wmax ∧ wmax ≤ 1000) := by
  simp only [badWare, btw, spanOk, Bool.or_eq_false_iff, Bool.not_eq_false', Bool.and_eq_true, decide_eq_true_eq] at h
  omega
theorem mul_bd {a b x y : Int} (ha : 0 ≤ a ∧ a ≤ x) (hb : 0 ≤ b ∧ b ≤ y) : 0 ≤ a * b ∧ a * b ≤ x * y :=
  ⟨Int.mul_nonneg ha.1 hb.1, Int.mul_le_mul ha.2 hb.2 hb.1 (Int.le_trans ha.1 ha.2)⟩
theorem getD_bd {l : List Int} {m : Int} (h : ∀ x ∈ l, 0 ≤ x ∧ x ≤ m) (hm : 0 ≤ m) (i : Nat) : 0 ≤ l.getD i 0 ∧ l.getD i 0 ≤ m := by
  by_cases hi : i < l.length
  · have := h l[i] (List.getElem_mem hi)
    rw [List.getD_eq_getElem?_getD, List.getElem?_eq_getElem hi]; exact this
  · rw [List.getD_eq_getElem?_getD, List.getElem?_eq_none (by omega)]; exact ⟨Int.le_refl _, hm⟩

def badTerms (fr fl cap : Int) : Bool := !(btw 0 fr 64) || !(btw 0 cap 1073741824) || !(btw 0 fl cap)
def errT (b : Bool) : Int := if b then 22 else 0
theorem errT_ne (b : Bool) : (errT b ≠ 0) = (b = true) := by cases b <;> simp [errT]
theorem errT_eq (b : Bool) : (errT b = 0) = (b = false) := by cases b <;> simp [errT]
theorem badTerms_no {fr fl cap : Int} (h : badTerms fr fl cap = false) : (0 ≤ fr ∧ fr ≤ 64) ∧ (0 ≤ cap ∧ cap ≤ 1073741824) ∧ (0 ≤ fl ∧ fl ≤ cap) := by
  simp only [badTerms, btw, Bool.or_eq_false_iff, Bool.not_eq_false', Bool.and_eq_true, decide_eq_true_eq] at h
  omega
def mostOf (fr fl cap lo : Int) : Int := min (if lo * fr / 64 < fl then min fl lo else lo * fr / 64) cap
/-- what is lent at most; the error -/
def MostN (fr fl cap lo hi : Int) : Int := if badTerms fr fl cap then 0 else if spanOk lo hi 2147483648 then mostOf fr fl cap lo else 0
def MostE (fr fl cap lo hi : Int) : Int := if badTerms fr fl cap then 22 else if spanOk lo hi 2147483648 then 0 else 7
def LendN (fr fl cap lo hi wish : Int) : Int :=
  if MostE fr fl cap lo hi = 0 then (if btw 1 wish 1073741824 then (if MostN fr fl cap lo hi = 0 then 0 else min (MostN fr fl cap lo hi) wish) else 0) else 0
def LendE (fr fl cap lo hi wish : Int) : Int :=
  if MostE fr fl cap lo hi = 0 then (if btw 1 wish 1073741824 then (if MostN fr fl cap lo hi = 0 then 4 else 0) else 7) else MostE fr fl cap lo hi
end Go.Proofs.YtafmgkiddhappaaDoor
