/- Loans: words, rules, and terms for a class. Conditions: none. -/
import Derived.Test.YtafmgkiddhappaaDoorYPFair
import Derived.Test.YtafmgkiddhappaaDoorZSb
namespace Go.Proofs.YtafmgkiddhappaaDoor
open Go.Sx Go.RowKit

def letB (n : Int) : Bool := decide (97 ≤ n) && decide (n ≤ 122)
def okB (n : Int) : Bool := letB n || (decide (48 ≤ n) && decide (n ≤ 57)) || (n == 45)
abbrev bsOf (s : ByteArray) : List UInt8 := s.data.toList
def okBs (b : UInt8) : Bool := okB b.toNat
def isW (s : ByteArray) : Bool := decide (1 ≤ (s.size : Int)) && decide ((s.size : Int) ≤ 16) && letB ((bsOf s).getD 0 0).toNat && (bsOf s).all okBs
theorem bs_get {s : ByteArray} {k : Nat} {b : UInt8} (h : (bsOf s)[k]? = some b) : s[k]? = some b := by
  have h1 : k < s.size := by have := (List.getElem?_eq_some_iff.1 h).1; simpa using this
  rw [getElem?_pos s k h1]
  obtain ⟨h2, h3⟩ := List.getElem?_eq_some_iff.1 h
  rw [← h3]; rfl
theorem bs_len (s : ByteArray) : (bsOf s).length = s.size := by simp
theorem bs_first {s : ByteArray} (h : 1 ≤ s.size) : s[(0 : Int).toNat]? = some ((bsOf s).getD 0 0) := by
  refine bs_get ?_
  rw [List.getD_eq_getElem?_getD]
  have : 0 < (bsOf s).length := by rw [bs_len]; omega
  show (bsOf s)[0]? = _
  rw [List.getElem?_eq_getElem this]; rfl
theorem okB_V (n : Int) : (((decide (n < 97) || decide (122 < n)) && (decide (n < 48) || decide (57 < n))) && (n != 45)) = !(okB n) := by
  have e1 : decide (n < 97) = !(decide (97 ≤ n)) := by by_cases h : 97 ≤ n; (rw [decide_eq_true h, decide_eq_false (by omega)]; rfl); (rw [decide_eq_false h, decide_eq_true (by omega)]; rfl)
  have e2 : decide (122 < n) = !(decide (n ≤ 122)) := by by_cases h : n ≤ 122; (rw [decide_eq_true h, decide_eq_false (by omega)]; rfl); (rw [decide_eq_false h, decide_eq_true (by omega)]; rfl)
  have e3 : decide (n < 48) = !(decide (48 ≤ n)) := by by_cases h : 48 ≤ n; (rw [decide_eq_true h, decide_eq_false (by omega)]; rfl); (rw [decide_eq_false h, decide_eq_true (by omega)]; rfl)
  have e4 : decide (57 < n) = !(decide (n ≤ 57)) := by by_cases h : n ≤ 57; (rw [decide_eq_true h, decide_eq_false (by omega)]; rfl); (rw [decide_eq_false h, decide_eq_true (by omega)]; rfl)
  unfold okB letB
  rw [e1, e2, e3, e4]
  cases decide (97 ≤ n) <;> cases decide (n ≤ 122) <;> cases decide (48 ≤ n) <;> cases decide (n ≤ 57) <;> cases h : (n == 45) <;> simp [bne, h]
theorem okB_R (n : Int) (k : Nat) : ((!(decide (97 ≤ n) && decide (n ≤ 122))) && (((k : Int) == 0) || ((n != 45) && !(decide (48 ≤ n) && decide (n ≤ 57))))) = !(okB n && (letB n || !((k : Int) == 0))) := by
  unfold okB letB
  cases decide (97 ≤ n) <;> cases decide (n ≤ 122) <;> cases decide (48 ≤ n) <;> cases decide (n ≤ 57) <;> cases h : (n == 45) <;> cases ((k : Int) == 0) <;> simp [bne, h]

/-- a rule -/
structure RuleR where
  cls : ByteArray
  fr : Int
  fl : Int
  cap : Int
instance : Inhabited RuleR := ⟨⟨⟨#[]⟩, 0, 0, 0⟩⟩
abbrev encRule (r : RuleR) : List Value := [.string r.cls, .int .i64 r.fr, .int .i64 r.fl, .int .i64 r.cap]
abbrev evT (r : RuleR) : Value := .agg #[.int .i64 r.fr, .int .i64 r.fl, .int .i64 r.cap]
abbrev zR : RuleR := ⟨⟨#[]⟩, 0, 0, 0⟩
def badR (r : RuleR) : Bool := badTerms r.fr r.fl r.cap
def hasC (pre : List RuleR) (c : ByteArray) : Bool := pre.any (fun q => decide (q.cls = c))
def goodOne (pre : List RuleR) (r : RuleR) : Bool := !(hasC pre r.cls) && isW r.cls && !(badR r)
def goodL : List RuleR → List RuleR → Bool
  | _, [] => true
  | pre, r :: l => goodOne pre r && goodL (pre ++ [r]) l
def okFor (l : List RuleR) : Bool := decide ((l.length : Int) ≤ 16) && goodL [] l
def findR (l : List RuleR) (c : ByteArray) : Option RuleR := l.find? (fun r => decide (r.cls = c))
def ForE (l : List RuleR) (c : ByteArray) : Int := if okFor l then (if (findR l c).isSome then 0 else 4) else 22
def ForT (l : List RuleR) (c : ByteArray) : RuleR := if okFor l then (findR l c).getD zR else zR
theorem goodL_drop (l : List RuleR) (k : Nat) (r : RuleR) (h : l[k]? = some r) : goodL (l.take k) (l.drop k) = (goodOne (l.take k) r && goodL (l.take (k + 1)) (l.drop (k + 1))) := by
  obtain ⟨h1, h2⟩ := List.getElem?_eq_some_iff.1 h
  rw [List.drop_eq_getElem_cons h1, h2, goodL, List.take_add_one, h]; rfl
/-- the map of the rules -/
def mapR (l : List RuleR) : List (ByteArray × RuleR) := l.map (fun r => (r.cls, r))
theorem getL_mapR (l : List RuleR) (c : ByteArray) : getL (mapR l) c = findR l c := by
  induction l with
  | nil => rfl
  | cons r l ih =>
    show (if r.cls = c then some r else getL (mapR l) c) = _
    rw [ih]
    unfold findR
    by_cases h : r.cls = c
    · rw [if_pos h, List.find?_cons_of_pos (by simpa using h)]
    · rw [if_neg h, List.find?_cons_of_neg (by simpa using h)]
theorem findR_some (l : List RuleR) (c : ByteArray) : (findR l c).isSome = hasC l c := by
  unfold findR hasC
  rw [Bool.eq_iff_iff, List.find?_isSome]
  simp
theorem putL_new (l : List RuleR) (r : RuleR) (h : hasC l r.cls = false) : putL (mapR l) r.cls r = mapR (l ++ [r]) := by
  induction l with
  | nil => rfl
  | cons q l ih =>
    simp only [hasC, List.any_cons, Bool.or_eq_false_iff, decide_eq_false_iff_not] at h
    show (if q.cls = r.cls then _ else _) = _
    rw [if_neg h.1]
    show (q.cls, q) :: putL (mapR l) r.cls r = _
    rw [ih h.2]; rfl
theorem goodOne_V (pre : List RuleR) (r : RuleR) : ((hasC pre r.cls || !(isW r.cls)) || (errT (badR r) != 0)) = !(goodOne pre r) := by
  unfold goodOne
  cases hasC pre r.cls <;> cases isW r.cls <;> cases badR r <;> rfl
theorem all_ne_any (l : List RuleR) (c : ByteArray) : l.all (fun q => !(decide (q.cls = c))) = !(hasC l c) := by
  unfold hasC
  rw [List.all_eq_not_any_not]; simp
theorem find_dropR (l : List RuleR) (c : ByteArray) (k : Nat) (r : RuleR) (h : l[k]? = some r) : findR (l.drop k) c = if r.cls = c then some r else findR (l.drop (k + 1)) c := by
  obtain ⟨h1, h2⟩ := List.getElem?_eq_some_iff.1 h
  rw [List.drop_eq_getElem_cons h1, h2]
  unfold findR
  by_cases h : r.cls = c
  · rw [if_pos h, List.find?_cons_of_pos (by simpa using h)]
  · rw [if_neg h, List.find?_cons_of_neg (by simpa using h)]
theorem bytes_bne (a b : ByteArray) : (!(a == b)) = !(decide (a = b)) := by rw [bytes_beq]; congr 1; exact decide_eq_decide.2 ⟨fun h => h.symm, fun h => h.symm⟩
theorem bytes_eq {a b : ByteArray} (h : (a == b) = true) : a = b := by rw [bytes_beq] at h; exact (of_decide_eq_true h).symm
theorem bytes_ne {a b : ByteArray} (h : (a == b) = false) : ¬ a = b := by rw [bytes_beq] at h; exact fun e => of_decide_eq_false h e.symm
/-- a rule whose class is no longer than texts can be -/
abbrev RuleS := { r : RuleR // r.cls.size ≤ maxLen }
abbrev encRuleS (r : RuleS) : List Value := encRule r.1
theorem rules_rd {w : World} {A : Option Addr} {xs : List RuleS} (h : Rd w 4 encRuleS A xs) : Rd w 4 encRule A (xs.map (·.1)) := by
  refine ⟨by rw [List.length_map]; exact h.1, fun hne => ?_⟩
  obtain ⟨a, h1, h2, h3⟩ := h.2 (fun e => hne (by rw [e]; rfl))
  refine ⟨a, h1, h2, fun i x j u hx hu => ?_⟩
  rw [List.getElem?_map] at hx
  cases hy : xs[i]? with
  | none => rw [hy] at hx; cases hx
  | some y =>
    rw [hy] at hx
    simp only [Option.map_some, Option.some.injEq] at hx
    subst hx
    exact h3 i y j u hy hu
theorem rules_sm (xs : List RuleS) : ∀ r ∈ xs.map (·.1), r.cls.size ≤ 9223372036854775807 := by
  intro r hr
  obtain ⟨y, _, rfl⟩ := List.mem_map.1 hr
  have := y.2
  unfold maxLen at this
  omega
end Go.Proofs.YtafmgkiddhappaaDoor
