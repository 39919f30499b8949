/- Loans, day by day: what the functions compute. Conditions: none. -/
import Derived.Test.YtafmgkiddhappaaDoorPF
namespace Go.Proofs.YtafmgkiddhappaaDoor
open Go.Sx Go.RowKit

structure Deal where
  lr : Int
  lc : Int
  tr : Int
  tf : Int
  te : Int
  tt : Int
  tg : Int
  closed : List Int
  start : Int
  sum : Int
  deriving DecidableEq
/-- a loan on its way -/
structure Ln where
  pr : Int
  ch : Int
  pd : Int
  ag : Int
  op : Bool
  all : Int
  dear : Int
  days : Int
  fees : Int
  day : Int
  held : Int
  deriving DecidableEq
abbrev encDeal (d : Deal) (Ac : Option Addr) (cc : Nat) : List Value := [.int .i64 d.lr, .int .i64 d.lc, .int .i64 d.tr, .int .i64 d.tf, .int .i64 d.te, .int .i64 d.tt, .int .i64 d.tg, .slice Ac d.closed.length cc, .int .i64 d.start, .int .i64 d.sum]
abbrev encLn (d : Deal) (Ac : Option Addr) (cc : Nat) (x : Ln) : List Value := [.int .i64 x.pr, .int .i64 x.ch, .int .i64 x.pd, .int .i64 x.ag, .bool x.op, .int .i64 x.all, .int .i64 x.dear, .int .i64 x.days, .int .i64 x.fees, .int .i64 d.lr, .int .i64 d.lc, .int .i64 d.tr, .int .i64 d.tf, .int .i64 d.te, .int .i64 d.tt, .int .i64 d.tg, .slice Ac d.closed.length cc, .int .i64 d.start, .int .i64 d.sum, .int .i64 x.day, .int .i64 x.held]
/-- an account -/
structure Acc where
  pr : Int
  ch : Int
  pd : Int
  ag : Int
  op : Bool
  deriving DecidableEq, Inhabited
abbrev encAcc (a : Acc) : List Value := [.int .i64 a.pr, .int .i64 a.ch, .int .i64 a.pd, .int .i64 a.ag, .bool a.op]
def Ln.acc (x : Ln) : Acc := ⟨x.pr, x.ch, x.pd, x.ag, x.op⟩
/-- an act -/
structure Act1 where
  day : Int
  kind : Int
  n : Int
  deriving DecidableEq, Inhabited
abbrev encAct (a : Act1) : List Value := [.int .i64 a.day, .int .i64 a.kind, .int .i64 a.n]

def prevOf (l : List Int) (k : Nat) : Int := if k = 0 then -1 else l.getD (k - 1) 0
def ascOk : Int → List Int → Bool
  | _, [] => true
  | p, n :: l => btw 0 n 36500 && decide (p < n) && ascOk n l
theorem ascOk_drop (l : List Int) (k : Nat) (x : Int) (h : l[k]? = some x) : ascOk (prevOf l k) (l.drop k) = (btw 0 x 36500 && decide (prevOf l k < x) && ascOk (prevOf l (k + 1)) (l.drop (k + 1))) := by
  obtain ⟨h1, h2⟩ := List.getElem?_eq_some_iff.1 h
  rw [List.drop_eq_getElem_cons h1, h2, ascOk]
  have : prevOf l (k + 1) = x := by simp [prevOf, h]
  rw [this]
theorem asc_V (l : List Int) (k : Nat) (n : Int) : (!(btw 0 n 36500) || (decide ((0 : Int) < k) && decide (n ≤ l.getD ((k : Int) - 1).toNat 0))) = !(btw 0 n 36500 && decide (prevOf l k < n)) := by
  cases hb : btw 0 n 36500
  · rfl
  · have h1 : 0 ≤ n := by simp only [btw, Bool.and_eq_true, decide_eq_true_eq] at hb; omega
    by_cases h0 : k = 0
    · subst h0
      have h2 : (-1 : Int) < n := by omega
      simp [prevOf, h2]
    · have h2 : (0 : Int) < k := by omega
      have h3 : ((k : Int) - 1).toNat = k - 1 := by omega
      simp only [prevOf, if_neg h0, decide_eq_true h2, h3, Bool.true_and, Bool.not_true, Bool.false_or]
      by_cases h4 : n ≤ l.getD (k - 1) 0
      · rw [decide_eq_true h4, decide_eq_false (by omega)]; rfl
      · rw [decide_eq_false h4, decide_eq_true (by omega)]; rfl
def badDeal1 (d : Deal) : Bool := !(btw 0 d.lr 10000) || !(btw 0 d.lc 64) || !(btw 0 d.tr 10000) || !(btw 0 d.tf 31) || !(btw 0 d.te 10000) || !(btw 1 d.tt 366) || !(btw 0 d.tg 60)
def badDeal2 (d : Deal) : Bool := decide (64 < (d.closed.length : Int)) || !(btw 0 d.start 36500) || !(btw 1 d.sum 1073741824)
def badDeal (d : Deal) : Bool := badDeal1 d || badDeal2 d || !(ascOk (-1) d.closed)
def errD (b : Bool) : Int := if b then 23 else 0
theorem errD_ne (b : Bool) : (errD b ≠ 0) = (b = true) := by cases b <;> simp [errD]
theorem errD_eq (b : Bool) : (errD b = 0) = (b = false) := by cases b <;> simp [errD]
structure DealOk (d : Deal) : Prop where
  lr : 0 ≤ d.lr ∧ d.lr ≤ 10000
  lc : 0 ≤ d.lc ∧ d.lc ≤ 64
  tr : 0 ≤ d.tr ∧ d.tr ≤ 10000
  tf : 0 ≤ d.tf ∧ d.tf ≤ 31
  te : 0 ≤ d.te ∧ d.te ≤ 10000
  tt : 1 ≤ d.tt ∧ d.tt ≤ 366
  tg : 0 ≤ d.tg ∧ d.tg ≤ 60
  len : d.closed.length ≤ 64
  start : 0 ≤ d.start ∧ d.start ≤ 36500
  sum : 1 ≤ d.sum ∧ d.sum ≤ 1073741824
  asc : ascOk (-1) d.closed = true
theorem badDeal_no {d : Deal} (h : badDeal d = false) : DealOk d := by
  simp only [badDeal, badDeal1, badDeal2, btw, Bool.or_eq_false_iff, Bool.not_eq_false', Bool.and_eq_true, decide_eq_true_eq, decide_eq_false_iff_not] at h
  exact ⟨by omega, by omega, by omega, by omega, by omega, by omega, by omega, by omega, by omega, by omega, h.2⟩

def countsB (d : Deal) (x : Ln) (day : Int) : Bool := x.op && decide (x.held < day) && !(decide (0 ≤ seek d.closed day 0))
def limitOf (d : Deal) (x : Ln) : Int := min (x.all * d.lr / 1000000) (d.sum * d.lc / 64)
def chargeOf (d : Deal) (x : Ln) : Int := min (x.dear * d.tr / 1000000 + x.fees) (limitOf d x)
def counted (d : Deal) (x : Ln) : Ln := { x with days := x.days + 1, ag := x.ag + 1, all := x.all + x.pr, dear := if d.tf < x.days + 1 then x.dear + x.pr else x.dear }
def stepDay (d : Deal) (x : Ln) : Ln := { (if countsB d x (x.day + 1) then counted d x else x) with day := x.day + 1 }
def goN (d : Deal) : Nat → Ln → Ln
  | 0, x => x
  | k + 1, x => goN d k (stepDay d x)
def sumsNe (x y : Ln) : Bool := !((x.all == y.all) && (x.dear == y.dear) && (x.days == y.days) && (x.fees == y.fees))
def toL (d : Deal) (x : Ln) (day : Int) : Ln := if sumsNe (goN d (day - x.day).toNat x) x then { goN d (day - x.day).toNat x with ch := chargeOf d (goN d (day - x.day).toNat x) } else goN d (day - x.day).toNat x
/-- bounds that hold throughout -/
structure LOk (x : Ln) : Prop where
  pr : 0 ≤ x.pr ∧ x.pr ≤ 1073741824
  day : 0 ≤ x.day ∧ x.day ≤ 36500
  days : 0 ≤ x.days ∧ x.days ≤ x.day
  ag : 0 ≤ x.ag ∧ x.ag ≤ x.day
  all : 0 ≤ x.all ∧ x.all ≤ 1073741824 * x.day
  dear : 0 ≤ x.dear ∧ x.dear ≤ 1073741824 * x.day
  fees : 0 ≤ x.fees ∧ x.fees ≤ 1000000000
  ch : 0 ≤ x.ch ∧ x.ch ≤ 400000000000
  pd : 0 ≤ x.pd ∧ x.pd ≤ 400000000000
theorem LOk.step {d : Deal} {x : Ln} (h : LOk x) (hd : x.day + 1 ≤ 36500) : LOk (stepDay d x) := by
  obtain ⟨h1, h2, h3, h4, h5, h6, h7, h8, h9⟩ := h
  unfold stepDay counted
  split
  · refine ⟨h1, ?_, ?_, ?_, ?_, ?_, h7, h8, h9⟩ <;> simp only <;> first | omega | (split <;> omega)
  · refine ⟨h1, ?_, ?_, ?_, ?_, ?_, h7, h8, h9⟩ <;> simp only <;> omega
theorem stepDay_day (d : Deal) (x : Ln) : (stepDay d x).day = x.day + 1 := rfl
theorem LOk.lim {d : Deal} {x : Ln} (hd : DealOk d) (h : LOk x) : (0 ≤ x.all * d.lr ∧ x.all * d.lr ≤ 391915765760000000) ∧ (0 ≤ d.sum * d.lc ∧ d.sum * d.lc ≤ 68719476736) ∧ (0 ≤ x.dear * d.tr ∧ x.dear * d.tr ≤ 391915765760000000) := by
  have h1 := h.day; have h2 := h.all; have h3 := h.dear; have h4 := hd.sum
  have e1 := mul_bd (x := 39191576576000) (show 0 ≤ x.all ∧ x.all ≤ 39191576576000 by omega) hd.lr
  have e2 := mul_bd (show 0 ≤ d.sum ∧ d.sum ≤ 1073741824 by omega) hd.lc
  have e3 := mul_bd (x := 39191576576000) (show 0 ≤ x.dear ∧ x.dear ≤ 39191576576000 by omega) hd.tr
  omega
theorem chargeOf_bd {d : Deal} {x : Ln} (hd : DealOk d) (h : LOk x) : 0 ≤ chargeOf d x ∧ chargeOf d x ≤ 400000000000 := by
  obtain ⟨h1, h2, h3⟩ := h.lim hd
  have := h.fees
  unfold chargeOf limitOf
  omega
theorem goN_ok {d : Deal} : ∀ (k : Nat) (x : Ln), LOk x → x.day + k ≤ 36500 → LOk (goN d k x)
  | 0, _, h, _ => h
  | k + 1, x, h, hk => goN_ok k _ (h.step (by omega)) (by rw [stepDay_day]; omega)
theorem toL_ok {d : Deal} {x : Ln} {day : Int} (hd : DealOk d) (h : LOk x) (hday : day ≤ 36500) : LOk (toL d x day) := by
  have h1 : LOk (goN d (day - x.day).toNat x) := goN_ok _ _ h (by have := h.day; omega)
  unfold toL
  split
  · exact ⟨h1.pr, h1.day, h1.days, h1.ag, h1.all, h1.dear, h1.fees, chargeOf_bd hd h1, h1.pd⟩
  · exact h1
theorem goN_day (d : Deal) : ∀ (k : Nat) (x : Ln), (goN d k x).day = x.day + k
  | 0, x => by simp [goN]
  | k + 1, x => by rw [goN, goN_day d k, stepDay_day]; omega
theorem toL_day (d : Deal) (x : Ln) (day : Int) : (toL d x day).day = x.day + (day - x.day).toNat := by
  unfold toL
  split
  · exact goN_day d _ x
  · exact goN_day d _ x
def openL (d : Deal) : Ln := ⟨d.sum, 0, 0, 0, true, 0, 0, 0, 0, d.start, d.start⟩
theorem openL_ok {d : Deal} (hd : DealOk d) : LOk (openL d) := by
  have h1 := hd.sum; have h2 := hd.start
  refine ⟨?_, h2, ?_, ?_, ?_, ?_, ?_, ?_, ?_⟩ <;> simp only [openL] <;> omega
def overB (d : Deal) (x : Ln) : Bool := decide (d.tt + d.tg < x.ag)
def payE (x : Ln) (n : Int) : Int := if x.ch - x.pd + x.pr ≤ n then 6 else 0
def payL (x : Ln) (n : Int) : Ln := if x.ch - x.pd + x.pr ≤ n then x else { x with pd := x.pd + min n (x.ch - x.pd), pr := x.pr - max 0 (n - (x.ch - x.pd)) }
def feeL (d : Deal) (x : Ln) : Ln := { x with fees := x.fees + d.te }
def renewL (d : Deal) (x : Ln) : Ln := { feeL d x with ch := chargeOf d (feeL d x), pd := chargeOf d (feeL d x), ag := 0 }
def holdE (x : Ln) : Int := if x.day + 1 ≤ x.held then 26 else 0
def holdL (x : Ln) (n : Int) : Ln := if x.day + 1 ≤ x.held then x else { x with held := x.day + n }
def redeemL (x : Ln) : Ln := { x with pd := x.ch, pr := 0, op := false }
theorem feeL_ok {d : Deal} {x : Ln} (hd : DealOk d) (h : LOk x) (hf : x.fees ≤ 999990000) : LOk (feeL d x) :=
  ⟨h.pr, h.day, h.days, h.ag, h.all, h.dear, by have := hd.te; have := h.fees; simp only [feeL]; omega, h.ch, h.pd⟩
theorem renewL_ok {d : Deal} {x : Ln} (hd : DealOk d) (h : LOk x) (hf : x.fees ≤ 999990000) : LOk (renewL d x) := by
  have h1 := feeL_ok hd h hf
  have h2 := chargeOf_bd hd h1
  exact ⟨h1.pr, h1.day, h1.days, by have := h.day; simp only [renewL, feeL]; omega, h1.all, h1.dear, h1.fees, h2, h2⟩
theorem payL_ok {x : Ln} {n : Int} (h : LOk x) (hn : 1 ≤ n ∧ n ≤ 1073741824) : LOk (payL x n) := by
  unfold payL
  split
  · exact h
  · have h1 := h.pr; have h2 := h.ch; have h3 := h.pd
    exact ⟨by simp only; omega, h.day, h.days, h.ag, h.all, h.dear, h.fees, h.ch, by simp only; omega⟩
theorem holdL_ok {x : Ln} {n : Int} (h : LOk x) : LOk (holdL x n) := by
  unfold holdL
  split
  · exact h
  · exact ⟨h.pr, h.day, h.days, h.ag, h.all, h.dear, h.fees, h.ch, h.pd⟩
theorem redeemL_ok {x : Ln} (h : LOk x) : LOk (redeemL x) := ⟨by simp only [redeemL]; omega, h.day, h.days, h.ag, h.all, h.dear, h.fees, h.ch, h.ch⟩
end Go.Proofs.YtafmgkiddhappaaDoor
