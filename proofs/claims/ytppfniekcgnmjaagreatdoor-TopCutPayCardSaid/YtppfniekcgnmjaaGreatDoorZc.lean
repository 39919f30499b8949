/- Texts of ours, joined: 6 of them. Conditions: none. -/
import Derived.Test.YtppfniekcgnmjaaGreatDoorZb
import Derived.Shelf.SlSortCmp.NoneTotal
import Derived.Lib.OwnBridge
import Derived.Lib.SortBridge
import Derived.Lib.SlKeysI
namespace Go.Sx
open Go.RowKit Go.Sort Go.Shelf Go.Proofs

end Go.Sx
namespace Go.Proofs.YtppfniekcgnmjaaGreatDoor.Ln
open Go.Sx Go.RowKit

end Go.Proofs.YtppfniekcgnmjaaGreatDoor.Ln
namespace Go.Proofs.YtppfniekcgnmjaaGreatDoor.Ln
open Go.Sx Go.RowKit

def spanOk (lo hi most : Int) : Bool := decide (0 ≤ lo) && decide (lo ≤ hi) && decide (hi ≤ most)
/-- a value: its least, its greatest, the error -/
structure Val where
  lo : Int
  hi : Int
  err : Int
theorem mul_bd {a b x y : Int} (ha : 0 ≤ a ∧ a ≤ x) (hb : 0 ≤ b ∧ b ≤ y) : 0 ≤ a * b ∧ a * b ≤ x * y :=
  ⟨Int.mul_nonneg ha.1 hb.1, Int.mul_le_mul ha.2 hb.2 hb.1 (Int.le_trans ha.1 ha.2)⟩
def badTerms (fr fl cap : Int) : Bool := !(btw 0 fr 64) || !(btw 0 cap 1073741824) || !(btw 0 fl cap)
def errT (b : Bool) : Int := if b then 22 else 0
theorem errT_ne (b : Bool) : (errT b ≠ 0) = (b = true) := by cases b <;> simp [errT]
theorem errT_eq (b : Bool) : (errT b = 0) = (b = false) := by cases b <;> simp [errT]
theorem badTerms_no {fr fl cap : Int} (h : badTerms fr fl cap = false) : (0 ≤ fr ∧ fr ≤ 64) ∧ (0 ≤ cap ∧ cap ≤ 1073741824) ∧ (0 ≤ fl ∧ fl ≤ cap) := by
  simp only [badTerms, btw, Bool.or_eq_false_iff, Bool.not_eq_false', Bool.and_eq_true, decide_eq_true_eq] at h
  omega
def mostOf (fr fl cap lo : Int) : Int := min (if lo * fr / 64 < fl then min fl lo else lo * fr / 64) cap
/-- what is lent at most; the error -/
def MostN (fr fl cap lo hi : Int) : Int := if badTerms fr fl cap then 0 else if spanOk lo hi 2147483648 then mostOf fr fl cap lo else 0
def MostE (fr fl cap lo hi : Int) : Int := if badTerms fr fl cap then 22 else if spanOk lo hi 2147483648 then 0 else 7
end Go.Proofs.YtppfniekcgnmjaaGreatDoor.Ln
namespace Go.Proofs.YtppfniekcgnmjaaGreatDoor.Ln
open Go.Sx Go.RowKit

structure Deal where
  lr : Int
  lc : Int
  tr : Int
  tf : Int
  te : Int
  tt : Int
  tg : Int
  closed : List Int
  start : Int
  sum : Int
  deriving DecidableEq
/-- a loan on its way -/
structure Ln where
  pr : Int
  ch : Int
  pd : Int
  ag : Int
  op : Bool
  all : Int
  dear : Int
  days : Int
  fees : Int
  day : Int
  held : Int
  deriving DecidableEq
abbrev encLn (d : Deal) (Ac : Option Addr) (cc : Nat) (x : Ln) : List Value := [.int .i64 x.pr, .int .i64 x.ch, .int .i64 x.pd, .int .i64 x.ag, .bool x.op, .int .i64 x.all, .int .i64 x.dear, .int .i64 x.days, .int .i64 x.fees, .int .i64 d.lr, .int .i64 d.lc, .int .i64 d.tr, .int .i64 d.tf, .int .i64 d.te, .int .i64 d.tt, .int .i64 d.tg, .slice Ac d.closed.length cc, .int .i64 d.start, .int .i64 d.sum, .int .i64 x.day, .int .i64 x.held]
/-- an account -/
structure Acc where
  pr : Int
  ch : Int
  pd : Int
  ag : Int
  op : Bool
  deriving DecidableEq, Inhabited
abbrev encAcc (a : Acc) : List Value := [.int .i64 a.pr, .int .i64 a.ch, .int .i64 a.pd, .int .i64 a.ag, .bool a.op]
def Ln.acc (x : Ln) : Acc := ⟨x.pr, x.ch, x.pd, x.ag, x.op⟩
/-- an act -/
structure Act1 where
  day : Int
  kind : Int
  n : Int
  deriving DecidableEq, Inhabited
abbrev encAct (a : Act1) : List Value := [.int .i64 a.day, .int .i64 a.kind, .int .i64 a.n]

def prevOf (l : List Int) (k : Nat) : Int := if k = 0 then -1 else l.getD (k - 1) 0
def ascOk : Int → List Int → Bool
  | _, [] => true
  | p, n :: l => btw 0 n 36500 && decide (p < n) && ascOk n l
theorem ascOk_drop (l : List Int) (k : Nat) (x : Int) (h : l[k]? = some x) : ascOk (prevOf l k) (l.drop k) = (btw 0 x 36500 && decide (prevOf l k < x) && ascOk (prevOf l (k + 1)) (l.drop (k + 1))) := by
  obtain ⟨h1, h2⟩ := List.getElem?_eq_some_iff.1 h
  rw [List.drop_eq_getElem_cons h1, h2, ascOk]
  have : prevOf l (k + 1) = x := by simp [prevOf, h]
  rw [this]
theorem asc_V (l : List Int) (k : Nat) (n : Int) : (!(btw 0 n 36500) || (decide ((0 : Int) < k) && decide (n ≤ l.getD ((k : Int) - 1).toNat 0))) = !(btw 0 n 36500 && decide (prevOf l k < n)) := by
  cases hb : btw 0 n 36500
  · rfl
  · have h1 : 0 ≤ n := by simp only [btw, Bool.and_eq_true, decide_eq_true_eq] at hb; omega
    by_cases h0 : k = 0
    · subst h0
      have h2 : (-1 : Int) < n := by omega
      simp [prevOf, h2]
    · have h2 : (0 : Int) < k := by omega
      have h3 : ((k : Int) - 1).toNat = k - 1 := by omega
      simp only [prevOf, if_neg h0, decide_eq_true h2, h3, Bool.true_and, Bool.not_true, Bool.false_or]
      by_cases h4 : n ≤ l.getD (k - 1) 0
      · rw [decide_eq_true h4, decide_eq_false (by omega)]; rfl
      · rw [decide_eq_false h4, decide_eq_true (by omega)]; rfl
def badDeal1 (d : Deal) : Bool := !(btw 0 d.lr 10000) || !(btw 0 d.lc 64) || !(btw 0 d.tr 10000) || !(btw 0 d.tf 31) || !(btw 0 d.te 10000) || !(btw 1 d.tt 366) || !(btw 0 d.tg 60)
def badDeal2 (d : Deal) : Bool := decide (64 < (d.closed.length : Int)) || !(btw 0 d.start 36500) || !(btw 1 d.sum 1073741824)
def badDeal (d : Deal) : Bool := badDeal1 d || badDeal2 d || !(ascOk (-1) d.closed)
def errD (b : Bool) : Int := if b then 23 else 0
theorem errD_ne (b : Bool) : (errD b ≠ 0) = (b = true) := by cases b <;> simp [errD]
theorem errD_eq (b : Bool) : (errD b = 0) = (b = false) := by cases b <;> simp [errD]
structure DealOk (d : Deal) : Prop where
  lr : 0 ≤ d.lr ∧ d.lr ≤ 10000
  lc : 0 ≤ d.lc ∧ d.lc ≤ 64
  tr : 0 ≤ d.tr ∧ d.tr ≤ 10000
  tf : 0 ≤ d.tf ∧ d.tf ≤ 31
  te : 0 ≤ d.te ∧ d.te ≤ 10000
  tt : 1 ≤ d.tt ∧ d.tt ≤ 366
  tg : 0 ≤ d.tg ∧ d.tg ≤ 60
  len : d.closed.length ≤ 64
  start : 0 ≤ d.start ∧ d.start ≤ 36500
  sum : 1 ≤ d.sum ∧ d.sum ≤ 1073741824
  asc : ascOk (-1) d.closed = true
theorem badDeal_no {d : Deal} (h : badDeal d = false) : DealOk d := by
  simp only [badDeal, badDeal1, badDeal2, btw, Bool.or_eq_false_iff, Bool.not_eq_false', Bool.and_eq_true, decide_eq_true_eq, decide_eq_false_iff_not] at h
  exact ⟨by omega, by omega, by omega, by omega, by omega, by omega, by omega, by omega, by omega, by omega, h.2⟩

def countsB (d : Deal) (x : Ln) (day : Int) : Bool := x.op && decide (x.held < day) && !(decide (0 ≤ seek d.closed day 0))
def limitOf (d : Deal) (x : Ln) : Int := min (x.all * d.lr / 1000000) (d.sum * d.lc / 64)
def chargeOf (d : Deal) (x : Ln) : Int := min (x.dear * d.tr / 1000000 + x.fees) (limitOf d x)
def counted (d : Deal) (x : Ln) : Ln := { x with days := x.days + 1, ag := x.ag + 1, all := x.all + x.pr, dear := if d.tf < x.days + 1 then x.dear + x.pr else x.dear }
def stepDay (d : Deal) (x : Ln) : Ln := { (if countsB d x (x.day + 1) then counted d x else x) with day := x.day + 1 }
def goN (d : Deal) : Nat → Ln → Ln
  | 0, x => x
  | k + 1, x => goN d k (stepDay d x)
def sumsNe (x y : Ln) : Bool := !((x.all == y.all) && (x.dear == y.dear) && (x.days == y.days) && (x.fees == y.fees))
def toL (d : Deal) (x : Ln) (day : Int) : Ln := if sumsNe (goN d (day - x.day).toNat x) x then { goN d (day - x.day).toNat x with ch := chargeOf d (goN d (day - x.day).toNat x) } else goN d (day - x.day).toNat x
/-- bounds that hold throughout -/
structure LOk (x : Ln) : Prop where
  pr : 0 ≤ x.pr ∧ x.pr ≤ 1073741824
  day : 0 ≤ x.day ∧ x.day ≤ 36500
  days : 0 ≤ x.days ∧ x.days ≤ x.day
  ag : 0 ≤ x.ag ∧ x.ag ≤ x.day
  all : 0 ≤ x.all ∧ x.all ≤ 1073741824 * x.day
  dear : 0 ≤ x.dear ∧ x.dear ≤ 1073741824 * x.day
  fees : 0 ≤ x.fees ∧ x.fees ≤ 1000000000
  ch : 0 ≤ x.ch ∧ x.ch ≤ 400000000000
  pd : 0 ≤ x.pd ∧ x.pd ≤ 400000000000
theorem LOk.step {d : Deal} {x : Ln} (h : LOk x) (hd : x.day + 1 ≤ 36500) : LOk (stepDay d x) := by
  obtain ⟨h1, h2, h3, h4, h5, h6, h7, h8, h9⟩ := h
  unfold stepDay counted
  split
  · refine ⟨h1, ?_, ?_, ?_, ?_, ?_, h7, h8, h9⟩ <;> simp only <;> first | omega | (split <;> omega)
  · refine ⟨h1, ?_, ?_, ?_, ?_, ?_, h7, h8, h9⟩ <;> simp only <;> omega
theorem stepDay_day (d : Deal) (x : Ln) : (stepDay d x).day = x.day + 1 := rfl
theorem LOk.lim {d : Deal} {x : Ln} (hd : DealOk d) (h : LOk x) : (0 ≤ x.all * d.lr ∧ x.all * d.lr ≤ 391915765760000000) ∧ (0 ≤ d.sum * d.lc ∧ d.sum * d.lc ≤ 68719476736) ∧ (0 ≤ x.dear * d.tr ∧ x.dear * d.tr ≤ 391915765760000000) := by
  have h1 := h.day; have h2 := h.all; have h3 := h.dear; have h4 := hd.sum
  have e1 := mul_bd (x := 39191576576000) (show 0 ≤ x.all ∧ x.all ≤ 39191576576000 by omega) hd.lr
  have e2 := mul_bd (show 0 ≤ d.sum ∧ d.sum ≤ 1073741824 by omega) hd.lc
  have e3 := mul_bd (x := 39191576576000) (show 0 ≤ x.dear ∧ x.dear ≤ 39191576576000 by omega) hd.tr
  omega
theorem chargeOf_bd {d : Deal} {x : Ln} (hd : DealOk d) (h : LOk x) : 0 ≤ chargeOf d x ∧ chargeOf d x ≤ 400000000000 := by
  obtain ⟨h1, h2, h3⟩ := h.lim hd
  have := h.fees
  unfold chargeOf limitOf
  omega
theorem goN_ok {d : Deal} : ∀ (k : Nat) (x : Ln), LOk x → x.day + k ≤ 36500 → LOk (goN d k x)
  | 0, _, h, _ => h
  | k + 1, x, h, hk => goN_ok k _ (h.step (by omega)) (by rw [stepDay_day]; omega)
theorem toL_ok {d : Deal} {x : Ln} {day : Int} (hd : DealOk d) (h : LOk x) (hday : day ≤ 36500) : LOk (toL d x day) := by
  have h1 : LOk (goN d (day - x.day).toNat x) := goN_ok _ _ h (by have := h.day; omega)
  unfold toL
  split
  · exact ⟨h1.pr, h1.day, h1.days, h1.ag, h1.all, h1.dear, h1.fees, chargeOf_bd hd h1, h1.pd⟩
  · exact h1
theorem goN_day (d : Deal) : ∀ (k : Nat) (x : Ln), (goN d k x).day = x.day + k
  | 0, x => by simp [goN]
  | k + 1, x => by rw [goN, goN_day d k, stepDay_day]; omega
theorem toL_day (d : Deal) (x : Ln) (day : Int) : (toL d x day).day = x.day + (day - x.day).toNat := by
  unfold toL
  split
  · exact goN_day d _ x
  · exact goN_day d _ x
def openL (d : Deal) : Ln := ⟨d.sum, 0, 0, 0, true, 0, 0, 0, 0, d.start, d.start⟩
theorem openL_ok {d : Deal} (hd : DealOk d) : LOk (openL d) := by
  have h1 := hd.sum; have h2 := hd.start
  refine ⟨?_, h2, ?_, ?_, ?_, ?_, ?_, ?_, ?_⟩ <;> simp only [openL] <;> omega
def overB (d : Deal) (x : Ln) : Bool := decide (d.tt + d.tg < x.ag)
def payE (x : Ln) (n : Int) : Int := if x.ch - x.pd + x.pr ≤ n then 6 else 0
def payL (x : Ln) (n : Int) : Ln := if x.ch - x.pd + x.pr ≤ n then x else { x with pd := x.pd + min n (x.ch - x.pd), pr := x.pr - max 0 (n - (x.ch - x.pd)) }
def feeL (d : Deal) (x : Ln) : Ln := { x with fees := x.fees + d.te }
def renewL (d : Deal) (x : Ln) : Ln := { feeL d x with ch := chargeOf d (feeL d x), pd := chargeOf d (feeL d x), ag := 0 }
def holdE (x : Ln) : Int := if x.day + 1 ≤ x.held then 26 else 0
def holdL (x : Ln) (n : Int) : Ln := if x.day + 1 ≤ x.held then x else { x with held := x.day + n }
def redeemL (x : Ln) : Ln := { x with pd := x.ch, pr := 0, op := false }
theorem feeL_ok {d : Deal} {x : Ln} (hd : DealOk d) (h : LOk x) (hf : x.fees ≤ 999990000) : LOk (feeL d x) :=
  ⟨h.pr, h.day, h.days, h.ag, h.all, h.dear, by have := hd.te; have := h.fees; simp only [feeL]; omega, h.ch, h.pd⟩
theorem renewL_ok {d : Deal} {x : Ln} (hd : DealOk d) (h : LOk x) (hf : x.fees ≤ 999990000) : LOk (renewL d x) := by
  have h1 := feeL_ok hd h hf
  have h2 := chargeOf_bd hd h1
  exact ⟨h1.pr, h1.day, h1.days, by have := h.day; simp only [renewL, feeL]; omega, h1.all, h1.dear, h1.fees, h2, h2⟩
theorem payL_ok {x : Ln} {n : Int} (h : LOk x) (hn : 1 ≤ n ∧ n ≤ 1073741824) : LOk (payL x n) := by
  unfold payL
  split
  · exact h
  · have h1 := h.pr; have h2 := h.ch; have h3 := h.pd
    exact ⟨by simp only; omega, h.day, h.days, h.ag, h.all, h.dear, h.fees, h.ch, by simp only; omega⟩
theorem holdL_ok {x : Ln} {n : Int} (h : LOk x) : LOk (holdL x n) := by
  unfold holdL
  split
  · exact h
  · exact ⟨h.pr, h.day, h.days, h.ag, h.all, h.dear, h.fees, h.ch, h.pd⟩
theorem redeemL_ok {x : Ln} (h : LOk x) : LOk (redeemL x) := ⟨by simp only [redeemL]; omega, h.day, h.days, h.ag, h.all, h.dear, h.fees, h.ch, h.ch⟩
end Go.Proofs.YtppfniekcgnmjaaGreatDoor.Ln
namespace Go.Proofs.YtppfniekcgnmjaaGreatDoor.Ln
open Go.Sx Go.RowKit

def deedV (k : Int) : Value := if k = 1 then .iface 240 (.agg #[]) else if k = 2 then .iface 241 (.agg #[]) else if k = 3 then .iface 242 (.agg #[]) else if k = 4 then .iface 243 (.agg #[]) else .nilIface
def isNilK (k : Int) : Bool := !(decide (1 ≤ k) && decide (k ≤ 4))
def okKind (k n : Int) : Bool := if k = 1 then btw 1 n 1073741824 else if k = 2 then n == 0 else if k = 3 then btw 1 n 366 else if k = 4 then n == 0 else false
theorem kinds {k : Int} (h : isNilK k = false) : k = 1 ∨ k = 2 ∨ k = 3 ∨ k = 4 := by
  have := not_f h
  simp only [Bool.and_eq_true, decide_eq_true_eq] at this
  omega
theorem okKind_nil {k n : Int} (h : isNilK k = true) : okKind k n = false := by
  have := not_t h
  simp only [Bool.and_eq_false_iff, decide_eq_false_iff_not] at this
  unfold okKind
  rw [if_neg (by omega), if_neg (by omega), if_neg (by omega), if_neg (by omega)]
def okAct (last pk : Int) (a : Act1) : Bool := okKind a.kind a.n && btw last a.day 36500 && !(pk == 4)
def actsF : Int → Int → List Act1 → Bool
  | _, _, [] => true
  | last, pk, a :: l => okAct last pk a && actsF a.day a.kind l
def actsOk (d : Deal) (l : List Act1) : Bool := actsF d.start 0 l && decide ((l.length : Int) ≤ 32)
def pkOf (l : List Act1) (k : Nat) : Int := if k = 0 then 0 else (l.getD (k - 1) default).kind
theorem actsF_drop (l : List Act1) (k : Nat) (a : Act1) (last : Int) (h : l[k]? = some a) : actsF last (pkOf l k) (l.drop k) = (okAct last (pkOf l k) a && actsF a.day (pkOf l (k + 1)) (l.drop (k + 1))) := by
  obtain ⟨h1, h2⟩ := List.getElem?_eq_some_iff.1 h
  rw [List.drop_eq_getElem_cons h1, h2, actsF]
  have : pkOf l (k + 1) = a.kind := by simp [pkOf, h]
  rw [this]
theorem act_V (l : List Act1) (k : Nat) (last : Int) (a : Act1) :
    ((isNilK a.kind || !(okKind a.kind a.n)) || !(btw last a.day 36500) || (decide ((0 : Int) < k) && ((l.getD ((k : Int) - 1).toNat default).kind == 4))) = !(okAct last (pkOf l k) a) := by
  unfold okAct
  cases hn : isNilK a.kind
  · cases hk : okKind a.kind a.n
    · rfl
    · cases hb : btw last a.day 36500
      · rfl
      · by_cases h0 : k = 0
        · subst h0; simp [pkOf]
        · have h2 : (0 : Int) < k := by omega
          have h3 : ((k : Int) - 1).toNat = k - 1 := by omega
          rw [pkOf, if_neg h0, h3, decide_eq_true h2]; simp
  · rw [okKind_nil hn]; rfl
def actE (_ : Deal) (y : Ln) (a : Act1) : Int := if a.kind = 1 then payE y a.n else if a.kind = 3 then holdE y else 0
def actL (d : Deal) (y : Ln) (a : Act1) : Ln := if a.kind = 1 then payL y a.n else if a.kind = 2 then renewL d y else if a.kind = 3 then holdL y a.n else redeemL y
structure RunR where
  x : Ln
  out : List Acc
  at_ : Int
  e : Int
def runF (d : Deal) : Int → Ln → List Acc → Int → Int → List Act1 → RunR
  | _, x, out, at_, e, [] => ⟨x, out, at_, e⟩
  | i, x, out, _, _, a :: l =>
    if overB d (toL d x a.day) then ⟨toL d x a.day, out, i, 25⟩
    else if actE d (toL d x a.day) a = 0 then runF d (i + 1) (actL d (toL d x a.day) a) (out ++ [(actL d (toL d x a.day) a).acc]) (i + 1) 0 l
    else ⟨actL d (toL d x a.day) a, out, i, actE d (toL d x a.day) a⟩
def runL (d : Deal) (l : List Act1) : RunR := runF d 0 (openL d) [] 0 0 l
theorem encAcc_one (a : Acc) : ∀ v ∈ encAcc a, v.oneCell' = true := by simp [encAcc, Value.oneCell']
end Go.Proofs.YtppfniekcgnmjaaGreatDoor.Ln
namespace Go.Proofs.YtppfniekcgnmjaaGreatDoor.Ln
open Go.Sx Go.RowKit

abbrev WAYS : List Value := [.func (.func 229) #[] #[], .func (.func 230) #[] #[], .func (.func 231) #[] #[], .func (.func 232) #[] #[]]
def wayV (k : Int) : Value := if k = 1 then .func (.func 229) #[] #[] else if k = 2 then .func (.func 230) #[] #[] else if k = 3 then .func (.func 231) #[] #[] else .func (.func 232) #[] #[]
theorem okKind_kinds {k n : Int} (h : okKind k n = true) : k = 1 ∨ k = 2 ∨ k = 3 ∨ k = 4 := by
  cases hn : isNilK k
  · exact kinds hn
  · rw [okKind_nil hn] at h; cases h
theorem way_at {k : Int} (h : k = 1 ∨ k = 2 ∨ k = 3 ∨ k = 4) : WAYS[0 + (k - 1).toNat * 1]? = some (wayV k) := by
  rcases h with rfl | rfl | rfl | rfl <;> rfl
theorem actsF_mem : ∀ (l : List Act1) (last pk : Int), actsF last pk l = true → ∀ a ∈ l, okKind a.kind a.n = true ∧ a.day ≤ 36500
  | [], _, _, _, a, ha => by cases ha
  | b :: l, last, pk, h, a, ha => by
    rw [actsF, Bool.and_eq_true] at h
    rcases List.mem_cons.1 ha with rfl | ha
    · have := h.1
      simp only [okAct, btw, Bool.and_eq_true, decide_eq_true_eq] at this
      exact ⟨this.1.1, this.1.2.2⟩
    · exact actsF_mem l _ _ h.2 a ha
theorem actsOk_mem {d : Deal} {l : List Act1} (h : actsOk d l = true) : (∀ a ∈ l, okKind a.kind a.n = true ∧ a.day ≤ 36500) ∧ l.length ≤ 32 := by
  rw [actsOk, Bool.and_eq_true, decide_eq_true_eq] at h
  exact ⟨actsF_mem l _ _ h.1, by omega⟩
theorem goN_fees (d : Deal) : ∀ (k : Nat) (x : Ln), (goN d k x).fees = x.fees
  | 0, _ => rfl
  | k + 1, x => by
    rw [goN, goN_fees d k]
    unfold stepDay counted
    split <;> rfl
theorem toL_fees (d : Deal) (x : Ln) (day : Int) : (toL d x day).fees = x.fees := by
  unfold toL
  split
  · exact goN_fees d _ x
  · exact goN_fees d _ x
theorem actL_fees {d : Deal} {y : Ln} {a : Act1} (hd : DealOk d) : (actL d y a).fees ≤ y.fees + 10000 := by
  have := hd.te
  unfold actL payL holdL renewL feeL redeemL
  repeat' split
  all_goals first | omega | (simp only; omega)
theorem actL_ok {d : Deal} {y : Ln} {a : Act1} (hd : DealOk d) (hy : LOk y) (hk : okKind a.kind a.n = true) (hf : y.fees ≤ 999990000) : LOk (actL d y a) := by
  unfold actL
  by_cases h1 : a.kind = 1
  · rw [if_pos h1]
    rw [okKind, if_pos h1] at hk
    simp only [btw, Bool.and_eq_true, decide_eq_true_eq] at hk
    exact payL_ok hy hk
  · rw [if_neg h1]
    by_cases h2 : a.kind = 2
    · rw [if_pos h2]; exact renewL_ok hd hy hf
    · rw [if_neg h2]
      by_cases h3 : a.kind = 3
      · rw [if_pos h3]; exact holdL_ok hy
      · rw [if_neg h3]; exact redeemL_ok hy
theorem runF_nil (d : Deal) (i : Int) (x : Ln) (out : List Acc) (at_ e : Int) : runF d i x out at_ e [] = ⟨x, out, at_, e⟩ := rfl
theorem runF_drop (d : Deal) (l : List Act1) (k : Nat) (a : Act1) (i : Int) (x : Ln) (out : List Acc) (at_ e : Int) (h : l[k]? = some a) : runF d i x out at_ e (l.drop k) =
    if overB d (toL d x a.day) then ⟨toL d x a.day, out, i, 25⟩
    else if actE d (toL d x a.day) a = 0 then runF d (i + 1) (actL d (toL d x a.day) a) (out ++ [(actL d (toL d x a.day) a).acc]) (i + 1) 0 (l.drop (k + 1))
    else ⟨actL d (toL d x a.day) a, out, i, actE d (toL d x a.day) a⟩ := by
  obtain ⟨h1, h2⟩ := List.getElem?_eq_some_iff.1 h
  rw [List.drop_eq_getElem_cons h1, h2, runF]
end Go.Proofs.YtppfniekcgnmjaaGreatDoor.Ln
