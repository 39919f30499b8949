/- Loans: a day is counted once. Conditions: none. -/
import Derived.Test.YtafmgkiddhappaaDoorYPRun
namespace Go.Proofs.YtafmgkiddhappaaDoor
open Go.Sx Go.RowKit

/-- the same loan, but for renewals -/
structure Eqv (x y : Ln) : Prop where
  days : x.days = y.days
  op : x.op = y.op
  held : x.held = y.held
  day : x.day = y.day
  pr : x.pr = y.pr
  all : x.all = y.all
  dear : x.dear = y.dear
theorem Eqv.step {d d' : Deal} (hd : d'.closed = d.closed ∧ d'.tf = d.tf) {x y : Ln} (h : Eqv x y) : Eqv (stepDay d' x) (stepDay d y) := by
  obtain ⟨h2, h3, h4, h1, h6, h7, h8⟩ := h
  obtain ⟨a1, _, _, a4, _, a6, a7, a8, a9, a10⟩ := stepDay_parts d' x
  obtain ⟨b1, _, _, b4, _, b6, b7, b8, b9, b10⟩ := stepDay_parts d y
  have hc : countsB d' x (x.day + 1) = countsB d y (y.day + 1) := by unfold countsB; rw [h1, h3, h4, hd.1]
  rw [hc] at a8 a9 a10
  refine ⟨by rw [a9, b9, h2], by rw [a4, b4, h3], by rw [a6, b6, h4], by rw [a7, b7, h1], by rw [a1, b1, h6], by rw [a8, b8, h7, h6], by rw [a10, b10, hd.2, h2, h8, h6]⟩
theorem Eqv.go {d d' : Deal} (hd : d'.closed = d.closed ∧ d'.tf = d.tf) : ∀ (k : Nat) {x y : Ln}, Eqv x y → Eqv (goN d' k x) (goN d k y)
  | 0, _, _, h => h
  | k + 1, _, _, h => Eqv.go hd k (h.step hd)
def isRen (a : Act1) : Bool := a.kind == 2
def rensOf (l : List Act1) : List Act1 := l.filter isRen
theorem toL_as (d : Deal) (x y : Ln) (h : Eqv x y) (t : Int) : Eqv (toL d x t) (goN d (t - x.day).toNat y) := by
  obtain ⟨h1, _, _, h2, h3, h4, h5, _, h6, h7⟩ := toL_parts d x t
  have hg := h.go (d := d) (d' := d) ⟨rfl, rfl⟩ (t - x.day).toNat
  exact ⟨by rw [h5]; exact hg.days, by rw [h2]; exact hg.op, by rw [h7]; exact hg.held, by rw [h6]; exact hg.day, by rw [h1]; exact hg.pr, by rw [h3]; exact hg.all, by rw [h4]; exact hg.dear⟩
theorem renews_same (d d' : Deal) (hd : d'.closed = d.closed ∧ d'.tf = d.tf) : ∀ (l : List Act1) (k : Nat) (x y : Ln), (∀ a ∈ l, isRen a = true) → Eqv x (goN d k y) →
    ∃ k', Eqv (exec d' x l) (goN d k' y) ∧ (exec d' x l).fees = x.fees + l.length * d'.te
  | [], k, x, y, _, h => ⟨k, h, by simp [exec]⟩
  | a :: l, k, x, y, ha, h => by
    have h2 : a.kind = 2 := by have := ha a (List.mem_cons_self ..); simpa [isRen] using this
    have e : actL d' (toL d' x a.day) a = renewL d' (toL d' x a.day) := by unfold actL; rw [if_neg (by omega), if_pos h2]
    have h3 : Eqv (toL d' x a.day) (goN d (k + (a.day - x.day).toNat) y) := by
      obtain ⟨q1, _, _, q2, q3, q4, q5, _, q6, q7⟩ := toL_parts d' x a.day
      have hg := h.go (d := d) (d' := d') hd (a.day - x.day).toNat
      rw [← goN_add] at hg
      exact ⟨by rw [q5]; exact hg.days, by rw [q2]; exact hg.op, by rw [q7]; exact hg.held, by rw [q6]; exact hg.day, by rw [q1]; exact hg.pr, by rw [q3]; exact hg.all, by rw [q4]; exact hg.dear⟩
    have h4 : Eqv (renewL d' (toL d' x a.day)) (goN d (k + (a.day - x.day).toNat) y) := ⟨h3.days, h3.op, h3.held, h3.day, h3.pr, h3.all, h3.dear⟩
    rw [exec, e]
    obtain ⟨k', i1, i2⟩ := renews_same d d' hd l _ _ y (fun b hb => ha b (List.mem_cons_of_mem _ hb)) h4
    refine ⟨k', i1, ?_⟩
    rw [i2]
    have h5 : (renewL d' (toL d' x a.day)).fees = x.fees + d'.te := by show (toL d' x a.day).fees + d'.te = _; rw [toL_fees]
    rw [h5, List.length_cons, Int.natCast_succ, Int.add_mul, Int.one_mul]
    omega
/-- the charge of a loan that was only renewed -/
theorem renews_charge {d d' : Deal} (hd : DealOk d) (hsame : d'.closed = d.closed ∧ d'.tf = d.tf ∧ d'.start = d.start ∧ d'.sum = d.sum ∧ d'.lr = d.lr ∧ d'.lc = d.lc ∧ d'.tr = d.tr) {l : List Act1} {n : Int} (hn : d.start ≤ n ∧ n ≤ 36500) (hl : ∀ a ∈ l, isRen a = true) (h : onE d' l n = 0) :
    ∃ y : Ln, (OweA d [] n).ch = chargeOf d y ∧ y.fees = 0 ∧ (OweA d' l n).ch = chargeOf d { y with fees := l.length * d'.te } ∨ badDeal d = true := by
  cases hb : badDeal d
  · obtain ⟨s1, s2, s3, s4, s5, s6, s7⟩ := hsame
    obtain ⟨_, o2⟩ := on_none hb hn
    obtain ⟨r1, r2, r3, _⟩ := on_ok h
    obtain ⟨ra, _, _, _, _⟩ := run_ok r1
    have hop : Eqv (openL d') (goN d 0 (openL d)) := by
      refine ⟨rfl, rfl, ?_, ?_, ?_, rfl, rfl⟩
      · show d'.start = d.start; exact s3
      · show d'.start = d.start; exact s3
      · show d'.sum = d.sum; exact s4
    obtain ⟨k, e1, e2⟩ := renews_same d d' ⟨s1, s2⟩ l 0 (openL d') (openL d) hl hop
    have g := run_good ra
    have hf := e1.go (d := d) (d' := d') ⟨s1, s2⟩ (n - (exec d' (openL d') l).day).toNat
    rw [← goN_add] at hf
    have hday : k + (n - (exec d' (openL d') l).day).toNat = (n - d.start).toNat := by
      have h1 := e1.day
      rw [goN_day] at h1
      have h2 : (openL d).day = d.start := rfl
      omega
    rw [hday] at hf
    refine ⟨goN d (n - d.start).toNat (openL d), .inl ⟨?_, (goN_same d _ (openL d)).2.2.2.2.1, ?_⟩⟩
    · rw [o2, toL_eq (openL_ch hd)]; rfl
    · rw [r3, toL_eq g.ch]
      show chargeOf d' _ = _
      have hfe : (goN d' (n - (exec d' (openL d') l).day).toNat (exec d' (openL d') l)).fees = l.length * d'.te := by
        rw [(goN_same d' _ _).2.2.2.2.1, e2]; show (0 : Int) + _ = _; omega
      unfold chargeOf limitOf
      simp only
      rw [hfe, hf.all, hf.dear, s4, s5, s6, s7]
  · exact ⟨openL d, .inr rfl⟩
theorem once_free {d : Deal} (hd : DealOk d) (hb : badDeal d = false) {l : List Act1} {n : Int} (hn : d.start ≤ n ∧ n ≤ 36500) (hl : ∀ a ∈ l, isRen a = true) (h : onE { d with te := 0 } l n = 0) : (OweA { d with te := 0 } l n).ch = (OweA d [] n).ch := by
  obtain ⟨y, ⟨h1, h2, h3⟩ | h1⟩ := renews_charge (d' := { d with te := 0 }) hd ⟨rfl, rfl, rfl, rfl, rfl, rfl, rfl⟩ hn hl h
  · rw [h3, h1]
    refine charge_congr rfl rfl ?_
    rw [h2]; simp
  · rw [hb] at h1; cases h1
theorem once_fee {d : Deal} (hd : DealOk d) (hb : badDeal d = false) {l : List Act1} {n : Int} (hn : d.start ≤ n ∧ n ≤ 36500) (hl : ∀ a ∈ l, isRen a = true) (h : onE d l n = 0) : (OweA d [] n).ch ≤ (OweA d l n).ch ∧ (OweA d l n).ch ≤ (OweA d [] n).ch + l.length * d.te := by
  obtain ⟨y, ⟨h1, h2, h3⟩ | h1⟩ := renews_charge hd ⟨rfl, rfl, rfl, rfl, rfl, rfl, rfl⟩ hn hl h
  · rw [h3, h1]
    have h4 : 0 ≤ (l.length : Int) * d.te := Int.mul_nonneg (by omega) hd.te.1
    unfold chargeOf limitOf
    simp only
    rw [h2]
    omega
  · rw [hb] at h1; cases h1
theorem free_deal {d : Deal} (hb : badDeal d = false) : badDeal { d with te := 0 } = false := by
  have hd := badDeal_no hb
  simp only [badDeal, badDeal1, badDeal2, Bool.or_eq_false_iff, Bool.not_eq_false'] at hb ⊢
  obtain ⟨⟨⟨⟨⟨⟨⟨⟨h1, h2⟩, h3⟩, h4⟩, _⟩, h6⟩, h7⟩, h8⟩, h9⟩ := hb
  exact ⟨⟨⟨⟨⟨⟨⟨⟨h1, h2⟩, h3⟩, h4⟩, by decide⟩, h6⟩, h7⟩, h8⟩, h9⟩
theorem on_len {d : Deal} {l : List Act1} {n : Int} (h : onE d l n = 0) : l.length ≤ 32 := (ok_parts (run_ok (on_ok h).1).1).2.2

/-! ### A payment in two parts -/
theorem acts_cut {t p q n : Int} (h1 : okKind 1 p = true) (h2 : okKind 1 q = true) : ∀ (l : List Act1) (last pk : Int), actsF last pk (l ++ [⟨t, 1, n⟩]) = true → actsF last pk (l ++ [⟨t, 1, p⟩, ⟨t, 1, q⟩]) = true
  | [], last, pk, h => by
    simp only [List.nil_append, actsF, okAct, Bool.and_true, Bool.and_eq_true] at h ⊢
    obtain ⟨⟨_, h4⟩, h5⟩ := h
    refine ⟨⟨⟨h1, h4⟩, h5⟩, ⟨h2, ?_⟩, by decide⟩
    simp only [btw, Bool.and_eq_true, decide_eq_true_eq] at h4 ⊢
    exact ⟨Int.le_refl _, h4.2⟩
  | a :: l, last, pk, h => by
    rw [List.cons_append, actsF, Bool.and_eq_true] at h ⊢
    exact ⟨h.1, acts_cut h1 h2 l _ _ h.2⟩
theorem acts_last {t n : Int} : ∀ (l : List Act1) (last pk : Int), actsF last pk (l ++ [⟨t, 1, n⟩]) = true → 1 ≤ n ∧ n ≤ 1073741824
  | [], last, pk, h => by
    simp only [List.nil_append, actsF, okAct, Bool.and_true, Bool.and_eq_true] at h
    have h1 : btw 1 n 1073741824 = true := h.1.1
    simpa [btw] using h1
  | a :: l, last, pk, h => by
    rw [List.cons_append, actsF, Bool.and_eq_true] at h
    exact acts_last l _ _ h.2
/-- PAYING IN TWO PARTS ON ONE DAY IS THE SAME AS PAYING IN ONE. -/
theorem two_parts {d : Deal} {l : List Act1} {p q : Int} (hp : 1 ≤ p) (hq : 1 ≤ q) (h : RunE d (l ++ [⟨lastD d l, 1, p + q⟩]) = 0) (hlen : l.length + 2 ≤ 32) :
    RunE d (l ++ [⟨lastD d l, 1, p⟩, ⟨lastD d l, 1, q⟩]) = 0 ∧ exec d (openL d) (l ++ [⟨lastD d l, 1, p⟩, ⟨lastD d l, 1, q⟩]) = exec d (openL d) (l ++ [⟨lastD d l, 1, p + q⟩]) := by
  obtain ⟨ha, hf, _, _, _⟩ := run_ok h
  obtain ⟨hb, hac⟩ := askOk_parts ha
  have hd := badDeal_no hb
  have hac0 := hac
  rw [actsOk, Bool.and_eq_true] at hac0
  have hpq := acts_last _ _ _ hac0.1
  have hk : ∀ n : Int, 1 ≤ n → n ≤ 1073741824 → okKind 1 n = true := fun n h1 h2 => by
    show btw 1 n 1073741824 = true
    simp only [btw, Bool.and_eq_true, decide_eq_true_eq]; exact ⟨h1, h2⟩
  have hac2 := acts_cut (hk p hp (by omega)) (hk q hq (by omega)) l _ _ hac0.1
  have ha2 : askOk d (l ++ [⟨lastD d l, 1, p⟩, ⟨lastD d l, 1, q⟩]) = true := by
    rw [askOk, hb, actsOk, hac2]
    simp; omega
  obtain ⟨hf1, hf2⟩ := (fine_app d l _ _).1 hf
  obtain ⟨hd2, hm, hln⟩ := ok_parts ha
  have hg : Good d (exec d (openL d) l) := (exec_good hd l _ (open_good hd) (by simp only [openL]; omega) (fun a h => hm a (by simp [h]))).1
  have hday := lastD_le d l
  obtain ⟨x, hx⟩ : ∃ x, x = exec d (openL d) l := ⟨_, rfl⟩
  rw [← hx] at hf2 hday hg
  have hst : toL d x (lastD d l) = x := toL_stay d x hday
  obtain ⟨h1, h2, _⟩ := hf2
  simp only [hst] at h1 h2
  have hE : payE x (p + q) = 0 := h2
  have hdue := hg.due
  have hprn := hg.ok.pr
  have hlt : ¬ x.ch - x.pd + x.pr ≤ p + q := fun hle => by unfold payE at hE; rw [if_pos hle] at hE; cases hE
  have e1 : payE x p = 0 := by unfold payE; rw [if_neg (by omega)]
  have e2 : payL x p = { x with pd := x.pd + min p (x.ch - x.pd), pr := x.pr - max 0 (p - (x.ch - x.pd)) } := by unfold payL; rw [if_neg (by omega)]
  have e3 : payL x (p + q) = { x with pd := x.pd + min (p + q) (x.ch - x.pd), pr := x.pr - max 0 (p + q - (x.ch - x.pd)) } := by unfold payL; rw [if_neg hlt]
  have hst2 : toL d (payL x p) (lastD d l) = payL x p := toL_stay d _ (by rw [e2]; exact hday)
  have e4 : payE (payL x p) q = 0 := by rw [e2]; unfold payE; rw [if_neg (by simp only; omega)]
  have e5 : payL (payL x p) q = payL x (p + q) := by
    rw [e3, e2]
    unfold payL
    rw [if_neg (by simp only; omega)]
    simp only [Ln.mk.injEq, true_and, and_true]
    omega
  have hov : overB d (payL x p) = false := by rw [e2]; exact h1
  have hfine : fine d x [⟨lastD d l, 1, p⟩, ⟨lastD d l, 1, q⟩] := by
    refine ⟨by simp only [hst]; exact h1, by simp only [hst]; exact e1, ?_, ?_, trivial⟩
    · show overB d (toL d (payL (toL d x (lastD d l)) p) (lastD d l)) = false
      rw [hst, hst2]; exact hov
    · show payE (toL d (payL (toL d x (lastD d l)) p) (lastD d l)) q = 0
      rw [hst, hst2]; exact e4
  refine ⟨run_of ha2 ((fine_app d l _ _).2 ⟨hf1, by rw [← hx]; exact hfine⟩), ?_⟩
  rw [exec_app, exec_app, ← hx]
  show payL (toL d (payL (toL d x (lastD d l)) p) (lastD d l)) q = payL (toL d x (lastD d l)) (p + q)
  rw [hst, hst2, e5]
theorem outs_last (d : Deal) (l : List Act1) (a : Act1) (x : Ln) : (outs d x (l ++ [a])).getD (l ++ [a]).length.pred default = (exec d x (l ++ [a])).acc := by
  rw [outs_app, exec_app]
  simp [outs, exec, List.getD_eq_getElem?_getD, outs_len]
theorem on_nil_err (d : Deal) (n : Int) (h : onE d [] n ≠ 0) : onE d [] n = 23 ∨ onE d [] n = 7 := by
  cases hb : badDeal d
  · have hr : runL d [] = ⟨openL d, [], 0, 0⟩ := rfl
    have ha : askOk d [] = true := by simp [askOk, hb, actsOk, actsF]
    by_cases hn : btw (openL d).day n 36500 = true
    · exact absurd (by rw [onE, if_pos ha, hr, if_pos rfl, if_pos hn]) h
    · right; rw [onE, if_pos ha, hr, if_pos rfl, if_neg hn]
  · left; simp [onE, askOk, askE, hb]
theorem rens_take {l : List Act1} {k : Nat} {a : Act1} (h : l[k]? = some a) : rensOf (l.take (k + 1)) = rensOf (l.take k) ++ (if isRen a then [a] else []) := by
  rw [List.take_add_one, h]
  simp only [rensOf, List.filter_append, Option.toList]
  cases hr : isRen a <;> simp [hr]
end Go.Proofs.YtafmgkiddhappaaDoor
