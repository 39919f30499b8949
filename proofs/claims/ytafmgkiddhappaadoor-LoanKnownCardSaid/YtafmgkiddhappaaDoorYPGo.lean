/- Loans: what holds from day to day, and from act to act. Conditions: none. -/
import Derived.Test.YtafmgkiddhappaaDoorYPKeep
namespace Go.Proofs.YtafmgkiddhappaaDoor
open Go.Sx Go.RowKit

theorem stepDay_parts (d : Deal) (x : Ln) : (stepDay d x).pr = x.pr ∧ (stepDay d x).ch = x.ch ∧ (stepDay d x).pd = x.pd ∧ (stepDay d x).op = x.op ∧ (stepDay d x).fees = x.fees ∧ (stepDay d x).held = x.held ∧ (stepDay d x).day = x.day + 1 ∧
    (stepDay d x).all = (if countsB d x (x.day + 1) then x.all + x.pr else x.all) ∧ (stepDay d x).days = (if countsB d x (x.day + 1) then x.days + 1 else x.days) ∧
    (stepDay d x).dear = (if countsB d x (x.day + 1) then (if d.tf < x.days + 1 then x.dear + x.pr else x.dear) else x.dear) := by
  unfold stepDay counted
  cases countsB d x (x.day + 1) <;> exact ⟨rfl, rfl, rfl, rfl, rfl, rfl, rfl, rfl, rfl, rfl⟩
theorem goN_same (d : Deal) : ∀ (k : Nat) (x : Ln), (goN d k x).pr = x.pr ∧ (goN d k x).ch = x.ch ∧ (goN d k x).pd = x.pd ∧ (goN d k x).op = x.op ∧ (goN d k x).fees = x.fees ∧ (goN d k x).held = x.held
  | 0, _ => ⟨rfl, rfl, rfl, rfl, rfl, rfl⟩
  | k + 1, x => by
    obtain ⟨h1, h2, h3, h4, h5, h6, _⟩ := stepDay_parts d x
    obtain ⟨g1, g2, g3, g4, g5, g6⟩ := goN_same d k (stepDay d x)
    exact ⟨g1.trans h1, g2.trans h2, g3.trans h3, g4.trans h4, g5.trans h5, g6.trans h6⟩
theorem charge_congr {d : Deal} {x y : Ln} (h1 : x.all = y.all) (h2 : x.dear = y.dear) (h3 : x.fees = y.fees) : chargeOf d x = chargeOf d y := by
  unfold chargeOf limitOf; rw [h1, h2, h3]
theorem charge_mono {d : Deal} (hd : DealOk d) {x y : Ln} (h1 : x.all ≤ y.all) (h2 : x.dear ≤ y.dear) (h3 : x.fees ≤ y.fees) : chargeOf d x ≤ chargeOf d y := by
  have e1 : x.all * d.lr ≤ y.all * d.lr := Int.mul_le_mul_of_nonneg_right h1 hd.lr.1
  have e2 : x.dear * d.tr ≤ y.dear * d.tr := Int.mul_le_mul_of_nonneg_right h2 hd.tr.1
  unfold chargeOf limitOf
  omega
theorem sums_same {x y : Ln} (h : sumsNe y x = false) : y.all = x.all ∧ y.dear = x.dear ∧ y.days = x.days ∧ y.fees = x.fees := by
  simp only [sumsNe, Bool.not_eq_false', Bool.and_eq_true, beq_iff_eq] at h
  exact ⟨h.1.1.1, h.1.1.2, h.1.2, h.2⟩
/-- The charge is that of the sums. -/
def ChOk (d : Deal) (x : Ln) : Prop := x.ch = chargeOf d x
theorem toL_eq {d : Deal} {x : Ln} (h : ChOk d x) (day : Int) : toL d x day = { goN d (day - x.day).toNat x with ch := chargeOf d (goN d (day - x.day).toNat x) } := by
  unfold toL
  cases hs : sumsNe (goN d (day - x.day).toNat x) x
  · obtain ⟨h1, h2, _, h4⟩ := sums_same hs
    have h5 : chargeOf d (goN d (day - x.day).toNat x) = (goN d (day - x.day).toNat x).ch := by
      rw [charge_congr h1 h2 h4, (goN_same d _ x).2.1]; exact h.symm
    rw [if_neg (by simp), h5]
  · rw [if_pos rfl]
theorem toL_ch {d : Deal} {x : Ln} (h : ChOk d x) (day : Int) : ChOk d (toL d x day) := by
  rw [toL_eq h]; rfl
theorem openL_ch {d : Deal} (hd : DealOk d) : ChOk d (openL d) := by
  have h1 := hd.sum; have h2 := hd.lc
  have h3 : 0 ≤ d.sum * d.lc := Int.mul_nonneg (by omega) h2.1
  unfold ChOk chargeOf limitOf openL
  simp only [Int.zero_mul]
  omega
theorem renew_ch (d : Deal) (x : Ln) : ChOk d (renewL d x) := by
  show chargeOf d (feeL d x) = chargeOf d (renewL d x)
  exact charge_congr rfl rfl rfl
theorem pay_ch {d : Deal} {x : Ln} (h : ChOk d x) (n : Int) : ChOk d (payL x n) := by
  unfold payL
  split
  · exact h
  · exact h.trans (charge_congr rfl rfl rfl)
theorem hold_ch {d : Deal} {x : Ln} (h : ChOk d x) (n : Int) : ChOk d (holdL x n) := by
  unfold holdL
  split
  · exact h
  · exact h.trans (charge_congr rfl rfl rfl)
theorem redeem_ch {d : Deal} {x : Ln} (h : ChOk d x) : ChOk d (redeemL x) := h.trans (charge_congr rfl rfl rfl)
theorem act_ch {d : Deal} {x : Ln} (h : ChOk d x) (a : Act1) : ChOk d (actL d x a) := by
  unfold actL
  split
  · exact pay_ch h _
  · split
    · exact renew_ch d x
    · split
      · exact hold_ch h _
      · exact redeem_ch h
/-- With time sums grow. -/
theorem goN_grow {d : Deal} : ∀ (k : Nat) (x : Ln), 0 ≤ x.pr → x.all ≤ (goN d k x).all ∧ x.dear ≤ (goN d k x).dear
  | 0, _, _ => ⟨Int.le_refl _, Int.le_refl _⟩
  | k + 1, x, h => by
    obtain ⟨h1, _, _, _, _, _, _, h8, _, h10⟩ := stepDay_parts d x
    have ih := goN_grow (d := d) k (stepDay d x) (by rw [h1]; exact h)
    rw [h8, h10] at ih
    rw [goN]
    refine ⟨?_, ?_⟩
    · have := ih.1; split at this <;> omega
    · have := ih.2
      split at this
      · split at this <;> omega
      · exact this
theorem toL_grow {d : Deal} (hd : DealOk d) {x : Ln} (hc : ChOk d x) (hp : 0 ≤ x.pr) (day : Int) : x.ch ≤ (toL d x day).ch := by
  have h1 := goN_grow (d := d) (day - x.day).toNat x hp
  rw [toL_eq hc]
  show x.ch ≤ chargeOf d _
  rw [show x.ch = chargeOf d x from hc]
  exact charge_mono hd h1.1 h1.2 (by rw [(goN_same d _ x).2.2.2.2.1]; exact Int.le_refl _)

/-! ### A loan that owes less -/
structure Less (x y : Ln) : Prop where
  day : x.day = y.day
  days : x.days = y.days
  op : x.op = y.op
  held : x.held = y.held
  fees : x.fees = y.fees
  pr : x.pr ≤ y.pr
  all : x.all ≤ y.all
  dear : x.dear ≤ y.dear
theorem Less.step {d : Deal} {x y : Ln} (h : Less x y) : Less (stepDay d x) (stepDay d y) := by
  obtain ⟨h1, h2, h3, h4, h5, h6, h7, h8⟩ := h
  obtain ⟨a1, _, _, a4, a5, a6, a7, a8, a9, a10⟩ := stepDay_parts d x
  obtain ⟨b1, _, _, b4, b5, b6, b7, b8, b9, b10⟩ := stepDay_parts d y
  have hc : countsB d x (x.day + 1) = countsB d y (y.day + 1) := by unfold countsB; rw [h1, h3, h4]
  rw [hc] at a8 a9 a10
  rw [h2] at a9 a10
  refine ⟨by rw [a7, b7, h1], by rw [a9, b9], by rw [a4, b4, h3], by rw [a6, b6, h4], by rw [a5, b5, h5], by rw [a1, b1]; exact h6, ?_, ?_⟩
  · rw [a8, b8]; split <;> omega
  · rw [a10, b10]; split
    · split <;> omega
    · exact h8
theorem Less.go {d : Deal} : ∀ (k : Nat) {x y : Ln}, Less x y → Less (goN d k x) (goN d k y)
  | 0, _, _, h => h
  | k + 1, _, _, h => Less.go k h.step
theorem Less.charge {d : Deal} (hd : DealOk d) {x y : Ln} (h : Less x y) : chargeOf d x ≤ chargeOf d y := charge_mono hd h.all h.dear (by rw [h.fees]; exact Int.le_refl _)

/-! ### One act -/
theorem run_one (d : Deal) (a : Act1) : runL d [a] = if overB d (toL d (openL d) a.day) then ⟨toL d (openL d) a.day, [], 0, 25⟩
    else if actE d (toL d (openL d) a.day) a = 0 then ⟨actL d (toL d (openL d) a.day) a, [(actL d (toL d (openL d) a.day) a).acc], 1, 0⟩ else ⟨actL d (toL d (openL d) a.day) a, [], 0, actE d (toL d (openL d) a.day) a⟩ := by
  simp [runL, runF]
theorem ask_one {d : Deal} (hb : badDeal d = false) {a : Act1} (hk : okKind a.kind a.n = true) (hday : d.start ≤ a.day ∧ a.day ≤ 36500) : askOk d [a] = true := by
  have e : btw d.start a.day 36500 = true := by simp only [btw, Bool.and_eq_true, decide_eq_true_eq]; exact hday
  simp [askOk, hb, actsOk, actsF, okAct, hk, e]
theorem on_one {d : Deal} (hb : badDeal d = false) {a : Act1} (hk : okKind a.kind a.n = true) (hday : d.start ≤ a.day ∧ a.day ≤ 36500) (n : Int) (hn : a.day ≤ n ∧ n ≤ 36500) (hday2 : (actL d (toL d (openL d) a.day) a).day = a.day) :
    (overB d (toL d (openL d) a.day) = true → onE d [a] n = 25) ∧ (overB d (toL d (openL d) a.day) = false → actE d (toL d (openL d) a.day) a ≠ 0 → onE d [a] n = actE d (toL d (openL d) a.day) a) ∧
    (overB d (toL d (openL d) a.day) = false → actE d (toL d (openL d) a.day) a = 0 → onE d [a] n = 0 ∧ OweA d [a] n = (toL d (actL d (toL d (openL d) a.day) a) n).acc) := by
  have ha := ask_one hb hk hday
  refine ⟨fun h => ?_, fun h h0 => ?_, fun h h0 => ?_⟩
  · have hr := run_one d a
    rw [h, if_pos rfl] at hr
    simp [onE, ha, hr]
  · have hr := run_one d a
    rw [h, if_neg (by simp), if_neg h0] at hr
    simp [onE, ha, hr, h0]
  · have hr := run_one d a
    rw [h, if_neg (by simp), if_pos h0] at hr
    have hon : onOk d [a] n = true := by
      have e : btw (actL d (toL d (openL d) a.day) a).day n 36500 = true := by simp only [btw, Bool.and_eq_true, decide_eq_true_eq]; omega
      simp [onOk, ha, hr, e]
    refine ⟨onE_yes hon, ?_⟩
    rw [OweA, if_pos hon, hr]
theorem open_day {d : Deal} {day : Int} (h : d.start ≤ day) : (toL d (openL d) day).day = day := by
  rw [toL_day]; simp only [openL]; omega
theorem on_none {d : Deal} (hb : badDeal d = false) {n : Int} (hn : d.start ≤ n ∧ n ≤ 36500) : onE d [] n = 0 ∧ OweA d [] n = (toL d (openL d) n).acc := by
  have hr : runL d [] = ⟨openL d, [], 0, 0⟩ := rfl
  have hon : onOk d [] n = true := by
    have e : btw d.start n 36500 = true := by simp only [btw, Bool.and_eq_true, decide_eq_true_eq]; exact hn
    have e2 : (openL d).day = d.start := rfl
    simp [onOk, askOk, hb, actsOk, actsF, hr, e2, e]
  refine ⟨onE_yes hon, ?_⟩
  rw [OweA, if_pos hon, hr]

/-- WHO PAYS EARLIER IS NOT CHARGED MORE. -/
theorem early {d : Deal} (hd : DealOk d) (hb : badDeal d = false) {e l day p : Int} (h1 : d.start ≤ e) (h2 : e ≤ l) (h3 : l ≤ day) (h4 : day ≤ 36500) (hp : 1 ≤ p ∧ p ≤ 1073741824) :
    (onE d [⟨e, 1, p⟩] day = 0 ∨ onE d [⟨e, 1, p⟩] day = 25 ∨ onE d [⟨e, 1, p⟩] day = 6) ∧ (onE d [⟨l, 1, p⟩] day = 0 ∨ onE d [⟨l, 1, p⟩] day = 25 ∨ onE d [⟨l, 1, p⟩] day = 6) ∧
    (onE d [⟨e, 1, p⟩] day = 0 → onE d [⟨l, 1, p⟩] day = 0 → (OweA d [⟨e, 1, p⟩] day).ch ≤ (OweA d [⟨l, 1, p⟩] day).ch ∧ (OweA d [⟨e, 1, p⟩] day).pr ≤ (OweA d [⟨l, 1, p⟩] day).pr) := by
  have hk : okKind 1 p = true := by show btw 1 p 1073741824 = true; simp only [btw, Bool.and_eq_true, decide_eq_true_eq]; exact hp
  have hact : ∀ (x : Ln) (t : Int), actL d x ⟨t, 1, p⟩ = payL x p ∧ actE d x ⟨t, 1, p⟩ = payE x p := fun x t => ⟨rfl, rfl⟩
  have hpd : ∀ x : Ln, (payL x p).day = x.day := fun x => by unfold payL; split <;> rfl
  have hone : ∀ t : Int, d.start ≤ t → t ≤ day → _ := fun t ht htd => on_one hb (a := ⟨t, 1, p⟩) hk ⟨ht, by show t ≤ 36500; omega⟩ day ⟨htd, h4⟩ (by rw [(hact _ t).1, hpd]; exact open_day ht)
  have herr : ∀ t : Int, d.start ≤ t → t ≤ day → (onE d [⟨t, 1, p⟩] day = 0 ∨ onE d [⟨t, 1, p⟩] day = 25 ∨ onE d [⟨t, 1, p⟩] day = 6) ∧ (onE d [⟨t, 1, p⟩] day = 0 → payE (toL d (openL d) t) p = 0 ∧ OweA d [⟨t, 1, p⟩] day = (toL d (payL (toL d (openL d) t) p) day).acc) := by
    intro t ht htd
    obtain ⟨o1, o2, o3⟩ := hone t ht htd
    simp only [(hact _ t).1, (hact _ t).2] at o1 o2 o3
    cases ho : overB d (toL d (openL d) t)
    · by_cases h0 : payE (toL d (openL d) t) p = 0
      · exact ⟨.inl (o3 ho h0).1, fun _ => ⟨h0, (o3 ho h0).2⟩⟩
      · have h6 : payE (toL d (openL d) t) p = 6 := by unfold payE at h0 ⊢; split <;> rename_i hh <;> simp [hh] at h0 ⊢
        have := o2 ho h0
        rw [h6] at this
        exact ⟨.inr (.inr this), fun h => by rw [this] at h; cases h⟩
    · have := o1 ho
      exact ⟨.inr (.inl this), fun h => by rw [this] at h; cases h⟩
  refine ⟨(herr e h1 (by omega)).1, (herr l (by omega) h3).1, fun ea el => ?_⟩
  obtain ⟨pa, oa⟩ := (herr e h1 (by omega)).2 ea
  obtain ⟨pb, ob⟩ := (herr l (by omega) h3).2 el
  rw [oa, ob]
  have hoc := openL_ch hd
  have hsum := hd.sum
  have hopr : 0 ≤ (openL d).pr := by simp only [openL]; omega
  have hos : (openL d).day = d.start := rfl
  -- the two loans on the day of the late payment
  have hx : payL (toL d (openL d) e) p = { toL d (openL d) e with pd := (toL d (openL d) e).pd + min p ((toL d (openL d) e).ch - (toL d (openL d) e).pd), pr := (toL d (openL d) e).pr - max 0 (p - ((toL d (openL d) e).ch - (toL d (openL d) e).pd)) } := by
    unfold payE at pa; unfold payL; split
    · rename_i h; rw [if_pos h] at pa; cases pa
    · rfl
  have hy : payL (toL d (openL d) l) p = { toL d (openL d) l with pd := (toL d (openL d) l).pd + min p ((toL d (openL d) l).ch - (toL d (openL d) l).pd), pr := (toL d (openL d) l).pr - max 0 (p - ((toL d (openL d) l).ch - (toL d (openL d) l).pd)) } := by
    unfold payE at pb; unfold payL; split
    · rename_i h; rw [if_pos h] at pb; cases pb
    · rfl
  have ge := goN_same d (e - d.start).toNat (openL d)
  have gl := goN_same d (l - d.start).toNat (openL d)
  have hsplit : goN d (l - d.start).toNat (openL d) = goN d (l - e).toNat (goN d (e - d.start).toNat (openL d)) := by
    rw [← goN_add]; congr 1; omega
  have hgr := goN_grow (d := d) (l - e).toNat (goN d (e - d.start).toNat (openL d)) (by rw [ge.1]; exact hopr)
  rw [← hsplit] at hgr
  have hchl : chargeOf d (goN d (e - d.start).toNat (openL d)) ≤ chargeOf d (goN d (l - d.start).toNat (openL d)) := charge_mono hd hgr.1 hgr.2 (by rw [ge.2.2.2.2.1, gl.2.2.2.2.1]; exact Int.le_refl _)
  have hte := toL_eq hoc e; have htl := toL_eq hoc l
  rw [hos] at hte htl
  obtain ⟨xa, hxa⟩ : ∃ xa, xa = payL (toL d (openL d) e) p := ⟨_, rfl⟩
  obtain ⟨xb, hxb⟩ : ∃ xb, xb = payL (toL d (openL d) l) p := ⟨_, rfl⟩
  have hca : ChOk d xa := by rw [hxa]; exact pay_ch (toL_ch hoc e) p
  have hcb : ChOk d xb := by rw [hxb]; exact pay_ch (toL_ch hoc l) p
  have hda : xa.day = e := by rw [hxa, hpd]; exact open_day h1
  have hdb : xb.day = l := by rw [hxb, hpd]; exact open_day (by omega)
  rw [← hxa] at hx
  rw [← hxb] at hy
  have hless0 : Less xa (goN d (e - d.start).toNat (openL d)) := by
    rw [hx, hte]
    exact ⟨rfl, rfl, rfl, rfl, rfl, by simp only; omega, Int.le_refl _, Int.le_refl _⟩
  have hless1 : Less (goN d (l - e).toNat xa) (goN d (l - d.start).toNat (openL d)) := by rw [hsplit]; exact hless0.go _
  have hpra : (goN d (l - e).toNat xa).pr = xa.pr := (goN_same d _ xa).1
  have hprb : xa.pr ≤ xb.pr := by
    rw [hx, hy, hte, htl]
    simp only
    rw [ge.1, gl.1, ge.2.2.1, gl.2.2.1]
    omega
  have hless2 : Less (goN d (l - e).toNat xa) xb := by
    obtain ⟨q1, q2, q3, q4, q5, q6, q7, q8⟩ := hless1
    refine ⟨?_, ?_, ?_, ?_, ?_, by rw [hpra]; exact hprb, ?_, ?_⟩
    · rw [hy, htl]; exact q1
    · rw [hy, htl]; exact q2
    · rw [hy, htl]; exact q3
    · rw [hy, htl]; exact q4
    · rw [hy, htl]; exact q5
    · rw [hy, htl]; exact q7
    · rw [hy, htl]; exact q8
  have hless3 := hless2.go (d := d) (day - l).toNat
  rw [← goN_add, show (l - e).toNat + (day - l).toNat = (day - e).toNat by omega] at hless3
  have ta := toL_eq hca day; have tb := toL_eq hcb day
  rw [hda] at ta; rw [hdb] at tb
  rw [← hxa, ← hxb, ta, tb]
  refine ⟨hless3.charge hd, ?_⟩
  show (goN d (day - e).toNat xa).pr ≤ (goN d (day - l).toNat xb).pr
  rw [(goN_same d _ xa).1, (goN_same d _ xb).1]
  exact hprb

theorem goN_all_held {d : Deal} : ∀ (k : Nat) (x : Ln), x.day + k ≤ x.held → goN d k x = { x with day := x.day + k }
  | 0, x, _ => by simp [goN]
  | k + 1, x, h => by
    have hc : countsB d x (x.day + 1) = false := by
      have : decide (x.held < x.day + 1) = false := decide_eq_false (by omega)
      simp [countsB, this]
    have hs : stepDay d x = { x with day := x.day + 1 } := by simp [stepDay, hc]
    rw [goN, hs, goN_all_held k _ (by simp only; omega)]
    simp only [Ln.mk.injEq, true_and, and_true]
    omega
/-- AT THE END OF A HOLD A LOAN STANDS AS ON THE DAY ON WHICH IT WAS AGREED UPON. -/
theorem held_same {d : Deal} (hd : DealOk d) (hb : badDeal d = false) {day long : Int} (h1 : d.start ≤ day) (h2 : 1 ≤ long ∧ long ≤ 366) (h3 : day + long ≤ 36500) :
    (onE d [] day = 0) ∧ ((onE d [⟨day, 3, long⟩] (day + long) = 25 ∧ d.tt + d.tg < (OweA d [] day).ag) ∨ (onE d [⟨day, 3, long⟩] (day + long) = 0 ∧ OweA d [⟨day, 3, long⟩] (day + long) = OweA d [] day)) := by
  obtain ⟨n1, n2⟩ := on_none hb (n := day) ⟨h1, by omega⟩
  refine ⟨n1, ?_⟩
  have hk : okKind 3 long = true := by show btw 1 long 366 = true; simp only [btw, Bool.and_eq_true, decide_eq_true_eq]; exact h2
  have hoc := openL_ch hd
  have hdy := open_day h1
  have hh : (toL d (openL d) day).held = d.start := by
    rw [toL_eq hoc]; exact (goN_same d _ (openL d)).2.2.2.2.2
  have hE : actE d (toL d (openL d) day) ⟨day, 3, long⟩ = 0 := by
    show holdE (toL d (openL d) day) = 0
    unfold holdE; rw [if_neg (by rw [hdy, hh]; omega)]
  have hL : actL d (toL d (openL d) day) ⟨day, 3, long⟩ = { toL d (openL d) day with held := day + long } := by
    show holdL (toL d (openL d) day) long = _
    unfold holdL; rw [if_neg (by rw [hdy, hh]; omega)]
    show ({ toL d (openL d) day with held := (toL d (openL d) day).day + long } : Ln) = _
    rw [hdy]
  obtain ⟨o1, _, o3⟩ := on_one hb (a := ⟨day, 3, long⟩) hk ⟨h1, by simp only; omega⟩ (day + long) ⟨by simp only; omega, h3⟩ (by rw [hL]; exact hdy)
  simp only at o1 o3
  cases ho : overB d (toL d (openL d) day)
  · right
    obtain ⟨e1, e2⟩ := o3 ho hE
    refine ⟨e1, ?_⟩
    rw [e2, n2, hL]
    obtain ⟨y, hy⟩ : ∃ y, y = toL d (openL d) day := ⟨_, rfl⟩
    rw [← hy] at hdy ⊢
    have hg := goN_all_held (d := d) long.toNat { y with held := day + long } (by simp only; rw [hdy]; omega)
    have hn : (day + long - ({ y with held := day + long } : Ln).day).toNat = long.toNat := by
      show (day + long - y.day).toNat = _
      rw [hdy]; omega
    unfold toL
    rw [hn, hg]
    have hs : sumsNe { ({ y with held := day + long } : Ln) with day := ({ y with held := day + long } : Ln).day + long.toNat } { y with held := day + long } = false := by simp [sumsNe]
    rw [hs, if_neg (by simp)]
    rfl
  · left
    refine ⟨o1 ho, ?_⟩
    rw [n2]
    exact of_decide_eq_true ho
theorem owe_bd (d : Deal) (l : List Act1) (n : Int) : (0 ≤ (OweA d l n).pr ∧ (OweA d l n).pr ≤ 1073741824) ∧ (0 ≤ (OweA d l n).ch ∧ (OweA d l n).ch ≤ 400000000000) ∧ (0 ≤ (OweA d l n).pd ∧ (OweA d l n).pd ≤ 400000000000) := by
  unfold OweA
  cases ho : onOk d l n
  · rw [if_neg (by simp)]; simp
  · rw [if_pos rfl]
    obtain ⟨ha, _, hn⟩ := onOk_parts ho
    have hd := badDeal_no (askOk_parts ha).1
    simp only [btw, Bool.and_eq_true, decide_eq_true_eq] at hn
    have h := toL_ok hd (runL_ok ha) hn.2
    exact ⟨h.pr, h.ch, h.pd⟩
end Go.Proofs.YtafmgkiddhappaaDoor
