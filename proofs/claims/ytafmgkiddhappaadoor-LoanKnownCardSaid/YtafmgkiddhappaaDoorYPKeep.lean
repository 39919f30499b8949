/- Loans: the days of Keep as the reference reckons them; with them a loan is never late, and with fewer it is. Conditions: none. -/
import Derived.Test.YtafmgkiddhappaaDoorZP
namespace Go.Proofs.YtafmgkiddhappaaDoor
open Go.Sx Go.RowKit

theorem seek_mem : ∀ (l : List Int) (n i : Int), 0 ≤ i → (0 ≤ seek l n i ↔ n ∈ l)
  | [], n, i, h => by simp [seek]
  | x :: l, n, i, h => by
    rw [seek]
    by_cases hx : x = n
    · rw [if_pos hx]; subst hx; simp [h]
    · rw [if_neg hx, seek_mem l n (i + 1) (by omega)]
      simp [Ne.symm hx]
theorem seek0 (l : List Int) (n : Int) : 0 ≤ seek l n 0 ↔ n ∈ l := seek_mem l n 0 (Int.le_refl _)
theorem seek_ge (l : List Int) (n : Int) : ∀ i : Int, 0 ≤ i → -1 ≤ seek l n i ∧ seek l n i ≤ i + l.length := by
  induction l with
  | nil => intro i h; simp [seek]; omega
  | cons x l ih =>
    intro i h
    rw [seek]
    split
    · simp only [List.length_cons]; omega
    · have := ih (i + 1) (by omega); simp only [List.length_cons]; omega

def rkF (d : Deal) : Nat → Int → Int → List Int → List Int
  | 0, _, _, out => out
  | n + 1, day, age, out => if 0 ≤ seek d.closed day 0 then rkF d n (day + 1) age out
      else if d.tt + d.tg < age + 1 then rkF d n (day + 1) 1 (out ++ [day - 1]) else rkF d n (day + 1) (age + 1) out
def rkL (d : Deal) (u : Int) : List Int := rkF d (u - d.start).toNat (d.start + 1) 0 []

theorem toL_parts (d : Deal) (x : Ln) (day : Int) : (toL d x day).pr = (goN d (day - x.day).toNat x).pr ∧ (toL d x day).pd = (goN d (day - x.day).toNat x).pd ∧ (toL d x day).ag = (goN d (day - x.day).toNat x).ag ∧ (toL d x day).op = (goN d (day - x.day).toNat x).op ∧
    (toL d x day).all = (goN d (day - x.day).toNat x).all ∧ (toL d x day).dear = (goN d (day - x.day).toNat x).dear ∧ (toL d x day).days = (goN d (day - x.day).toNat x).days ∧ (toL d x day).fees = (goN d (day - x.day).toNat x).fees ∧ (toL d x day).day = (goN d (day - x.day).toNat x).day ∧ (toL d x day).held = (goN d (day - x.day).toNat x).held := by
  unfold toL
  split <;> exact ⟨rfl, rfl, rfl, rfl, rfl, rfl, rfl, rfl, rfl, rfl⟩
theorem toL_one_parts (d : Deal) (x : Ln) : (toL d x (x.day + 1)).op = x.op ∧ (toL d x (x.day + 1)).held = x.held ∧ (toL d x (x.day + 1)).ag = (if countsB d x (x.day + 1) then x.ag + 1 else x.ag) := by
  obtain ⟨_, _, h1, h2, _, _, _, _, _, h3⟩ := toL_parts d x (x.day + 1)
  rw [h1, h2, h3, goN_one]
  unfold stepDay
  cases countsB d x (x.day + 1) <;> exact ⟨rfl, rfl, rfl⟩
theorem counts_open {d : Deal} {x : Ln} {day : Int} (ho : x.op = true) (hh : x.held < day) : countsB d x day = !(decide (0 ≤ seek d.closed day 0)) := by
  simp [countsB, ho, hh]

theorem keepF_rk {d : Deal} (hd : DealOk d) (u : Int) : ∀ (n : Nat) (x : Ln) (out : List Int), x.op = true → x.held ≤ x.day → 0 ≤ x.ag → x.ag ≤ d.tt + d.tg → keepMu u x ≤ n →
    keepF d u n x out = rkF d (u - x.day).toNat (x.day + 1) x.ag out
  | 0, x, out, _, _, _, _, hm => by
    unfold keepMu at hm
    rw [show (u - x.day).toNat = 0 by omega]; rfl
  | n + 1, x, out, ho, hh, h0, ha, hm => by
    rw [keepF]
    by_cases hu : u ≤ x.day
    · rw [if_pos hu, show (u - x.day).toNat = 0 by omega]; rfl
    rw [if_neg hu]
    obtain ⟨m, hmm⟩ : ∃ m, (u - x.day).toNat = m + 1 := ⟨(u - x.day).toNat - 1, by omega⟩
    rw [hmm, rkF]
    obtain ⟨y1, y2, y3⟩ := toL_one_parts d x
    have y4 := toL_one d x
    rw [counts_open ho (by omega)] at y3
    have htt := hd.tt; have htg := hd.tg
    unfold keepMu at hm
    by_cases hc : 0 ≤ seek d.closed (x.day + 1) 0
    · rw [if_pos hc]
      have y5 : (toL d x (x.day + 1)).ag = x.ag := by rw [y3]; simp [hc]
      have hov : overB d (toL d x (x.day + 1)) = false := by unfold overB; rw [y5]; exact decide_eq_false (by omega)
      rw [hov, if_neg (by simp)]
      rw [keepF_rk hd u n _ out (by rw [y1, ho]) (by omega) (by omega) (by omega) (by unfold keepMu; rw [y4, y5]; split <;> split at hm <;> omega), y4, y5, show (u - (x.day + 1)).toNat = m by omega]
    · rw [if_neg hc]
      have y5 : (toL d x (x.day + 1)).ag = x.ag + 1 := by rw [y3]; simp [hc]
      by_cases hT : d.tt + d.tg < x.ag + 1
      · rw [if_pos hT]
        have hov : overB d (toL d x (x.day + 1)) = true := by unfold overB; rw [y5]; exact decide_eq_true hT
        rw [hov, if_pos rfl]
        have e1 : (renewL d x).day = x.day := rfl
        have e2 : (renewL d x).ag = 0 := rfl
        rw [keepF_rk hd u n (renewL d x) _ ho hh (Int.le_refl _) (by rw [e2]; omega) (by unfold keepMu; rw [e1, e2, if_pos rfl]; rw [if_neg (by omega)] at hm; omega), e1, e2, hmm, rkF, if_neg hc, if_neg (by omega)]
        rw [show x.day + 1 - 1 = x.day by omega]; rfl
      · rw [if_neg hT]
        have hov : overB d (toL d x (x.day + 1)) = false := by unfold overB; rw [y5]; exact decide_eq_false hT
        rw [hov, if_neg (by simp)]
        rw [keepF_rk hd u n _ out (by rw [y1, ho]) (by omega) (by omega) (by omega) (by unfold keepMu; rw [y4, y5]; split <;> split at hm <;> omega), y4, y5, show (u - (x.day + 1)).toNat = m by omega]
theorem keepL_rk {d : Deal} (hd : DealOk d) (u : Int) : keepL d u = rkL d u := by
  have h1 := hd.tt; have h2 := hd.tg
  exact keepF_rk hd u _ (openL d) [] rfl (Int.le_refl _) (Int.le_refl _) (by simp only [openL]; omega) (Nat.le_refl _)

theorem rkF_app (d : Deal) : ∀ (n : Nat) (day age : Int) (out : List Int), rkF d n day age out = out ++ rkF d n day age []
  | 0, _, _, out => by simp [rkF]
  | n + 1, day, age, out => by
    rw [rkF, rkF]
    split
    · exact rkF_app d n _ _ _
    · split
      · rw [rkF_app d n _ _ (out ++ [day - 1]), rkF_app d n _ _ ([] ++ [day - 1])]; simp
      · exact rkF_app d n _ _ _
theorem rkF_ge (d : Deal) : ∀ (n : Nat) (day age : Int), ∀ t ∈ rkF d n day age [], day - 1 ≤ t ∧ t ≤ day + n - 2
  | 0, _, _, t, h => by simp [rkF] at h
  | n + 1, day, age, t, h => by
    rw [rkF] at h
    split at h
    · have := rkF_ge d n _ _ t h; omega
    · split at h
      · rw [rkF_app] at h
        rcases List.mem_append.1 h with h | h
        · simp at h; omega
        · have := rkF_ge d n _ _ t h; omega
      · have := rkF_ge d n _ _ t h; omega
theorem rkF_asc (d : Deal) : ∀ (n : Nat) (day age : Int), (rkF d n day age []).Pairwise (· < ·)
  | 0, _, _ => by simp [rkF]
  | n + 1, day, age => by
    rw [rkF]
    split
    · exact rkF_asc d n _ _
    · split
      · rw [rkF_app]
        refine List.pairwise_append.2 ⟨by simp, rkF_asc d n _ _, fun a ha b hb => ?_⟩
        have := rkF_ge d n _ _ b hb
        simp at ha; omega
      · exact rkF_asc d n _ _

/-- the age on a day -/
def agd (d : Deal) (t age : Int) : Int := if decide (d.start < t) && decide (seek d.closed t 0 < 0) then age + 1 else age
theorem agd_no {d : Deal} {t : Int} (h : 0 ≤ seek d.closed t 0) (age : Int) : agd d t age = age := by
  unfold agd; rw [if_neg]; rw [decide_eq_false (by omega : ¬ seek d.closed t 0 < 0)]; simp
theorem agd_first (d : Deal) (age : Int) : agd d d.start age = age := by
  unfold agd; rw [if_neg]; simp
theorem agd_yes {d : Deal} {t : Int} (h : ¬ 0 ≤ seek d.closed t 0) (hs : d.start < t) (age : Int) : agd d t age = age + 1 := by
  unfold agd; rw [if_pos]; rw [decide_eq_true hs, decide_eq_true (by omega : seek d.closed t 0 < 0)]; rfl
/-- late, with renewals on some days -/
def tdF (d : Deal) (l : List Int) : Nat → Int → Int → Bool
  | 0, _, _ => false
  | n + 1, t, age => if d.tt + d.tg < agd d t age then true else tdF d l n (t + 1) (if 0 ≤ seek l t 0 then 0 else agd d t age)
def tardyB (d : Deal) (u : Int) (l : List Int) : Bool := tdF d l (u + 1 - d.start).toNat d.start 0

theorem tdF_rk {d : Deal} (hd : DealOk d) : ∀ (n : Nat) (day age r : Int) (out L : List Int), d.start < day → L = out ++ rkF d n day age [] → (∀ t ∈ out, t < day - 1) → 0 ≤ age → age ≤ d.tt + d.tg → (r = if day - 1 ∈ L then 0 else age) → tdF d L n day r = false
  | 0, _, _, _, _, _, _, _, _, _, _, _ => rfl
  | n + 1, day, age, r, out, L, hs, hL, hout, h0, ha, hr => by
    have htt := hd.tt; have htg := hd.tg
    rw [tdF]
    rw [rkF] at hL
    have hno : day - 1 ∉ out := fun h => by have := hout _ h; omega
    have hrest : ∀ a, day - 1 ∉ rkF d n (day + 1) a [] := fun a h => by have := rkF_ge d n _ _ _ h; omega
    by_cases hc : 0 ≤ seek d.closed day 0
    · rw [if_pos hc] at hL
      have hm : day - 1 ∉ L := by rw [hL]; simp [hno, hrest]
      rw [if_neg hm] at hr
      subst hr
      have e := agd_no hc
      rw [e, if_neg (by omega)]
      refine tdF_rk hd n (day + 1) r _ out L (by omega) hL (fun t ht => by have := hout t ht; omega) h0 ha ?_
      rw [show day + 1 - 1 = day by omega]
      by_cases hin : day ∈ L
      · rw [if_pos ((seek0 L day).2 hin), if_pos hin]
      · rw [if_neg (fun h => hin ((seek0 L day).1 h)), if_neg hin]
    · rw [if_neg hc] at hL
      have e := agd_yes hc hs
      rw [e]
      by_cases hT : d.tt + d.tg < age + 1
      · rw [if_pos hT, rkF_app] at hL
        have hm : day - 1 ∈ L := by rw [hL]; simp
        rw [if_pos hm] at hr
        subst hr
        rw [if_neg (by omega)]
        refine tdF_rk hd n (day + 1) 1 _ (out ++ [day - 1]) L (by omega) (by rw [hL]; simp) (fun t ht => ?_) (by omega) (by omega) ?_
        · rcases List.mem_append.1 ht with h | h
          · have := hout t h; omega
          · simp at h; omega
        · rw [show day + 1 - 1 = day by omega]
          by_cases hin : day ∈ L
          · rw [if_pos ((seek0 L day).2 hin), if_pos hin]
          · rw [if_neg (fun h => hin ((seek0 L day).1 h)), if_neg hin]; rfl
      · rw [if_neg hT] at hL
        have hm : day - 1 ∉ L := by rw [hL]; simp [hno, hrest]
        rw [if_neg hm] at hr
        subst hr
        rw [if_neg (by omega)]
        refine tdF_rk hd n (day + 1) (r + 1) _ out L (by omega) hL (fun t ht => by have := hout t ht; omega) (by omega) (by omega) ?_
        rw [show day + 1 - 1 = day by omega]
        by_cases hin : day ∈ L
        · rw [if_pos ((seek0 L day).2 hin), if_pos hin]
        · rw [if_neg (fun h => hin ((seek0 L day).1 h)), if_neg hin]
theorem tardy_keep {d : Deal} (hd : DealOk d) (u : Int) (hu : d.start ≤ u) : tardyB d u (rkL d u) = false := by
  have htt := hd.tt; have htg := hd.tg
  unfold tardyB
  rw [show (u + 1 - d.start).toNat = (u - d.start).toNat + 1 by omega, tdF]
  rw [agd_first, if_neg (by omega)]
  refine tdF_rk hd _ (d.start + 1) 0 _ [] (rkL d u) (by omega) rfl (by simp) (by omega) (by omega) ?_
  simp

/-- how many days of a time are in a list -/
def cntI (o : List Int) : Nat → Int → Nat
  | 0, _ => 0
  | n + 1, day => (if 0 ≤ seek o day 0 then 1 else 0) + cntI o n (day + 1)
theorem countP_day (o : List Int) (day : Int) : o.countP (fun t => decide (day ≤ t)) = o.countP (fun t => decide (day + 1 ≤ t)) + o.countP (fun t => decide (t = day)) := by
  induction o with
  | nil => rfl
  | cons x o ih =>
    simp only [List.countP_cons, ih]
    by_cases h1 : day + 1 ≤ x
    · rw [decide_eq_true h1, decide_eq_true (by omega : day ≤ x), decide_eq_false (by omega : ¬ x = day)]; simp; omega
    · by_cases h2 : x = day
      · rw [decide_eq_false h1, decide_eq_true (by omega : day ≤ x), decide_eq_true h2]; simp; omega
      · rw [decide_eq_false h1, decide_eq_false (by omega : ¬ day ≤ x), decide_eq_false h2]; simp
theorem cntI_le (o : List Int) : ∀ (n : Nat) (day : Int), cntI o n day ≤ o.countP (fun t => decide (day ≤ t))
  | 0, _ => Nat.zero_le _
  | n + 1, day => by
    rw [cntI, countP_day]
    have h1 := cntI_le o n (day + 1)
    by_cases h : 0 ≤ seek o day 0
    · have h2 : 0 < o.countP (fun t => decide (t = day)) := List.countP_pos_iff.2 ⟨day, (seek0 o day).1 h, by simp⟩
      rw [if_pos h]; omega
    · rw [if_neg h]; omega
theorem rk_fewest {d : Deal} (o : List Int) : ∀ (n : Nat) (day a b : Int), d.start < day → 0 ≤ b → tdF d o n day b = false → (rkF d n day a []).length ≤ cntI o n day + (if a ≤ b then 0 else 1)
  | 0, _, _, _, _, _, _ => by simp [rkF]
  | n + 1, day, a, b, hs, hb, ht => by
    rw [tdF] at ht
    rw [rkF, cntI]
    by_cases hc : 0 ≤ seek d.closed day 0
    · have e := agd_no hc
      rw [e] at ht
      rw [if_pos hc]
      split at ht
      · cases ht
      by_cases hin : 0 ≤ seek o day 0
      · rw [if_pos hin] at ht ⊢
        have := rk_fewest o n (day + 1) a 0 (by omega) (by omega) ht
        split at this <;> split <;> omega
      · rw [if_neg hin] at ht ⊢
        have := rk_fewest o n (day + 1) a b (by omega) hb ht
        omega
    · have e := agd_yes hc hs
      rw [e] at ht
      rw [if_neg hc]
      split at ht
      · cases ht
      rename_i hbT
      by_cases hT : d.tt + d.tg < a + 1
      · rw [if_pos hT, rkF_app]
        simp only [List.nil_append, List.length_append, List.length_singleton]
        rw [if_neg (by omega : ¬ a ≤ b)]
        by_cases hin : 0 ≤ seek o day 0
        · rw [if_pos hin] at ht ⊢
          have := rk_fewest o n (day + 1) 1 0 (by omega) (by omega) ht
          split at this <;> omega
        · rw [if_neg hin] at ht ⊢
          have := rk_fewest o n (day + 1) 1 (b + 1) (by omega) (by omega) ht
          rw [if_pos (by omega)] at this; omega
      · rw [if_neg hT]
        by_cases hin : 0 ≤ seek o day 0
        · rw [if_pos hin] at ht ⊢
          have := rk_fewest o n (day + 1) (a + 1) 0 (by omega) (by omega) ht
          split at this <;> split <;> omega
        · rw [if_neg hin] at ht ⊢
          have := rk_fewest o n (day + 1) (a + 1) (b + 1) (by omega) (by omega) ht
          by_cases hab : a ≤ b
          · rw [if_pos (by omega)] at this; rw [if_pos hab]; omega
          · rw [if_neg (by omega)] at this; rw [if_neg hab]; omega
theorem fewest {d : Deal} (hd : DealOk d) (u : Int) (hu : d.start ≤ u) (o : List Int) (h : tardyB d u o = false) : (rkL d u).length ≤ o.length := by
  have htt := hd.tt; have htg := hd.tg
  unfold tardyB at h
  rw [show (u + 1 - d.start).toNat = (u - d.start).toNat + 1 by omega, tdF] at h
  rw [agd_first, if_neg (by omega)] at h
  have h1 := rk_fewest (d := d) o _ (d.start + 1) 0 0 (by omega) (by omega) (by simpa using h)
  rw [if_pos (by omega)] at h1
  have h2 := cntI_le o (u - d.start).toNat (d.start + 1)
  have h3 := List.countP_le_length (p := fun t => decide (d.start + 1 ≤ t)) (l := o)
  unfold rkL
  omega

theorem encAct_one (a : Act1) : ∀ v ∈ encAct a, v.oneCell' = true := by simp [encAct, Value.oneCell']
/-- a renewal on a day -/
def rnOf (t : Int) : Act1 := ⟨t, 2, 0⟩
theorem goN_add (d : Deal) : ∀ (a b : Nat) (x : Ln), goN d (a + b) x = goN d b (goN d a x)
  | 0, b, x => by rw [Nat.zero_add]; rfl
  | a + 1, b, x => by rw [show a + 1 + b = (a + b) + 1 by omega, goN, goN, goN_add d a b]
theorem goN_op (d : Deal) : ∀ (k : Nat) (x : Ln), (goN d k x).op = x.op
  | 0, _ => rfl
  | k + 1, x => by
    rw [goN, goN_op d k]
    unfold stepDay counted
    split <;> rfl
theorem goN_held (d : Deal) : ∀ (k : Nat) (x : Ln), (goN d k x).held = x.held
  | 0, _ => rfl
  | k + 1, x => by
    rw [goN, goN_held d k]
    unfold stepDay counted
    split <;> rfl
theorem goN_succ (d : Deal) (k : Nat) (x : Ln) : goN d (k + 1) x = stepDay d (goN d k x) := by rw [goN_add d k 1]; rfl
theorem stepDay_ag (d : Deal) (x : Ln) : (stepDay d x).ag = if countsB d x (x.day + 1) then x.ag + 1 else x.ag := by
  unfold stepDay counted
  split <;> rfl
theorem rk_run {d : Deal} (hd : DealOk d) : ∀ (n : Nat) (day age : Int) (i : Int) (x : Ln) (out : List Acc) (at0 : Int), x.op = true → x.held ≤ x.day → x.day ≤ day - 1 → (goN d (day - 1 - x.day).toNat x).ag = age → age ≤ d.tt + d.tg →
    (runF d i x out at0 0 ((rkF d n day age []).map rnOf)).e = 0 ∧ (runF d i x out at0 0 ((rkF d n day age []).map rnOf)).x.day ≤ day + n - 1 ∧ (toL d (runF d i x out at0 0 ((rkF d n day age []).map rnOf)).x (day + n - 1)).ag ≤ d.tt + d.tg
  | 0, day, age, i, x, out, at0, ho, hh, hx, hg, ha => by
    refine ⟨rfl, by simp [rkF, runF]; omega, ?_⟩
    obtain ⟨_, _, h1, _⟩ := toL_parts d x (day + (0 : Nat) - 1)
    simp only [rkF, List.map_nil, runF]
    rw [h1, show (day + ((0 : Nat) : Int) - 1 - x.day).toNat = (day - 1 - x.day).toNat by omega, hg]
    exact ha
  | n + 1, day, age, i, x, out, at0, ho, hh, hx, hg, ha => by
    have htt := hd.tt; have htg := hd.tg
    have hstep : (goN d (day + 1 - 1 - x.day).toNat x).ag = if 0 ≤ seek d.closed day 0 then age else age + 1 := by
      rw [show (day + 1 - 1 - x.day).toNat = (day - 1 - x.day).toNat + 1 by omega, goN_succ, stepDay_ag, goN_day, hg]
      have e : x.day + ((day - 1 - x.day).toNat : Int) + 1 = day := by omega
      rw [e, counts_open (by rw [goN_op, ho]) (by rw [goN_held]; omega)]
      by_cases hc : 0 ≤ seek d.closed day 0 <;> simp [hc]
    rw [rkF]
    by_cases hc : 0 ≤ seek d.closed day 0
    · rw [if_pos hc] at hstep
      rw [if_pos hc]
      have := rk_run hd n (day + 1) age i x out at0 ho hh (by omega) hstep ha
      rw [show day + 1 + (n : Int) - 1 = day + ((n + 1 : Nat) : Int) - 1 by omega] at this
      exact this
    · rw [if_neg hc] at hstep
      rw [if_neg hc]
      by_cases hT : d.tt + d.tg < age + 1
      · rw [if_pos hT, rkF_app]
        simp only [List.nil_append, List.map_cons, List.cons_append, runF]
        obtain ⟨_, _, h1, h2, _, _, _, _, h3, h4⟩ := toL_parts d x (rnOf (day - 1)).day
        have hov : overB d (toL d x (rnOf (day - 1)).day) = false := by
          unfold overB; rw [h1, show ((rnOf (day - 1)).day - x.day).toNat = (day - 1 - x.day).toNat from rfl, hg]; exact decide_eq_false (by omega)
        have hE : ∀ y, actE d y (rnOf (day - 1)) = 0 := fun y => rfl
        have hA : ∀ y, actL d y (rnOf (day - 1)) = renewL d y := fun y => rfl
        rw [hov, if_neg (by simp), hE, if_pos rfl, hA]
        have hday : (toL d x (rnOf (day - 1)).day).day = day - 1 := by rw [toL_day]; simp only [rnOf]; omega
        have e1 : (renewL d (toL d x (rnOf (day - 1)).day)).day = day - 1 := hday
        have e2 : (renewL d (toL d x (rnOf (day - 1)).day)).op = true := by show (toL d x (rnOf (day - 1)).day).op = true; rw [h2, goN_op, ho]
        have e3 : (renewL d (toL d x (rnOf (day - 1)).day)).held = x.held := by show (toL d x (rnOf (day - 1)).day).held = x.held; rw [h4, goN_held]
        have e4 : (renewL d (toL d x (rnOf (day - 1)).day)).ag = 0 := rfl
        have := rk_run hd n (day + 1) 1 (i + 1) (renewL d (toL d x (rnOf (day - 1)).day)) (out ++ [(renewL d (toL d x (rnOf (day - 1)).day)).acc]) (i + 1) e2 (by rw [e3, e1]; omega) (by rw [e1]; omega)
          (by
            have hcb : countsB d (renewL d (toL d x (rnOf (day - 1)).day)) ((renewL d (toL d x (rnOf (day - 1)).day)).day + 1) = true := by
              rw [counts_open e2 (by rw [e3, e1]; omega), e1, show day - 1 + 1 = day by omega]; simp [hc]
            rw [e1, show (day + 1 - 1 - (day - 1)).toNat = 0 + 1 by omega, goN_succ, stepDay_ag]
            show (if countsB d (renewL d (toL d x (rnOf (day - 1)).day)) ((renewL d (toL d x (rnOf (day - 1)).day)).day + 1) then (renewL d (toL d x (rnOf (day - 1)).day)).ag + 1 else (renewL d (toL d x (rnOf (day - 1)).day)).ag) = 1
            rw [if_pos hcb, e4]; rfl) (by omega)
        rw [show day + 1 + (n : Int) - 1 = day + ((n + 1 : Nat) : Int) - 1 by omega] at this
        exact this
      · rw [if_neg hT]
        have := rk_run hd n (day + 1) (age + 1) i x out at0 ho hh (by omega) hstep (by omega)
        rw [show day + 1 + (n : Int) - 1 = day + ((n + 1 : Nat) : Int) - 1 by omega] at this
        exact this
theorem acts_rn (u : Int) (hu : u ≤ 36500) : ∀ (l : List Int) (last pk : Int), pk ≠ 4 → l.Pairwise (· < ·) → (∀ t ∈ l, last ≤ t ∧ t ≤ u) → actsF last pk (l.map rnOf) = true
  | [], _, _, _, _, _ => rfl
  | t :: l, last, pk, hpk, hp, hb => by
    have h1 := hb t (List.mem_cons_self ..)
    have h2 := List.pairwise_cons.1 hp
    have e : okAct last pk (rnOf t) = true := by
      have e1 : okKind (rnOf t).kind (rnOf t).n = true := rfl
      have e2 : btw last (rnOf t).day 36500 = true := by
        show (decide (last ≤ t) && decide (t ≤ 36500)) = true
        rw [Bool.and_eq_true]
        exact ⟨decide_eq_true (by omega), decide_eq_true (by omega)⟩
      unfold okAct
      rw [e1, e2]
      simpa using hpk
    rw [List.map_cons, actsF, e, Bool.true_and]
    exact acts_rn u hu l t 2 (by decide) h2.2 (fun s hs => by have := h2.1 s hs; have := hb s (List.mem_cons_of_mem _ hs); omega)
/-- WITH THE DAYS OF Keep A LOAN IS NEVER LATE. -/
theorem keep_owe {d : Deal} (hd : DealOk d) (hb : badDeal d = false) (u : Int) (hu : d.start ≤ u ∧ u ≤ 36500) (hl : (rkL d u).length ≤ 32) : onE d ((rkL d u).map rnOf) u = 0 ∧ (OweA d ((rkL d u).map rnOf) u).ag ≤ d.tt + d.tg := by
  have htt := hd.tt; have htg := hd.tg
  have hacts : actsOk d ((rkL d u).map rnOf) = true := by
    unfold actsOk rkL
    rw [acts_rn u hu.2 _ _ _ (by decide) (rkF_asc d _ _ _) (fun t ht => by have := rkF_ge d _ _ _ t ht; omega)]
    rw [Bool.true_and]
    refine decide_eq_true ?_
    rw [List.length_map]
    unfold rkL at hl
    omega
  have hask : askOk d ((rkL d u).map rnOf) = true := by rw [askOk, hb, hacts]; rfl
  obtain ⟨h1, h2, h3⟩ := rk_run hd (u - d.start).toNat (d.start + 1) 0 0 (openL d) [] 0 rfl (Int.le_refl _) (by simp only [openL]; omega) (by simp only [openL]; rw [show (d.start + 1 - 1 - d.start).toNat = 0 by omega]; rfl) (by omega)
  have e : d.start + 1 + ((u - d.start).toNat : Int) - 1 = u := by omega
  rw [e] at h2 h3
  have hon : onOk d ((rkL d u).map rnOf) u = true := by
    have hday : btw (runL d ((rkL d u).map rnOf)).x.day u 36500 = true := by
      simp only [btw, Bool.and_eq_true, decide_eq_true_eq]; exact ⟨h2, hu.2⟩
    have he : (runL d ((rkL d u).map rnOf)).e = 0 := h1
    rw [onOk, hask, hday, he]; rfl
  refine ⟨onE_yes hon, ?_⟩
  rw [OweA, if_pos hon]
  exact h3
theorem keepE_ok {d : Deal} {u : Int} (h : KeepE d u = 0 ∨ KeepE d u = 3) : badDeal d = false ∧ (d.start ≤ u ∧ u ≤ 36500) ∧ ((KeepE d u = 0 ∧ KeepN d u = rkL d u ∧ (rkL d u).length ≤ 32) ∨ (KeepE d u = 3 ∧ KeepN d u = [] ∧ 32 < (rkL d u).length)) := by
  cases hb : badDeal d
  · have hd := badDeal_no hb
    have hk := keepL_rk hd u
    cases ht : btw d.start u 36500
    · simp [KeepE, hb, ht] at h
    · refine ⟨rfl, by simpa [btw] using ht, ?_⟩
      rw [← hk]
      by_cases hl : 32 < (keepL d u).length
      · right; exact ⟨by simp [KeepE, hb, ht, hl], by simp [KeepN, hb, ht, hl], hl⟩
      · left; exact ⟨by simp [KeepE, hb, ht, hl], by simp [KeepN, hb, ht, hl], by omega⟩
  · simp [KeepE, hb] at h
theorem keepE_no {d : Deal} {u : Int} (h : KeepE d u ≠ 0) : KeepN d u = [] := by
  unfold KeepE at h
  unfold KeepN
  split
  · rfl
  · rename_i h1; rw [if_neg h1] at h
    split
    · rename_i h2; rw [if_pos h2] at h
      split
      · rfl
      · rename_i h3; rw [if_neg h3] at h; exact absurd rfl h
    · rfl

/-! the reference's check of a deal -/
def okD (d : Deal) : Bool := (btw 0 d.lr 10000 && btw 0 d.lc 64 && btw 0 d.tr 10000 && btw 0 d.tf 31 && btw 0 d.te 10000 && btw 1 d.tt 366 && btw 0 d.tg 60) && decide ((d.closed.length : Int) ≤ 64) && btw 0 d.start 36500 && btw 1 d.sum 1073741824
theorem ref_deal (d : Deal) : (okD d && ascOk (-1) d.closed) = !(badDeal d) := by
  have h2 : decide (64 < (d.closed.length : Int)) = !(decide ((d.closed.length : Int) ≤ 64)) := by
    by_cases h : (d.closed.length : Int) ≤ 64
    · simp [h]
    · simp [h]; omega
  unfold badDeal badDeal1 badDeal2 okD
  rw [h2]
  simp only [Bool.not_or, Bool.not_not]
  cases ascOk (-1) d.closed <;> simp [Bool.and_assoc]
theorem asc_R (l : List Int) (k : Nat) (x : Int) (ok : Bool) : ((ok && btw 0 x 36500) && (((k : Int) == 0) || decide (l.getD ((k : Int) - 1).toNat 0 < x))) = (ok && (btw 0 x 36500 && decide (prevOf l k < x))) := by
  cases ok
  · rfl
  cases hb : btw 0 x 36500
  · rfl
  have h1 : 0 ≤ x := by simp only [btw, Bool.and_eq_true, decide_eq_true_eq] at hb; omega
  by_cases h0 : k = 0
  · subst h0
    have h2 : (-1 : Int) < x := by omega
    simp [prevOf, h2]
  · have h2 : ((k : Int) == 0) = false := by simp [h0]
    have h3 : ((k : Int) - 1).toNat = k - 1 := by omega
    rw [h2, h3, prevOf, if_neg h0]; rfl
end Go.Proofs.YtafmgkiddhappaaDoor
