/- Loans: what is charged is never more than the law allows, act by act and day by day. Conditions: none. -/
import Derived.Test.YtafmgkiddhappaaDoorYPRun
namespace Go.Proofs.YtafmgkiddhappaaDoor
open Go.Sx Go.RowKit

/-- the loan after the first k acts -/
def xk (d : Deal) (l : List Act1) (k : Nat) : Ln := exec d (openL d) (l.take k)
theorem xk_succ {d : Deal} {l : List Act1} {k : Nat} {a : Act1} (h : l[k]? = some a) : xk d l (k + 1) = actL d (toL d (xk d l k) a.day) a := by
  unfold xk
  rw [List.take_add_one, h, exec_app]; rfl
theorem split_at {l : List Act1} {k : Nat} {a : Act1} (h : l[k]? = some a) : l = l.take k ++ a :: l.drop (k + 1) := by
  obtain ⟨h1, h2⟩ := List.getElem?_eq_some_iff.1 h
  rw [← h2, ← List.drop_eq_getElem_cons h1, List.take_append_drop]
theorem xk_fine {d : Deal} {l : List Act1} (hf : fine d (openL d) l) {k : Nat} {a : Act1} (h : l[k]? = some a) : overB d (toL d (xk d l k) a.day) = false ∧ actE d (toL d (xk d l k) a.day) a = 0 := by
  rw [split_at h, fine_app] at hf
  exact ⟨hf.2.1, hf.2.2.1⟩
theorem xk_end (d : Deal) (l : List Act1) {k : Nat} (h : l.length ≤ k) : xk d l k = exec d (openL d) l := by unfold xk; rw [List.take_of_length_le h]
theorem outs_at {d : Deal} {l : List Act1} {k : Nat} {a : Act1} (h : l[k]? = some a) : (outs d (openL d) l)[k]? = some (xk d l (k + 1)).acc := by
  have hk : k < l.length := (List.getElem?_eq_some_iff.1 h).1
  conv => lhs; rw [split_at h, outs_app]
  rw [List.getElem?_append_right (by rw [outs_len]; simp; omega), outs_len]
  rw [show k - (l.take k).length = 0 by simp; omega, outs, xk_succ h]; rfl
theorem acts_part : ∀ (m : List Act1) (a : Act1) (r : List Act1) (last pk : Int), actsF last pk (m ++ a :: r) = true → last ≤ a.day ∧ a.day ≤ 36500 ∧ okKind a.kind a.n = true ∧ (∀ b ∈ m, last ≤ b.day ∧ b.day ≤ a.day)
  | [], a, r, last, pk, h => by
    rw [List.nil_append, actsF, Bool.and_eq_true] at h
    simp only [okAct, btw, Bool.and_eq_true, decide_eq_true_eq] at h
    exact ⟨h.1.1.2.1, h.1.1.2.2, h.1.1.1, by simp⟩
  | b :: m, a, r, last, pk, h => by
    rw [List.cons_append, actsF, Bool.and_eq_true] at h
    obtain ⟨h1, h2⟩ := h
    simp only [okAct, btw, Bool.and_eq_true, decide_eq_true_eq] at h1
    obtain ⟨i1, i2, i3, i4⟩ := acts_part m a r _ _ h2
    refine ⟨by omega, i2, i3, fun c hc => ?_⟩
    rcases List.mem_cons.1 hc with rfl | hc
    · omega
    · have := i4 c hc; omega
theorem exec_le {d : Deal} : ∀ (m : List Act1) (a : Act1) (r : List Act1) (last pk : Int) (x : Ln), actsF last pk (m ++ a :: r) = true → x.day ≤ last → (exec d x m).day ≤ a.day
  | [], a, r, last, pk, x, h, hx => by
    have := (acts_part [] a r last pk h).1
    simp only [exec]; omega
  | b :: m, a, r, last, pk, x, h, hx => by
    rw [exec]
    have h0 := h
    rw [List.cons_append, actsF, Bool.and_eq_true] at h
    simp only [okAct, btw, Bool.and_eq_true, decide_eq_true_eq] at h
    refine exec_le m a r _ _ _ h.2 ?_
    rw [actL_day, toL_day]; omega
theorem op_act {d : Deal} {x : Ln} {a : Act1} (hk : a.kind ≠ 4) (hok : okKind a.kind a.n = true) : (actL d x a).op = x.op := by
  have := okKind_kinds hok
  unfold actL payL holdL renewL feeL
  split
  · split <;> rfl
  · split
    · rfl
    · split
      · split <;> rfl
      · omega
theorem exec_op {d : Deal} : ∀ (m : List Act1) (a : Act1) (r : List Act1) (last pk : Int) (x : Ln), actsF last pk (m ++ a :: r) = true → (m = [] → x.op = true) → (m ≠ [] → x.op = true) → (exec d x m).op = true
  | [], _, _, _, _, x, _, h, _ => h rfl
  | b :: m, a, r, last, pk, x, h, _, hx => by
    rw [List.cons_append, actsF, Bool.and_eq_true] at h
    have hb : okKind b.kind b.n = true := by
      have := h.1; simp only [okAct, Bool.and_eq_true] at this; exact this.1.1
    have hpk : b.kind ≠ 4 := by
      have h2 := h.2
      cases m with
      | nil => rw [List.nil_append, actsF, Bool.and_eq_true] at h2; have := h2.1; simp only [okAct, Bool.and_eq_true] at this; simpa using this.2
      | cons c m => rw [List.cons_append, actsF, Bool.and_eq_true] at h2; have := h2.1; simp only [okAct, Bool.and_eq_true] at this; simpa using this.2
    have e : (actL d (toL d x b.day) b).op = true := by rw [op_act hpk hb, toL_op]; exact hx (by simp)
    rw [exec]
    exact exec_op m a r _ _ _ h.2 (fun _ => e) (fun _ => e)
/-- what is known of the k-th act, and of the loan before it -/
theorem xk_at {d : Deal} {l : List Act1} (ha : askOk d l = true) {k : Nat} {a : Act1} (h : l[k]? = some a) :
    (d.start ≤ a.day ∧ a.day ≤ 36500) ∧ okKind a.kind a.n = true ∧ (xk d l k).day ≤ a.day ∧ (xk d l k).op = true ∧ (∀ b ∈ l.take k, d.start ≤ b.day ∧ b.day ≤ a.day) := by
  have hac := (askOk_parts ha).2
  rw [actsOk, Bool.and_eq_true] at hac
  have h1 := hac.1
  rw [split_at h] at h1
  obtain ⟨p1, p2, p3, p4⟩ := acts_part _ _ _ _ _ h1
  exact ⟨⟨p1, p2⟩, p3, exec_le _ _ _ _ _ (openL d) h1 (Int.le_refl _), exec_op _ _ _ _ _ (openL d) h1 (fun _ => rfl) (fun _ => rfl), p4⟩
theorem xk_good {d : Deal} {l : List Act1} (ha : askOk d l = true) (k : Nat) : Good d (xk d l k) := by
  obtain ⟨hd, h1, h2⟩ := ok_parts ha
  exact (exec_good hd _ _ (open_good hd) (by simp only [openL]; have := List.length_take_le' k l; omega) (fun a h => h1 a (List.mem_of_mem_take h))).1
theorem xk_held {d : Deal} {l : List Act1} (ha : askOk d l = true) (hf : fine d (openL d) l) : ∀ k, k ≤ l.length → ∀ t : Int, d.start < t → (∀ b ∈ l.take k, b.day < t) →
    ((l.take k).any (fun a => a.kind == 3 && decide (a.day < t) && decide (t - a.day ≤ a.n))) = decide (t ≤ (xk d l k).held)
  | 0, _, t, ht, _ => by
    have : (xk d l 0).held = d.start := rfl
    rw [this, decide_eq_false (by omega)]; rfl
  | k + 1, hk, t, ht, hb => by
    obtain ⟨a, hx⟩ : ∃ a, l[k]? = some a := ⟨_, List.getElem?_eq_getElem (by omega)⟩
    have htk : l.take (k + 1) = l.take k ++ [a] := by rw [List.take_add_one, hx]; rfl
    obtain ⟨⟨p1, p2⟩, p3, p4, p5, p6⟩ := xk_at ha hx
    obtain ⟨f1, f2⟩ := xk_fine hf hx
    have ih := xk_held ha hf k (by omega) t ht (fun b hb' => hb b (by rw [htk]; exact List.mem_append_left _ hb'))
    have hat : a.day < t := hb a (by rw [htk]; simp)
    rw [htk, List.any_append, ih, xk_succ hx]
    simp only [List.any_cons, List.any_nil, Bool.or_false, decide_eq_true hat, Bool.and_true]
    have hyh := toL_held d (xk d l k) a.day
    have hyd : (toL d (xk d l k) a.day).day = a.day := by rw [toL_day]; omega
    by_cases h3 : a.kind = 3
    · have e1 : actE d (toL d (xk d l k) a.day) a = holdE (toL d (xk d l k) a.day) := by unfold actE; rw [if_neg (by omega), if_pos h3]
      have e2 : actL d (toL d (xk d l k) a.day) a = holdL (toL d (xk d l k) a.day) a.n := by unfold actL; rw [if_neg (by omega), if_neg (by omega), if_pos h3]
      rw [e1] at f2
      have hno : ¬ (toL d (xk d l k) a.day).day + 1 ≤ (toL d (xk d l k) a.day).held := fun hle => by unfold holdE at f2; rw [if_pos hle] at f2; cases f2
      rw [hyd, hyh] at hno
      rw [e2]
      unfold holdL
      rw [if_neg (by rw [hyd, hyh]; exact hno)]
      simp only [hyd]
      rw [decide_eq_false (by omega : ¬ t ≤ (xk d l k).held), show (a.kind == 3) = true by simp [h3]]
      simp only [Bool.false_or, Bool.true_and]
      exact decide_eq_decide.2 ⟨fun _ => by omega, fun _ => by omega⟩
    · have e2 : (actL d (toL d (xk d l k) a.day) a).held = (xk d l k).held := by
        rw [← hyh]
        unfold actL payL renewL feeL redeemL
        split
        · split <;> rfl
        · split
          · rfl
          · rfl
      rw [e2, show (a.kind == 3) = false by simp [h3]]; simp
/-- what the law counts on a day -/
def cntB (d : Deal) (l : List Act1) (k : Nat) (op : Bool) (t : Int) : Bool := decide (d.start < t) && op && decide (seek d.closed t 0 < 0) && !((l.take k).any (fun a => a.kind == 3 && decide (a.day < t) && decide (t - a.day ≤ a.n)))
def lawAll (d : Deal) (l : List Act1) (k : Nat) (t : Int) : Int := (goN d (t - (xk d l k).day).toNat (xk d l k)).all
theorem xk_ge (d : Deal) (l : List Act1) (k : Nat) : d.start ≤ (xk d l k).day := exec_ge d (l.take k) (openL d)
theorem law_step {d : Deal} {l : List Act1} (ha : askOk d l = true) (hf : fine d (openL d) l) {k : Nat} (hk : k ≤ l.length) {t : Int} (ht : d.start ≤ t) (hx : (xk d l k).day ≤ max d.start (t - 1)) (hb : ∀ b ∈ l.take k, b.day < t) :
    (if cntB d l k (xk d l k).op t then lawAll d l k (t - 1) + (xk d l k).pr else lawAll d l k (t - 1)) = lawAll d l k t := by
  have hge := xk_ge d l k
  by_cases h : d.start < t
  · unfold lawAll
    rw [show (t - (xk d l k).day).toNat = (t - 1 - (xk d l k).day).toNat + 1 by omega, goN_succ]
    obtain ⟨_, _, _, _, _, _, _, h8, _⟩ := stepDay_parts d (goN d (t - 1 - (xk d l k).day).toNat (xk d l k))
    rw [h8, goN_day, (goN_same d _ (xk d l k)).1, show (xk d l k).day + ((t - 1 - (xk d l k).day).toNat : Int) + 1 = t by omega]
    have e : cntB d l k (xk d l k).op t = countsB d (goN d (t - 1 - (xk d l k).day).toNat (xk d l k)) t := by
      unfold cntB countsB
      rw [xk_held ha hf k hk t h hb, (goN_same d _ (xk d l k)).2.2.2.1, (goN_same d _ (xk d l k)).2.2.2.2.2, decide_eq_true h]
      have e1 : (!(decide (t ≤ (xk d l k).held))) = decide ((xk d l k).held < t) := by
        by_cases h1 : t ≤ (xk d l k).held
        · rw [decide_eq_true h1, decide_eq_false (by omega)]; rfl
        · rw [decide_eq_false h1, decide_eq_true (by omega)]; rfl
      have e2 : decide (seek d.closed t 0 < 0) = !(decide (0 ≤ seek d.closed t 0)) := by
        by_cases h1 : 0 ≤ seek d.closed t 0
        · rw [decide_eq_true h1, decide_eq_false (by omega)]; rfl
        · rw [decide_eq_false h1, decide_eq_true (by omega)]; rfl
      rw [e1, e2]
      cases (xk d l k).op <;> cases decide (0 ≤ seek d.closed t 0) <;> cases decide ((xk d l k).held < t) <;> rfl
    rw [e]
  · have hc : cntB d l k (xk d l k).op t = false := by unfold cntB; rw [decide_eq_false h]; simp
    rw [hc, if_neg (by simp)]
    unfold lawAll
    rw [show (t - 1 - (xk d l k).day).toNat = (t - (xk d l k).day).toNat by omega]
def lawLim (d : Deal) (all : Int) : Int := min (all * d.lr / 1000000) (d.sum * d.lc / 64)
theorem lim_eq (d : Deal) (x : Ln) : limitOf d x = lawLim d x.all := rfl
theorem charge_lim (d : Deal) (x : Ln) : chargeOf d x ≤ lawLim d x.all := by rw [← lim_eq]; unfold chargeOf; omega
/-- AN ACT: what is charged then is lawful, and no account goes back. -/
theorem law_act {d : Deal} {l : List Act1} (ha : askOk d l = true) {k : Nat} {a : Act1} (h : l[k]? = some a) :
    (xk d l (k + 1)).ch ≤ lawLim d (lawAll d l k a.day) ∧ (xk d l k).ch ≤ (xk d l (k + 1)).ch ∧ (xk d l (k + 1)).pd ≤ (xk d l (k + 1)).ch ∧ (xk d l k).pd ≤ (xk d l (k + 1)).pd ∧ (0 ≤ (xk d l (k + 1)).pr ∧ (xk d l (k + 1)).pr ≤ (xk d l k).pr) ∧ (xk d l k).op = true ∧
    (xk d l (k + 1)).day = a.day ∧ lawAll d l (k + 1) a.day = lawAll d l k a.day := by
  obtain ⟨hd, _, _⟩ := ok_parts ha
  obtain ⟨⟨p1, p2⟩, p3, p4, p5, _⟩ := xk_at ha h
  have g0 := xk_good ha k
  have g1 := xk_good ha (k + 1)
  have gy := toL_good hd g0 p2
  have hyd : (toL d (xk d l k) a.day).day = a.day := by rw [toL_day]; omega
  have hgr := toL_grow hd g0.ch g0.ok.pr.1 a.day
  have hpd := toL_pd d (xk d l k) a.day
  have hpr := toL_pr d (xk d l k) a.day
  have hall : (toL d (xk d l k) a.day).all = lawAll d l k a.day := (toL_parts d (xk d l k) a.day).2.2.2.2.1
  have hs := xk_succ (d := d) h
  obtain ⟨y, hy⟩ : ∃ y, y = toL d (xk d l k) a.day := ⟨_, rfl⟩
  rw [← hy] at gy hyd hgr hpd hpr hall hs
  have hkk := okKind_kinds p3
  have hact : (actL d y a).all = y.all ∧ y.ch ≤ (actL d y a).ch ∧ y.pd ≤ (actL d y a).pd ∧ (actL d y a).pr ≤ y.pr := by
    have hdue := gy.due; have hprn := gy.ok.pr
    unfold actL
    rcases hkk with e | e | e | e
    · rw [if_pos e]
      have hn : 1 ≤ a.n ∧ a.n ≤ 1073741824 := by rw [e] at p3; simpa [okKind, btw] using p3
      unfold payL; split
      · exact ⟨rfl, Int.le_refl _, Int.le_refl _, Int.le_refl _⟩
      · exact ⟨rfl, Int.le_refl _, by simp only; omega, by simp only; omega⟩
    · rw [if_neg (by omega), if_pos e]
      have h1 : y.ch ≤ (renewL d y).ch := by
        rw [show y.ch = chargeOf d y from gy.ch]
        exact charge_mono hd (Int.le_refl _) (Int.le_refl _) (by show y.fees ≤ y.fees + d.te; have := hd.te; omega)
      exact ⟨rfl, h1, Int.le_trans hdue h1, Int.le_refl _⟩
    · rw [if_neg (by omega), if_neg (by omega), if_pos e]
      unfold holdL; split <;> exact ⟨rfl, Int.le_refl _, Int.le_refl _, Int.le_refl _⟩
    · rw [if_neg (by omega), if_neg (by omega), if_neg (by omega)]
      exact ⟨rfl, Int.le_refl _, hdue, hprn.1⟩
  have hday1 : (xk d l (k + 1)).day = a.day := by rw [hs, actL_day, hyd]
  have hall1 : (xk d l (k + 1)).all = lawAll d l k a.day := by rw [hs, hact.1, hall]
  refine ⟨?_, ?_, g1.due, ?_, ⟨g1.ok.pr.1, ?_⟩, p5, hday1, ?_⟩
  · rw [show (xk d l (k + 1)).ch = chargeOf d (xk d l (k + 1)) from g1.ch, ← hall1]; exact charge_lim d _
  · rw [hs]; omega
  · rw [hs]; omega
  · rw [hs]; omega
  · show (goN d (a.day - (xk d l (k + 1)).day).toNat (xk d l (k + 1))).all = _
    rw [hday1, show (a.day - a.day).toNat = 0 by omega]; exact hall1
/-- A DAY: what is charged then is lawful. -/
theorem law_end {d : Deal} {l : List Act1} {n : Int} (h : onE d l n = 0) : (OweA d l n).ch ≤ lawLim d (lawAll d l l.length n) ∧ (xk d l l.length).ch ≤ (OweA d l n).ch ∧ (OweA d l n).pd = (xk d l l.length).pd ∧ (OweA d l n).pr = (xk d l l.length).pr ∧ (OweA d l n).op = (xk d l l.length).op ∧
    LegalN d l n = lawLim d (lawAll d l l.length n) := by
  obtain ⟨r1, r2, r3, r4⟩ := on_ok h
  obtain ⟨ra, _, _, _, _⟩ := run_ok r1
  obtain ⟨hd, _, _⟩ := ok_parts ra
  have g := xk_good ra l.length
  have e := xk_end d l (Nat.le_refl l.length)
  rw [← e] at r2 r3 r4
  have hall : (toL d (xk d l l.length) n).all = lawAll d l l.length n := (toL_parts d (xk d l l.length) n).2.2.2.2.1
  refine ⟨?_, ?_, ?_, ?_, ?_, ?_⟩
  · rw [r3]
    show (toL d (xk d l l.length) n).ch ≤ _
    rw [show (toL d (xk d l l.length) n).ch = chargeOf d _ from toL_ch g.ch n, ← hall]; exact charge_lim d _
  · rw [r3]; exact toL_grow hd g.ch g.ok.pr.1 n
  · rw [r3]; exact toL_pd d _ n
  · rw [r3]; exact toL_pr d _ n
  · rw [r3]; exact toL_op d _ n
  · rw [r4, lim_eq, hall]
theorem lawAll_bd {d : Deal} {l : List Act1} (ha : askOk d l = true) (k : Nat) {t : Int} (ht : t ≤ 36500) : 0 ≤ lawAll d l k t ∧ lawAll d l k t ≤ 39191576576000 := by
  obtain ⟨hd, _, _⟩ := ok_parts ha
  have g := xk_good ha k
  have h1 := toL_ok hd g.ok ht
  have hall : (toL d (xk d l k) t).all = lawAll d l k t := (toL_parts d (xk d l k) t).2.2.2.2.1
  rw [← hall]
  have h2 := h1.all; have h3 := h1.day
  omega
theorem day_le (d : Deal) (l : List Act1) {k : Nat} {a : Act1} (h : l[k]? = some a) : a.day ≤ (xk d l l.length).day := by
  have e : xk d l l.length = exec d (xk d l (k + 1)) (l.drop (k + 1)) := by
    rw [xk_end d l (Nat.le_refl _)]
    unfold xk
    rw [← exec_app, List.take_append_drop]
  rw [e]
  refine Int.le_trans ?_ (exec_ge d _ _)
  rw [xk_succ h, actL_day]
  exact (toL_ge d _ _).2
theorem next_day {d : Deal} {l : List Act1} (ha : askOk d l = true) {k : Nat} {a b : Act1} (h : l[k]? = some a) (h' : l[k + 1]? = some b) : a.day ≤ b.day := by
  refine ((xk_at ha h').2.2.2.2 a ?_).2
  rw [List.take_add_one, h]; simp
theorem any_drop {α : Type} (p : α → Bool) (l : List α) (k : Nat) (x : α) (h : l[k]? = some x) : (l.drop k).any p = (p x || (l.drop (k + 1)).any p) := by
  obtain ⟨h1, h2⟩ := List.getElem?_eq_some_iff.1 h
  rw [List.drop_eq_getElem_cons h1, h2, List.any_cons]
end Go.Proofs.YtafmgkiddhappaaDoor
