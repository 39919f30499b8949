/- Loans: runs without an error, act by act. Conditions: none. -/
import Derived.Test.YtafmgkiddhappaaDoorYPGo
namespace Go.Proofs.YtafmgkiddhappaaDoor
open Go.Sx Go.RowKit

/-- the loan after acts; its accounts; no act is refused -/
def exec (d : Deal) : Ln → List Act1 → Ln
  | x, [] => x
  | x, a :: l => exec d (actL d (toL d x a.day) a) l
def outs (d : Deal) : Ln → List Act1 → List Acc
  | _, [] => []
  | x, a :: l => (actL d (toL d x a.day) a).acc :: outs d (actL d (toL d x a.day) a) l
def fine (d : Deal) : Ln → List Act1 → Prop
  | _, [] => True
  | x, a :: l => overB d (toL d x a.day) = false ∧ actE d (toL d x a.day) a = 0 ∧ fine d (actL d (toL d x a.day) a) l
theorem run_fine (d : Deal) : ∀ (l : List Act1) (i : Int) (x : Ln) (out : List Acc), fine d x l → runF d i x out i 0 l = ⟨exec d x l, out ++ outs d x l, i + l.length, 0⟩
  | [], i, x, out, _ => by simp [runF, exec, outs]
  | a :: l, i, x, out, ⟨h1, h2, h3⟩ => by
    rw [runF, h1, if_neg (by simp), if_pos h2, run_fine d l _ _ _ h3, exec, outs]
    simp only [List.append_assoc, List.singleton_append, List.length_cons, RunR.mk.injEq, true_and, and_true]
    omega
theorem fine_of_run (d : Deal) : ∀ (l : List Act1) (i : Int) (x : Ln) (out : List Acc) (at0 : Int), (runF d i x out at0 0 l).e = 0 → fine d x l
  | [], _, _, _, _, _ => trivial
  | a :: l, i, x, out, at0, h => by
    rw [runF] at h
    cases ho : overB d (toL d x a.day)
    · rw [ho, if_neg (by simp)] at h
      by_cases h0 : actE d (toL d x a.day) a = 0
      · rw [if_pos h0] at h
        exact ⟨ho, h0, fine_of_run d l _ _ _ _ h⟩
      · rw [if_neg h0] at h
        exact absurd h h0
    · rw [ho, if_pos rfl] at h; cases h
theorem exec_app (d : Deal) : ∀ (l m : List Act1) (x : Ln), exec d x (l ++ m) = exec d (exec d x l) m
  | [], _, _ => rfl
  | _ :: l, m, _ => exec_app d l m _
theorem outs_app (d : Deal) : ∀ (l m : List Act1) (x : Ln), outs d x (l ++ m) = outs d x l ++ outs d (exec d x l) m
  | [], _, _ => rfl
  | a :: l, m, x => by rw [List.cons_append, outs, outs, exec, outs_app d l m]; rfl
theorem outs_len (d : Deal) : ∀ (l : List Act1) (x : Ln), (outs d x l).length = l.length
  | [], _ => rfl
  | _ :: l, _ => by rw [outs, List.length_cons, List.length_cons, outs_len d l]
theorem fine_app (d : Deal) : ∀ (l m : List Act1) (x : Ln), fine d x (l ++ m) ↔ (fine d x l ∧ fine d (exec d x l) m)
  | [], m, x => by simp [fine, exec]
  | a :: l, m, x => by
    rw [List.cons_append, fine, fine, exec, fine_app d l m]
    exact ⟨fun ⟨h1, h2, h3, h4⟩ => ⟨⟨h1, h2, h3⟩, h4⟩, fun ⟨⟨h1, h2, h3⟩, h4⟩ => ⟨h1, h2, h3, h4⟩⟩

def RunE (d : Deal) (l : List Act1) : Int := if askOk d l then (runL d l).e else askE d l
def RunN (d : Deal) (l : List Act1) : Int := if askOk d l then (runL d l).at_ else 0
def RunO (d : Deal) (l : List Act1) : List Acc := if askOk d l && ((runL d l).e == 0) then (runL d l).out else []
theorem run_ok {d : Deal} {l : List Act1} (h : RunE d l = 0) : askOk d l = true ∧ fine d (openL d) l ∧ RunO d l = outs d (openL d) l ∧ RunN d l = l.length ∧ runL d l = ⟨exec d (openL d) l, outs d (openL d) l, l.length, 0⟩ := by
  cases ha : askOk d l
  · rw [RunE, ha] at h; exact absurd h (by simpa using askE_ne ha)
  · rw [RunE, ha, if_pos rfl] at h
    have hf := fine_of_run d l _ _ _ _ h
    have hr : runL d l = ⟨exec d (openL d) l, outs d (openL d) l, l.length, 0⟩ := by
      have := run_fine d l 0 (openL d) [] hf
      simpa [runL] using this
    refine ⟨rfl, hf, ?_, ?_, hr⟩
    · rw [RunO, ha, hr]; rfl
    · rw [RunN, ha, hr]; rfl
theorem run_of {d : Deal} {l : List Act1} (ha : askOk d l = true) (hf : fine d (openL d) l) : RunE d l = 0 := by
  rw [RunE, ha, if_pos rfl]
  have := run_fine d l 0 (openL d) [] hf
  show (runF d 0 (openL d) [] 0 0 l).e = 0
  rw [this]
theorem on_ok {d : Deal} {l : List Act1} {n : Int} (h : onE d l n = 0) : RunE d l = 0 ∧ ((exec d (openL d) l).day ≤ n ∧ n ≤ 36500) ∧ OweA d l n = (toL d (exec d (openL d) l) n).acc ∧ LegalN d l n = limitOf d (toL d (exec d (openL d) l) n) := by
  have hon : onOk d l n = true := by
    cases ho : onOk d l n
    · exact absurd h (onE_ne ho)
    · rfl
  obtain ⟨h1, h2, h3⟩ := onOk_parts hon
  have hE : RunE d l = 0 := by rw [RunE, if_pos h1]; exact h2
  obtain ⟨_, _, _, _, hr⟩ := run_ok hE
  rw [hr] at h3
  refine ⟨hE, by simpa [btw] using h3, ?_, ?_⟩
  · rw [OweA, if_pos hon, hr]
  · rw [LegalN, if_pos hon, hr]
theorem on_no {d : Deal} {l : List Act1} {n : Int} (h : onE d l n ≠ 0) : OweA d l n = ⟨0, 0, 0, 0, false⟩ := by
  have hon : onOk d l n = false := by
    cases ho : onOk d l n
    · rfl
    · exact absurd (onE_yes ho) h
  rw [OweA, if_neg (by rw [hon]; simp)]
theorem ok_parts {d : Deal} {l : List Act1} (h : askOk d l = true) : DealOk d ∧ (∀ a ∈ l, okKind a.kind a.n = true ∧ a.day ≤ 36500) ∧ l.length ≤ 32 :=
  ⟨badDeal_no (askOk_parts h).1, (actsOk_mem (askOk_parts h).2).1, (actsOk_mem (askOk_parts h).2).2⟩

/-- what holds of a loan throughout -/
structure Good (d : Deal) (x : Ln) : Prop where
  ok : LOk x
  ch : ChOk d x
  due : x.pd ≤ x.ch
theorem open_good {d : Deal} (hd : DealOk d) : Good d (openL d) := ⟨openL_ok hd, openL_ch hd, Int.le_refl _⟩
theorem toL_pd (d : Deal) (x : Ln) (day : Int) : (toL d x day).pd = x.pd := by rw [(toL_parts d x day).2.1]; exact (goN_same d _ x).2.2.1
theorem toL_pr (d : Deal) (x : Ln) (day : Int) : (toL d x day).pr = x.pr := by rw [(toL_parts d x day).1]; exact (goN_same d _ x).1
theorem toL_op (d : Deal) (x : Ln) (day : Int) : (toL d x day).op = x.op := by rw [(toL_parts d x day).2.2.2.1]; exact (goN_same d _ x).2.2.2.1
theorem toL_held (d : Deal) (x : Ln) (day : Int) : (toL d x day).held = x.held := by rw [(toL_parts d x day).2.2.2.2.2.2.2.2.2]; exact (goN_same d _ x).2.2.2.2.2
theorem toL_good {d : Deal} (hd : DealOk d) {x : Ln} (h : Good d x) {day : Int} (hday : day ≤ 36500) : Good d (toL d x day) :=
  ⟨toL_ok hd h.ok hday, toL_ch h.ch day, by rw [toL_pd]; exact Int.le_trans h.due (toL_grow hd h.ch h.ok.pr.1 day)⟩
theorem act_good {d : Deal} (hd : DealOk d) {x : Ln} (h : Good d x) {a : Act1} (hk : okKind a.kind a.n = true) (hf : x.fees ≤ 999990000) : Good d (actL d x a) := by
  refine ⟨actL_ok hd h.ok hk hf, act_ch h.ch a, ?_⟩
  have h1 := h.due
  unfold actL
  split
  · unfold payL; split
    · exact h1
    · simp only; omega
  · split
    · exact Int.le_refl _
    · split
      · unfold holdL; split <;> exact h1
      · exact Int.le_refl _
theorem exec_good {d : Deal} (hd : DealOk d) : ∀ (l : List Act1) (x : Ln), Good d x → x.fees + 10000 * l.length ≤ 999990000 → (∀ a ∈ l, okKind a.kind a.n = true ∧ a.day ≤ 36500) → Good d (exec d x l) ∧ (exec d x l).fees ≤ x.fees + 10000 * l.length
  | [], x, h, _, _ => ⟨h, by simp [exec]⟩
  | a :: l, x, h, hf, ha => by
    have h1 := ha a (List.mem_cons_self ..)
    have h3 := toL_fees d x a.day
    simp only [List.length_cons] at hf
    have h5 : (actL d (toL d x a.day) a).fees ≤ (toL d x a.day).fees + 10000 := actL_fees hd
    have h6 := act_good hd (toL_good hd h h1.2) h1.1 (by omega)
    have ih := exec_good hd l _ h6 (by omega) (fun b hb => ha b (List.mem_cons_of_mem _ hb))
    rw [exec]
    refine ⟨ih.1, ?_⟩
    have := ih.2
    simp only [List.length_cons]
    omega
theorem run_good {d : Deal} {l : List Act1} (h : askOk d l = true) : Good d (exec d (openL d) l) := by
  obtain ⟨hd, h1, h2⟩ := ok_parts h
  exact (exec_good hd l _ (open_good hd) (by simp only [openL]; omega) h1).1

theorem actL_day (d : Deal) (x : Ln) (a : Act1) : (actL d x a).day = x.day := by
  unfold actL payL holdL renewL feeL redeemL
  repeat' split
  all_goals rfl
theorem toL_ge (d : Deal) (x : Ln) (t : Int) : x.day ≤ (toL d x t).day ∧ t ≤ (toL d x t).day := by rw [toL_day]; omega
theorem exec_ge (d : Deal) : ∀ (l : List Act1) (x : Ln), x.day ≤ (exec d x l).day
  | [], _ => Int.le_refl _
  | a :: l, x => by
    rw [exec]
    refine Int.le_trans ?_ (exec_ge d l _)
    rw [actL_day]; exact (toL_ge d x a.day).1
theorem toL_stay (d : Deal) (x : Ln) {t : Int} (h : t ≤ x.day) : toL d x t = x := by
  unfold toL
  rw [show (t - x.day).toNat = 0 by omega]
  simp [goN, sumsNe]
/-- the day of the last act -/
def lastD (d : Deal) (l : List Act1) : Int := if l.length = 0 then d.start else (l.getD (l.length - 1) default).day
theorem last_le (d : Deal) : ∀ (l : List Act1) (x : Ln), l ≠ [] → (l.getD (l.length - 1) default).day ≤ (exec d x l).day
  | [], _, h => absurd rfl h
  | [a], x, _ => by
    simp only [exec, List.length_singleton, actL_day]
    exact (toL_ge d x a.day).2
  | a :: b :: l, x, _ => by
    rw [exec]
    have := last_le d (b :: l) (actL d (toL d x a.day) a) (by simp)
    simpa using this
theorem lastD_le (d : Deal) (l : List Act1) : lastD d l ≤ (exec d (openL d) l).day := by
  unfold lastD
  by_cases h : l = []
  · subst h; simp [exec, openL]
  · rw [if_neg (fun e => h (List.eq_nil_of_length_eq_zero e))]
    exact last_le d l _ h
end Go.Proofs.YtafmgkiddhappaaDoor
