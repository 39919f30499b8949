/- Loans: how the reference keeps them. Conditions: none. -/
import Derived.Test.YtafmgkiddhappaaDoorYPRun
namespace Go.Proofs.YtafmgkiddhappaaDoor
open Go.Sx Go.RowKit

/-- what the reference keeps of a loan: renewals and the last held day by themselves -/
abbrev encS (d : Deal) (Ac : Option Addr) (cc : Nat) (x : Ln) (ren hr : Int) : List Value := [.int .i64 d.lr, .int .i64 d.lc, .int .i64 d.tr, .int .i64 d.tf, .int .i64 d.te, .int .i64 d.tt, .int .i64 d.tg, .slice Ac d.closed.length cc, .int .i64 d.start, .int .i64 d.sum, .int .i64 x.pr, .int .i64 0, .int .i64 x.pd, .int .i64 x.ag, .bool x.op, .int .i64 x.day, .int .i64 x.days, .int .i64 x.dear, .int .i64 x.all, .int .i64 ren, .int .i64 hr]
/-- the held day of the reference -/
def HR (x : Ln) (hr : Int) : Prop := hr = x.held ∨ (hr = 0 ∧ x.held ≤ x.day)
structure RS (d : Deal) (x : Ln) (ren hr : Int) : Prop where
  ch : ChOk d x
  fees : x.fees = ren * d.te
  ren : 0 ≤ ren ∧ ren ≤ 64
  held : HR x hr
theorem HR.step {d : Deal} {x : Ln} {hr : Int} (h : HR x hr) : HR (stepDay d x) hr := by
  obtain ⟨_, _, _, _, _, h6, h7, _⟩ := stepDay_parts d x
  unfold HR at *
  rw [h6, h7]; omega
theorem HR.go {d : Deal} : ∀ (k : Nat) {x : Ln} {hr : Int}, HR x hr → HR (goN d k x) hr
  | 0, _, _, h => h
  | k + 1, _, _, h => HR.go k (h.step)
theorem HR.toL {d : Deal} {x : Ln} {hr : Int} (h : HR x hr) (t : Int) : HR (toL d x t) hr := by
  obtain ⟨_, _, _, _, _, _, _, _, h6, h7⟩ := toL_parts d x t
  have := h.go (d := d) (t - x.day).toNat
  unfold HR at *
  rw [h6, h7]; exact this
theorem counts_ref {d : Deal} {x : Ln} {hr : Int} (h : HR x hr) (h0 : 0 ≤ x.day) : ((!x.op || decide (x.day + 1 ≤ hr)) || decide (0 ≤ seek d.closed (x.day + 1) 0)) = !(countsB d x (x.day + 1)) := by
  have e : decide (x.day + 1 ≤ hr) = !(decide (x.held < x.day + 1)) := by
    unfold HR at h
    by_cases h1 : x.held < x.day + 1
    · rw [decide_eq_true h1, decide_eq_false (by omega)]; rfl
    · rw [decide_eq_false h1, decide_eq_true (by omega)]; rfl
  unfold countsB
  rw [e]
  cases x.op <;> cases decide (x.held < x.day + 1) <;> cases decide (0 ≤ seek d.closed (x.day + 1) 0) <;> rfl
theorem encS_toL (d : Deal) (Ac : Option Addr) (cc : Nat) (x : Ln) (ren hr t : Int) : encS d Ac cc (goN d (t - x.day).toNat x) ren hr = encS d Ac cc (toL d x t) ren hr := by
  obtain ⟨h1, h2, h3, h4, h5, h6, h7, _, h8, _⟩ := toL_parts d x t
  unfold encS
  rw [h1, h2, h3, h4, h5, h6, h7, h8]
theorem open_rs {d : Deal} (hd : DealOk d) : RS d (openL d) 0 0 := ⟨openL_ch hd, by simp [openL], by omega, .inr ⟨rfl, Int.le_refl _⟩⟩
theorem RS.toL {d : Deal} {x : Ln} {ren hr : Int} (h : RS d x ren hr) (t : Int) : RS d (toL d x t) ren hr := ⟨toL_ch h.ch t, by rw [toL_fees]; exact h.fees, h.ren, h.held.toL t⟩
/-- what an act does, in the reference -/
def actR (d : Deal) (x : Ln) (a : Act1) : Int := if overB d (toL d x a.day) then 25 else actE d (toL d x a.day) a
theorem fees_bd {d : Deal} (hd : DealOk d) {x : Ln} {ren hr : Int} (h : RS d x ren hr) : 0 ≤ ren * d.te ∧ ren * d.te ≤ 640000 := mul_bd h.ren hd.te
theorem okKind_iff {k n : Int} : okKind k n = true ↔ ((k = 1 ∧ 1 ≤ n ∧ n ≤ 1073741824) ∨ (k = 2 ∧ n = 0) ∨ (k = 3 ∧ 1 ≤ n ∧ n ≤ 366) ∨ (k = 4 ∧ n = 0)) := by
  unfold okKind btw
  split
  · simp only [Bool.and_eq_true, decide_eq_true_eq]; omega
  · split
    · simp only [beq_iff_eq]; omega
    · split
      · simp only [Bool.and_eq_true, decide_eq_true_eq]; omega
      · split
        · simp only [beq_iff_eq]; omega
        · simp; omega
theorem okAct_false {last pk : Int} {a : Act1} (h : ¬ okKind a.kind a.n = true) : okAct last pk a = false := by
  unfold okAct
  rw [show okKind a.kind a.n = false by simpa using h]; rfl
theorem okAct_true {last pk : Int} {a : Act1} (h : okKind a.kind a.n = true) (hb : btw last a.day 36500 = true) (hp : (pk == 4) = false) : okAct last pk a = true := by
  unfold okAct
  rw [h, hb, hp]; rfl
theorem act_R (l : List Act1) (k : Nat) (last : Int) (a : Act1) : (!(btw last a.day 36500) || (decide ((0 : Int) < k) && ((l.getD ((k : Int) - 1).toNat default).kind == 4))) = !(btw last a.day 36500 && !(pkOf l k == 4)) := by
  cases hb : btw last a.day 36500
  · rfl
  · by_cases h0 : k = 0
    · subst h0; simp [pkOf]
    · have h2 : (0 : Int) < k := by omega
      have h3 : ((k : Int) - 1).toNat = k - 1 := by omega
      rw [pkOf, if_neg h0, h3, decide_eq_true h2]; simp
theorem okAct_R {last pk : Int} {a : Act1} (h : (!(btw last a.day 36500 && !(pk == 4))) = true) : okAct last pk a = false := by
  have h1 := not_t h
  unfold okAct
  rw [Bool.and_assoc, h1, Bool.and_false]
theorem okAct_S {last pk : Int} {a : Act1} (h : (!(btw last a.day 36500 && !(pk == 4))) = false) : btw last a.day 36500 = true ∧ (pk == 4) = false := by
  have h1 := not_f h
  rw [Bool.and_eq_true] at h1
  exact ⟨h1.1, not_t h1.2⟩
theorem actR_ok {d : Deal} {x : Ln} {a : Act1} (h : actR d x a = 0) : overB d (toL d x a.day) = false ∧ actE d (toL d x a.day) a = 0 := by
  unfold actR at h
  cases ho : overB d (toL d x a.day)
  · rw [ho, if_neg (by simp)] at h; exact ⟨rfl, h⟩
  · rw [ho, if_pos rfl] at h; exact absurd h (by decide)
theorem run_err {d : Deal} {x : Ln} {a : Act1} (h : actR d x a ≠ 0) (i : Int) (out : List Acc) (at0 e0 : Int) (l : List Act1) : (runF d i x out at0 e0 (a :: l)).at_ = i ∧ (runF d i x out at0 e0 (a :: l)).e = actR d x a := by
  unfold actR at h ⊢
  rw [runF]
  split
  · exact ⟨rfl, rfl⟩
  · rename_i ho
    rw [if_neg ho] at h
    rw [if_neg h]; exact ⟨rfl, rfl⟩
theorem acc_eq (x y : Acc) : decide (x = y) = ((x.pr == y.pr) && (x.ch == y.ch) && (x.pd == y.pd) && (x.ag == y.ag) && (x.op == y.op)) := by
  rw [Bool.eq_iff_iff]
  simp only [decide_eq_true_eq, Bool.and_eq_true, beq_iff_eq]
  constructor
  · rintro rfl; exact ⟨⟨⟨⟨rfl, rfl⟩, rfl⟩, rfl⟩, rfl⟩
  · rintro ⟨⟨⟨⟨h1, h2⟩, h3⟩, h4⟩, h5⟩
    cases x; cases y; simp_all
theorem take_eq_succA {α : Type} {xs ys : List α} {k : Nat} {x y : α} (hx : xs[k]? = some x) (hy : ys[k]? = some y) : (xs.take (k + 1) = ys.take (k + 1)) ↔ (xs.take k = ys.take k ∧ x = y) := by
  rw [List.take_add_one, List.take_add_one, hx, hy]
  constructor
  · intro h
    have := List.append_inj' h (by simp)
    simpa using this
  · rintro ⟨h1, rfl⟩
    rw [h1]
theorem on_run {d : Deal} {l : List Act1} (h : RunE d l ≠ 0) (n : Int) : onE d l n = RunE d l := by
  unfold RunE at h ⊢
  unfold onE
  split
  · rename_i ha
    rw [if_pos ha] at h
    rw [if_neg h]
  · rfl
theorem on_range {d : Deal} {l : List Act1} {n : Int} (h : RunE d l = 0) (ho : onE d l n ≠ 0) : onE d l n = 7 ∧ btw (exec d (openL d) l).day n 36500 = false := by
  obtain ⟨ha, _, _, _, hr⟩ := run_ok h
  unfold onE at ho ⊢
  rw [if_pos ha, hr, if_pos rfl] at ho ⊢
  split at ho
  · exact absurd rfl ho
  · rename_i hb; rw [if_neg hb]; exact ⟨rfl, by simpa using hb⟩
theorem legal_no {d : Deal} {l : List Act1} {n : Int} (h : onE d l n ≠ 0) : LegalN d l n = 0 := by
  have hon : onOk d l n = false := by
    cases ho : onOk d l n
    · rfl
    · exact absurd (onE_yes ho) h
  rw [LegalN, if_neg (by rw [hon]; simp)]
theorem runO_no {d : Deal} {l : List Act1} (h : RunE d l ≠ 0) : RunO d l = [] := by
  unfold RunE at h
  unfold RunO
  cases ha : askOk d l
  · rfl
  · rw [if_pos ha] at h
    rw [if_neg (by simpa using h)]
end Go.Proofs.YtafmgkiddhappaaDoor
