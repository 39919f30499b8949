/- Loans: how they stand on a day. Conditions: none. -/
import Derived.Test.YtafmgkiddhappaaDoorPK
namespace Go.Proofs.YtafmgkiddhappaaDoor
open Go.Sx Go.RowKit

abbrev zeroLn : List Value := [.int .i64 0, .int .i64 0, .int .i64 0, .int .i64 0, .bool false, .int .i64 0, .int .i64 0, .int .i64 0, .int .i64 0, .int .i64 0, .int .i64 0, .int .i64 0, .int .i64 0, .int .i64 0, .int .i64 0, .int .i64 0, .slice none 0 0, .int .i64 0, .int .i64 0, .int .i64 0, .int .i64 0]
def askOk (d : Deal) (l : List Act1) : Bool := !(badDeal d) && actsOk d l
def askE (d : Deal) (l : List Act1) : Int := if badDeal d then 23 else if actsOk d l then 0 else 24
def onOk (d : Deal) (l : List Act1) (n : Int) : Bool := askOk d l && (runL d l).e == 0 && btw (runL d l).x.day n 36500
def onE (d : Deal) (l : List Act1) (n : Int) : Int := if askOk d l then (if (runL d l).e = 0 then (if btw (runL d l).x.day n 36500 then 0 else 7) else (runL d l).e) else askE d l
theorem askOk_parts {d : Deal} {l : List Act1} (h : askOk d l = true) : badDeal d = false ∧ actsOk d l = true := by
  rw [askOk, Bool.and_eq_true] at h
  exact ⟨not_t h.1, h.2⟩
theorem askOk_not {d : Deal} {l : List Act1} (h : askOk d l = false) : badDeal d = true ∨ (badDeal d = false ∧ actsOk d l = false) := by
  cases hb : badDeal d
  · rw [askOk, hb] at h; exact .inr ⟨rfl, by simpa using h⟩
  · exact .inl rfl
theorem askE_ne {d : Deal} {l : List Act1} (h : askOk d l = false) : askE d l ≠ 0 := by
  rcases askOk_not h with h | ⟨h1, h2⟩
  · simp [askE, h]
  · simp [askE, h1, h2]
theorem onOk_parts {d : Deal} {l : List Act1} {n : Int} (h : onOk d l n = true) : askOk d l = true ∧ (runL d l).e = 0 ∧ btw (runL d l).x.day n 36500 = true := by
  simp only [onOk, Bool.and_eq_true, beq_iff_eq] at h
  exact ⟨h.1.1, h.1.2, h.2⟩
theorem onE_yes {d : Deal} {l : List Act1} {n : Int} (h : onOk d l n = true) : onE d l n = 0 := by
  obtain ⟨h1, h2, h3⟩ := onOk_parts h
  rw [onE, if_pos h1, if_pos h2, if_pos h3]
theorem onE_ne {d : Deal} {l : List Act1} {n : Int} (h : onOk d l n = false) : onE d l n ≠ 0 := by
  unfold onE
  cases h1 : askOk d l
  · simpa using askE_ne h1
  · rw [if_pos rfl]
    by_cases h2 : (runL d l).e = 0
    · rw [if_pos h2]
      cases h3 : btw (runL d l).x.day n 36500
      · simp
      · rw [onOk, h1, h3, h2] at h; simp at h
    · rw [if_neg h2]; exact h2
theorem runF_ok {d : Deal} (hd : DealOk d) : ∀ (l : List Act1) (i : Int) (x : Ln) (out : List Acc) (at_ e : Int), LOk x → x.fees + 10000 * l.length ≤ 999990000 → (∀ a ∈ l, okKind a.kind a.n = true ∧ a.day ≤ 36500) → LOk (runF d i x out at_ e l).x
  | [], _, _, _, _, _, h, _, _ => h
  | a :: l, i, x, out, at_, e, h, hf, ha => by
    have h1 := ha a (List.mem_cons_self ..)
    have h2 := toL_ok hd h h1.2
    have h3 := toL_fees d x a.day
    simp only [List.length_cons] at hf
    have h4 : LOk (actL d (toL d x a.day) a) := actL_ok hd h2 h1.1 (by omega)
    have h5 : (actL d (toL d x a.day) a).fees ≤ (toL d x a.day).fees + 10000 := actL_fees hd
    rw [runF]
    split
    · exact h2
    · split
      · exact runF_ok hd l _ _ _ _ _ h4 (by omega) (fun b hb => ha b (List.mem_cons_of_mem _ hb))
      · exact h4
theorem runL_ok {d : Deal} {l : List Act1} (h : askOk d l = true) : LOk (runL d l).x := by
  obtain ⟨h1, h2⟩ := askOk_parts h
  have hd := badDeal_no h1
  obtain ⟨h3, h4⟩ := actsOk_mem h2
  exact runF_ok hd l _ _ _ _ _ (openL_ok hd) (by simp only [openL]; omega) h3
def OweA (d : Deal) (l : List Act1) (n : Int) : Acc := if onOk d l n then (toL d (runL d l).x n).acc else ⟨0, 0, 0, 0, false⟩
def LegalN (d : Deal) (l : List Act1) (n : Int) : Int := if onOk d l n then limitOf d (toL d (runL d l).x n) else 0
end Go.Proofs.YtafmgkiddhappaaDoor
