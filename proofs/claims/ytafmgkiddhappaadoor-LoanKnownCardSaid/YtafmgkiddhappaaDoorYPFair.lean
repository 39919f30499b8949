/- Loans: the order of sales, and what is lent on a greater value. Conditions: none. -/
import Derived.Test.YtafmgkiddhappaaDoorZP
namespace Go.Proofs.YtafmgkiddhappaaDoor
open Go.Sx Go.RowKit

theorem encSale_one (a : Sale) : ∀ v ∈ encSale a, v.oneCell' = true := by simp [encSale, Value.oneCell']
theorem crafts_rev (sales : List Sale) (fade : List Int) (day kind : Int) : craftsOf sales.reverse fade day kind = craftsOf sales fade day kind := by
  rw [craftsOf_eq, craftsOf_eq]
  refine sorted_unique (sortI_pairwise _) (sortI_pairwise _) ((sortI_perm _).trans (List.Perm.trans ?_ (sortI_perm _).symm))
  unfold rawCrafts ofKind
  exact ((List.reverse_perm sales).filter _).map _
theorem market_rev (sales : List Sale) (fade : List Int) (metal day few : Int) : badMarket sales.reverse fade metal day few = badMarket sales fade metal day few := by
  unfold badMarket
  rw [List.length_reverse, List.all_reverse]
theorem value_rev (sales : List Sale) (fade : List Int) (metal day few kind wmin wmax : Int) : valueOf sales.reverse fade metal day few kind wmin wmax = valueOf sales fade metal day few kind wmin wmax := by
  unfold valueOf
  rw [market_rev, crafts_rev]
theorem drop_rev {α : Type} {l : List α} {m : Nat} {s : α} (h : l[m]? = some s) : (l.drop m).reverse = (l.drop (m + 1)).reverse ++ [s] := by
  obtain ⟨h1, h2⟩ := List.getElem?_eq_some_iff.1 h
  rw [List.drop_eq_getElem_cons h1, h2, List.reverse_cons]
theorem mostE_ok {fr fl cap lo hi : Int} (h : MostE fr fl cap lo hi = 0) : ((0 ≤ fr ∧ fr ≤ 64) ∧ (0 ≤ cap ∧ cap ≤ 1073741824) ∧ (0 ≤ fl ∧ fl ≤ cap)) ∧ (0 ≤ lo ∧ lo ≤ hi ∧ hi ≤ 2147483648) ∧ badTerms fr fl cap = false ∧ MostN fr fl cap lo hi = mostOf fr fl cap lo := by
  unfold MostE at h
  cases hb : badTerms fr fl cap
  · cases hs : spanOk lo hi 2147483648
    · simp [hb, hs] at h
    · refine ⟨badTerms_no hb, ?_, rfl, by simp [MostN, hb, hs]⟩
      simp only [spanOk, Bool.and_eq_true, decide_eq_true_eq] at hs
      omega
  · simp [hb] at h
theorem mostE_no {fr fl cap lo hi : Int} (h : MostE fr fl cap lo hi ≠ 0) : MostN fr fl cap lo hi = 0 ∧ (MostE fr fl cap lo hi = 22 ∨ MostE fr fl cap lo hi = 7) := by
  unfold MostE at h ⊢
  unfold MostN
  split
  · exact ⟨rfl, .inl rfl⟩
  · rename_i h1; rw [if_neg h1] at h
    split
    · rename_i h2; rw [if_pos h2] at h; exact absurd rfl h
    · exact ⟨rfl, .inr rfl⟩
theorem frac_bd {fr lo : Int} (h : 0 ≤ fr ∧ fr ≤ 64) (hl : 0 ≤ lo ∧ lo ≤ 2147483648) : (0 ≤ lo * fr ∧ lo * fr ≤ 137438953472) ∧ 0 ≤ lo * fr / 64 ∧ lo * fr / 64 ≤ lo := by
  have h1 := mul_bd hl h
  have h2 : lo * fr ≤ lo * 64 := Int.mul_le_mul_of_nonneg_left h.2 hl.1
  omega
theorem frac_mono {fr lo lo' : Int} (h : 0 ≤ fr) (hl : lo ≤ lo') : lo * fr / 64 ≤ lo' * fr / 64 := by
  have : lo * fr ≤ lo' * fr := Int.mul_le_mul_of_nonneg_right hl h
  omega
theorem most_bd {fr fl cap lo : Int} (h : 0 ≤ fr ∧ fr ≤ 64) (hl : 0 ≤ lo ∧ lo ≤ 2147483648) (hc : 0 ≤ fl ∧ fl ≤ cap) : 0 ≤ mostOf fr fl cap lo ∧ mostOf fr fl cap lo ≤ cap ∧ mostOf fr fl cap lo ≤ lo ∧ mostOf fr fl cap lo ≤ max (lo * fr / 64) (min fl lo) ∧ min (min fl lo) cap ≤ mostOf fr fl cap lo := by
  obtain ⟨_, h1, h2⟩ := frac_bd h hl
  unfold mostOf
  split <;> omega
theorem most_mono {fr fl cap lo lo' : Int} (h : 0 ≤ fr) (hl : lo ≤ lo') : mostOf fr fl cap lo ≤ mostOf fr fl cap lo' := by
  have h1 := frac_mono h hl
  unfold mostOf
  split <;> split <;> omega
theorem lend_of {fr fl cap lo hi wish : Int} (h : MostE fr fl cap lo hi = 0) (hw : 1 ≤ wish ∧ wish ≤ 1073741824) : (MostN fr fl cap lo hi = 0 → LendE fr fl cap lo hi wish = 4 ∧ LendN fr fl cap lo hi wish = 0) ∧ (MostN fr fl cap lo hi ≠ 0 → LendE fr fl cap lo hi wish = 0 ∧ LendN fr fl cap lo hi wish = min (MostN fr fl cap lo hi) wish) := by
  have hb : btw 1 wish 1073741824 = true := by simp only [btw, Bool.and_eq_true, decide_eq_true_eq]; exact hw
  refine ⟨fun h0 => ?_, fun h0 => ?_⟩
  · simp [LendE, LendN, h, hb, h0]
  · simp [LendE, LendN, h, hb, h0]
end Go.Proofs.YtafmgkiddhappaaDoor
