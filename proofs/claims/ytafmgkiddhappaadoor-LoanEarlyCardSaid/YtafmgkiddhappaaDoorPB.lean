/- Loans: crafts. Conditions: none. -/
import Derived.Test.YtafmgkiddhappaaDoorPA
namespace Go.Proofs.YtafmgkiddhappaaDoor
open Go.Sx Go.RowKit

def fadeN : Nat → Int → Int → Int
  | 0, _, n => n
  | k + 1, f, n => fadeN k f (n * f / 64)
theorem fade_mul (n f : Int) (hn : 0 ≤ n ∧ n ≤ 1073741824) (hf : 0 ≤ f ∧ f ≤ 64) : 0 ≤ n * f ∧ n * f ≤ 68719476736 ∧ 0 ≤ n * f / 64 ∧ n * f / 64 ≤ 1073741824 := by
  have h1 : 0 ≤ n * f := Int.mul_nonneg hn.1 hf.1
  have h2 : n * f ≤ 1073741824 * 64 := Int.mul_le_mul hn.2 hf.2 hf.1 (by omega)
  omega
theorem fadeN_bd : ∀ (k : Nat) (n f : Int), (0 ≤ n ∧ n ≤ 1073741824) → (0 ≤ f ∧ f ≤ 64) → 0 ≤ fadeN k f n ∧ fadeN k f n ≤ 1073741824
  | 0, _, _, hn, _ => hn
  | k + 1, n, f, hn, hf => fadeN_bd k _ f ⟨(fade_mul n f hn hf).2.2.1, (fade_mul n f hn hf).2.2.2⟩ hf
def years (day : Int) (s : Sale) : Nat := ((day - s.day) / 365).toNat
def craftOf (fade : List Int) (day : Int) (s : Sale) : Int := fadeN (years day s) (fade.getD s.kind.toNat 0) (max 0 (s.price - s.weight * s.metal))
theorem okSale_parts {nf day : Int} {s : Sale} (h : okSale nf day s = true) : (0 ≤ s.kind ∧ s.kind ≤ nf - 1) ∧ (0 ≤ s.day ∧ s.day ≤ day) ∧ (0 ≤ s.weight ∧ s.weight ≤ 1000) ∧ (0 ≤ s.metal ∧ s.metal ≤ 100000) ∧ (0 ≤ s.price ∧ s.price ≤ 1073741824) := by
  simp only [okSale, btw, Bool.and_eq_true, decide_eq_true_eq] at h
  omega
theorem craft_first {nf day : Int} {s : Sale} (h : okSale nf day s = true) : (0 ≤ s.weight * s.metal ∧ s.weight * s.metal ≤ 100000000) ∧ (0 ≤ max 0 (s.price - s.weight * s.metal) ∧ max 0 (s.price - s.weight * s.metal) ≤ 1073741824) := by
  obtain ⟨_, _, h1, h2, h3⟩ := okSale_parts h
  have h4 : 0 ≤ s.weight * s.metal := Int.mul_nonneg h1.1 h2.1
  have h5 : s.weight * s.metal ≤ 1000 * 100000 := Int.mul_le_mul h1.2 h2.2 h2.1 (by omega)
  omega
theorem fade_in {fade : List Int} (h : fade.all (fun n => btw 0 n 64) = true) (i : Nat) : 0 ≤ fade.getD i 0 ∧ fade.getD i 0 ≤ 64 := by
  by_cases hi : i < fade.length
  · have := List.all_eq_true.1 h (fade[i]) (List.getElem_mem hi)
    rw [List.getD_eq_getElem?_getD, List.getElem?_eq_getElem hi]
    simp only [btw, Bool.and_eq_true, decide_eq_true_eq] at this
    simpa using this
  · rw [List.getD_eq_getElem?_getD, List.getElem?_eq_none (by omega)]; simp
theorem craftOf_bd {fade : List Int} {nf day : Int} {s : Sale} (hok : okSale nf day s = true) (hfa : fade.all (fun n => btw 0 n 64) = true) : 0 ≤ craftOf fade day s ∧ craftOf fade day s ≤ 1073741824 :=
  fadeN_bd _ _ _ (craft_first hok).2 (fade_in hfa _)
theorem badMarket_parts {sales : List Sale} {fade : List Int} {metal day few : Int} (h : badMarket sales fade metal day few = false) :
    fade.all (fun n => btw 0 n 64) = true ∧ (1 ≤ fade.length ∧ fade.length ≤ 8) ∧ (0 ≤ metal ∧ metal ≤ 100000) ∧ (0 ≤ day ∧ day ≤ 36500) ∧ (1 ≤ few ∧ few ≤ 16) ∧ sales.length ≤ 64 ∧ ∀ s ∈ sales, okSale fade.length day s = true := by
  have h0 := ref_market sales fade metal day few
  rw [h] at h0
  simp only [okM, btw, Bool.not_false, Bool.and_eq_true, decide_eq_true_eq] at h0
  obtain ⟨⟨⟨⟨⟨⟨h1, h2⟩, h3⟩, h4⟩, h5⟩, h6⟩, h7⟩ := h0
  exact ⟨h6, by omega, h2, h3, h4, by omega, List.all_eq_true.1 h7⟩
theorem take_eq_succ {xs ys : List Int} {k : Nat} {x y : Int} (hx : xs[k]? = some x) (hy : ys[k]? = some y) : (xs.take (k + 1) = ys.take (k + 1)) ↔ (xs.take k = ys.take k ∧ x = y) := by
  rw [List.take_add_one, List.take_add_one, hx, hy]
  constructor
  · intro h
    have := List.append_inj' h (by simp)
    simpa using this
  · rintro ⟨h1, rfl⟩
    rw [h1]
/-- rings -/
def ringI (n m : Int) : Int := if m ≤ 0 then 0 else ((n.tmod m) + m).tmod m
end Go.Proofs.YtafmgkiddhappaaDoor
