/- Loans: what holds of values. Conditions: none. -/
import Derived.Test.YtafmgkiddhappaaDoorPF
namespace Go.Proofs.YtafmgkiddhappaaDoor
open Go.Sx Go.RowKit

theorem valueOf_err {sales : List Sale} {fade : List Int} {metal day few kind wmin wmax : Int} (h : (valueOf sales fade metal day few kind wmin wmax).err ≠ 0) : (valueOf sales fade metal day few kind wmin wmax).lo = 0 ∧ (valueOf sales fade metal day few kind wmin wmax).hi = 0 := by
  unfold valueOf at h ⊢
  split at h
  · rename_i h1; rw [if_pos h1]; exact ⟨rfl, rfl⟩
  · rename_i h1; rw [if_neg h1]
    split at h
    · rename_i h2; rw [if_pos h2]; exact ⟨rfl, rfl⟩
    · rename_i h2; rw [if_neg h2]
      split at h
      · rename_i h3; rw [if_pos h3]; exact ⟨rfl, rfl⟩
      · exact absurd rfl h
theorem valueOf_ok {sales : List Sale} {fade : List Int} {metal day few kind wmin wmax : Int} (h : (valueOf sales fade metal day few kind wmin wmax).err = 0) :
    badMarket sales fade metal day few = false ∧ badWare fade.length kind wmin wmax = false ∧ few ≤ ((craftsOf sales fade day kind).length : Int) ∧ valueOf sales fade metal day few kind wmin wmax = midOf (craftsOf sales fade day kind) metal wmin wmax := by
  unfold valueOf at h ⊢
  cases h1 : badMarket sales fade metal day few
  · cases h2 : badWare fade.length kind wmin wmax
    · by_cases h3 : ((craftsOf sales fade day kind).length : Int) < few
      · rw [h1, h2] at h; simp [h3] at h
      · refine ⟨rfl, rfl, by omega, ?_⟩
        simp [h3]
    · rw [h1, h2] at h; simp at h
  · rw [h1] at h; simp at h
theorem badMarket_metal {sales : List Sale} {fade : List Int} {metal m2 day few : Int} (h : badMarket sales fade metal day few = false) (hm : 0 ≤ m2 ∧ m2 ≤ 100000) : badMarket sales fade m2 day few = false := by
  obtain ⟨_, _, h3, _⟩ := badMarket_parts h
  have e1 : btw 0 metal 100000 = true := by simp only [btw, Bool.and_eq_true, decide_eq_true_eq]; exact h3
  have e2 : btw 0 m2 100000 = true := by simp only [btw, Bool.and_eq_true, decide_eq_true_eq]; exact hm
  unfold badMarket badM at *
  rw [e1] at h
  rw [e2]; exact h
theorem valueOf_mk {sales : List Sale} {fade : List Int} {metal day few kind wmin wmax : Int} (h1 : badMarket sales fade metal day few = false) (h2 : badWare fade.length kind wmin wmax = false) (h3 : few ≤ ((craftsOf sales fade day kind).length : Int)) :
    valueOf sales fade metal day few kind wmin wmax = midOf (craftsOf sales fade day kind) metal wmin wmax := by
  unfold valueOf
  rw [h1, h2, if_neg (by simp), if_neg (by simp), if_neg (by omega)]
theorem CraftsL_ok {sales : List Sale} {fade : List Int} {metal day few kind wmin wmax : Int} (h1 : badMarket sales fade metal day few = false) (h2 : badWare fade.length kind wmin wmax = false) :
    CraftsL sales fade metal day few kind = craftsOf sales fade day kind ∧ CraftsE sales fade metal day few kind = 0 := by
  have h3 : btw 0 kind (fade.length - 1) = true := by
    obtain ⟨hk, _⟩ := badWare_no h2
    simp only [btw, Bool.and_eq_true, decide_eq_true_eq]; exact hk
  exact ⟨by simp [CraftsL, h1, h3], by simp [CraftsE, h1, h3]⟩
theorem sorted_getD {l : List Int} (h : l.Pairwise (· ≤ ·)) {i j : Nat} (hij : i ≤ j) (hj : j < l.length) : l.getD i 0 ≤ l.getD j 0 := by
  rw [List.getD_eq_getElem?_getD, List.getD_eq_getElem?_getD, List.getElem?_eq_getElem hj, List.getElem?_eq_getElem (by omega)]
  rcases Nat.lt_or_ge i j with h1 | h1
  · exact List.pairwise_iff_getElem.1 h i j (by omega) hj h1
  · have : i = j := by omega
    subst this; exact Int.le_refl _
theorem ring_bd (n m : Int) (h : 0 < m) : 0 ≤ ringI n m ∧ ringI n m < m := by
  unfold ringI
  rw [if_neg (by omega)]
  have h1 := Int.tmod_lt_of_pos n h
  have h2 := Int.lt_tmod_of_pos n h
  have h3 : 0 ≤ n.tmod m + m := by omega
  rw [Int.tmod_eq_emod_of_nonneg h3]
  exact ⟨Int.emod_nonneg _ (by omega), Int.emod_lt_of_pos _ h⟩
theorem middle {l : List Int} (h : l.Pairwise (· ≤ ·)) (q : Nat) (hq : 4 * q < l.length) : l.length ≤ 2 * l.countP (fun x => btw (l.getD q 0) x (l.getD (l.length - 1 - q) 0)) := by
  have hs : ((l.drop q).take (l.length - 2 * q)).Sublist l := (List.take_sublist ..).trans (List.drop_sublist ..)
  have h1 : ((l.drop q).take (l.length - 2 * q)).countP (fun x => btw (l.getD q 0) x (l.getD (l.length - 1 - q) 0)) ≤ l.countP (fun x => btw (l.getD q 0) x (l.getD (l.length - 1 - q) 0)) := hs.countP_le
  have h2 : ((l.drop q).take (l.length - 2 * q)).countP (fun x => btw (l.getD q 0) x (l.getD (l.length - 1 - q) 0)) = ((l.drop q).take (l.length - 2 * q)).length := by
    refine List.countP_eq_length.2 fun x hx => ?_
    obtain ⟨i, hi, rfl⟩ := List.getElem_of_mem hx
    simp only [List.length_take, List.length_drop] at hi
    have e : ((l.drop q).take (l.length - 2 * q))[i] = l.getD (q + i) 0 := by
      rw [List.getElem_take, List.getElem_drop, List.getD_eq_getElem?_getD, List.getElem?_eq_getElem (by omega)]; rfl
    rw [e]
    simp only [btw, Bool.and_eq_true, decide_eq_true_eq]
    exact ⟨sorted_getD h (by omega) (by omega), sorted_getD h (by omega) (by omega)⟩
  rw [h2] at h1
  simp only [List.length_take, List.length_drop] at h1
  omega
theorem countP_take {l : List Int} (p : Int → Bool) (i : Nat) (x : Int) (h : l[i]? = some x) : (l.take (i + 1)).countP p = (l.take i).countP p + (if p x then 1 else 0) := by
  rw [List.take_add_one, h]
  simp only [Option.toList, List.countP_append, List.countP_cons, List.countP_nil]
  omega
end Go.Proofs.YtafmgkiddhappaaDoor
