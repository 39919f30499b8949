/- Loans: two ways to the crafts of a kind. Conditions: none. -/
import Derived.Test.YtafmgkiddhappaaDoorPC
import Derived.Test.YtafmgkiddhappaaDoorSxK
namespace Go.Proofs.YtafmgkiddhappaaDoor
open Go.Sx Go.RowKit

theorem ins_perm (l : List Int) (n : Int) : (ins l n).Perm (l ++ [n]) := by
  unfold ins
  rw [List.append_assoc]
  refine (List.perm_append_comm_assoc ..).trans ?_
  rw [List.take_append_drop]
  exact List.perm_append_comm
theorem upTo_drop : ∀ (l : List Int) (n : Int), l.Pairwise (· ≤ ·) → ∀ x ∈ l.drop (upTo l n), n ≤ x
  | [], _, _, x, hx => by simp at hx
  | y :: l, n, h, x, hx => by
    by_cases hy : y ≤ n
    · have : upTo (y :: l) n = upTo l n + 1 := by simp [upTo, hy]
      rw [this, List.drop_succ_cons] at hx
      exact upTo_drop l n (List.pairwise_cons.1 h).2 x hx
    · have : upTo (y :: l) n = 0 := by simp [upTo, hy]
      rw [this, List.drop_zero] at hx
      rcases List.mem_cons.1 hx with rfl | hx
      · omega
      · have := (List.pairwise_cons.1 h).1 x hx; omega
theorem upTo_take : ∀ (l : List Int) (n : Int), ∀ x ∈ l.take (upTo l n), x ≤ n
  | [], _, x, hx => by simp at hx
  | y :: l, n, x, hx => by
    by_cases hy : y ≤ n
    · have : upTo (y :: l) n = upTo l n + 1 := by simp [upTo, hy]
      rw [this, List.take_succ_cons] at hx
      rcases List.mem_cons.1 hx with rfl | hx
      · exact hy
      · exact upTo_take l n x hx
    · have : upTo (y :: l) n = 0 := by simp [upTo, hy]
      rw [this, List.take_zero] at hx; cases hx
theorem ins_sorted (l : List Int) (n : Int) (h : l.Pairwise (· ≤ ·)) : (ins l n).Pairwise (· ≤ ·) := by
  unfold ins
  rw [List.append_assoc, List.pairwise_append]
  refine ⟨h.sublist (List.take_sublist ..), ?_, fun x hx y hy => ?_⟩
  · rw [List.singleton_append, List.pairwise_cons]
    exact ⟨upTo_drop l n h, h.sublist (List.drop_sublist ..)⟩
  · have h1 := upTo_take l n x hx
    rcases List.mem_append.1 hy with hy | hy
    · rw [List.mem_singleton.1 hy]; exact h1
    · have := upTo_drop l n h y hy; omega
def ofKind (sales : List Sale) (kind : Int) : List Sale := sales.filter (fun s => decide (s.kind = kind))
def rawCrafts (sales : List Sale) (fade : List Int) (day kind : Int) : List Int := (ofKind sales kind).map (craftOf fade day)
theorem fold_perm (fade : List Int) (day kind : Int) : ∀ (sales : List Sale) (out : List Int), out.Pairwise (· ≤ ·) →
    (sales.foldl (fun out s => if s.kind = kind then ins out (craftOf fade day s) else out) out).Pairwise (· ≤ ·) ∧ (sales.foldl (fun out s => if s.kind = kind then ins out (craftOf fade day s) else out) out).Perm (out ++ rawCrafts sales fade day kind)
  | [], out, h => by simp [rawCrafts, ofKind, h]
  | s :: l, out, h => by
    rw [List.foldl_cons]
    by_cases hk : s.kind = kind
    · rw [if_pos hk]
      obtain ⟨h1, h2⟩ := fold_perm fade day kind l _ (ins_sorted out (craftOf fade day s) h)
      refine ⟨h1, h2.trans ?_⟩
      have : rawCrafts (s :: l) fade day kind = craftOf fade day s :: rawCrafts l fade day kind := by simp [rawCrafts, ofKind, hk]
      rw [this]
      refine ((ins_perm out _).append_right _).trans ?_
      rw [List.append_assoc]; rfl
    · rw [if_neg hk]
      obtain ⟨h1, h2⟩ := fold_perm fade day kind l out h
      have : rawCrafts (s :: l) fade day kind = rawCrafts l fade day kind := by simp [rawCrafts, ofKind, hk]
      rw [this]; exact ⟨h1, h2⟩
theorem craftsOf_eq (sales : List Sale) (fade : List Int) (day kind : Int) : craftsOf sales fade day kind = sortI (rawCrafts sales fade day kind) := by
  obtain ⟨h1, h2⟩ := fold_perm fade day kind sales [] List.Pairwise.nil
  exact sorted_unique h1 (sortI_pairwise _) (h2.trans (sortI_perm _).symm)
theorem craftsOf_sorted (sales : List Sale) (fade : List Int) (day kind : Int) : (craftsOf sales fade day kind).Pairwise (· ≤ ·) := by rw [craftsOf_eq]; exact sortI_pairwise _
theorem craftsOf_len (sales : List Sale) (fade : List Int) (day kind : Int) : (craftsOf sales fade day kind).length ≤ sales.length := by
  rw [craftsOf_eq, sortI_len]; simp [rawCrafts, ofKind]; exact List.length_filter_le ..
theorem craftsOf_bd {sales : List Sale} {fade : List Int} {day : Int} {nf : Int} (kind : Int) (hs : ∀ s ∈ sales, okSale nf day s = true) (hfa : fade.all (fun n => btw 0 n 64) = true) : ∀ x ∈ craftsOf sales fade day kind, 0 ≤ x ∧ x ≤ 1073741824 := by
  intro x hx
  rw [craftsOf_eq] at hx
  have := (sortI_perm _).mem_iff.1 hx
  obtain ⟨s, h1, rfl⟩ := List.mem_map.1 this
  exact craftOf_bd (hs s (List.mem_filter.1 h1).1) hfa
def cnt (sales : List Sale) (kind : Int) (i : Nat) : Nat := (ofKind (sales.take i) kind).length
theorem cnt_yes (sales : List Sale) (kind : Int) (i : Nat) (s : Sale) (h : sales[i]? = some s) (hk : s.kind = kind) : cnt sales kind (i + 1) = cnt sales kind i + 1 ∧ (ofKind sales kind)[cnt sales kind i]? = some s := by
  obtain ⟨hi, he⟩ := List.getElem?_eq_some_iff.1 h
  have h1 : sales.take (i + 1) = sales.take i ++ [s] := by rw [List.take_add_one, h]; rfl
  have h2 : ofKind (sales.take (i + 1)) kind = ofKind (sales.take i) kind ++ [s] := by rw [h1]; simp [ofKind, hk]
  refine ⟨by simp [cnt, h2], ?_⟩
  have h3 : ofKind sales kind = ofKind (sales.take (i + 1)) kind ++ ofKind (sales.drop (i + 1)) kind := by rw [ofKind, ofKind, ofKind, ← List.filter_append, List.take_append_drop]
  rw [h3, h2]
  simp [cnt]
theorem cnt_no (sales : List Sale) (kind : Int) (i : Nat) (s : Sale) (h : sales[i]? = some s) (hk : ¬ s.kind = kind) : cnt sales kind (i + 1) = cnt sales kind i := by
  have h1 : sales.take (i + 1) = sales.take i ++ [s] := by rw [List.take_add_one, h]; rfl
  simp [cnt, h1, ofKind, hk]
theorem cnt_end (sales : List Sale) (kind : Int) (i : Nat) (h : sales.length ≤ i) : cnt sales kind i = (ofKind sales kind).length := by rw [cnt, List.take_of_length_le h]
end Go.Proofs.YtafmgkiddhappaaDoor
