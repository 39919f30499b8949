/- Sorting ints that a function owns: between the library's words on rows and the small logic's. Conditions: none; a library of lemmas. -/
import Derived.Test.YtafmgkiddhappaaDoorSxJ
import Derived.Shelf.SlSortCmp.NoneTotal
import Derived.Lib.OwnBridge
import Derived.Lib.SortBridge
import Derived.Lib.SlKeysI
namespace Go.Sx
open Go.RowKit Go.Sort Go.Shelf Go.Proofs

/-- Ints within bounds. -/
abbrev BInt (lo hi : Int) := { n : Int // lo ≤ n ∧ n ≤ hi }
abbrev encBI {lo hi : Int} (x : BInt lo hi) : Value := .int .i64 x.1


def sortI (xs : List Int) : List Int := xs.mergeSort (fun x y => decide (x ≤ y))
theorem sortI_len (xs : List Int) : (sortI xs).length = xs.length := List.length_mergeSort ..

theorem sortI_pairwise (xs : List Int) : (sortI xs).Pairwise (· ≤ ·) := by
  have := List.pairwise_mergeSort (le := fun x y : Int => decide (x ≤ y)) (fun a b c h1 h2 => by simp only [decide_eq_true_eq] at *; omega) (fun a b => by simp only [Bool.or_eq_true, decide_eq_true_eq]; omega) xs
  exact this.imp (fun h => of_decide_eq_true h)
theorem sortI_perm (xs : List Int) : (sortI xs).Perm xs := List.mergeSort_perm ..
theorem sorted_unique {l l' : List Int} (h : l.Pairwise (· ≤ ·)) (h' : l'.Pairwise (· ≤ ·)) (hp : l.Perm l') : l = l' :=
  List.Perm.eq_of_pairwise (fun _ _ _ _ h1 h2 => Int.le_antisymm h1 h2) h h' hp

def cfB {lo hi : Int} (x y : BInt lo hi) : Int := x.1 - y.1
theorem ltB {lo hi : Int} (x y : BInt lo hi) : ltOf cfB x y = decide (x.1 < y.1) := by
  unfold ltOf cfB
  by_cases h : x.1 < y.1
  · rw [decide_eq_true h, decide_eq_true (by omega)]
  · rw [decide_eq_false h, decide_eq_false (by omega)]
theorem swoB {lo hi : Int} : SWO (ltOf (cfB (lo := lo) (hi := hi))) where
  irrefl x := by rw [ltB]; simp
  trans x y z h1 h2 := by rw [ltB] at *; simp at *; omega
  ntrans x y z h1 h2 := by rw [ltB] at *; simp at *; omega
theorem totB {lo hi : Int} (x y : BInt lo hi) (h1 : ltOf cfB x y = false) (h2 : ltOf cfB y x = false) : x = y := by
  rw [ltB] at *; simp at *; exact Subtype.ext (by omega)

theorem flatMap_enInt (xs : List Int) : xs.flatMap enInt = xs.map (Value.int .i64) := by
  induction xs with
  | nil => rfl
  | cons x xs ih => rw [List.flatMap_cons, ih]; rfl

/-- slices.SortFunc of ints by their difference. -/
theorem calls_sortI {P : Program} {ρ : Ren} (L : SlLaysF.n6 P ρ) (g : Nat) (lo hi : Int) (eg : ∀ args w, (callFunc g args).run P w = .ok (.enter g args) w)
    (hcmp : ∀ (x y : BInt lo hi) (W : World), Calls P g #[.int .i64 x.1, .int .i64 y.1] W (fun e w' => e = .returned (.int .i64 (x.1 - y.1)) ∧ ∃ q, w' = W.drewN q))
    (e c : Nat) (A : Option Addr) (xs : List Int) (w : World) (hx : ∀ x ∈ xs, lo ≤ x ∧ x ≤ hi) (hl : xs.length < 4611686018427387904) (ho : (ow e 1 enInt A c xs).P w) :
    Calls P (ρ.f 6) #[.slice A xs.length c, .func (.func g) #[] #[]] w (fun en w' => en = .returned (.tuple #[]) ∧ Mut (ow e 1 enInt A c xs) w w' ∧ (ow e 1 enInt A c (sortI xs)).P w') := by
  obtain ⟨d, hd⟩ : ∃ d : List (BInt lo hi), d.map (·.1) = xs := ⟨xs.pmap (fun x h => ⟨x, h⟩) hx, by simp [List.map_pmap]⟩
  subst hd
  by_cases hd0 : d = []
  · subst hd0
    have hS := AnyF.slices_SortFunc_none (P := P) (ρ := ρ) { L with } A c (.func (.func g) #[] #[]) w
    refine hS.mono fun en w' hh => ?_
    obtain ⟨he, hw⟩ := hh
    rw [hw]
    have e0 : sortI (([] : List (BInt lo hi)).map (·.1)) = [] := by simp [sortI]
    rw [e0]
    exact ⟨he, ⟨rfl, rfl, rfl, Nat.le_refl _, fun _ _ _ => rfl⟩, ho⟩
  · letI : Inhabited (BInt lo hi) := ⟨d.head hd0⟩
    have hlen : (d.map (·.1)).length = d.length := List.length_map ..
    have h1 : w.ownsRow 0 e 1 (.slice A d.length c) d.length (d.map encBI) := by
      have : w.ownsRow 0 e 1 (.slice A (d.map (·.1)).length c) (d.map (·.1)).length ((d.map (·.1)).flatMap enInt) := ho
      rw [flatMap_enInt, List.map_map, hlen] at this
      exact this
    obtain ⟨b, cap, hv, _, hb, hn, hm, _, hH⟩ := Lib.holds_of_ownsRow h1 (by intro h; injection h with _ h2; exact hd0 (List.eq_nil_of_length_eq_zero h2))
    injection hv with hA _ hc
    subst hA; subst hc
    have hS := Any.slices_SortFunc_total L (encBI (lo := lo) (hi := hi)) (fun _ => rfl) cfB swoB g #[] b 0 c d.toArray w eg (CmpReads.lays (fun _ _ _ _ x y => hcmp x y _)) hH hb (by simpa using hl) totB
    rw [show d.toArray.size = (d.map (·.1)).length by simp] at hS
    refine hS.mono fun en w' hh => ?_
    obtain ⟨he, q, os, hw⟩ := hh
    refine ⟨he, ?_⟩
    obtain ⟨ys, hys⟩ : ∃ ys, ys = d.mergeSort fun x y => !(ltOf cfB) y x := ⟨_, rfl⟩
    have hyl : ys.length = d.length := by rw [hys]; exact List.length_mergeSort ..
    have hsort : sortI (d.map (·.1)) = ys.map (·.1) := by
      rw [hys]
      refine (List.map_mergeSort (fun x _ y _ => ?_)).symm
      rw [ltB]
      by_cases h : x.1 ≤ y.1
      · rw [decide_eq_true h, decide_eq_false (by omega)]; rfl
      · rw [decide_eq_false h, decide_eq_true (by omega)]; rfl
    have hw2 : w' = grow (putRow encBI (Sort.ahead w q) b 0 ys.toArray) os := by rw [hw, hys]; rfl
    have hrow := Lib.ownsRow_putRow (q := q) h1 hyl (Nat.le_refl _)
    have hsz : (putRow (encBI (lo := lo) (hi := hi)) (Sort.ahead w q) b 0 ys.toArray).heap.size = w.heap.size := by simp [putRow, mapBlock, Sort.ahead]
    constructor
    · rw [hw2]
      refine ⟨rfl, rfl, rfl, by simp, fun k hk hne => ?_⟩
      rw [heap_grow_old _ _ (by rw [hsz]; exact hk)]
      have hbk : b ≠ k := fun h => hne (by rw [← h]; rfl)
      simp [putRow, mapBlock, Sort.ahead, Array.getElem?_modify, hbk]
    · rw [hsort, hw2]
      have h2 : (putRow (encBI (lo := lo) (hi := hi)) (Sort.ahead w q) b 0 ys.toArray).ownsRow 0 e 1 (.slice (some ⟨b, 0, none⟩) (ys.map (·.1)).length c) (ys.map (·.1)).length ((ys.map (·.1)).flatMap enInt) := by
        rw [flatMap_enInt, List.map_map, List.length_map, hyl]
        have h3 : ys.take d.length = ys := List.take_of_length_le (by omega)
        rw [h3] at hrow
        exact hrow
      refine (ow e 1 enInt (some ⟨b, 0, none⟩) c (ys.map (fun x : BInt lo hi => x.1))).stab (w := putRow encBI (Sort.ahead w q) b 0 ys.toArray) (fun k hk => ?_) h2
      have hbk : b = k := by
        have : (Value.slice (some ⟨b, 0, none⟩) (ys.map (·.1)).length c).ownBlock = some k := hk
        injection this
      rw [heap_grow_old _ _ (by rw [hsz]; omega)]
end Go.Sx
