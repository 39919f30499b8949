/- What an argument that can be read is to the small logic: slices that read as lists. Conditions: none; a library of lemmas. -/
import Derived.Test.YtafmgkiddhappaaDoorSxL
import Derived.ProofKit
namespace Go.Sx
open Go.RowKit Go.ChangeShapes

section
variable {H : Type} {enc0 : TypeId × Value → H} {P : Program} {w : World} {base : Nat} {spare : Nat → Bool} {held : Bool}

/-- A struct of ints, a cell each. -/
theorem ints_of_trod {t T : TypeId} {fs : Array Field} {fuel : Nat} {cs : List Value} {x : DataW H × List MemPlace} (ht : P.underlying t = some (.struct fs)) (hall : ∀ (i : Nat) (f : Field), fs[i]? = some f → f.type = T ∧ f.offset = i) (hT : P.underlying T = some (.int .i64)) (hcT : P.cellsOf T = 1) (hc : P.cellsOf t = fs.size)
    (h : DataW.trod enc0 P w base spare held fuel t cs = some x) : ∃ ns : List Int, ns.length = fs.size ∧ cs = ns.map (Value.int .i64) := by
  obtain ⟨xs, n, _, _, hl, hxl, hf⟩ := DataW.trod_struct ht h
  have hcell : ∀ i, i < fs.size → ∃ m : Int, cs[i]? = some (.int .i64 m) := by
    intro i hi
    have hfi : fs[i]? = some fs[i] := Array.getElem?_eq_getElem hi
    have h1 := hf i _ hfi
    obtain ⟨e1, e2⟩ := hall i _ hfi
    rw [e1, e2, hcT] at h1
    have hx : xs[i]? = some (xs[i]'(by omega)) := List.getElem?_eq_getElem (by omega)
    rw [hx] at h1
    obtain ⟨m, hm, _⟩ := DataW.trod_int hT h1
    refine ⟨m, ?_⟩
    have h2 : ((cs.drop i).take 1)[0]? = some (.int .i64 m) := by rw [hm]; rfl
    rw [List.getElem?_take_of_lt (by omega), List.getElem?_drop] at h2
    simpa using h2
  have key : ∀ (k : Nat) (cs : List Value), cs.length = k → (∀ i, i < k → ∃ m : Int, cs[i]? = some (.int .i64 m)) → ∃ ns : List Int, ns.length = k ∧ cs = ns.map (Value.int .i64) := by
    intro k
    induction k with
    | zero => intro cs hl _; exact ⟨[], rfl, List.eq_nil_of_length_eq_zero hl⟩
    | succ k ih =>
      intro cs hl hk
      cases cs with
      | nil => simp at hl
      | cons c cs =>
        obtain ⟨m, hm⟩ := hk 0 (by omega)
        obtain ⟨ns, h1, h2⟩ := ih cs (by simpa using hl) (fun i hi => by
          obtain ⟨m, hm⟩ := hk (i + 1) (by omega)
          exact ⟨m, by simpa using hm⟩)
        exact ⟨m :: ns, by simp [h1], by simp at hm; simp [hm, h2]⟩
  exact key fs.size cs (by rw [hl, hc]) hcell

theorem cells_get {a : Addr} {n : Nat} {cs : List Value} (h : w.cells? base a n = some cs) : cs.length = n ∧ ∀ (j : Nat) (u : Value), cs[j]? = some u → w.cell? (a.add j) = some u := by
  unfold World.cells? at h
  split at h
  · have hl := mapM_some_length h
    refine ⟨by simpa using hl, fun j u hj => ?_⟩
    have hjn : j < n := by have := (List.getElem?_eq_some_iff.1 hj).1; rw [hl] at this; simpa using this
    have := mapM_some_get h j j (by simp [hjn])
    rw [this]; exact hj
  · cases h

/-- A slice that can be read. -/
theorem rd_of_trod {α : Type} {t e : TypeId} {sz fuel : Nat} (enc : α → List Value) {cs : List Value} {x : DataW H × List MemPlace} (ht : P.underlying t = some (.slice e)) (hsz : P.cellsOf e = sz) (hpos : 0 < sz) (henc : ∀ s, (enc s).length = sz)
    (hdec : ∀ (n : Nat) (cs : List Value) (y : DataW H × List MemPlace), DataW.trod enc0 P w base spare held n e cs = some y → ∃ s : α, cs = enc s)
    (h : DataW.trod enc0 P w base spare held fuel t cs = some x) : ∃ (A : Option Addr) (c : Nat) (xs : List α), cs = [.slice A xs.length c] ∧ Rd w sz enc A xs := by
  rcases DataW.trod_slice ht h with ⟨hcs, _⟩ | ⟨a, len, cap, elems, rest, n, _, hcs, _, _, hl, hm, hel, hget, _⟩
  · exact ⟨none, 0, [], hcs, Rd.nil⟩
  · have hone : ∀ i, i < len → ∃ s : α, w.cells? base (a.add (i * sz)) sz = some (enc s) := by
      intro i hi
      have h1 := hget i hi
      rw [hsz] at h1
      have hx : elems[i]? = some (elems[i]'(by omega)) := List.getElem?_eq_getElem (by omega)
      rw [hx] at h1
      obtain ⟨cs', h2, h3⟩ := Option.bind_eq_some_iff.1 h1
      obtain ⟨s, rfl⟩ := hdec n cs' _ h3
      exact ⟨s, h2⟩
    have key : ∀ k, k ≤ len → ∃ xs : List α, xs.length = k ∧ ∀ i s, xs[i]? = some s → w.cells? base (a.add (i * sz)) sz = some (enc s) := by
      intro k
      induction k with
      | zero => intro _; exact ⟨[], rfl, fun i s hs => by simp at hs⟩
      | succ k ih =>
        intro hk
        obtain ⟨xs, h1, h2⟩ := ih (by omega)
        obtain ⟨s, hs⟩ := hone k (by omega)
        refine ⟨xs ++ [s], by simp [h1], fun i s' hs' => ?_⟩
        by_cases hi : i < xs.length
        · rw [List.getElem?_append_left hi] at hs'; exact h2 i s' hs'
        · rw [List.getElem?_append_right (by omega)] at hs'
          have : i = k := by
            have := (List.getElem?_eq_some_iff.1 hs').1
            simp at this; omega
          subst this
          rw [h1] at hs'
          simp at hs'
          rw [← hs']; exact hs
    obtain ⟨xs, h1, h2⟩ := key len (Nat.le_refl _)
    refine ⟨some a, cap, xs, by rw [h1]; exact hcs, by rw [h1]; omega, fun hne => ⟨a, rfl, ?_, fun i s j u hs hu => ?_⟩⟩
    · obtain ⟨s, hs⟩ : ∃ s, xs[0]? = some s := by cases xs with | nil => exact absurd rfl hne | cons s l => exact ⟨s, rfl⟩
      have h3 := cells_get (h2 0 s hs)
      obtain ⟨u, hu⟩ : ∃ u, (enc s)[0]? = some u := ⟨_, List.getElem?_eq_getElem (by rw [henc]; exact hpos)⟩
      have h4 := h3.2 0 u hu
      have := World.block_lt_of_cell? _ _ h4
      simpa [block_add] using this
    · have h3 := cells_get (h2 i s hs)
      have := h3.2 j u hu
      rwa [add_add] at this
end
end Go.Sx
