/- What reads grammars and descriptions as arguments. Conditions: none. -/
import Derived.Test.YtafmgkiddhappaaDoorYFrC
import Derived.Test.YtafmgkiddhappaaDoorYPItem
namespace Go.Proofs.YtafmgkiddhappaaDoor
open Go.Sx Go.RowKit Go.ChangeShapes Go.WideShapes Go.ChangeAt
set_option maxRecDepth 100000
theorem yc3 : Tryd.prog.cellsOf 3 = 1 := by kernel_rfl
theorem yc4 : Tryd.prog.cellsOf 4 = 1 := by kernel_rfl
theorem yc9 : Tryd.prog.cellsOf 9 = 1 := by kernel_rfl
theorem yc99 : Tryd.prog.cellsOf 99 = 1 := by kernel_rfl
theorem yc100 : Tryd.prog.cellsOf 100 = 1 := by kernel_rfl
theorem yc101 : Tryd.prog.cellsOf 101 = 1 := by kernel_rfl
theorem yc103 : Tryd.prog.cellsOf 103 = 3 := by kernel_rfl
theorem yc105 : Tryd.prog.cellsOf 105 = 7 := by kernel_rfl
theorem yc170 : Tryd.prog.cellsOf 170 = 1 := by kernel_rfl
theorem yc172 : Tryd.prog.cellsOf 172 = 4 := by kernel_rfl
theorem yc177 : Tryd.prog.cellsOf 177 = 3 := by kernel_rfl
theorem rd_of_trodP {H : Type} {enc0 : TypeId × Value → H} {P : Program} {w : World} {base : Nat} {spare : Nat → Bool} {held : Bool} {α : Type} {t e : TypeId} {sz fuel : Nat} (enc : α → List Value) (G : α → Prop) {cs : List Value} {x : DataW H × List MemPlace} (ht : P.underlying t = some (.slice e)) (hsz : P.cellsOf e = sz) (hpos : 0 < sz) (henc : ∀ s, (enc s).length = sz)
    (hdec : ∀ (n : Nat) (cs : List Value) (y : DataW H × List MemPlace), n < fuel → DataW.trod enc0 P w base spare held n e cs = some y → ∃ s : α, cs = enc s ∧ G s)
    (h : DataW.trod enc0 P w base spare held fuel t cs = some x) : ∃ (A : Option Addr) (c : Nat) (xs : List α), cs = [.slice A xs.length c] ∧ Rd w sz enc A xs ∧ ∀ s ∈ xs, G s := by
  rcases DataW.trod_slice ht h with ⟨hcs, _⟩ | ⟨a, len, cap, elems, rest, n, hfu, hcs, _, _, hl, hm, hel, hget, _⟩
  · exact ⟨none, 0, [], hcs, Rd.nil, by simp⟩
  · have hone : ∀ i, i < len → ∃ s : α, w.cells? base (a.add (i * sz)) sz = some (enc s) ∧ G s := by
      intro i hi
      have h1 := hget i hi
      rw [hsz] at h1
      have hx : elems[i]? = some (elems[i]'(by omega)) := List.getElem?_eq_getElem (by omega)
      rw [hx] at h1
      obtain ⟨cs', h2, h3⟩ := Option.bind_eq_some_iff.1 h1
      obtain ⟨s, rfl, hs⟩ := hdec n cs' _ (by omega) h3
      exact ⟨s, h2, hs⟩
    have key : ∀ k, k ≤ len → ∃ xs : List α, xs.length = k ∧ ∀ i s, xs[i]? = some s → w.cells? base (a.add (i * sz)) sz = some (enc s) ∧ G s := by
      intro k
      induction k with
      | zero => intro _; exact ⟨[], rfl, fun i s hs => by simp at hs⟩
      | succ k ih =>
        intro hk
        obtain ⟨xs, h1, h2⟩ := ih (by omega)
        obtain ⟨s, hs⟩ := hone k (by omega)
        refine ⟨xs ++ [s], by simp [h1], fun i s' hs' => ?_⟩
        by_cases hi : i < xs.length
        · rw [List.getElem?_append_left hi] at hs'; exact h2 i s' hs'
        · rw [List.getElem?_append_right (by omega)] at hs'
          have : i = k := by
            have := (List.getElem?_eq_some_iff.1 hs').1
            simp at this; omega
          subst this
          rw [h1] at hs'
          simp at hs'
          rw [← hs']; exact hs
    obtain ⟨xs, h1, h2⟩ := key len (Nat.le_refl _)
    refine ⟨some a, cap, xs, by rw [h1]; exact hcs, ⟨by rw [h1]; omega, fun hne => ⟨a, rfl, ?_, fun i s j u hs hu => ?_⟩⟩, fun s hs => ?_⟩
    · obtain ⟨s, hs⟩ : ∃ s, xs[0]? = some s := by cases xs with | nil => exact absurd rfl hne | cons s l => exact ⟨s, rfl⟩
      have h3 := cells_get (h2 0 s hs).1
      obtain ⟨u, hu⟩ : ∃ u, (enc s)[0]? = some u := ⟨_, List.getElem?_eq_getElem (by rw [henc]; exact hpos)⟩
      have h4 := h3.2 0 u hu
      have := World.block_lt_of_cell? _ _ h4
      simpa [Go.Sx.block_add] using this
    · have h3 := cells_get (h2 i s hs).1
      have := h3.2 j u hu
      rwa [add_add] at this
    · obtain ⟨i, hi⟩ := List.mem_iff_getElem?.1 hs
      exact (h2 i s hi).2
theorem str_sm {H : Type} {enc0 : TypeId × Value → H} {W : World} {base : Nat} {spare : Nat → Bool} {held : Bool} (n : Nat) (cs : List Value) (y : DataW H × List MemPlace) (h : DataW.trod enc0 Tryd.prog W base spare held n 9 cs = some y) : ∃ s : ByteArray, cs = enStr s ∧ s.size ≤ 9223372036854775807 := by
  obtain ⟨s, h1, h2⟩ := str_cells Tryd.underlying9 h
  exact ⟨s, h1, by unfold maxLen at h2; omega⟩
theorem ofw100 {H : Type} {enc0 : TypeId × Value → H} {W : World} {base : Nat} {spare : Nat → Bool} {held : Bool} {n : Nat} {cs : List Value} {y : DataW H × List MemPlace} (h : DataW.trod enc0 Tryd.prog W base spare held n 100 cs = some y) : ∃ (A : Option Addr) (c : Nat) (xs : List ByteArray), cs = [.slice A xs.length c] ∧ Rd W 1 enStr A xs ∧ smS xs := by
  exact rd_of_trodP enStr _ Tryd.underlying100 yc9 (by decide) (fun _ => rfl) (fun n cs y _ h => str_sm n cs y h) h
theorem ofw177 {H : Type} {enc0 : TypeId × Value → H} {W : World} {base : Nat} {spare : Nat → Bool} {held : Bool} {n : Nat} {cs : List Value} {y : DataW H × List MemPlace} (h : DataW.trod enc0 Tryd.prog W base spare held n 177 cs = some y) : ∃ t : TraitV, cs = encTr t ∧ GoodT W t := by
  obtain ⟨xs, m, hm, hX, hl, hxl, hf⟩ := DataW.trod_struct Tryd.underlying177 h
  subst hX
  rw [yc177] at hl
  obtain ⟨k0, k1, k2, rfl⟩ := list3' hl
  obtain ⟨y0, y1, y2, rfl⟩ := list3' hxl
  have g0 : DataW.trod enc0 Tryd.prog W base spare held m 9 [k0] = some y0 := by
    have h5 : DataW.trod enc0 Tryd.prog W base spare held m 9 (([k0, k1, k2].drop 0).take (Tryd.prog.cellsOf 9)) = some y0 := hf 0 _ rfl
    rw [yc9] at h5; exact h5
  have g1 : DataW.trod enc0 Tryd.prog W base spare held m 100 [k1] = some y1 := by
    have h5 : DataW.trod enc0 Tryd.prog W base spare held m 100 (([k0, k1, k2].drop 1).take (Tryd.prog.cellsOf 100)) = some y1 := hf 1 _ rfl
    rw [yc100] at h5; exact h5
  have g2 : DataW.trod enc0 Tryd.prog W base spare held m 4 [k2] = some y2 := by
    have h5 : DataW.trod enc0 Tryd.prog W base spare held m 4 (([k0, k1, k2].drop 2).take (Tryd.prog.cellsOf 4)) = some y2 := hf 2 _ rfl
    rw [yc4] at h5; exact h5
  obtain ⟨s, e0, hs⟩ := str_sm _ _ _ g0
  obtain ⟨A, c, l, e1, r1, s1⟩ := ofw100 g1
  obtain ⟨b, e2⟩ := bool_cells Tryd.underlying4 g2
  cases e0; cases e1; cases e2
  exact ⟨⟨s, A, c, l, b⟩, rfl, ⟨r1, s1, hs⟩⟩
theorem ofw172 {H : Type} {enc0 : TypeId × Value → H} {W : World} {base : Nat} {spare : Nat → Bool} {held : Bool} {n : Nat} {cs : List Value} {y : DataW H × List MemPlace} (h : DataW.trod enc0 Tryd.prog W base spare held n 172 cs = some y) : ∃ c : ClassV, cs = encCl c ∧ GoodC W c := by
  obtain ⟨xs, m, hm, hX, hl, hxl, hf⟩ := DataW.trod_struct Tryd.underlying172 h
  subst hX
  rw [yc172] at hl
  obtain ⟨k0, k1, k2, k3, rfl⟩ := list4' hl
  obtain ⟨y0, y1, y2, y3, rfl⟩ := list4' hxl
  have g0 : DataW.trod enc0 Tryd.prog W base spare held m 9 [k0] = some y0 := by
    have h5 : DataW.trod enc0 Tryd.prog W base spare held m 9 (([k0, k1, k2, k3].drop 0).take (Tryd.prog.cellsOf 9)) = some y0 := hf 0 _ rfl
    rw [yc9] at h5; exact h5
  have g1 : DataW.trod enc0 Tryd.prog W base spare held m 170 [k1] = some y1 := by
    have h5 : DataW.trod enc0 Tryd.prog W base spare held m 170 (([k0, k1, k2, k3].drop 1).take (Tryd.prog.cellsOf 170)) = some y1 := hf 1 _ rfl
    rw [yc170] at h5; exact h5
  have g2 : DataW.trod enc0 Tryd.prog W base spare held m 100 [k2] = some y2 := by
    have h5 : DataW.trod enc0 Tryd.prog W base spare held m 100 (([k0, k1, k2, k3].drop 2).take (Tryd.prog.cellsOf 100)) = some y2 := hf 2 _ rfl
    rw [yc100] at h5; exact h5
  have g3 : DataW.trod enc0 Tryd.prog W base spare held m 3 [k3] = some y3 := by
    have h5 : DataW.trod enc0 Tryd.prog W base spare held m 3 (([k0, k1, k2, k3].drop 3).take (Tryd.prog.cellsOf 3)) = some y3 := hf 3 _ rfl
    rw [yc3] at h5; exact h5
  obtain ⟨s, e0, hs⟩ := str_sm _ _ _ g0
  obtain ⟨A, c, l, e1, r1, s1⟩ := rd_of_trodP encTr (GoodT W) Tryd.underlying170 yc177 (by decide) (fun _ => rfl) (fun n cs y _ h => ofw177 h) g1
  obtain ⟨B, d, ps, e2, r2, s2⟩ := ofw100 g2
  obtain ⟨m, e3, _⟩ := int_cells Tryd.underlying3 g3
  cases e0; cases e1; cases e2; cases e3
  exact ⟨⟨s, A, c, l, B, d, ps, m⟩, rfl, ⟨r1, s1, r2, s2, hs⟩⟩
theorem ofw99 {H : Type} {enc0 : TypeId × Value → H} {W : World} {base : Nat} {spare : Nat → Bool} {held : Bool} {n : Nat} {cs : List Value} {y : DataW H × List MemPlace} (h : DataW.trod enc0 Tryd.prog W base spare held n 99 cs = some y) : ∃ (A : Option Addr) (c : Nat) (xs : List ClassV), cs = [.slice A xs.length c] ∧ Rd W 4 encCl A xs ∧ ∀ x ∈ xs, GoodC W x := by
  exact rd_of_trodP encCl (GoodC W) Tryd.underlying99 yc172 (by decide) (fun _ => rfl) (fun n cs y _ h => ofw172 h) h
theorem ofw103 {H : Type} {enc0 : TypeId × Value → H} {W : World} {base : Nat} {spare : Nat → Bool} {held : Bool} : ∀ (n : Nat) (cs : List Value) (y : DataW H × List MemPlace), DataW.trod enc0 Tryd.prog W base spare held n 103 cs = some y → ∃ x : ItemV, cs = encIt x ∧ GoodI W x := by
  intro n
  induction n using Nat.strongRecOn with
  | _ n ih =>
  intro cs y h
  obtain ⟨xs, m, hm, hX, hl, hxl, hf⟩ := DataW.trod_struct Tryd.underlying103 h
  subst hX
  rw [yc103] at hl
  obtain ⟨k0, k1, k2, rfl⟩ := list3' hl
  obtain ⟨y0, y1, y2, rfl⟩ := list3' hxl
  have g0 : DataW.trod enc0 Tryd.prog W base spare held m 9 [k0] = some y0 := by
    have h5 : DataW.trod enc0 Tryd.prog W base spare held m 9 (([k0, k1, k2].drop 0).take (Tryd.prog.cellsOf 9)) = some y0 := hf 0 _ rfl
    rw [yc9] at h5; exact h5
  have g1 : DataW.trod enc0 Tryd.prog W base spare held m 100 [k1] = some y1 := by
    have h5 : DataW.trod enc0 Tryd.prog W base spare held m 100 (([k0, k1, k2].drop 1).take (Tryd.prog.cellsOf 100)) = some y1 := hf 1 _ rfl
    rw [yc100] at h5; exact h5
  have g2 : DataW.trod enc0 Tryd.prog W base spare held m 101 [k2] = some y2 := by
    have h5 : DataW.trod enc0 Tryd.prog W base spare held m 101 (([k0, k1, k2].drop 2).take (Tryd.prog.cellsOf 101)) = some y2 := hf 2 _ rfl
    rw [yc101] at h5; exact h5
  obtain ⟨s, e0, hs⟩ := str_sm _ _ _ g0
  obtain ⟨A, c, l, e1, r1, s1⟩ := ofw100 g1
  obtain ⟨B, d, ps, e2, r2, s2⟩ := rd_of_trodP encIt (GoodI W) Tryd.underlying101 yc103 (by decide) (fun _ => rfl) (fun n cs y hn h => ih n (by omega) cs y h) g2
  cases e0; cases e1; cases e2
  exact ⟨.mk s A c l B d ps, rfl, .mk r1 r2 hs s1 s2⟩
theorem of105 {H : Type} {enc0 : TypeId × Value → H} {W : World} {base : Nat} {spare : Nat → Bool} {held : Bool} {n : Nat} {cs : List Value} {y : DataW H × List MemPlace} (h : DataW.trod enc0 Tryd.prog W base spare held n 105 cs = some y) (_hw : Wok Tryd.prog 105 y.1) : ∃ (lc : List ClassV) (Ag : Option Addr) (cg : Nat) (a b : ItemV), cs = .slice Ag lc.length cg :: (encIt a ++ encIt b) ∧ Rd W 4 encCl Ag lc ∧ (∀ x ∈ lc, GoodC W x) ∧ GoodI W a ∧ GoodI W b := by
  obtain ⟨xs, m, hm, hX, hl, hxl, hf⟩ := DataW.trod_struct Tryd.underlying105 h
  subst hX
  rw [yc105] at hl
  obtain ⟨k0, k1, k2, k3, k4, k5, k6, rfl⟩ := list7' hl
  obtain ⟨y0, y1, y2, rfl⟩ := list3' hxl
  have g0 : DataW.trod enc0 Tryd.prog W base spare held m 99 [k0] = some y0 := by
    have h5 : DataW.trod enc0 Tryd.prog W base spare held m 99 (([k0, k1, k2, k3, k4, k5, k6].drop 0).take (Tryd.prog.cellsOf 99)) = some y0 := hf 0 _ rfl
    rw [yc99] at h5; exact h5
  have g1 : DataW.trod enc0 Tryd.prog W base spare held m 103 [k1, k2, k3] = some y1 := by
    have h5 : DataW.trod enc0 Tryd.prog W base spare held m 103 (([k0, k1, k2, k3, k4, k5, k6].drop 1).take (Tryd.prog.cellsOf 103)) = some y1 := hf 1 _ rfl
    rw [yc103] at h5; exact h5
  have g2 : DataW.trod enc0 Tryd.prog W base spare held m 103 [k4, k5, k6] = some y2 := by
    have h5 : DataW.trod enc0 Tryd.prog W base spare held m 103 (([k0, k1, k2, k3, k4, k5, k6].drop 4).take (Tryd.prog.cellsOf 103)) = some y2 := hf 2 _ rfl
    rw [yc103] at h5; exact h5
  obtain ⟨A, c, l, e0, r0, s0⟩ := ofw99 g0
  obtain ⟨a, e1, h1⟩ := ofw103 _ _ _ g1
  obtain ⟨b, e2, h2⟩ := ofw103 _ _ _ g2
  cases e0; cases e1; cases e2
  exact ⟨l, A, c, a, b, rfl, r0, s0, h1, h2⟩
end Go.Proofs.YtafmgkiddhappaaDoor
