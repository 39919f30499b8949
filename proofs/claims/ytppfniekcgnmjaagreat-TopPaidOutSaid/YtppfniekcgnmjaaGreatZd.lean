/- Texts of ours, joined: 1 of them. Conditions: none. -/
import Derived.Test.YtppfniekcgnmjaaGreatZc
import Derived.Test.YtppfniekcgnmjaaGreatRows
import Derived.ProofKit
import Derived.LaidMore
import Derived.Stop.Joined
namespace Go.Proofs.YtppfniekcgnmjaaGreat.To
open Go.Sx Go.RowKit Go.ChangeShapes Go.WideShapes Go.ChangeAt
set_option maxRecDepth 100000
theorem frOwn : ownKnob Tryz.prog.godebug = none := by kernel_rfl
theorem frLaidOut : laidOutB Tryz.prog = true := by kernel_rfl
theorem yc3 : Tryz.prog.cellsOf 3 = 1 := by kernel_rfl
theorem yc9 : Tryz.prog.cellsOf 9 = 1 := by kernel_rfl
theorem yc73 : Tryz.prog.cellsOf 73 = 1 := by kernel_rfl
theorem yc75 : Tryz.prog.cellsOf 75 = 3 := by kernel_rfl
theorem yc122 : Tryz.prog.cellsOf 122 = 2 := by kernel_rfl
theorem rd_of_trodP {H : Type} {enc0 : TypeId × Value → H} {P : Program} {w : World} {base : Nat} {spare : Nat → Bool} {held : Bool} {α : Type} {t e : TypeId} {sz fuel : Nat} (enc : α → List Value) (G : α → Prop) {cs : List Value} {x : DataW H × List MemPlace} (ht : P.underlying t = some (.slice e)) (hsz : P.cellsOf e = sz) (hpos : 0 < sz) (henc : ∀ s, (enc s).length = sz)
    (hdec : ∀ (n : Nat) (cs : List Value) (y : DataW H × List MemPlace), n < fuel → DataW.trod enc0 P w base spare held n e cs = some y → ∃ s : α, cs = enc s ∧ G s)
    (h : DataW.trod enc0 P w base spare held fuel t cs = some x) : ∃ (A : Option Addr) (c : Nat) (xs : List α), cs = [.slice A xs.length c] ∧ Rd w sz enc A xs ∧ ∀ s ∈ xs, G s := by
  rcases DataW.trod_slice ht h with ⟨hcs, _⟩ | ⟨a, len, cap, elems, rest, n, hfu, hcs, _, _, hl, hm, hel, hget, _⟩
  · exact ⟨none, 0, [], hcs, Rd.nil, by simp⟩
  · have hone : ∀ i, i < len → ∃ s : α, w.cells? base (a.add (i * sz)) sz = some (enc s) ∧ G s := by
      intro i hi
      have h1 := hget i hi
      rw [hsz] at h1
      have hx : elems[i]? = some (elems[i]'(by omega)) := List.getElem?_eq_getElem (by omega)
      rw [hx] at h1
      obtain ⟨cs', h2, h3⟩ := Option.bind_eq_some_iff.1 h1
      obtain ⟨s, rfl, hs⟩ := hdec n cs' _ (by omega) h3
      exact ⟨s, h2, hs⟩
    have key : ∀ k, k ≤ len → ∃ xs : List α, xs.length = k ∧ ∀ i s, xs[i]? = some s → w.cells? base (a.add (i * sz)) sz = some (enc s) ∧ G s := by
      intro k
      induction k with
      | zero => intro _; exact ⟨[], rfl, fun i s hs => by simp at hs⟩
      | succ k ih =>
        intro hk
        obtain ⟨xs, h1, h2⟩ := ih (by omega)
        obtain ⟨s, hs⟩ := hone k (by omega)
        refine ⟨xs ++ [s], by simp [h1], fun i s' hs' => ?_⟩
        by_cases hi : i < xs.length
        · rw [List.getElem?_append_left hi] at hs'; exact h2 i s' hs'
        · rw [List.getElem?_append_right (by omega)] at hs'
          have : i = k := by
            have := (List.getElem?_eq_some_iff.1 hs').1
            simp at this; omega
          subst this
          rw [h1] at hs'
          simp at hs'
          rw [← hs']; exact hs
    obtain ⟨xs, h1, h2⟩ := key len (Nat.le_refl _)
    refine ⟨some a, cap, xs, by rw [h1]; exact hcs, ⟨by rw [h1]; omega, fun hne => ⟨a, rfl, ?_, fun i s j u hs hu => ?_⟩⟩, fun s hs => ?_⟩
    · obtain ⟨s, hs⟩ : ∃ s, xs[0]? = some s := by cases xs with | nil => exact absurd rfl hne | cons s l => exact ⟨s, rfl⟩
      have h3 := cells_get (h2 0 s hs).1
      obtain ⟨u, hu⟩ : ∃ u, (enc s)[0]? = some u := ⟨_, List.getElem?_eq_getElem (by rw [henc]; exact hpos)⟩
      have h4 := h3.2 0 u hu
      have := World.block_lt_of_cell? _ _ h4
      simpa [Go.Sx.block_add] using this
    · have h3 := cells_get (h2 i s hs).1
      have := h3.2 j u hu
      rwa [add_add] at this
    · obtain ⟨i, hi⟩ := List.mem_iff_getElem?.1 hs
      exact (h2 i s hi).2
theorem rd_of_trodC {H : Type} {enc0 : TypeId × Value → H} {P : Program} {w : World} {base : Nat} {spare : Nat → Bool} {held : Bool} {α : Type} {t e : TypeId} {sz fuel : Nat} (enc : α → List Value) (G : α → Prop) {cs : List Value} {x : DataW H × List MemPlace} (ht : P.underlying t = some (.slice e)) (hsz : P.cellsOf e = sz) (hpos : 0 < sz) (henc : ∀ s, (enc s).length = sz)
    (hdec : ∀ (n : Nat) (cs : List Value) (y : DataW H × List MemPlace), n < fuel → DataW.trod enc0 P w base spare held n e cs = some y → ∃ s : α, cs = enc s ∧ G s)
    (h : DataW.trod enc0 P w base spare held fuel t cs = some x) : ∃ (A : Option Addr) (c : Nat) (xs : List α), cs = [.slice A xs.length c] ∧ Rd w sz enc A xs ∧ (∀ s ∈ xs, G s) ∧ xs.length ≤ c := by
  rcases DataW.trod_slice ht h with ⟨hcs, _⟩ | ⟨a, len, cap, elems, rest, n, hfu, hcs, _, _, hl, hm, hel, hget, _⟩
  · exact ⟨none, 0, [], hcs, Rd.nil, by simp, Nat.le_refl _⟩
  · have hone : ∀ i, i < len → ∃ s : α, w.cells? base (a.add (i * sz)) sz = some (enc s) ∧ G s := by
      intro i hi
      have h1 := hget i hi
      rw [hsz] at h1
      have hx : elems[i]? = some (elems[i]'(by omega)) := List.getElem?_eq_getElem (by omega)
      rw [hx] at h1
      obtain ⟨cs', h2, h3⟩ := Option.bind_eq_some_iff.1 h1
      obtain ⟨s, rfl, hs⟩ := hdec n cs' _ (by omega) h3
      exact ⟨s, h2, hs⟩
    have key : ∀ k, k ≤ len → ∃ xs : List α, xs.length = k ∧ ∀ i s, xs[i]? = some s → w.cells? base (a.add (i * sz)) sz = some (enc s) ∧ G s := by
      intro k
      induction k with
      | zero => intro _; exact ⟨[], rfl, fun i s hs => by simp at hs⟩
      | succ k ih =>
        intro hk
        obtain ⟨xs, h1, h2⟩ := ih (by omega)
        obtain ⟨s, hs⟩ := hone k (by omega)
        refine ⟨xs ++ [s], by simp [h1], fun i s' hs' => ?_⟩
        by_cases hi : i < xs.length
        · rw [List.getElem?_append_left hi] at hs'; exact h2 i s' hs'
        · rw [List.getElem?_append_right (by omega)] at hs'
          have : i = k := by
            have := (List.getElem?_eq_some_iff.1 hs').1
            simp at this; omega
          subst this
          rw [h1] at hs'
          simp at hs'
          rw [← hs']; exact hs
    obtain ⟨xs, h1, h2⟩ := key len (Nat.le_refl _)
    refine ⟨some a, cap, xs, by rw [h1]; exact hcs, ⟨by rw [h1]; omega, fun hne => ⟨a, rfl, ?_, fun i s j u hs hu => ?_⟩⟩, fun s hs => ?_, by rw [h1]; exact hl⟩
    · obtain ⟨s, hs⟩ : ∃ s, xs[0]? = some s := by cases xs with | nil => exact absurd rfl hne | cons s l => exact ⟨s, rfl⟩
      have h3 := cells_get (h2 0 s hs).1
      obtain ⟨u, hu⟩ : ∃ u, (enc s)[0]? = some u := ⟨_, List.getElem?_eq_getElem (by rw [henc]; exact hpos)⟩
      have h4 := h3.2 0 u hu
      have := World.block_lt_of_cell? _ _ h4
      simpa [Go.Sx.block_add] using this
    · have h3 := cells_get (h2 i s hs).1
      have := h3.2 j u hu
      rwa [add_add] at this
    · obtain ⟨i, hi⟩ := List.mem_iff_getElem?.1 hs
      exact (h2 i s hi).2
theorem int_of {H : Type} {enc0 : TypeId × Value → H} {W : World} {base : Nat} {spare : Nat → Bool} {held : Bool} (n : Nat) (cs : List Value) (y : DataW H × List MemPlace) (h : DataW.trod enc0 Tryz.prog W base spare held n 3 cs = some y) : ∃ s : Int, cs = enInt s ∧ True := by
  obtain ⟨m, hm, _⟩ := DataW.trod_int Tryz.underlying3 h
  exact ⟨m, hm, trivial⟩
theorem yc25 : Tryz.prog.cellsOf 25 = 2 := by kernel_rfl
theorem yc23 : Tryz.prog.cellsOf 23 = 1 := by kernel_rfl
theorem ofDu {H : Type} {enc0 : TypeId × Value → H} {W : World} {base : Nat} {spare : Nat → Bool} {held : Bool} (n : Nat) (cs : List Value) (y : DataW H × List MemPlace) (h : DataW.trod enc0 Tryz.prog W base spare held n 122 cs = some y) : ∃ s : Um.DueV, cs = Pu.encDu s ∧ True := by
  obtain ⟨xs, m, hm, hX, hl, hxl, hf⟩ := DataW.trod_struct Tryz.underlying122 h
  subst hX
  rw [yc122] at hl
  obtain ⟨k0, k1, rfl⟩ := list2' hl
  obtain ⟨y0, y1, rfl⟩ := list2' hxl
  have g0 : DataW.trod enc0 Tryz.prog W base spare held m 3 [k0] = some y0 := by
    have h5 : DataW.trod enc0 Tryz.prog W base spare held m 3 (([k0, k1].drop 0).take (Tryz.prog.cellsOf 3)) = some y0 := hf 0 _ rfl
    rw [yc3] at h5; exact h5
  have g1 : DataW.trod enc0 Tryz.prog W base spare held m 3 [k1] = some y1 := by
    have h5 : DataW.trod enc0 Tryz.prog W base spare held m 3 (([k0, k1].drop 1).take (Tryz.prog.cellsOf 3)) = some y1 := hf 1 _ rfl
    rw [yc3] at h5; exact h5
  obtain ⟨a0, e0, _⟩ := int_of _ _ _ g0
  obtain ⟨a1, e1, _⟩ := int_of _ _ _ g1
  cases e0; cases e1
  exact ⟨⟨a0, a1⟩, rfl, trivial⟩
theorem ofwDu {H : Type} {enc0 : TypeId × Value → H} {W : World} {base : Nat} {spare : Nat → Bool} {held : Bool} (n : Nat) (cs : List Value) (y : DataW H × List MemPlace) (h : DataW.trod enc0 Tryz.prog W base spare held n 73 cs = some y) : ∃ (A : Option Addr) (c : Nat) (xs : List Um.DueV), cs = [.slice A xs.length c] ∧ Rd W 2 Pu.encDu A xs ∧ ∀ x ∈ xs, True := by
  exact rd_of_trodP Pu.encDu (fun _ => True) Tryz.underlying73 yc122 (by decide) (fun _ => rfl) (fun n cs y _ h => ofDu n cs y h) h
theorem ofPa {H : Type} {enc0 : TypeId × Value → H} {W : World} {base : Nat} {spare : Nat → Bool} {held : Bool} (n : Nat) (cs : List Value) (y : DataW H × List MemPlace) (h : DataW.trod enc0 Tryz.prog W base spare held n 75 cs = some y) : ∃ p : Pu.PartV, cs = Pu.encPa p ∧ Pu.GoodP W p := by
  obtain ⟨xs, m, hm, hX, hl, hxl, hf⟩ := DataW.trod_struct Tryz.underlying75 h
  subst hX
  rw [yc75] at hl
  obtain ⟨k0, k1, k2, rfl⟩ := list3' hl
  obtain ⟨y0, y1, y2, rfl⟩ := list3' hxl
  have g0 : DataW.trod enc0 Tryz.prog W base spare held m 9 [k0] = some y0 := by
    have h5 : DataW.trod enc0 Tryz.prog W base spare held m 9 (([k0, k1, k2].drop 0).take (Tryz.prog.cellsOf 9)) = some y0 := hf 0 _ rfl
    rw [yc9] at h5; exact h5
  have g1 : DataW.trod enc0 Tryz.prog W base spare held m 3 [k1] = some y1 := by
    have h5 : DataW.trod enc0 Tryz.prog W base spare held m 3 (([k0, k1, k2].drop 1).take (Tryz.prog.cellsOf 3)) = some y1 := hf 1 _ rfl
    rw [yc3] at h5; exact h5
  have g2 : DataW.trod enc0 Tryz.prog W base spare held m 73 [k2] = some y2 := by
    have h5 : DataW.trod enc0 Tryz.prog W base spare held m 73 (([k0, k1, k2].drop 2).take (Tryz.prog.cellsOf 73)) = some y2 := hf 2 _ rfl
    rw [yc73] at h5; exact h5
  obtain ⟨s, e0, hs⟩ := str_cells Tryz.underlying9 g0
  obtain ⟨v, e1, _⟩ := int_of _ _ _ g1
  obtain ⟨A, c, l, e2, r2, _⟩ := ofwDu _ _ _ g2
  cases e0; cases e1; cases e2
  exact ⟨⟨s, v, A, c, l⟩, rfl, r2, hs⟩
theorem ofwPa {H : Type} {enc0 : TypeId × Value → H} {W : World} {base : Nat} {spare : Nat → Bool} {held : Bool} (n : Nat) (cs : List Value) (y : DataW H × List MemPlace) (h : DataW.trod enc0 Tryz.prog W base spare held n 22 cs = some y) : ∃ (A : Option Addr) (c : Nat) (xs : List Pu.PartV), cs = [.slice A xs.length c] ∧ Rd W 3 Pu.encPa A xs ∧ (∀ x ∈ xs, Pu.GoodP W x) ∧ xs.length ≤ c := by
  exact rd_of_trodC Pu.encPa (fun x => Pu.GoodP W x) Tryz.underlying22 yc75 (by decide) (fun _ => rfl) (fun n cs y _ h => ofPa n cs y h) h
theorem ofwI {H : Type} {enc0 : TypeId × Value → H} {W : World} {base : Nat} {spare : Nat → Bool} {held : Bool} (n : Nat) (cs : List Value) (y : DataW H × List MemPlace) (h : DataW.trod enc0 Tryz.prog W base spare held n 23 cs = some y) : ∃ (A : Option Addr) (c : Nat) (xs : List Int), cs = [.slice A xs.length c] ∧ Rd W 1 enInt A xs ∧ ∀ x ∈ xs, True := by
  exact rd_of_trodP enInt (fun _ => True) Tryz.underlying23 yc3 (by decide) (fun _ => rfl) (fun n cs y _ h => int_of n cs y h) h
theorem of22 {H : Type} {enc0 : TypeId × Value → H} {W : World} {base : Nat} {spare : Nat → Bool} {held : Bool} {n : Nat} {cs : List Value} {y : DataW H × List MemPlace} (h : DataW.trod enc0 Tryz.prog W base spare held n 22 cs = some y) (_hw : Wok Tryz.prog 22 y.1) : ∃ (Ax : Option Addr) (cx : Nat) (x : List Pu.PartV), cs = [.slice Ax x.length cx] ∧ Rd W 3 Pu.encPa Ax x ∧ (∀ q ∈ x, Pu.GoodP W q) ∧ x.length ≤ cx := by
  obtain ⟨A, c, l, e, r, s, u⟩ := ofwPa _ _ _ h
  exact ⟨A, c, l, e, r, s, u⟩
theorem of25 {H : Type} {enc0 : TypeId × Value → H} {W : World} {base : Nat} {spare : Nat → Bool} {held : Bool} {n : Nat} {cs : List Value} {y : DataW H × List MemPlace} (h : DataW.trod enc0 Tryz.prog W base spare held n 25 cs = some y) (_hw : Wok Tryz.prog 25 y.1) : ∃ (Ax : Option Addr) (ax : Nat) (cx : List Int) (Bx : Option Addr) (bx : Nat) (hx : List Int), cs = [.slice Ax cx.length ax, .slice Bx hx.length bx] ∧ Rd W 1 enInt Ax cx ∧ Rd W 1 enInt Bx hx := by
  obtain ⟨xs, m, hm, hX, hl, hxl, hf⟩ := DataW.trod_struct Tryz.underlying25 h
  subst hX
  rw [yc25] at hl
  obtain ⟨k0, k1, rfl⟩ := list2' hl
  obtain ⟨y0, y1, rfl⟩ := list2' hxl
  have g0 : DataW.trod enc0 Tryz.prog W base spare held m 23 [k0] = some y0 := by
    have h5 : DataW.trod enc0 Tryz.prog W base spare held m 23 (([k0, k1].drop 0).take (Tryz.prog.cellsOf 23)) = some y0 := hf 0 _ rfl
    rw [yc23] at h5; exact h5
  have g1 : DataW.trod enc0 Tryz.prog W base spare held m 23 [k1] = some y1 := by
    have h5 : DataW.trod enc0 Tryz.prog W base spare held m 23 (([k0, k1].drop 1).take (Tryz.prog.cellsOf 23)) = some y1 := hf 1 _ rfl
    rw [yc23] at h5; exact h5
  obtain ⟨A, c, l, e0, r0, _⟩ := ofwI _ _ _ g0
  obtain ⟨B, d, q, e1, r1, _⟩ := ofwI _ _ _ g1
  cases e0; cases e1
  exact ⟨A, c, l, B, d, q, rfl, r0, r1⟩
end Go.Proofs.YtppfniekcgnmjaaGreat.To
