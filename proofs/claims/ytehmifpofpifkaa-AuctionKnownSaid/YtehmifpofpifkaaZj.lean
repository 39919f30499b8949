/- Texts of ours, joined: 1 of them. Conditions: none. -/
import Derived.Test.YtehmifpofpifkaaZi
import Derived.Test.YtehmifpofpifkaaRows
import Derived.ProofKit
import Derived.LaidMore
import Derived.Stop.Joined
namespace Go.Proofs.Ytehmifpofpifkaa
open Go.Sx Go.RowKit Go.ChangeShapes Go.WideShapes Go.ChangeAt Am
set_option maxRecDepth 100000
theorem frOwn : ownKnob Try.prog.godebug = none := by kernel_rfl
theorem frLaidOut : laidOutB Try.prog = true := by kernel_rfl
theorem yc3 : Try.prog.cellsOf 3 = 1 := by kernel_rfl
theorem yc22 : Try.prog.cellsOf 22 = 1 := by kernel_rfl
theorem yc24 : Try.prog.cellsOf 24 = 3 := by kernel_rfl
theorem yc25 : Try.prog.cellsOf 25 = 2 := by kernel_rfl
theorem yc32 : Try.prog.cellsOf 32 = 1 := by kernel_rfl
theorem yc43 : Try.prog.cellsOf 43 = 1 := by kernel_rfl
theorem yc53 : Try.prog.cellsOf 53 = 3 := by kernel_rfl
theorem yc55 : Try.prog.cellsOf 55 = 4 := by kernel_rfl
theorem yc58 : Try.prog.cellsOf 58 = 1 := by kernel_rfl
theorem yc60 : Try.prog.cellsOf 60 = 2 := by kernel_rfl
theorem yc62 : Try.prog.cellsOf 62 = 2 := by kernel_rfl
theorem yc81 : Try.prog.cellsOf 81 = 2 := by kernel_rfl
theorem rd_of_trodP {H : Type} {enc0 : TypeId × Value → H} {P : Program} {w : World} {base : Nat} {spare : Nat → Bool} {held : Bool} {α : Type} {t e : TypeId} {sz fuel : Nat} (enc : α → List Value) (G : α → Prop) {cs : List Value} {x : DataW H × List MemPlace} (ht : P.underlying t = some (.slice e)) (hsz : P.cellsOf e = sz) (hpos : 0 < sz) (henc : ∀ s, (enc s).length = sz)
    (hdec : ∀ (n : Nat) (cs : List Value) (y : DataW H × List MemPlace), n < fuel → DataW.trod enc0 P w base spare held n e cs = some y → ∃ s : α, cs = enc s ∧ G s)
    (h : DataW.trod enc0 P w base spare held fuel t cs = some x) : ∃ (A : Option Addr) (c : Nat) (xs : List α), cs = [.slice A xs.length c] ∧ Rd w sz enc A xs ∧ ∀ s ∈ xs, G s := by
  rcases DataW.trod_slice ht h with ⟨hcs, _⟩ | ⟨a, len, cap, elems, rest, n, hfu, hcs, _, _, hl, hm, hel, hget, _⟩
  · exact ⟨none, 0, [], hcs, Rd.nil, by simp⟩
  · have hone : ∀ i, i < len → ∃ s : α, w.cells? base (a.add (i * sz)) sz = some (enc s) ∧ G s := by
      intro i hi
      have h1 := hget i hi
      rw [hsz] at h1
      have hx : elems[i]? = some (elems[i]'(by omega)) := List.getElem?_eq_getElem (by omega)
      rw [hx] at h1
      obtain ⟨cs', h2, h3⟩ := Option.bind_eq_some_iff.1 h1
      obtain ⟨s, rfl, hs⟩ := hdec n cs' _ (by omega) h3
      exact ⟨s, h2, hs⟩
    have key : ∀ k, k ≤ len → ∃ xs : List α, xs.length = k ∧ ∀ i s, xs[i]? = some s → w.cells? base (a.add (i * sz)) sz = some (enc s) ∧ G s := by
      intro k
      induction k with
      | zero => intro _; exact ⟨[], rfl, fun i s hs => by simp at hs⟩
      | succ k ih =>
        intro hk
        obtain ⟨xs, h1, h2⟩ := ih (by omega)
        obtain ⟨s, hs⟩ := hone k (by omega)
        refine ⟨xs ++ [s], by simp [h1], fun i s' hs' => ?_⟩
        by_cases hi : i < xs.length
        · rw [List.getElem?_append_left hi] at hs'; exact h2 i s' hs'
        · rw [List.getElem?_append_right (by omega)] at hs'
          have : i = k := by
            have := (List.getElem?_eq_some_iff.1 hs').1
            simp at this; omega
          subst this
          rw [h1] at hs'
          simp at hs'
          rw [← hs']; exact hs
    obtain ⟨xs, h1, h2⟩ := key len (Nat.le_refl _)
    refine ⟨some a, cap, xs, by rw [h1]; exact hcs, ⟨by rw [h1]; omega, fun hne => ⟨a, rfl, ?_, fun i s j u hs hu => ?_⟩⟩, fun s hs => ?_⟩
    · obtain ⟨s, hs⟩ : ∃ s, xs[0]? = some s := by cases xs with | nil => exact absurd rfl hne | cons s l => exact ⟨s, rfl⟩
      have h3 := cells_get (h2 0 s hs).1
      obtain ⟨u, hu⟩ : ∃ u, (enc s)[0]? = some u := ⟨_, List.getElem?_eq_getElem (by rw [henc]; exact hpos)⟩
      have h4 := h3.2 0 u hu
      have := World.block_lt_of_cell? _ _ h4
      simpa [Go.Sx.block_add] using this
    · have h3 := cells_get (h2 i s hs).1
      have := h3.2 j u hu
      rwa [add_add] at this
    · obtain ⟨i, hi⟩ := List.mem_iff_getElem?.1 hs
      exact (h2 i s hi).2
theorem int_of {H : Type} {enc0 : TypeId × Value → H} {W : World} {base : Nat} {spare : Nat → Bool} {held : Bool} (n : Nat) (cs : List Value) (y : DataW H × List MemPlace) (h : DataW.trod enc0 Try.prog W base spare held n 3 cs = some y) : ∃ s : Int, cs = enInt s ∧ True := by
  obtain ⟨m, hm, _⟩ := DataW.trod_int Try.underlying3 h
  exact ⟨m, hm, trivial⟩
theorem ofw43 {H : Type} {enc0 : TypeId × Value → H} {W : World} {base : Nat} {spare : Nat → Bool} {held : Bool} (n : Nat) (cs : List Value) (y : DataW H × List MemPlace) (h : DataW.trod enc0 Try.prog W base spare held n 43 cs = some y) : ∃ (A : Option Addr) (c : Nat) (xs : List Int), cs = [.slice A xs.length c] ∧ Rd W 1 enInt A xs ∧ ∀ x ∈ xs, True := by
  exact rd_of_trodP enInt (fun _ => True) Try.underlying43 yc3 (by decide) (fun _ => rfl) (fun n cs y _ h => int_of n cs y h) h
theorem ofw81 {H : Type} {enc0 : TypeId × Value → H} {W : World} {base : Nat} {spare : Nat → Bool} {held : Bool} (n : Nat) (cs : List Value) (y : DataW H × List MemPlace) (h : DataW.trod enc0 Try.prog W base spare held n 81 cs = some y) : ∃ s : RiseV, cs = encRi s ∧ True := by
  obtain ⟨xs, m, hm, hX, hl, hxl, hf⟩ := DataW.trod_struct Try.underlying81 h
  subst hX
  rw [yc81] at hl
  obtain ⟨k0, k1, rfl⟩ := list2' hl
  obtain ⟨y0, y1, rfl⟩ := list2' hxl
  have g0 : DataW.trod enc0 Try.prog W base spare held m 3 [k0] = some y0 := by
    have h5 : DataW.trod enc0 Try.prog W base spare held m 3 (([k0, k1].drop 0).take (Try.prog.cellsOf 3)) = some y0 := hf 0 _ rfl
    rw [yc3] at h5; exact h5
  have g1 : DataW.trod enc0 Try.prog W base spare held m 3 [k1] = some y1 := by
    have h5 : DataW.trod enc0 Try.prog W base spare held m 3 (([k0, k1].drop 1).take (Try.prog.cellsOf 3)) = some y1 := hf 1 _ rfl
    rw [yc3] at h5; exact h5
  obtain ⟨a0, e0, _⟩ := int_of _ _ _ g0
  obtain ⟨a1, e1, _⟩ := int_of _ _ _ g1
  cases e0; cases e1
  exact ⟨⟨a0, a1⟩, rfl, trivial⟩
theorem ofw53 {H : Type} {enc0 : TypeId × Value → H} {W : World} {base : Nat} {spare : Nat → Bool} {held : Bool} (n : Nat) (cs : List Value) (y : DataW H × List MemPlace) (h : DataW.trod enc0 Try.prog W base spare held n 53 cs = some y) : ∃ s : BidV, cs = encBi s ∧ True := by
  obtain ⟨xs, m, hm, hX, hl, hxl, hf⟩ := DataW.trod_struct Try.underlying53 h
  subst hX
  rw [yc53] at hl
  obtain ⟨k0, k1, k2, rfl⟩ := list3' hl
  obtain ⟨y0, y1, y2, rfl⟩ := list3' hxl
  have g0 : DataW.trod enc0 Try.prog W base spare held m 3 [k0] = some y0 := by
    have h5 : DataW.trod enc0 Try.prog W base spare held m 3 (([k0, k1, k2].drop 0).take (Try.prog.cellsOf 3)) = some y0 := hf 0 _ rfl
    rw [yc3] at h5; exact h5
  have g1 : DataW.trod enc0 Try.prog W base spare held m 3 [k1] = some y1 := by
    have h5 : DataW.trod enc0 Try.prog W base spare held m 3 (([k0, k1, k2].drop 1).take (Try.prog.cellsOf 3)) = some y1 := hf 1 _ rfl
    rw [yc3] at h5; exact h5
  have g2 : DataW.trod enc0 Try.prog W base spare held m 3 [k2] = some y2 := by
    have h5 : DataW.trod enc0 Try.prog W base spare held m 3 (([k0, k1, k2].drop 2).take (Try.prog.cellsOf 3)) = some y2 := hf 2 _ rfl
    rw [yc3] at h5; exact h5
  obtain ⟨a0, e0, _⟩ := int_of _ _ _ g0
  obtain ⟨a1, e1, _⟩ := int_of _ _ _ g1
  obtain ⟨a2, e2, _⟩ := int_of _ _ _ g2
  cases e0; cases e1; cases e2
  exact ⟨⟨a0, a1, a2⟩, rfl, trivial⟩
theorem ofw22 {H : Type} {enc0 : TypeId × Value → H} {W : World} {base : Nat} {spare : Nat → Bool} {held : Bool} (n : Nat) (cs : List Value) (y : DataW H × List MemPlace) (h : DataW.trod enc0 Try.prog W base spare held n 22 cs = some y) : ∃ (A : Option Addr) (c : Nat) (xs : List RiseV), cs = [.slice A xs.length c] ∧ Rd W 2 encRi A xs ∧ ∀ x ∈ xs, True := by
  exact rd_of_trodP encRi (fun _ => True) Try.underlying22 yc81 (by decide) (fun _ => rfl) (fun n cs y _ h => ofw81 n cs y h) h
theorem ofw32 {H : Type} {enc0 : TypeId × Value → H} {W : World} {base : Nat} {spare : Nat → Bool} {held : Bool} (n : Nat) (cs : List Value) (y : DataW H × List MemPlace) (h : DataW.trod enc0 Try.prog W base spare held n 32 cs = some y) : ∃ (A : Option Addr) (c : Nat) (xs : List BidV), cs = [.slice A xs.length c] ∧ Rd W 3 encBi A xs ∧ ∀ x ∈ xs, True := by
  exact rd_of_trodP encBi (fun _ => True) Try.underlying32 yc53 (by decide) (fun _ => rfl) (fun n cs y _ h => ofw53 n cs y h) h
theorem ofwL {H : Type} {enc0 : TypeId × Value → H} {W : World} {base : Nat} {spare : Nat → Bool} {held : Bool} (n : Nat) (cs : List Value) (y : DataW H × List MemPlace) (h : DataW.trod enc0 Try.prog W base spare held n 43 cs = some y) : ∃ x : ListV, cs = encLs x ∧ GoodL W x := by
  obtain ⟨A, c, l, e, r, _⟩ := ofw43 _ _ _ h
  exact ⟨⟨A, c, l⟩, e, r⟩
theorem ofw58 {H : Type} {enc0 : TypeId × Value → H} {W : World} {base : Nat} {spare : Nat → Bool} {held : Bool} (n : Nat) (cs : List Value) (y : DataW H × List MemPlace) (h : DataW.trod enc0 Try.prog W base spare held n 58 cs = some y) : ∃ (A : Option Addr) (c : Nat) (xs : List ListV), cs = [.slice A xs.length c] ∧ Rd W 1 encLs A xs ∧ ∀ x ∈ xs, GoodL W x := by
  exact rd_of_trodP encLs (GoodL W) Try.underlying58 yc43 (by decide) (fun _ => rfl) (fun n cs y _ h => ofwL n cs y h) h
theorem of43 {H : Type} {enc0 : TypeId × Value → H} {W : World} {base : Nat} {spare : Nat → Bool} {held : Bool} {n : Nat} {cs : List Value} {y : DataW H × List MemPlace} (h : DataW.trod enc0 Try.prog W base spare held n 43 cs = some y) (hw : Wok Try.prog 43 y.1) : ∃ (Ax : Option Addr) (cx : Nat) (x : List Int), cs = [.slice Ax x.length cx] ∧ Rd W 1 enInt Ax x ∧ x.length * 8 ≤ 140737488351232 := by
  obtain ⟨A, c, l, e, r, _⟩ := ofw43 _ _ _ h
  exact ⟨A, c, l, e, r, wslice Try.underlying43 (B := 8) (by kernel_rfl) h hw e⟩
theorem of32 {H : Type} {enc0 : TypeId × Value → H} {W : World} {base : Nat} {spare : Nat → Bool} {held : Bool} {n : Nat} {cs : List Value} {y : DataW H × List MemPlace} (h : DataW.trod enc0 Try.prog W base spare held n 32 cs = some y) (hw : Wok Try.prog 32 y.1) : ∃ (Ax : Option Addr) (cx : Nat) (x : List BidV), cs = [.slice Ax x.length cx] ∧ Rd W 3 encBi Ax x ∧ x.length * 24 ≤ 140737488351232 := by
  obtain ⟨A, c, l, e, r, _⟩ := ofw32 _ _ _ h
  exact ⟨A, c, l, e, r, wslice Try.underlying32 (B := 24) (by kernel_rfl) h hw e⟩
theorem of24 {H : Type} {enc0 : TypeId × Value → H} {W : World} {base : Nat} {spare : Nat → Bool} {held : Bool} {n : Nat} {cs : List Value} {y : DataW H × List MemPlace} (h : DataW.trod enc0 Try.prog W base spare held n 24 cs = some y) (_hw : Wok Try.prog 24 y.1) : ∃ (sx : Int) (vx : Int) (Ax : Option Addr) (cx : Nat) (x : List RiseV), cs = [.int .i64 sx, .int .i64 vx, .slice Ax x.length cx] ∧ Rd W 2 encRi Ax x := by
  obtain ⟨xs, m, hm, hX, hl, hxl, hf⟩ := DataW.trod_struct Try.underlying24 h
  subst hX
  rw [yc24] at hl
  obtain ⟨k0, k1, k2, rfl⟩ := list3' hl
  obtain ⟨y0, y1, y2, rfl⟩ := list3' hxl
  have g0 : DataW.trod enc0 Try.prog W base spare held m 3 [k0] = some y0 := by
    have h5 : DataW.trod enc0 Try.prog W base spare held m 3 (([k0, k1, k2].drop 0).take (Try.prog.cellsOf 3)) = some y0 := hf 0 _ rfl
    rw [yc3] at h5; exact h5
  have g1 : DataW.trod enc0 Try.prog W base spare held m 3 [k1] = some y1 := by
    have h5 : DataW.trod enc0 Try.prog W base spare held m 3 (([k0, k1, k2].drop 1).take (Try.prog.cellsOf 3)) = some y1 := hf 1 _ rfl
    rw [yc3] at h5; exact h5
  have g2 : DataW.trod enc0 Try.prog W base spare held m 22 [k2] = some y2 := by
    have h5 : DataW.trod enc0 Try.prog W base spare held m 22 (([k0, k1, k2].drop 2).take (Try.prog.cellsOf 22)) = some y2 := hf 2 _ rfl
    rw [yc22] at h5; exact h5
  obtain ⟨a0, e0, _⟩ := int_of _ _ _ g0
  obtain ⟨a1, e1, _⟩ := int_of _ _ _ g1
  obtain ⟨A, c, l, e2, r2, _⟩ := ofw22 _ _ _ g2
  cases e0; cases e1; cases e2
  exact ⟨a0, a1, A, c, l, rfl, r2⟩
theorem of55 {H : Type} {enc0 : TypeId × Value → H} {W : World} {base : Nat} {spare : Nat → Bool} {held : Bool} {n : Nat} {cs : List Value} {y : DataW H × List MemPlace} (h : DataW.trod enc0 Try.prog W base spare held n 55 cs = some y) : ∃ (bx : BidV) (nx : Int), cs = [.int .i64 bx.who, .int .i64 bx.way, .int .i64 bx.most, .int .i64 nx] := by
  obtain ⟨xs, m, hm, hX, hl, hxl, hf⟩ := DataW.trod_struct Try.underlying55 h
  subst hX
  rw [yc55] at hl
  obtain ⟨k0, k1, k2, k3, rfl⟩ := list4' hl
  obtain ⟨y0, y1, rfl⟩ := list2' hxl
  have g0 : DataW.trod enc0 Try.prog W base spare held m 53 [k0, k1, k2] = some y0 := by
    have h5 : DataW.trod enc0 Try.prog W base spare held m 53 (([k0, k1, k2, k3].drop 0).take (Try.prog.cellsOf 53)) = some y0 := hf 0 _ rfl
    rw [yc53] at h5; exact h5
  have g1 : DataW.trod enc0 Try.prog W base spare held m 3 [k3] = some y1 := by
    have h5 : DataW.trod enc0 Try.prog W base spare held m 3 (([k0, k1, k2, k3].drop 3).take (Try.prog.cellsOf 3)) = some y1 := hf 1 _ rfl
    rw [yc3] at h5; exact h5
  obtain ⟨s, e0, _⟩ := ofw53 _ _ _ g0
  obtain ⟨a1, e1, _⟩ := int_of _ _ _ g1
  cases e0; cases e1
  exact ⟨s, a1, rfl⟩
theorem of60 {H : Type} {enc0 : TypeId × Value → H} {W : World} {base : Nat} {spare : Nat → Bool} {held : Bool} {n : Nat} {cs : List Value} {y : DataW H × List MemPlace} (h : DataW.trod enc0 Try.prog W base spare held n 60 cs = some y) (_hw : Wok Try.prog 60 y.1) : ∃ (Ax : Option Addr) (cx : Nat) (x : List Int) (Bx : Option Addr) (dx : Nat) (vx : List ListV), cs = [.slice Ax x.length cx, .slice Bx vx.length dx] ∧ Rd W 1 enInt Ax x ∧ Rd W 1 encLs Bx vx ∧ (∀ q ∈ vx, GoodL W q) := by
  obtain ⟨xs, m, hm, hX, hl, hxl, hf⟩ := DataW.trod_struct Try.underlying60 h
  subst hX
  rw [yc60] at hl
  obtain ⟨k0, k1, rfl⟩ := list2' hl
  obtain ⟨y0, y1, rfl⟩ := list2' hxl
  have g0 : DataW.trod enc0 Try.prog W base spare held m 43 [k0] = some y0 := by
    have h5 : DataW.trod enc0 Try.prog W base spare held m 43 (([k0, k1].drop 0).take (Try.prog.cellsOf 43)) = some y0 := hf 0 _ rfl
    rw [yc43] at h5; exact h5
  have g1 : DataW.trod enc0 Try.prog W base spare held m 58 [k1] = some y1 := by
    have h5 : DataW.trod enc0 Try.prog W base spare held m 58 (([k0, k1].drop 1).take (Try.prog.cellsOf 58)) = some y1 := hf 1 _ rfl
    rw [yc58] at h5; exact h5
  obtain ⟨A, c, l, e0, r0, _⟩ := ofw43 _ _ _ g0
  obtain ⟨B, d, v, e1, r1, s1⟩ := ofw58 _ _ _ g1
  cases e0; cases e1
  exact ⟨A, c, l, B, d, v, rfl, r0, r1, s1⟩
theorem of62 {H : Type} {enc0 : TypeId × Value → H} {W : World} {base : Nat} {spare : Nat → Bool} {held : Bool} {n : Nat} {cs : List Value} {y : DataW H × List MemPlace} (h : DataW.trod enc0 Try.prog W base spare held n 62 cs = some y) (_hw : Wok Try.prog 62 y.1) : ∃ (Ax : Option Addr) (cx : Nat) (x : List Int) (Bx : Option Addr) (dx : Nat) (vx : List Int), cs = [.slice Ax x.length cx, .slice Bx vx.length dx] ∧ Rd W 1 enInt Ax x ∧ Rd W 1 enInt Bx vx := by
  obtain ⟨xs, m, hm, hX, hl, hxl, hf⟩ := DataW.trod_struct Try.underlying62 h
  subst hX
  rw [yc62] at hl
  obtain ⟨k0, k1, rfl⟩ := list2' hl
  obtain ⟨y0, y1, rfl⟩ := list2' hxl
  have g0 : DataW.trod enc0 Try.prog W base spare held m 43 [k0] = some y0 := by
    have h5 : DataW.trod enc0 Try.prog W base spare held m 43 (([k0, k1].drop 0).take (Try.prog.cellsOf 43)) = some y0 := hf 0 _ rfl
    rw [yc43] at h5; exact h5
  have g1 : DataW.trod enc0 Try.prog W base spare held m 43 [k1] = some y1 := by
    have h5 : DataW.trod enc0 Try.prog W base spare held m 43 (([k0, k1].drop 1).take (Try.prog.cellsOf 43)) = some y1 := hf 1 _ rfl
    rw [yc43] at h5; exact h5
  obtain ⟨A, c, l, e0, r0, _⟩ := ofw43 _ _ _ g0
  obtain ⟨B, d, v, e1, r1, _⟩ := ofw43 _ _ _ g1
  cases e0; cases e1
  exact ⟨A, c, l, B, d, v, rfl, r0, r1⟩
theorem xc3 : Try.prog.cellsOf 3 = 1 := by kernel_rfl
theorem xc25 : Try.prog.cellsOf 25 = 2 := by kernel_rfl
theorem of25 {H : Type} {enc0 : TypeId × Value → H} {W : World} {base : Nat} {spare : Nat → Bool} {held : Bool} {n : Nat} {cs : List Value} {y : DataW H × List MemPlace} (h : DataW.trod enc0 Try.prog W base spare held n 25 cs = some y) : ∃ (x0 : Int) (x1 : Int), cs = [.int .i64 x0, .int .i64 x1] := by
  obtain ⟨ns, h1, h2⟩ := arr_cells Try.underlying25 Try.underlying3 xc3 xc25 h
  obtain ⟨x0, x1, rfl⟩ := list2' h1
  exact ⟨x0, x1, h2⟩
end Go.Proofs.Ytehmifpofpifkaa
