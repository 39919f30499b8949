/- Texts of ours, joined: 1 of them. Conditions: none. -/
import Derived.Test.YtppfniekcgnmjaaGreatZb
import Derived.Test.YtppfniekcgnmjaaGreatRows
import Derived.ProofKit
import Derived.LaidMore
import Derived.Stop.Joined
namespace Go.Proofs.YtppfniekcgnmjaaGreat.To
open Go.Sx Go.RowKit Go.ChangeShapes Go.WideShapes Go.ChangeAt
set_option maxRecDepth 100000
theorem frOwn : ownKnob Tryz.prog.godebug = none := by kernel_rfl
theorem frLaidOut : laidOutB Tryz.prog = true := by kernel_rfl
theorem yc3 : Tryz.prog.cellsOf 3 = 1 := by kernel_rfl
theorem rd_of_trodP {H : Type} {enc0 : TypeId × Value → H} {P : Program} {w : World} {base : Nat} {spare : Nat → Bool} {held : Bool} {α : Type} {t e : TypeId} {sz fuel : Nat} (enc : α → List Value) (G : α → Prop) {cs : List Value} {x : DataW H × List MemPlace} (ht : P.underlying t = some (.slice e)) (hsz : P.cellsOf e = sz) (hpos : 0 < sz) (henc : ∀ s, (enc s).length = sz)
    (hdec : ∀ (n : Nat) (cs : List Value) (y : DataW H × List MemPlace), n < fuel → DataW.trod enc0 P w base spare held n e cs = some y → ∃ s : α, cs = enc s ∧ G s)
    (h : DataW.trod enc0 P w base spare held fuel t cs = some x) : ∃ (A : Option Addr) (c : Nat) (xs : List α), cs = [.slice A xs.length c] ∧ Rd w sz enc A xs ∧ ∀ s ∈ xs, G s := by
  rcases DataW.trod_slice ht h with ⟨hcs, _⟩ | ⟨a, len, cap, elems, rest, n, hfu, hcs, _, _, hl, hm, hel, hget, _⟩
  · exact ⟨none, 0, [], hcs, Rd.nil, by simp⟩
  · have hone : ∀ i, i < len → ∃ s : α, w.cells? base (a.add (i * sz)) sz = some (enc s) ∧ G s := by
      intro i hi
      have h1 := hget i hi
      rw [hsz] at h1
      have hx : elems[i]? = some (elems[i]'(by omega)) := List.getElem?_eq_getElem (by omega)
      rw [hx] at h1
      obtain ⟨cs', h2, h3⟩ := Option.bind_eq_some_iff.1 h1
      obtain ⟨s, rfl, hs⟩ := hdec n cs' _ (by omega) h3
      exact ⟨s, h2, hs⟩
    have key : ∀ k, k ≤ len → ∃ xs : List α, xs.length = k ∧ ∀ i s, xs[i]? = some s → w.cells? base (a.add (i * sz)) sz = some (enc s) ∧ G s := by
      intro k
      induction k with
      | zero => intro _; exact ⟨[], rfl, fun i s hs => by simp at hs⟩
      | succ k ih =>
        intro hk
        obtain ⟨xs, h1, h2⟩ := ih (by omega)
        obtain ⟨s, hs⟩ := hone k (by omega)
        refine ⟨xs ++ [s], by simp [h1], fun i s' hs' => ?_⟩
        by_cases hi : i < xs.length
        · rw [List.getElem?_append_left hi] at hs'; exact h2 i s' hs'
        · rw [List.getElem?_append_right (by omega)] at hs'
          have : i = k := by
            have := (List.getElem?_eq_some_iff.1 hs').1
            simp at this; omega
          subst this
          rw [h1] at hs'
          simp at hs'
          rw [← hs']; exact hs
    obtain ⟨xs, h1, h2⟩ := key len (Nat.le_refl _)
    refine ⟨some a, cap, xs, by rw [h1]; exact hcs, ⟨by rw [h1]; omega, fun hne => ⟨a, rfl, ?_, fun i s j u hs hu => ?_⟩⟩, fun s hs => ?_⟩
    · obtain ⟨s, hs⟩ : ∃ s, xs[0]? = some s := by cases xs with | nil => exact absurd rfl hne | cons s l => exact ⟨s, rfl⟩
      have h3 := cells_get (h2 0 s hs).1
      obtain ⟨u, hu⟩ : ∃ u, (enc s)[0]? = some u := ⟨_, List.getElem?_eq_getElem (by rw [henc]; exact hpos)⟩
      have h4 := h3.2 0 u hu
      have := World.block_lt_of_cell? _ _ h4
      simpa [Go.Sx.block_add] using this
    · have h3 := cells_get (h2 i s hs).1
      have := h3.2 j u hu
      rwa [add_add] at this
    · obtain ⟨i, hi⟩ := List.mem_iff_getElem?.1 hs
      exact (h2 i s hi).2
theorem int_of {H : Type} {enc0 : TypeId × Value → H} {W : World} {base : Nat} {spare : Nat → Bool} {held : Bool} (n : Nat) (cs : List Value) (y : DataW H × List MemPlace) (h : DataW.trod enc0 Tryz.prog W base spare held n 3 cs = some y) : ∃ s : Int, cs = enInt s ∧ True := by
  obtain ⟨m, hm, _⟩ := DataW.trod_int Tryz.underlying3 h
  exact ⟨m, hm, trivial⟩
theorem yc23 : Tryz.prog.cellsOf 23 = 1 := by kernel_rfl
theorem yc39 : Tryz.prog.cellsOf 39 = 1 := by kernel_rfl
theorem yc40 : Tryz.prog.cellsOf 40 = 1 := by kernel_rfl
theorem yc42 : Tryz.prog.cellsOf 42 = 3 := by kernel_rfl
theorem yc43 : Tryz.prog.cellsOf 43 = 3 := by kernel_rfl
theorem yc50 : Tryz.prog.cellsOf 50 = 1 := by kernel_rfl
theorem yc52 : Tryz.prog.cellsOf 52 = 1 := by kernel_rfl
theorem yc91 : Tryz.prog.cellsOf 91 = 2 := by kernel_rfl
theorem yc105 : Tryz.prog.cellsOf 105 = 2 := by kernel_rfl
theorem ofMe {H : Type} {enc0 : TypeId × Value → H} {W : World} {base : Nat} {spare : Nat → Bool} {held : Bool} (n : Nat) (cs : List Value) (y : DataW H × List MemPlace) (h : DataW.trod enc0 Tryz.prog W base spare held n 91 cs = some y) : ∃ s : Pl.Meas, cs = Pl.encMe s ∧ True := by
  obtain ⟨xs, m, hm, hX, hl, hxl, hf⟩ := DataW.trod_struct Tryz.underlying91 h
  subst hX
  rw [yc91] at hl
  obtain ⟨k0, k1, rfl⟩ := list2' hl
  obtain ⟨y0, y1, rfl⟩ := list2' hxl
  have g0 : DataW.trod enc0 Tryz.prog W base spare held m 3 [k0] = some y0 := by
    have h5 : DataW.trod enc0 Tryz.prog W base spare held m 3 (([k0, k1].drop 0).take (Tryz.prog.cellsOf 3)) = some y0 := hf 0 _ rfl
    rw [yc3] at h5; exact h5
  have g1 : DataW.trod enc0 Tryz.prog W base spare held m 3 [k1] = some y1 := by
    have h5 : DataW.trod enc0 Tryz.prog W base spare held m 3 (([k0, k1].drop 1).take (Tryz.prog.cellsOf 3)) = some y1 := hf 1 _ rfl
    rw [yc3] at h5; exact h5
  obtain ⟨a0, e0, _⟩ := int_of _ _ _ g0
  obtain ⟨a1, e1, _⟩ := int_of _ _ _ g1
  cases e0; cases e1
  exact ⟨⟨a0, a1⟩, rfl, trivial⟩
theorem ofSp {H : Type} {enc0 : TypeId × Value → H} {W : World} {base : Nat} {spare : Nat → Bool} {held : Bool} (n : Nat) (cs : List Value) (y : DataW H × List MemPlace) (h : DataW.trod enc0 Tryz.prog W base spare held n 105 cs = some y) : ∃ s : Pl.Span, cs = Pl.encSp s ∧ True := by
  obtain ⟨xs, m, hm, hX, hl, hxl, hf⟩ := DataW.trod_struct Tryz.underlying105 h
  subst hX
  rw [yc105] at hl
  obtain ⟨k0, k1, rfl⟩ := list2' hl
  obtain ⟨y0, y1, rfl⟩ := list2' hxl
  have g0 : DataW.trod enc0 Tryz.prog W base spare held m 3 [k0] = some y0 := by
    have h5 : DataW.trod enc0 Tryz.prog W base spare held m 3 (([k0, k1].drop 0).take (Tryz.prog.cellsOf 3)) = some y0 := hf 0 _ rfl
    rw [yc3] at h5; exact h5
  have g1 : DataW.trod enc0 Tryz.prog W base spare held m 3 [k1] = some y1 := by
    have h5 : DataW.trod enc0 Tryz.prog W base spare held m 3 (([k0, k1].drop 1).take (Tryz.prog.cellsOf 3)) = some y1 := hf 1 _ rfl
    rw [yc3] at h5; exact h5
  obtain ⟨a0, e0, _⟩ := int_of _ _ _ g0
  obtain ⟨a1, e1, _⟩ := int_of _ _ _ g1
  cases e0; cases e1
  exact ⟨⟨a0, a1⟩, rfl, trivial⟩
theorem ofwI {H : Type} {enc0 : TypeId × Value → H} {W : World} {base : Nat} {spare : Nat → Bool} {held : Bool} (n : Nat) (cs : List Value) (y : DataW H × List MemPlace) (h : DataW.trod enc0 Tryz.prog W base spare held n 23 cs = some y) : ∃ (A : Option Addr) (c : Nat) (xs : List Int), cs = [.slice A xs.length c] ∧ Rd W 1 enInt A xs ∧ ∀ x ∈ xs, True := by
  exact rd_of_trodP enInt (fun _ => True) Tryz.underlying23 yc3 (by decide) (fun _ => rfl) (fun n cs y _ h => int_of n cs y h) h
theorem ofwMe {H : Type} {enc0 : TypeId × Value → H} {W : World} {base : Nat} {spare : Nat → Bool} {held : Bool} (n : Nat) (cs : List Value) (y : DataW H × List MemPlace) (h : DataW.trod enc0 Tryz.prog W base spare held n 39 cs = some y) : ∃ (A : Option Addr) (c : Nat) (xs : List Pl.Meas), cs = [.slice A xs.length c] ∧ Rd W 2 Pl.encMe A xs ∧ ∀ x ∈ xs, True := by
  exact rd_of_trodP Pl.encMe (fun _ => True) Tryz.underlying39 yc91 (by decide) (fun _ => rfl) (fun n cs y _ h => ofMe n cs y h) h
theorem ofwSp {H : Type} {enc0 : TypeId × Value → H} {W : World} {base : Nat} {spare : Nat → Bool} {held : Bool} (n : Nat) (cs : List Value) (y : DataW H × List MemPlace) (h : DataW.trod enc0 Tryz.prog W base spare held n 50 cs = some y) : ∃ (A : Option Addr) (c : Nat) (xs : List Pl.Span), cs = [.slice A xs.length c] ∧ Rd W 2 Pl.encSp A xs ∧ ∀ x ∈ xs, True := by
  exact rd_of_trodP Pl.encSp (fun _ => True) Tryz.underlying50 yc105 (by decide) (fun _ => rfl) (fun n cs y _ h => ofSp n cs y h) h
theorem ofFk {H : Type} {enc0 : TypeId × Value → H} {W : World} {base : Nat} {spare : Nat → Bool} {held : Bool} (n : Nat) (cs : List Value) (y : DataW H × List MemPlace) (h : DataW.trod enc0 Tryz.prog W base spare held n 52 cs = some y) : ∃ x : Pl.FakeV, cs = Pl.encFk x ∧ Pl.GoodK W x := by
  obtain ⟨xs, m, hm, hX, hl, hxl, hf⟩ := DataW.trod_struct Tryz.underlying52 h
  subst hX
  rw [yc52] at hl
  obtain ⟨k0, rfl⟩ := list1' hl
  obtain ⟨y0, rfl⟩ := list1' hxl
  have g0 : DataW.trod enc0 Tryz.prog W base spare held m 50 [k0] = some y0 := by
    have h5 : DataW.trod enc0 Tryz.prog W base spare held m 50 (([k0].drop 0).take (Tryz.prog.cellsOf 50)) = some y0 := hf 0 _ rfl
    rw [yc50] at h5; exact h5
  obtain ⟨A, c, l, e, r, _⟩ := ofwSp _ _ _ g0
  exact ⟨⟨A, c, l⟩, e, r⟩
theorem ofwFk {H : Type} {enc0 : TypeId × Value → H} {W : World} {base : Nat} {spare : Nat → Bool} {held : Bool} (n : Nat) (cs : List Value) (y : DataW H × List MemPlace) (h : DataW.trod enc0 Tryz.prog W base spare held n 40 cs = some y) : ∃ (A : Option Addr) (c : Nat) (xs : List Pl.FakeV), cs = [.slice A xs.length c] ∧ Rd W 1 Pl.encFk A xs ∧ ∀ x ∈ xs, Pl.GoodK W x := by
  exact rd_of_trodP Pl.encFk (fun x => Pl.GoodK W x) Tryz.underlying40 yc52 (by decide) (fun _ => rfl) (fun n cs y _ h => ofFk n cs y h) h
theorem of42 {H : Type} {enc0 : TypeId × Value → H} {W : World} {base : Nat} {spare : Nat → Bool} {held : Bool} {n : Nat} {cs : List Value} {y : DataW H × List MemPlace} (h : DataW.trod enc0 Tryz.prog W base spare held n 42 cs = some y) (_hw : Wok Tryz.prog 42 y.1) : ∃ (Ax : Option Addr) (ax : Nat) (mx : List Pl.Meas) (Bx : Option Addr) (bx : Nat) (tx : List Int) (Dx : Option Addr) (dx : Nat) (fx : List Pl.FakeV), cs = [.slice Ax mx.length ax, .slice Bx tx.length bx, .slice Dx fx.length dx] ∧ Rd W 2 Pl.encMe Ax mx ∧ Rd W 1 enInt Bx tx ∧ Rd W 1 Pl.encFk Dx fx ∧ (∀ q ∈ fx, Pl.GoodK W q) := by
  obtain ⟨xs, m, hm, hX, hl, hxl, hf⟩ := DataW.trod_struct Tryz.underlying42 h
  subst hX
  rw [yc42] at hl
  obtain ⟨k0, k1, k2, rfl⟩ := list3' hl
  obtain ⟨y0, y1, y2, rfl⟩ := list3' hxl
  have g0 : DataW.trod enc0 Tryz.prog W base spare held m 39 [k0] = some y0 := by
    have h5 : DataW.trod enc0 Tryz.prog W base spare held m 39 (([k0, k1, k2].drop 0).take (Tryz.prog.cellsOf 39)) = some y0 := hf 0 _ rfl
    rw [yc39] at h5; exact h5
  have g1 : DataW.trod enc0 Tryz.prog W base spare held m 23 [k1] = some y1 := by
    have h5 : DataW.trod enc0 Tryz.prog W base spare held m 23 (([k0, k1, k2].drop 1).take (Tryz.prog.cellsOf 23)) = some y1 := hf 1 _ rfl
    rw [yc23] at h5; exact h5
  have g2 : DataW.trod enc0 Tryz.prog W base spare held m 40 [k2] = some y2 := by
    have h5 : DataW.trod enc0 Tryz.prog W base spare held m 40 (([k0, k1, k2].drop 2).take (Tryz.prog.cellsOf 40)) = some y2 := hf 2 _ rfl
    rw [yc40] at h5; exact h5
  obtain ⟨A, c, l, e0, r0, _⟩ := ofwMe _ _ _ g0
  obtain ⟨B, d, q, e1, r1, _⟩ := ofwI _ _ _ g1
  obtain ⟨D, k, z, e2, r2, s2⟩ := ofwFk _ _ _ g2
  cases e0; cases e1; cases e2
  exact ⟨A, c, l, B, d, q, D, k, z, rfl, r0, r1, r2, s2⟩
theorem of43 {H : Type} {enc0 : TypeId × Value → H} {W : World} {base : Nat} {spare : Nat → Bool} {held : Bool} {n : Nat} {cs : List Value} {y : DataW H × List MemPlace} (h : DataW.trod enc0 Tryz.prog W base spare held n 43 cs = some y) : ∃ (x0 : Int) (x1 : Int) (x2 : Int), cs = [.int .i64 x0, .int .i64 x1, .int .i64 x2] := by
  obtain ⟨xs, m, hm, hX, hl, hxl, hf⟩ := DataW.trod_array Tryz.underlying43 h
  subst hX
  rw [yc43] at hl
  obtain ⟨k0, k1, k2, rfl⟩ := list3' hl
  obtain ⟨y0, y1, y2, rfl⟩ := list3' hxl
  have g0 : DataW.trod enc0 Tryz.prog W base spare held m 3 [k0] = some y0 := by
    have h5 : DataW.trod enc0 Tryz.prog W base spare held m 3 (([k0, k1, k2].drop (0 * Tryz.prog.cellsOf 3)).take (Tryz.prog.cellsOf 3)) = some y0 := hf 0 (by omega)
    rw [yc3] at h5; exact h5
  have g1 : DataW.trod enc0 Tryz.prog W base spare held m 3 [k1] = some y1 := by
    have h5 : DataW.trod enc0 Tryz.prog W base spare held m 3 (([k0, k1, k2].drop (1 * Tryz.prog.cellsOf 3)).take (Tryz.prog.cellsOf 3)) = some y1 := hf 1 (by omega)
    rw [yc3] at h5; exact h5
  have g2 : DataW.trod enc0 Tryz.prog W base spare held m 3 [k2] = some y2 := by
    have h5 : DataW.trod enc0 Tryz.prog W base spare held m 3 (([k0, k1, k2].drop (2 * Tryz.prog.cellsOf 3)).take (Tryz.prog.cellsOf 3)) = some y2 := hf 2 (by omega)
    rw [yc3] at h5; exact h5
  obtain ⟨a0, e0, _⟩ := int_of _ _ _ g0
  obtain ⟨a1, e1, _⟩ := int_of _ _ _ g1
  obtain ⟨a2, e2, _⟩ := int_of _ _ _ g2
  cases e0; cases e1; cases e2
  exact ⟨a0, a1, a2, rfl⟩
theorem of23 {H : Type} {enc0 : TypeId × Value → H} {W : World} {base : Nat} {spare : Nat → Bool} {held : Bool} {n : Nat} {cs : List Value} {y : DataW H × List MemPlace} (h : DataW.trod enc0 Tryz.prog W base spare held n 23 cs = some y) (hw : Wok Tryz.prog 23 y.1) : ∃ (Ax : Option Addr) (cx : Nat) (x : List Int), cs = [.slice Ax x.length cx] ∧ Rd W 1 enInt Ax x ∧ x.length * 8 ≤ 140737488351232 := by
  obtain ⟨A, c, l, e, r, _⟩ := ofwI _ _ _ h
  exact ⟨A, c, l, e, r, wslice Tryz.underlying23 (B := 8) (by kernel_rfl) h hw e⟩
end Go.Proofs.YtppfniekcgnmjaaGreat.To
