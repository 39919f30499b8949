/- Texts of ours, joined: 1 of them. Conditions: none. -/
import Derived.Test.YtomidcehahdmbaaZg
import Derived.Test.YtomidcehahdmbaaRows
import Derived.ProofKit
import Derived.LaidMore
import Derived.Stop.Joined
namespace Go.Proofs.Ytomidcehahdmbaa
open Go.Sx Go.RowKit Go.ChangeShapes Go.WideShapes Go.ChangeAt Vm
set_option maxRecDepth 100000
theorem frOwn : ownKnob Try.prog.godebug = none := by kernel_rfl
theorem frLaidOut : laidOutB Try.prog = true := by kernel_rfl
theorem yc3 : Try.prog.cellsOf 3 = 1 := by kernel_rfl
theorem yc22 : Try.prog.cellsOf 22 = 1 := by kernel_rfl
theorem yc23 : Try.prog.cellsOf 23 = 1 := by kernel_rfl
theorem yc24 : Try.prog.cellsOf 24 = 1 := by kernel_rfl
theorem yc26 : Try.prog.cellsOf 26 = 3 := by kernel_rfl
theorem yc45 : Try.prog.cellsOf 45 = 1 := by kernel_rfl
theorem yc52 : Try.prog.cellsOf 52 = 8 := by kernel_rfl
theorem yc62 : Try.prog.cellsOf 62 = 3 := by kernel_rfl
theorem yc69 : Try.prog.cellsOf 69 = 4 := by kernel_rfl
theorem yc71 : Try.prog.cellsOf 71 = 3 := by kernel_rfl
theorem rd_of_trodP {H : Type} {enc0 : TypeId × Value → H} {P : Program} {w : World} {base : Nat} {spare : Nat → Bool} {held : Bool} {α : Type} {t e : TypeId} {sz fuel : Nat} (enc : α → List Value) (G : α → Prop) {cs : List Value} {x : DataW H × List MemPlace} (ht : P.underlying t = some (.slice e)) (hsz : P.cellsOf e = sz) (hpos : 0 < sz) (henc : ∀ s, (enc s).length = sz)
    (hdec : ∀ (n : Nat) (cs : List Value) (y : DataW H × List MemPlace), n < fuel → DataW.trod enc0 P w base spare held n e cs = some y → ∃ s : α, cs = enc s ∧ G s)
    (h : DataW.trod enc0 P w base spare held fuel t cs = some x) : ∃ (A : Option Addr) (c : Nat) (xs : List α), cs = [.slice A xs.length c] ∧ Rd w sz enc A xs ∧ ∀ s ∈ xs, G s := by
  rcases DataW.trod_slice ht h with ⟨hcs, _⟩ | ⟨a, len, cap, elems, rest, n, hfu, hcs, _, _, hl, hm, hel, hget, _⟩
  · exact ⟨none, 0, [], hcs, Rd.nil, by simp⟩
  · have hone : ∀ i, i < len → ∃ s : α, w.cells? base (a.add (i * sz)) sz = some (enc s) ∧ G s := by
      intro i hi
      have h1 := hget i hi
      rw [hsz] at h1
      have hx : elems[i]? = some (elems[i]'(by omega)) := List.getElem?_eq_getElem (by omega)
      rw [hx] at h1
      obtain ⟨cs', h2, h3⟩ := Option.bind_eq_some_iff.1 h1
      obtain ⟨s, rfl, hs⟩ := hdec n cs' _ (by omega) h3
      exact ⟨s, h2, hs⟩
    have key : ∀ k, k ≤ len → ∃ xs : List α, xs.length = k ∧ ∀ i s, xs[i]? = some s → w.cells? base (a.add (i * sz)) sz = some (enc s) ∧ G s := by
      intro k
      induction k with
      | zero => intro _; exact ⟨[], rfl, fun i s hs => by simp at hs⟩
      | succ k ih =>
        intro hk
        obtain ⟨xs, h1, h2⟩ := ih (by omega)
        obtain ⟨s, hs⟩ := hone k (by omega)
        refine ⟨xs ++ [s], by simp [h1], fun i s' hs' => ?_⟩
        by_cases hi : i < xs.length
        · rw [List.getElem?_append_left hi] at hs'; exact h2 i s' hs'
        · rw [List.getElem?_append_right (by omega)] at hs'
          have : i = k := by
            have := (List.getElem?_eq_some_iff.1 hs').1
            simp at this; omega
          subst this
          rw [h1] at hs'
          simp at hs'
          rw [← hs']; exact hs
    obtain ⟨xs, h1, h2⟩ := key len (Nat.le_refl _)
    refine ⟨some a, cap, xs, by rw [h1]; exact hcs, ⟨by rw [h1]; omega, fun hne => ⟨a, rfl, ?_, fun i s j u hs hu => ?_⟩⟩, fun s hs => ?_⟩
    · obtain ⟨s, hs⟩ : ∃ s, xs[0]? = some s := by cases xs with | nil => exact absurd rfl hne | cons s l => exact ⟨s, rfl⟩
      have h3 := cells_get (h2 0 s hs).1
      obtain ⟨u, hu⟩ : ∃ u, (enc s)[0]? = some u := ⟨_, List.getElem?_eq_getElem (by rw [henc]; exact hpos)⟩
      have h4 := h3.2 0 u hu
      have := World.block_lt_of_cell? _ _ h4
      simpa [Go.Sx.block_add] using this
    · have h3 := cells_get (h2 i s hs).1
      have := h3.2 j u hu
      rwa [add_add] at this
    · obtain ⟨i, hi⟩ := List.mem_iff_getElem?.1 hs
      exact (h2 i s hi).2
theorem rd_of_trodC {H : Type} {enc0 : TypeId × Value → H} {P : Program} {w : World} {base : Nat} {spare : Nat → Bool} {held : Bool} {α : Type} {t e : TypeId} {sz fuel : Nat} (enc : α → List Value) (G : α → Prop) {cs : List Value} {x : DataW H × List MemPlace} (ht : P.underlying t = some (.slice e)) (hsz : P.cellsOf e = sz) (hpos : 0 < sz) (henc : ∀ s, (enc s).length = sz)
    (hdec : ∀ (n : Nat) (cs : List Value) (y : DataW H × List MemPlace), n < fuel → DataW.trod enc0 P w base spare held n e cs = some y → ∃ s : α, cs = enc s ∧ G s)
    (h : DataW.trod enc0 P w base spare held fuel t cs = some x) : ∃ (A : Option Addr) (c : Nat) (xs : List α), cs = [.slice A xs.length c] ∧ Rd w sz enc A xs ∧ (∀ s ∈ xs, G s) ∧ xs.length ≤ c := by
  rcases DataW.trod_slice ht h with ⟨hcs, _⟩ | ⟨a, len, cap, elems, rest, n, hfu, hcs, _, _, hl, hm, hel, hget, _⟩
  · exact ⟨none, 0, [], hcs, Rd.nil, by simp, Nat.le_refl _⟩
  · have hone : ∀ i, i < len → ∃ s : α, w.cells? base (a.add (i * sz)) sz = some (enc s) ∧ G s := by
      intro i hi
      have h1 := hget i hi
      rw [hsz] at h1
      have hx : elems[i]? = some (elems[i]'(by omega)) := List.getElem?_eq_getElem (by omega)
      rw [hx] at h1
      obtain ⟨cs', h2, h3⟩ := Option.bind_eq_some_iff.1 h1
      obtain ⟨s, rfl, hs⟩ := hdec n cs' _ (by omega) h3
      exact ⟨s, h2, hs⟩
    have key : ∀ k, k ≤ len → ∃ xs : List α, xs.length = k ∧ ∀ i s, xs[i]? = some s → w.cells? base (a.add (i * sz)) sz = some (enc s) ∧ G s := by
      intro k
      induction k with
      | zero => intro _; exact ⟨[], rfl, fun i s hs => by simp at hs⟩
      | succ k ih =>
        intro hk
        obtain ⟨xs, h1, h2⟩ := ih (by omega)
        obtain ⟨s, hs⟩ := hone k (by omega)
        refine ⟨xs ++ [s], by simp [h1], fun i s' hs' => ?_⟩
        by_cases hi : i < xs.length
        · rw [List.getElem?_append_left hi] at hs'; exact h2 i s' hs'
        · rw [List.getElem?_append_right (by omega)] at hs'
          have : i = k := by
            have := (List.getElem?_eq_some_iff.1 hs').1
            simp at this; omega
          subst this
          rw [h1] at hs'
          simp at hs'
          rw [← hs']; exact hs
    obtain ⟨xs, h1, h2⟩ := key len (Nat.le_refl _)
    refine ⟨some a, cap, xs, by rw [h1]; exact hcs, ⟨by rw [h1]; omega, fun hne => ⟨a, rfl, ?_, fun i s j u hs hu => ?_⟩⟩, fun s hs => ?_, by rw [h1]; exact hl⟩
    · obtain ⟨s, hs⟩ : ∃ s, xs[0]? = some s := by cases xs with | nil => exact absurd rfl hne | cons s l => exact ⟨s, rfl⟩
      have h3 := cells_get (h2 0 s hs).1
      obtain ⟨u, hu⟩ : ∃ u, (enc s)[0]? = some u := ⟨_, List.getElem?_eq_getElem (by rw [henc]; exact hpos)⟩
      have h4 := h3.2 0 u hu
      have := World.block_lt_of_cell? _ _ h4
      simpa [Go.Sx.block_add] using this
    · have h3 := cells_get (h2 i s hs).1
      have := h3.2 j u hu
      rwa [add_add] at this
    · obtain ⟨i, hi⟩ := List.mem_iff_getElem?.1 hs
      exact (h2 i s hi).2
theorem int_of {H : Type} {enc0 : TypeId × Value → H} {W : World} {base : Nat} {spare : Nat → Bool} {held : Bool} (n : Nat) (cs : List Value) (y : DataW H × List MemPlace) (h : DataW.trod enc0 Try.prog W base spare held n 3 cs = some y) : ∃ s : Int, cs = enInt s ∧ True := by
  obtain ⟨m, hm, _⟩ := DataW.trod_int Try.underlying3 h
  exact ⟨m, hm, trivial⟩
theorem ofwI {H : Type} {enc0 : TypeId × Value → H} {W : World} {base : Nat} {spare : Nat → Bool} {held : Bool} (n : Nat) (cs : List Value) (y : DataW H × List MemPlace) (h : DataW.trod enc0 Try.prog W base spare held n 24 cs = some y) : ∃ (A : Option Addr) (c : Nat) (xs : List Int), cs = [.slice A xs.length c] ∧ Rd W 1 enInt A xs ∧ ∀ x ∈ xs, True := by
  exact rd_of_trodP enInt (fun _ => True) Try.underlying24 yc3 (by decide) (fun _ => rfl) (fun n cs y _ h => int_of n cs y h) h
theorem ofRo {H : Type} {enc0 : TypeId × Value → H} {W : World} {base : Nat} {spare : Nat → Bool} {held : Bool} (n : Nat) (cs : List Value) (y : DataW H × List MemPlace) (h : DataW.trod enc0 Try.prog W base spare held n 71 cs = some y) : ∃ s : RoomV, cs = encRo s ∧ True := by
  obtain ⟨xs, m, hm, hX, hl, hxl, hf⟩ := DataW.trod_struct Try.underlying71 h
  subst hX
  rw [yc71] at hl
  obtain ⟨k0, k1, k2, rfl⟩ := list3' hl
  obtain ⟨y0, y1, y2, rfl⟩ := list3' hxl
  have g0 : DataW.trod enc0 Try.prog W base spare held m 3 [k0] = some y0 := by
    have h5 : DataW.trod enc0 Try.prog W base spare held m 3 (([k0, k1, k2].drop 0).take (Try.prog.cellsOf 3)) = some y0 := hf 0 _ rfl
    rw [yc3] at h5; exact h5
  have g1 : DataW.trod enc0 Try.prog W base spare held m 3 [k1] = some y1 := by
    have h5 : DataW.trod enc0 Try.prog W base spare held m 3 (([k0, k1, k2].drop 1).take (Try.prog.cellsOf 3)) = some y1 := hf 1 _ rfl
    rw [yc3] at h5; exact h5
  have g2 : DataW.trod enc0 Try.prog W base spare held m 3 [k2] = some y2 := by
    have h5 : DataW.trod enc0 Try.prog W base spare held m 3 (([k0, k1, k2].drop 2).take (Try.prog.cellsOf 3)) = some y2 := hf 2 _ rfl
    rw [yc3] at h5; exact h5
  obtain ⟨a0, e0, _⟩ := int_of _ _ _ g0
  obtain ⟨a1, e1, _⟩ := int_of _ _ _ g1
  obtain ⟨a2, e2, _⟩ := int_of _ _ _ g2
  cases e0; cases e1; cases e2
  exact ⟨⟨a0, a1, a2⟩, rfl, trivial⟩
theorem ofwR {H : Type} {enc0 : TypeId × Value → H} {W : World} {base : Nat} {spare : Nat → Bool} {held : Bool} (n : Nat) (cs : List Value) (y : DataW H × List MemPlace) (h : DataW.trod enc0 Try.prog W base spare held n 22 cs = some y) : ∃ (A : Option Addr) (c : Nat) (xs : List RoomV), cs = [.slice A xs.length c] ∧ Rd W 3 encRo A xs ∧ ∀ x ∈ xs, True := by
  exact rd_of_trodP encRo (fun _ => True) Try.underlying22 yc71 (by decide) (fun _ => rfl) (fun n cs y _ h => ofRo n cs y h) h
theorem ofGa {H : Type} {enc0 : TypeId × Value → H} {W : World} {base : Nat} {spare : Nat → Bool} {held : Bool} (n : Nat) (cs : List Value) (y : DataW H × List MemPlace) (h : DataW.trod enc0 Try.prog W base spare held n 69 cs = some y) : ∃ g : GateV, cs = encGa g ∧ Rd W 1 enInt g.A g.ways := by
  obtain ⟨xs, m, hm, hX, hl, hxl, hf⟩ := DataW.trod_struct Try.underlying69 h
  subst hX
  rw [yc69] at hl
  obtain ⟨k0, k1, k2, k3, rfl⟩ := list4' hl
  obtain ⟨y0, y1, y2, y3, rfl⟩ := list4' hxl
  have g0 : DataW.trod enc0 Try.prog W base spare held m 3 [k0] = some y0 := by
    have h5 : DataW.trod enc0 Try.prog W base spare held m 3 (([k0, k1, k2, k3].drop 0).take (Try.prog.cellsOf 3)) = some y0 := hf 0 _ rfl
    rw [yc3] at h5; exact h5
  have g1 : DataW.trod enc0 Try.prog W base spare held m 3 [k1] = some y1 := by
    have h5 : DataW.trod enc0 Try.prog W base spare held m 3 (([k0, k1, k2, k3].drop 1).take (Try.prog.cellsOf 3)) = some y1 := hf 1 _ rfl
    rw [yc3] at h5; exact h5
  have g2 : DataW.trod enc0 Try.prog W base spare held m 3 [k2] = some y2 := by
    have h5 : DataW.trod enc0 Try.prog W base spare held m 3 (([k0, k1, k2, k3].drop 2).take (Try.prog.cellsOf 3)) = some y2 := hf 2 _ rfl
    rw [yc3] at h5; exact h5
  have g3 : DataW.trod enc0 Try.prog W base spare held m 24 [k3] = some y3 := by
    have h5 : DataW.trod enc0 Try.prog W base spare held m 24 (([k0, k1, k2, k3].drop 3).take (Try.prog.cellsOf 24)) = some y3 := hf 3 _ rfl
    rw [yc24] at h5; exact h5
  obtain ⟨a0, e0, _⟩ := int_of _ _ _ g0
  obtain ⟨a1, e1, _⟩ := int_of _ _ _ g1
  obtain ⟨a2, e2, _⟩ := int_of _ _ _ g2
  obtain ⟨A, c, l, e3, r3, _⟩ := ofwI _ _ _ g3
  cases e0; cases e1; cases e2; cases e3
  exact ⟨⟨a0, a1, a2, A, c, l⟩, rfl, r3⟩
theorem ofwG {H : Type} {enc0 : TypeId × Value → H} {W : World} {base : Nat} {spare : Nat → Bool} {held : Bool} (n : Nat) (cs : List Value) (y : DataW H × List MemPlace) (h : DataW.trod enc0 Try.prog W base spare held n 23 cs = some y) : ∃ (A : Option Addr) (c : Nat) (xs : List GateV), cs = [.slice A xs.length c] ∧ Rd W 4 encGa A xs ∧ ∀ x ∈ xs, Rd W 1 enInt x.A x.ways := by
  exact rd_of_trodP encGa (fun x => Rd W 1 enInt x.A x.ways) Try.underlying23 yc69 (by decide) (fun _ => rfl) (fun n cs y _ h => ofGa n cs y h) h
theorem of26 {H : Type} {enc0 : TypeId × Value → H} {W : World} {base : Nat} {spare : Nat → Bool} {held : Bool} {n : Nat} {cs : List Value} {y : DataW H × List MemPlace} (h : DataW.trod enc0 Try.prog W base spare held n 26 cs = some y) (_hw : Wok Try.prog 26 y.1) : ∃ (x : StrV), cs = [.slice x.Ar x.rooms.length x.cr, .slice x.Ag x.gates.length x.cg, .slice x.As x.staff.length x.cs] ∧ StrRd W x := by
  obtain ⟨xs, m, hm, hX, hl, hxl, hf⟩ := DataW.trod_struct Try.underlying26 h
  subst hX
  rw [yc26] at hl
  obtain ⟨k0, k1, k2, rfl⟩ := list3' hl
  obtain ⟨y0, y1, y2, rfl⟩ := list3' hxl
  have g0 : DataW.trod enc0 Try.prog W base spare held m 22 [k0] = some y0 := by
    have h5 : DataW.trod enc0 Try.prog W base spare held m 22 (([k0, k1, k2].drop 0).take (Try.prog.cellsOf 22)) = some y0 := hf 0 _ rfl
    rw [yc22] at h5; exact h5
  have g1 : DataW.trod enc0 Try.prog W base spare held m 23 [k1] = some y1 := by
    have h5 : DataW.trod enc0 Try.prog W base spare held m 23 (([k0, k1, k2].drop 1).take (Try.prog.cellsOf 23)) = some y1 := hf 1 _ rfl
    rw [yc23] at h5; exact h5
  have g2 : DataW.trod enc0 Try.prog W base spare held m 24 [k2] = some y2 := by
    have h5 : DataW.trod enc0 Try.prog W base spare held m 24 (([k0, k1, k2].drop 2).take (Try.prog.cellsOf 24)) = some y2 := hf 2 _ rfl
    rw [yc24] at h5; exact h5
  obtain ⟨A, c, l, e0, r0, _⟩ := ofwR _ _ _ g0
  obtain ⟨B, d, v, e1, r1, s1⟩ := ofwG _ _ _ g1
  obtain ⟨D, k, u, e2, r2, _⟩ := ofwI _ _ _ g2
  cases e0; cases e1; cases e2
  exact ⟨⟨A, c, l, B, d, v, D, k, u⟩, rfl, ⟨r0, r1, r2, s1⟩⟩
theorem of62 {H : Type} {enc0 : TypeId × Value → H} {W : World} {base : Nat} {spare : Nat → Bool} {held : Bool} {n : Nat} {cs : List Value} {y : DataW H × List MemPlace} (h : DataW.trod enc0 Try.prog W base spare held n 62 cs = some y) (_hw : Wok Try.prog 62 y.1) : ∃ (gx : Int) (rx : Int) (Ax : Option Addr) (cx : Nat) (x : List Int), cs = [.int .i64 gx, .int .i64 rx, .slice Ax x.length cx] ∧ Rd W 1 enInt Ax x := by
  obtain ⟨xs, m, hm, hX, hl, hxl, hf⟩ := DataW.trod_struct Try.underlying62 h
  subst hX
  rw [yc62] at hl
  obtain ⟨k0, k1, k2, rfl⟩ := list3' hl
  obtain ⟨y0, y1, y2, rfl⟩ := list3' hxl
  have g0 : DataW.trod enc0 Try.prog W base spare held m 3 [k0] = some y0 := by
    have h5 : DataW.trod enc0 Try.prog W base spare held m 3 (([k0, k1, k2].drop 0).take (Try.prog.cellsOf 3)) = some y0 := hf 0 _ rfl
    rw [yc3] at h5; exact h5
  have g1 : DataW.trod enc0 Try.prog W base spare held m 3 [k1] = some y1 := by
    have h5 : DataW.trod enc0 Try.prog W base spare held m 3 (([k0, k1, k2].drop 1).take (Try.prog.cellsOf 3)) = some y1 := hf 1 _ rfl
    rw [yc3] at h5; exact h5
  have g2 : DataW.trod enc0 Try.prog W base spare held m 24 [k2] = some y2 := by
    have h5 : DataW.trod enc0 Try.prog W base spare held m 24 (([k0, k1, k2].drop 2).take (Try.prog.cellsOf 24)) = some y2 := hf 2 _ rfl
    rw [yc24] at h5; exact h5
  obtain ⟨a0, e0, _⟩ := int_of _ _ _ g0
  obtain ⟨a1, e1, _⟩ := int_of _ _ _ g1
  obtain ⟨A, c, l, e2, r2, _⟩ := ofwI _ _ _ g2
  cases e0; cases e1; cases e2
  exact ⟨a0, a1, A, c, l, rfl, r2⟩
theorem ofCa {H : Type} {enc0 : TypeId × Value → H} {W : World} {base : Nat} {spare : Nat → Bool} {held : Bool} (n : Nat) (cs : List Value) (y : DataW H × List MemPlace) (h : DataW.trod enc0 Try.prog W base spare held n 52 cs = some y) : ∃ s : CarryV, cs = encCa s ∧ True := by
  obtain ⟨xs, m, hm, hX, hl, hxl, hf⟩ := DataW.trod_struct Try.underlying52 h
  subst hX
  rw [yc52] at hl
  obtain ⟨k0, k1, k2, k3, k4, k5, k6, k7, rfl⟩ := list8' hl
  obtain ⟨y0, y1, y2, y3, y4, y5, y6, y7, rfl⟩ := list8' hxl
  have g0 : DataW.trod enc0 Try.prog W base spare held m 3 [k0] = some y0 := by
    have h5 : DataW.trod enc0 Try.prog W base spare held m 3 (([k0, k1, k2, k3, k4, k5, k6, k7].drop 0).take (Try.prog.cellsOf 3)) = some y0 := hf 0 _ rfl
    rw [yc3] at h5; exact h5
  have g1 : DataW.trod enc0 Try.prog W base spare held m 3 [k1] = some y1 := by
    have h5 : DataW.trod enc0 Try.prog W base spare held m 3 (([k0, k1, k2, k3, k4, k5, k6, k7].drop 1).take (Try.prog.cellsOf 3)) = some y1 := hf 1 _ rfl
    rw [yc3] at h5; exact h5
  have g2 : DataW.trod enc0 Try.prog W base spare held m 3 [k2] = some y2 := by
    have h5 : DataW.trod enc0 Try.prog W base spare held m 3 (([k0, k1, k2, k3, k4, k5, k6, k7].drop 2).take (Try.prog.cellsOf 3)) = some y2 := hf 2 _ rfl
    rw [yc3] at h5; exact h5
  have g3 : DataW.trod enc0 Try.prog W base spare held m 3 [k3] = some y3 := by
    have h5 : DataW.trod enc0 Try.prog W base spare held m 3 (([k0, k1, k2, k3, k4, k5, k6, k7].drop 3).take (Try.prog.cellsOf 3)) = some y3 := hf 3 _ rfl
    rw [yc3] at h5; exact h5
  have g4 : DataW.trod enc0 Try.prog W base spare held m 3 [k4] = some y4 := by
    have h5 : DataW.trod enc0 Try.prog W base spare held m 3 (([k0, k1, k2, k3, k4, k5, k6, k7].drop 4).take (Try.prog.cellsOf 3)) = some y4 := hf 4 _ rfl
    rw [yc3] at h5; exact h5
  have g5 : DataW.trod enc0 Try.prog W base spare held m 3 [k5] = some y5 := by
    have h5 : DataW.trod enc0 Try.prog W base spare held m 3 (([k0, k1, k2, k3, k4, k5, k6, k7].drop 5).take (Try.prog.cellsOf 3)) = some y5 := hf 5 _ rfl
    rw [yc3] at h5; exact h5
  have g6 : DataW.trod enc0 Try.prog W base spare held m 3 [k6] = some y6 := by
    have h5 : DataW.trod enc0 Try.prog W base spare held m 3 (([k0, k1, k2, k3, k4, k5, k6, k7].drop 6).take (Try.prog.cellsOf 3)) = some y6 := hf 6 _ rfl
    rw [yc3] at h5; exact h5
  have g7 : DataW.trod enc0 Try.prog W base spare held m 3 [k7] = some y7 := by
    have h5 : DataW.trod enc0 Try.prog W base spare held m 3 (([k0, k1, k2, k3, k4, k5, k6, k7].drop 7).take (Try.prog.cellsOf 3)) = some y7 := hf 7 _ rfl
    rw [yc3] at h5; exact h5
  obtain ⟨a0, e0, _⟩ := int_of _ _ _ g0
  obtain ⟨a1, e1, _⟩ := int_of _ _ _ g1
  obtain ⟨a2, e2, _⟩ := int_of _ _ _ g2
  obtain ⟨a3, e3, _⟩ := int_of _ _ _ g3
  obtain ⟨a4, e4, _⟩ := int_of _ _ _ g4
  obtain ⟨a5, e5, _⟩ := int_of _ _ _ g5
  obtain ⟨a6, e6, _⟩ := int_of _ _ _ g6
  obtain ⟨a7, e7, _⟩ := int_of _ _ _ g7
  cases e0; cases e1; cases e2; cases e3; cases e4; cases e5; cases e6; cases e7
  exact ⟨⟨a0, a1, a2, a3, a4, a5, a6, a7⟩, rfl, trivial⟩
theorem ofwC {H : Type} {enc0 : TypeId × Value → H} {W : World} {base : Nat} {spare : Nat → Bool} {held : Bool} (n : Nat) (cs : List Value) (y : DataW H × List MemPlace) (h : DataW.trod enc0 Try.prog W base spare held n 45 cs = some y) : ∃ (A : Option Addr) (c : Nat) (xs : List CarryV), cs = [.slice A xs.length c] ∧ Rd W 8 encCa A xs ∧ (∀ x ∈ xs, True) ∧ xs.length ≤ c := by
  exact rd_of_trodC encCa (fun _ => True) Try.underlying45 yc52 (by decide) (fun _ => rfl) (fun n cs y _ h => ofCa n cs y h) h
theorem of45 {H : Type} {enc0 : TypeId × Value → H} {W : World} {base : Nat} {spare : Nat → Bool} {held : Bool} {n : Nat} {cs : List Value} {y : DataW H × List MemPlace} (h : DataW.trod enc0 Try.prog W base spare held n 45 cs = some y) (hw : Wok Try.prog 45 y.1) : ∃ (Ax : Option Addr) (cx : Nat) (x : List CarryV), cs = [.slice Ax x.length cx] ∧ Rd W 8 encCa Ax x ∧ x.length * 64 ≤ 140737488351232 ∧ x.length ≤ cx := by
  obtain ⟨A, c, l, e, r, _, hcap⟩ := ofwC _ _ _ h
  exact ⟨A, c, l, e, r, wslice Try.underlying45 (B := 64) (by kernel_rfl) h hw e, hcap⟩
theorem xc3 : Try.prog.cellsOf 3 = 1 := by kernel_rfl
theorem xc39 : Try.prog.cellsOf 39 = 3 := by kernel_rfl
theorem of39 {H : Type} {enc0 : TypeId × Value → H} {W : World} {base : Nat} {spare : Nat → Bool} {held : Bool} {n : Nat} {cs : List Value} {y : DataW H × List MemPlace} (h : DataW.trod enc0 Try.prog W base spare held n 39 cs = some y) : ∃ (x0 : Int) (x1 : Int) (x2 : Int), cs = [.int .i64 x0, .int .i64 x1, .int .i64 x2] := by
  obtain ⟨ns, h1, h2⟩ := arr_cells Try.underlying39 Try.underlying3 xc3 xc39 h
  obtain ⟨x0, x1, x2, rfl⟩ := list3' h1
  exact ⟨x0, x1, x2, h2⟩
theorem xc56 : Try.prog.cellsOf 56 = 4 := by kernel_rfl
theorem of56 {H : Type} {enc0 : TypeId × Value → H} {W : World} {base : Nat} {spare : Nat → Bool} {held : Bool} {n : Nat} {cs : List Value} {y : DataW H × List MemPlace} (h : DataW.trod enc0 Try.prog W base spare held n 56 cs = some y) : ∃ (x0 : Int) (x1 : Int) (x2 : Int) (x3 : Int), cs = [.int .i64 x0, .int .i64 x1, .int .i64 x2, .int .i64 x3] := by
  obtain ⟨ns, h1, h2⟩ := arr_cells Try.underlying56 Try.underlying3 xc3 xc56 h
  obtain ⟨x0, x1, x2, x3, rfl⟩ := list4' h1
  exact ⟨x0, x1, x2, x3, h2⟩
end Go.Proofs.Ytomidcehahdmbaa
