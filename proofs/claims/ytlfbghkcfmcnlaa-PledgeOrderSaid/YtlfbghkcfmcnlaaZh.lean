/- Texts of ours, joined: 1 of them. Conditions: none. -/
import Derived.Test.YtlfbghkcfmcnlaaZg
import Derived.Test.YtlfbghkcfmcnlaaRows
import Derived.ProofKit
import Derived.LaidMore
import Derived.Stop.Joined
namespace Go.Proofs.Ytlfbghkcfmcnlaa
open Go.Sx Go.RowKit Go.ChangeShapes Go.WideShapes Go.ChangeAt
set_option maxRecDepth 100000
theorem frOwn : ownKnob Try.prog.godebug = none := by kernel_rfl
theorem frLaidOut : laidOutB Try.prog = true := by kernel_rfl
theorem list6' {α : Type} {l : List α} (h : l.length = 6) : ∃ a b c d e f, l = [a, b, c, d, e, f] := by
  match l, h with
  | [a, b, c, d, e, f], _ => exact ⟨a, b, c, d, e, f, rfl⟩
theorem list9' {α : Type} {l : List α} (h : l.length = 9) : ∃ a b c d e f g i j, l = [a, b, c, d, e, f, g, i, j] := by
  match l, h with
  | [a, b, c, d, e, f, g, i, j], _ => exact ⟨a, b, c, d, e, f, g, i, j, rfl⟩
theorem yc3 : Try.prog.cellsOf 3 = 1 := by kernel_rfl
theorem yc4 : Try.prog.cellsOf 4 = 1 := by kernel_rfl
theorem yc9 : Try.prog.cellsOf 9 = 1 := by kernel_rfl
theorem yc22 : Try.prog.cellsOf 22 = 1 := by kernel_rfl
theorem yc23 : Try.prog.cellsOf 23 = 1 := by kernel_rfl
theorem yc24 : Try.prog.cellsOf 24 = 1 := by kernel_rfl
theorem yc26 : Try.prog.cellsOf 26 = 3 := by kernel_rfl
theorem yc35 : Try.prog.cellsOf 35 = 1 := by kernel_rfl
theorem yc36 : Try.prog.cellsOf 36 = 1 := by kernel_rfl
theorem yc37 : Try.prog.cellsOf 37 = 1 := by kernel_rfl
theorem yc38 : Try.prog.cellsOf 38 = 2 := by kernel_rfl
theorem yc39 : Try.prog.cellsOf 39 = 1 := by kernel_rfl
theorem yc46 : Try.prog.cellsOf 46 = 1 := by kernel_rfl
theorem yc48 : Try.prog.cellsOf 48 = 3 := by kernel_rfl
theorem yc57 : Try.prog.cellsOf 57 = 2 := by kernel_rfl
theorem yc62 : Try.prog.cellsOf 62 = 2 := by kernel_rfl
theorem yc64 : Try.prog.cellsOf 64 = 9 := by kernel_rfl
theorem yc71 : Try.prog.cellsOf 71 = 6 := by kernel_rfl
theorem yc80 : Try.prog.cellsOf 80 = 1 := by kernel_rfl
theorem yc112 : Try.prog.cellsOf 112 = 1 := by kernel_rfl
theorem yc114 : Try.prog.cellsOf 114 = 4 := by kernel_rfl
theorem yc116 : Try.prog.cellsOf 116 = 3 := by kernel_rfl
theorem rd_of_trodP {H : Type} {enc0 : TypeId × Value → H} {P : Program} {w : World} {base : Nat} {spare : Nat → Bool} {held : Bool} {α : Type} {t e : TypeId} {sz fuel : Nat} (enc : α → List Value) (G : α → Prop) {cs : List Value} {x : DataW H × List MemPlace} (ht : P.underlying t = some (.slice e)) (hsz : P.cellsOf e = sz) (hpos : 0 < sz) (henc : ∀ s, (enc s).length = sz)
    (hdec : ∀ (n : Nat) (cs : List Value) (y : DataW H × List MemPlace), n < fuel → DataW.trod enc0 P w base spare held n e cs = some y → ∃ s : α, cs = enc s ∧ G s)
    (h : DataW.trod enc0 P w base spare held fuel t cs = some x) : ∃ (A : Option Addr) (c : Nat) (xs : List α), cs = [.slice A xs.length c] ∧ Rd w sz enc A xs ∧ ∀ s ∈ xs, G s := by
  rcases DataW.trod_slice ht h with ⟨hcs, _⟩ | ⟨a, len, cap, elems, rest, n, hfu, hcs, _, _, hl, hm, hel, hget, _⟩
  · exact ⟨none, 0, [], hcs, Rd.nil, by simp⟩
  · have hone : ∀ i, i < len → ∃ s : α, w.cells? base (a.add (i * sz)) sz = some (enc s) ∧ G s := by
      intro i hi
      have h1 := hget i hi
      rw [hsz] at h1
      have hx : elems[i]? = some (elems[i]'(by omega)) := List.getElem?_eq_getElem (by omega)
      rw [hx] at h1
      obtain ⟨cs', h2, h3⟩ := Option.bind_eq_some_iff.1 h1
      obtain ⟨s, rfl, hs⟩ := hdec n cs' _ (by omega) h3
      exact ⟨s, h2, hs⟩
    have key : ∀ k, k ≤ len → ∃ xs : List α, xs.length = k ∧ ∀ i s, xs[i]? = some s → w.cells? base (a.add (i * sz)) sz = some (enc s) ∧ G s := by
      intro k
      induction k with
      | zero => intro _; exact ⟨[], rfl, fun i s hs => by simp at hs⟩
      | succ k ih =>
        intro hk
        obtain ⟨xs, h1, h2⟩ := ih (by omega)
        obtain ⟨s, hs⟩ := hone k (by omega)
        refine ⟨xs ++ [s], by simp [h1], fun i s' hs' => ?_⟩
        by_cases hi : i < xs.length
        · rw [List.getElem?_append_left hi] at hs'; exact h2 i s' hs'
        · rw [List.getElem?_append_right (by omega)] at hs'
          have : i = k := by
            have := (List.getElem?_eq_some_iff.1 hs').1
            simp at this; omega
          subst this
          rw [h1] at hs'
          simp at hs'
          rw [← hs']; exact hs
    obtain ⟨xs, h1, h2⟩ := key len (Nat.le_refl _)
    refine ⟨some a, cap, xs, by rw [h1]; exact hcs, ⟨by rw [h1]; omega, fun hne => ⟨a, rfl, ?_, fun i s j u hs hu => ?_⟩⟩, fun s hs => ?_⟩
    · obtain ⟨s, hs⟩ : ∃ s, xs[0]? = some s := by cases xs with | nil => exact absurd rfl hne | cons s l => exact ⟨s, rfl⟩
      have h3 := cells_get (h2 0 s hs).1
      obtain ⟨u, hu⟩ : ∃ u, (enc s)[0]? = some u := ⟨_, List.getElem?_eq_getElem (by rw [henc]; exact hpos)⟩
      have h4 := h3.2 0 u hu
      have := World.block_lt_of_cell? _ _ h4
      simpa [Go.Sx.block_add] using this
    · have h3 := cells_get (h2 i s hs).1
      have := h3.2 j u hu
      rwa [add_add] at this
    · obtain ⟨i, hi⟩ := List.mem_iff_getElem?.1 hs
      exact (h2 i s hi).2
theorem int_of {H : Type} {enc0 : TypeId × Value → H} {W : World} {base : Nat} {spare : Nat → Bool} {held : Bool} (n : Nat) (cs : List Value) (y : DataW H × List MemPlace) (h : DataW.trod enc0 Try.prog W base spare held n 3 cs = some y) : ∃ s : Int, cs = enInt s ∧ True := by
  obtain ⟨m, hm, _⟩ := DataW.trod_int Try.underlying3 h
  exact ⟨m, hm, trivial⟩
theorem str_sm {H : Type} {enc0 : TypeId × Value → H} {W : World} {base : Nat} {spare : Nat → Bool} {held : Bool} (n : Nat) (cs : List Value) (y : DataW H × List MemPlace) (h : DataW.trod enc0 Try.prog W base spare held n 9 cs = some y) : ∃ s : ByteArray, cs = enStr s ∧ s.size ≤ 9223372036854775807 := by
  obtain ⟨s, h1, h2⟩ := str_cells Try.underlying9 h
  exact ⟨s, h1, by unfold maxLen at h2; omega⟩
theorem ofw37 {H : Type} {enc0 : TypeId × Value → H} {W : World} {base : Nat} {spare : Nat → Bool} {held : Bool} (n : Nat) (cs : List Value) (y : DataW H × List MemPlace) (h : DataW.trod enc0 Try.prog W base spare held n 37 cs = some y) : ∃ (A : Option Addr) (c : Nat) (xs : List Int), cs = [.slice A xs.length c] ∧ Rd W 1 enInt A xs ∧ ∀ x ∈ xs, True := by
  exact rd_of_trodP enInt (fun _ => True) Try.underlying37 yc3 (by decide) (fun _ => rfl) (fun n cs y _ h => int_of n cs y h) h
theorem ofw57 {H : Type} {enc0 : TypeId × Value → H} {W : World} {base : Nat} {spare : Nat → Bool} {held : Bool} (n : Nat) (cs : List Value) (y : DataW H × List MemPlace) (h : DataW.trod enc0 Try.prog W base spare held n 57 cs = some y) : ∃ s : Meas, cs = encMe s ∧ True := by
  obtain ⟨xs, m, hm, hX, hl, hxl, hf⟩ := DataW.trod_struct Try.underlying57 h
  subst hX
  rw [yc57] at hl
  obtain ⟨k0, k1, rfl⟩ := list2' hl
  obtain ⟨y0, y1, rfl⟩ := list2' hxl
  have g0 : DataW.trod enc0 Try.prog W base spare held m 3 [k0] = some y0 := by
    have h5 : DataW.trod enc0 Try.prog W base spare held m 3 (([k0, k1].drop 0).take (Try.prog.cellsOf 3)) = some y0 := hf 0 _ rfl
    rw [yc3] at h5; exact h5
  have g1 : DataW.trod enc0 Try.prog W base spare held m 3 [k1] = some y1 := by
    have h5 : DataW.trod enc0 Try.prog W base spare held m 3 (([k0, k1].drop 1).take (Try.prog.cellsOf 3)) = some y1 := hf 1 _ rfl
    rw [yc3] at h5; exact h5
  obtain ⟨a, e0, _⟩ := int_of _ _ _ g0
  obtain ⟨b, e1, _⟩ := int_of _ _ _ g1
  cases e0; cases e1
  exact ⟨⟨a, b⟩, rfl, trivial⟩
theorem ofw62 {H : Type} {enc0 : TypeId × Value → H} {W : World} {base : Nat} {spare : Nat → Bool} {held : Bool} (n : Nat) (cs : List Value) (y : DataW H × List MemPlace) (h : DataW.trod enc0 Try.prog W base spare held n 62 cs = some y) : ∃ s : Span, cs = encSp s ∧ True := by
  obtain ⟨xs, m, hm, hX, hl, hxl, hf⟩ := DataW.trod_struct Try.underlying62 h
  subst hX
  rw [yc62] at hl
  obtain ⟨k0, k1, rfl⟩ := list2' hl
  obtain ⟨y0, y1, rfl⟩ := list2' hxl
  have g0 : DataW.trod enc0 Try.prog W base spare held m 3 [k0] = some y0 := by
    have h5 : DataW.trod enc0 Try.prog W base spare held m 3 (([k0, k1].drop 0).take (Try.prog.cellsOf 3)) = some y0 := hf 0 _ rfl
    rw [yc3] at h5; exact h5
  have g1 : DataW.trod enc0 Try.prog W base spare held m 3 [k1] = some y1 := by
    have h5 : DataW.trod enc0 Try.prog W base spare held m 3 (([k0, k1].drop 1).take (Try.prog.cellsOf 3)) = some y1 := hf 1 _ rfl
    rw [yc3] at h5; exact h5
  obtain ⟨a, e0, _⟩ := int_of _ _ _ g0
  obtain ⟨b, e1, _⟩ := int_of _ _ _ g1
  cases e0; cases e1
  exact ⟨⟨a, b⟩, rfl, trivial⟩
theorem ofw35 {H : Type} {enc0 : TypeId × Value → H} {W : World} {base : Nat} {spare : Nat → Bool} {held : Bool} (n : Nat) (cs : List Value) (y : DataW H × List MemPlace) (h : DataW.trod enc0 Try.prog W base spare held n 35 cs = some y) : ∃ (A : Option Addr) (c : Nat) (xs : List Meas), cs = [.slice A xs.length c] ∧ Rd W 2 encMe A xs ∧ ∀ x ∈ xs, True := by
  exact rd_of_trodP encMe (fun _ => True) Try.underlying35 yc57 (by decide) (fun _ => rfl) (fun n cs y _ h => ofw57 n cs y h) h
theorem ofwL {H : Type} {enc0 : TypeId × Value → H} {W : World} {base : Nat} {spare : Nat → Bool} {held : Bool} (n : Nat) (cs : List Value) (y : DataW H × List MemPlace) (h : DataW.trod enc0 Try.prog W base spare held n 37 cs = some y) : ∃ x : ListV, cs = encLs x ∧ GoodL W x := by
  obtain ⟨A, c, l, e, r, _⟩ := ofw37 _ _ _ h
  exact ⟨⟨A, c, l⟩, e, r⟩
theorem ofw36 {H : Type} {enc0 : TypeId × Value → H} {W : World} {base : Nat} {spare : Nat → Bool} {held : Bool} (n : Nat) (cs : List Value) (y : DataW H × List MemPlace) (h : DataW.trod enc0 Try.prog W base spare held n 36 cs = some y) : ∃ (A : Option Addr) (c : Nat) (xs : List ListV), cs = [.slice A xs.length c] ∧ Rd W 1 encLs A xs ∧ ∀ x ∈ xs, GoodL W x := by
  exact rd_of_trodP encLs (GoodL W) Try.underlying36 yc37 (by decide) (fun _ => rfl) (fun n cs y _ h => ofwL n cs y h) h
theorem ofw80 {H : Type} {enc0 : TypeId × Value → H} {W : World} {base : Nat} {spare : Nat → Bool} {held : Bool} (n : Nat) (cs : List Value) (y : DataW H × List MemPlace) (h : DataW.trod enc0 Try.prog W base spare held n 80 cs = some y) : ∃ x : FakeV, cs = encFk x ∧ GoodK W x := by
  obtain ⟨xs, m, hm, hX, hl, hxl, hf⟩ := DataW.trod_struct Try.underlying80 h
  subst hX
  rw [yc80] at hl
  obtain ⟨k0, rfl⟩ := list1' hl
  obtain ⟨y0, rfl⟩ := list1' hxl
  have g0 : DataW.trod enc0 Try.prog W base spare held m 39 [k0] = some y0 := by
    have h5 : DataW.trod enc0 Try.prog W base spare held m 39 (([k0].drop 0).take (Try.prog.cellsOf 39)) = some y0 := hf 0 _ rfl
    rw [yc39] at h5; exact h5
  obtain ⟨A, c, l, e, r, _⟩ := rd_of_trodP encSp (fun _ => True) Try.underlying39 yc62 (by decide) (fun _ => rfl) (fun n cs y _ h => ofw62 n cs y h) g0
  exact ⟨⟨A, c, l⟩, e, r⟩
theorem ofw46 {H : Type} {enc0 : TypeId × Value → H} {W : World} {base : Nat} {spare : Nat → Bool} {held : Bool} (n : Nat) (cs : List Value) (y : DataW H × List MemPlace) (h : DataW.trod enc0 Try.prog W base spare held n 46 cs = some y) : ∃ (A : Option Addr) (c : Nat) (xs : List FakeV), cs = [.slice A xs.length c] ∧ Rd W 1 encFk A xs ∧ ∀ x ∈ xs, GoodK W x := by
  exact rd_of_trodP encFk (GoodK W) Try.underlying46 yc80 (by decide) (fun _ => rfl) (fun n cs y _ h => ofw80 n cs y h) h
theorem ofw23 {H : Type} {enc0 : TypeId × Value → H} {W : World} {base : Nat} {spare : Nat → Bool} {held : Bool} (n : Nat) (cs : List Value) (y : DataW H × List MemPlace) (h : DataW.trod enc0 Try.prog W base spare held n 23 cs = some y) : ∃ (A : Option Addr) (c : Nat) (xs : List ByteArray), cs = [.slice A xs.length c] ∧ Rd W 1 enStr A xs ∧ smS xs := by
  exact rd_of_trodP enStr _ Try.underlying23 yc9 (by decide) (fun _ => rfl) (fun n cs y _ h => str_sm n cs y h) h
theorem ofw116 {H : Type} {enc0 : TypeId × Value → H} {W : World} {base : Nat} {spare : Nat → Bool} {held : Bool} (n : Nat) (cs : List Value) (y : DataW H × List MemPlace) (h : DataW.trod enc0 Try.prog W base spare held n 116 cs = some y) : ∃ t : TraitV, cs = encTr t ∧ GoodT W t := by
  obtain ⟨xs, m, hm, hX, hl, hxl, hf⟩ := DataW.trod_struct Try.underlying116 h
  subst hX
  rw [yc116] at hl
  obtain ⟨k0, k1, k2, rfl⟩ := list3' hl
  obtain ⟨y0, y1, y2, rfl⟩ := list3' hxl
  have g0 : DataW.trod enc0 Try.prog W base spare held m 9 [k0] = some y0 := by
    have h5 : DataW.trod enc0 Try.prog W base spare held m 9 (([k0, k1, k2].drop 0).take (Try.prog.cellsOf 9)) = some y0 := hf 0 _ rfl
    rw [yc9] at h5; exact h5
  have g1 : DataW.trod enc0 Try.prog W base spare held m 23 [k1] = some y1 := by
    have h5 : DataW.trod enc0 Try.prog W base spare held m 23 (([k0, k1, k2].drop 1).take (Try.prog.cellsOf 23)) = some y1 := hf 1 _ rfl
    rw [yc23] at h5; exact h5
  have g2 : DataW.trod enc0 Try.prog W base spare held m 4 [k2] = some y2 := by
    have h5 : DataW.trod enc0 Try.prog W base spare held m 4 (([k0, k1, k2].drop 2).take (Try.prog.cellsOf 4)) = some y2 := hf 2 _ rfl
    rw [yc4] at h5; exact h5
  obtain ⟨s, e0, hs⟩ := str_sm _ _ _ g0
  obtain ⟨A, c, l, e1, r1, s1⟩ := ofw23 _ _ _ g1
  obtain ⟨b, e2⟩ := bool_cells Try.underlying4 g2
  cases e0; cases e1; cases e2
  exact ⟨⟨s, A, c, l, b⟩, rfl, ⟨r1, s1, hs⟩⟩
theorem ofw114 {H : Type} {enc0 : TypeId × Value → H} {W : World} {base : Nat} {spare : Nat → Bool} {held : Bool} (n : Nat) (cs : List Value) (y : DataW H × List MemPlace) (h : DataW.trod enc0 Try.prog W base spare held n 114 cs = some y) : ∃ c : ClassV, cs = encCl c ∧ GoodC W c := by
  obtain ⟨xs, m, hm, hX, hl, hxl, hf⟩ := DataW.trod_struct Try.underlying114 h
  subst hX
  rw [yc114] at hl
  obtain ⟨k0, k1, k2, k3, rfl⟩ := list4' hl
  obtain ⟨y0, y1, y2, y3, rfl⟩ := list4' hxl
  have g0 : DataW.trod enc0 Try.prog W base spare held m 9 [k0] = some y0 := by
    have h5 : DataW.trod enc0 Try.prog W base spare held m 9 (([k0, k1, k2, k3].drop 0).take (Try.prog.cellsOf 9)) = some y0 := hf 0 _ rfl
    rw [yc9] at h5; exact h5
  have g1 : DataW.trod enc0 Try.prog W base spare held m 112 [k1] = some y1 := by
    have h5 : DataW.trod enc0 Try.prog W base spare held m 112 (([k0, k1, k2, k3].drop 1).take (Try.prog.cellsOf 112)) = some y1 := hf 1 _ rfl
    rw [yc112] at h5; exact h5
  have g2 : DataW.trod enc0 Try.prog W base spare held m 23 [k2] = some y2 := by
    have h5 : DataW.trod enc0 Try.prog W base spare held m 23 (([k0, k1, k2, k3].drop 2).take (Try.prog.cellsOf 23)) = some y2 := hf 2 _ rfl
    rw [yc23] at h5; exact h5
  have g3 : DataW.trod enc0 Try.prog W base spare held m 3 [k3] = some y3 := by
    have h5 : DataW.trod enc0 Try.prog W base spare held m 3 (([k0, k1, k2, k3].drop 3).take (Try.prog.cellsOf 3)) = some y3 := hf 3 _ rfl
    rw [yc3] at h5; exact h5
  obtain ⟨s, e0, hs⟩ := str_sm _ _ _ g0
  obtain ⟨A, c, l, e1, r1, s1⟩ := rd_of_trodP encTr (GoodT W) Try.underlying112 yc116 (by decide) (fun _ => rfl) (fun n cs y _ h => ofw116 n cs y h) g1
  obtain ⟨B, d, ps, e2, r2, s2⟩ := ofw23 _ _ _ g2
  obtain ⟨m, e3, _⟩ := int_of _ _ _ g3
  cases e0; cases e1; cases e2; cases e3
  exact ⟨⟨s, A, c, l, B, d, ps, m⟩, rfl, ⟨r1, s1, r2, s2, hs⟩⟩
theorem ofw22 {H : Type} {enc0 : TypeId × Value → H} {W : World} {base : Nat} {spare : Nat → Bool} {held : Bool} (n : Nat) (cs : List Value) (y : DataW H × List MemPlace) (h : DataW.trod enc0 Try.prog W base spare held n 22 cs = some y) : ∃ (A : Option Addr) (c : Nat) (xs : List ClassV), cs = [.slice A xs.length c] ∧ Rd W 4 encCl A xs ∧ ∀ x ∈ xs, GoodC W x := by
  exact rd_of_trodP encCl (GoodC W) Try.underlying22 yc114 (by decide) (fun _ => rfl) (fun n cs y _ h => ofw114 n cs y h) h
theorem ofw26 {H : Type} {enc0 : TypeId × Value → H} {W : World} {base : Nat} {spare : Nat → Bool} {held : Bool} : ∀ (n : Nat) (cs : List Value) (y : DataW H × List MemPlace), DataW.trod enc0 Try.prog W base spare held n 26 cs = some y → ∃ x : ItemV, cs = encIt x ∧ GoodI W x := by
  intro n
  induction n using Nat.strongRecOn with
  | _ n ih =>
  intro cs y h
  obtain ⟨xs, m, hm, hX, hl, hxl, hf⟩ := DataW.trod_struct Try.underlying26 h
  subst hX
  rw [yc26] at hl
  obtain ⟨k0, k1, k2, rfl⟩ := list3' hl
  obtain ⟨y0, y1, y2, rfl⟩ := list3' hxl
  have g0 : DataW.trod enc0 Try.prog W base spare held m 9 [k0] = some y0 := by
    have h5 : DataW.trod enc0 Try.prog W base spare held m 9 (([k0, k1, k2].drop 0).take (Try.prog.cellsOf 9)) = some y0 := hf 0 _ rfl
    rw [yc9] at h5; exact h5
  have g1 : DataW.trod enc0 Try.prog W base spare held m 23 [k1] = some y1 := by
    have h5 : DataW.trod enc0 Try.prog W base spare held m 23 (([k0, k1, k2].drop 1).take (Try.prog.cellsOf 23)) = some y1 := hf 1 _ rfl
    rw [yc23] at h5; exact h5
  have g2 : DataW.trod enc0 Try.prog W base spare held m 24 [k2] = some y2 := by
    have h5 : DataW.trod enc0 Try.prog W base spare held m 24 (([k0, k1, k2].drop 2).take (Try.prog.cellsOf 24)) = some y2 := hf 2 _ rfl
    rw [yc24] at h5; exact h5
  obtain ⟨s, e0, hs⟩ := str_sm _ _ _ g0
  obtain ⟨A, c, l, e1, r1, s1⟩ := ofw23 _ _ _ g1
  obtain ⟨B, d, ps, e2, r2, s2⟩ := rd_of_trodP encIt (GoodI W) Try.underlying24 yc26 (by decide) (fun _ => rfl) (fun n cs y hn h => ih n (by omega) cs y h) g2
  cases e0; cases e1; cases e2
  exact ⟨.mk s A c l B d ps, rfl, .mk r1 r2 hs s1 s2⟩
theorem cap_of_trod {H : Type} {enc0 : TypeId × Value → H} {P : Program} {w : World} {base : Nat} {spare : Nat → Bool} {held : Bool} {t e : TypeId} {fuel : Nat} {x : DataW H × List MemPlace} {A : Option Addr} {n c : Nat} (ht : P.underlying t = some (.slice e)) (h : DataW.trod enc0 P w base spare held fuel t [.slice A n c] = some x) : n ≤ c := by
  rcases DataW.trod_slice ht h with ⟨hcs, _⟩ | ⟨a, len, cap, elems, rest, m, hfu, hcs, _, _, hl, _⟩
  · injection hcs with hcs
    injection hcs with _ h1 h2
    omega
  · injection hcs with hcs
    injection hcs with _ h1 h2
    omega
theorem of37 {H : Type} {enc0 : TypeId × Value → H} {W : World} {base : Nat} {spare : Nat → Bool} {held : Bool} {n : Nat} {cs : List Value} {y : DataW H × List MemPlace} (h : DataW.trod enc0 Try.prog W base spare held n 37 cs = some y) (hw : Wok Try.prog 37 y.1) : ∃ (Ax : Option Addr) (cx : Nat) (x : List Int), cs = [.slice Ax x.length cx] ∧ Rd W 1 enInt Ax x ∧ (∀ q ∈ x, True) ∧ x.length * 8 ≤ 140737488351232 := by
  obtain ⟨A, c, l, e, r, s⟩ := ofw37 _ _ _ h
  exact ⟨A, c, l, e, r, s, wslice Try.underlying37 (B := 8) (by kernel_rfl) h hw e⟩
theorem of35 {H : Type} {enc0 : TypeId × Value → H} {W : World} {base : Nat} {spare : Nat → Bool} {held : Bool} {n : Nat} {cs : List Value} {y : DataW H × List MemPlace} (h : DataW.trod enc0 Try.prog W base spare held n 35 cs = some y) (_hw : Wok Try.prog 35 y.1) : ∃ (Ax : Option Addr) (cx : Nat) (x : List Meas), cs = [.slice Ax x.length cx] ∧ Rd W 2 encMe Ax x ∧ (∀ q ∈ x, True) := by
  exact ofw35 _ _ _ h
theorem of36 {H : Type} {enc0 : TypeId × Value → H} {W : World} {base : Nat} {spare : Nat → Bool} {held : Bool} {n : Nat} {cs : List Value} {y : DataW H × List MemPlace} (h : DataW.trod enc0 Try.prog W base spare held n 36 cs = some y) (_hw : Wok Try.prog 36 y.1) : ∃ (Ax : Option Addr) (cx : Nat) (x : List ListV), cs = [.slice Ax x.length cx] ∧ Rd W 1 encLs Ax x ∧ (∀ q ∈ x, GoodL W q) := by
  exact ofw36 _ _ _ h
theorem of46 {H : Type} {enc0 : TypeId × Value → H} {W : World} {base : Nat} {spare : Nat → Bool} {held : Bool} {n : Nat} {cs : List Value} {y : DataW H × List MemPlace} (h : DataW.trod enc0 Try.prog W base spare held n 46 cs = some y) (_hw : Wok Try.prog 46 y.1) : ∃ (Ax : Option Addr) (cx : Nat) (x : List FakeV), cs = [.slice Ax x.length cx] ∧ Rd W 1 encFk Ax x ∧ (∀ q ∈ x, GoodK W q) := by
  exact ofw46 _ _ _ h
theorem of22 {H : Type} {enc0 : TypeId × Value → H} {W : World} {base : Nat} {spare : Nat → Bool} {held : Bool} {n : Nat} {cs : List Value} {y : DataW H × List MemPlace} (h : DataW.trod enc0 Try.prog W base spare held n 22 cs = some y) (_hw : Wok Try.prog 22 y.1) : ∃ (Ax : Option Addr) (cx : Nat) (x : List ClassV), cs = [.slice Ax x.length cx] ∧ Rd W 4 encCl Ax x ∧ (∀ q ∈ x, GoodC W q) := by
  exact ofw22 _ _ _ h
theorem of26 {H : Type} {enc0 : TypeId × Value → H} {W : World} {base : Nat} {spare : Nat → Bool} {held : Bool} {n : Nat} {cs : List Value} {y : DataW H × List MemPlace} (h : DataW.trod enc0 Try.prog W base spare held n 26 cs = some y) (_hw : Wok Try.prog 26 y.1) : ∃ (x : ItemV), cs = [.string x.cls, .slice x.As x.says.length x.cs, .slice x.Ap x.parts.length x.cp] ∧ GoodI W x := by
  obtain ⟨x, e, h⟩ := ofw26 _ _ _ h
  exact ⟨x, e, h⟩
theorem of80 {H : Type} {enc0 : TypeId × Value → H} {W : World} {base : Nat} {spare : Nat → Bool} {held : Bool} {n : Nat} {cs : List Value} {y : DataW H × List MemPlace} (h : DataW.trod enc0 Try.prog W base spare held n 80 cs = some y) (_hw : Wok Try.prog 80 y.1) : ∃ (x : FakeV), cs = [.slice x.A x.has.length x.c] ∧ GoodK W x := by
  obtain ⟨x, e, h⟩ := ofw80 _ _ _ h
  exact ⟨x, e, h⟩
theorem of48 {H : Type} {enc0 : TypeId × Value → H} {W : World} {base : Nat} {spare : Nat → Bool} {held : Bool} {n : Nat} {cs : List Value} {y : DataW H × List MemPlace} (h : DataW.trod enc0 Try.prog W base spare held n 48 cs = some y) (_hw : Wok Try.prog 48 y.1) : ∃ (Ax0 : Option Addr) (cx0 : Nat) (x0 : List Meas) (Ax1 : Option Addr) (cx1 : Nat) (x1 : List Int) (Ax2 : Option Addr) (cx2 : Nat) (x2 : List FakeV), cs = [.slice Ax0 x0.length cx0, .slice Ax1 x1.length cx1, .slice Ax2 x2.length cx2] ∧ Rd W 2 encMe Ax0 x0 ∧ (∀ q ∈ x0, True) ∧ Rd W 1 enInt Ax1 x1 ∧ (∀ q ∈ x1, True) ∧ Rd W 1 encFk Ax2 x2 ∧ (∀ q ∈ x2, GoodK W q) ∧ x2.length ≤ cx2 := by
  obtain ⟨xs, m, hm, hX, hl, hxl, hf⟩ := DataW.trod_struct Try.underlying48 h
  subst hX
  rw [yc48] at hl
  obtain ⟨k0, k1, k2, rfl⟩ := list3' hl
  obtain ⟨y0, y1, y2, rfl⟩ := list3' hxl
  have g0 : DataW.trod enc0 Try.prog W base spare held m 35 [k0] = some y0 := by
    have h5 : DataW.trod enc0 Try.prog W base spare held m 35 (([k0, k1, k2].drop 0).take (Try.prog.cellsOf 35)) = some y0 := hf 0 _ rfl
    rw [yc35] at h5; exact h5
  have g1 : DataW.trod enc0 Try.prog W base spare held m 37 [k1] = some y1 := by
    have h5 : DataW.trod enc0 Try.prog W base spare held m 37 (([k0, k1, k2].drop 1).take (Try.prog.cellsOf 37)) = some y1 := hf 1 _ rfl
    rw [yc37] at h5; exact h5
  have g2 : DataW.trod enc0 Try.prog W base spare held m 46 [k2] = some y2 := by
    have h5 : DataW.trod enc0 Try.prog W base spare held m 46 (([k0, k1, k2].drop 2).take (Try.prog.cellsOf 46)) = some y2 := hf 2 _ rfl
    rw [yc46] at h5; exact h5
  obtain ⟨A, c, l, e0, r0, s0⟩ := ofw35 _ _ _ g0
  obtain ⟨B, d, k, e1, r1, s1⟩ := ofw37 _ _ _ g1
  obtain ⟨D, f, j, e2, r2, s2⟩ := ofw46 _ _ _ g2
  cases e0; cases e1; cases e2
  exact ⟨A, c, l, B, d, k, D, f, j, rfl, r0, s0, r1, s1, r2, s2, cap_of_trod Try.underlying46 g2⟩
theorem of38 {H : Type} {enc0 : TypeId × Value → H} {W : World} {base : Nat} {spare : Nat → Bool} {held : Bool} {n : Nat} {cs : List Value} {y : DataW H × List MemPlace} (h : DataW.trod enc0 Try.prog W base spare held n 38 cs = some y) (_hw : Wok Try.prog 38 y.1) : ∃ (Ax0 : Option Addr) (cx0 : Nat) (x0 : List Int) (Ax1 : Option Addr) (cx1 : Nat) (x1 : List Int), cs = [.slice Ax0 x0.length cx0, .slice Ax1 x1.length cx1] ∧ Rd W 1 enInt Ax0 x0 ∧ (∀ q ∈ x0, True) ∧ Rd W 1 enInt Ax1 x1 ∧ (∀ q ∈ x1, True) := by
  obtain ⟨xs, m, hm, hX, hl, hxl, hf⟩ := DataW.trod_array Try.underlying38 h
  subst hX
  rw [yc38] at hl
  obtain ⟨k0, k1, rfl⟩ := list2' hl
  obtain ⟨y0, y1, rfl⟩ := list2' hxl
  have g0 : DataW.trod enc0 Try.prog W base spare held m 37 [k0] = some y0 := by
    have h5 : DataW.trod enc0 Try.prog W base spare held m 37 (([k0, k1].drop (0 * Try.prog.cellsOf 37)).take (Try.prog.cellsOf 37)) = some y0 := hf 0 (by omega)
    rw [yc37] at h5; exact h5
  have g1 : DataW.trod enc0 Try.prog W base spare held m 37 [k1] = some y1 := by
    have h5 : DataW.trod enc0 Try.prog W base spare held m 37 (([k0, k1].drop (1 * Try.prog.cellsOf 37)).take (Try.prog.cellsOf 37)) = some y1 := hf 1 (by omega)
    rw [yc37] at h5; exact h5
  obtain ⟨A, c, l, e0, r0, s0⟩ := ofw37 _ _ _ g0
  obtain ⟨B, d, k, e1, r1, s1⟩ := ofw37 _ _ _ g1
  cases e0; cases e1
  exact ⟨A, c, l, B, d, k, rfl, r0, s0, r1, s1⟩
theorem of71 {H : Type} {enc0 : TypeId × Value → H} {W : World} {base : Nat} {spare : Nat → Bool} {held : Bool} {n : Nat} {cs : List Value} {y : DataW H × List MemPlace} (h : DataW.trod enc0 Try.prog W base spare held n 71 cs = some y) (_hw : Wok Try.prog 71 y.1) : ∃ (x0 : ItemV) (x1 : ItemV), cs = [.string x0.cls, .slice x0.As x0.says.length x0.cs, .slice x0.Ap x0.parts.length x0.cp, .string x1.cls, .slice x1.As x1.says.length x1.cs, .slice x1.Ap x1.parts.length x1.cp] ∧ GoodI W x0 ∧ GoodI W x1 := by
  obtain ⟨xs, m, hm, hX, hl, hxl, hf⟩ := DataW.trod_array Try.underlying71 h
  subst hX
  rw [yc71] at hl
  obtain ⟨k0, k1, k2, k3, k4, k5, rfl⟩ := list6' hl
  obtain ⟨y0, y1, rfl⟩ := list2' hxl
  have g0 : DataW.trod enc0 Try.prog W base spare held m 26 [k0, k1, k2] = some y0 := by
    have h5 : DataW.trod enc0 Try.prog W base spare held m 26 (([k0, k1, k2, k3, k4, k5].drop (0 * Try.prog.cellsOf 26)).take (Try.prog.cellsOf 26)) = some y0 := hf 0 (by omega)
    rw [yc26] at h5; exact h5
  have g1 : DataW.trod enc0 Try.prog W base spare held m 26 [k3, k4, k5] = some y1 := by
    have h5 : DataW.trod enc0 Try.prog W base spare held m 26 (([k0, k1, k2, k3, k4, k5].drop (1 * Try.prog.cellsOf 26)).take (Try.prog.cellsOf 26)) = some y1 := hf 1 (by omega)
    rw [yc26] at h5; exact h5
  obtain ⟨x0, e0, h0⟩ := ofw26 _ _ _ g0
  obtain ⟨x1, e1, h1⟩ := ofw26 _ _ _ g1
  cases e0; cases e1
  exact ⟨x0, x1, rfl, h0, h1⟩
theorem of64 {H : Type} {enc0 : TypeId × Value → H} {W : World} {base : Nat} {spare : Nat → Bool} {held : Bool} {n : Nat} {cs : List Value} {y : DataW H × List MemPlace} (h : DataW.trod enc0 Try.prog W base spare held n 64 cs = some y) (_hw : Wok Try.prog 64 y.1) : ∃ (x0 : ItemV) (x1 : ItemV) (x2 : ItemV), cs = [.string x0.cls, .slice x0.As x0.says.length x0.cs, .slice x0.Ap x0.parts.length x0.cp, .string x1.cls, .slice x1.As x1.says.length x1.cs, .slice x1.Ap x1.parts.length x1.cp, .string x2.cls, .slice x2.As x2.says.length x2.cs, .slice x2.Ap x2.parts.length x2.cp] ∧ GoodI W x0 ∧ GoodI W x1 ∧ GoodI W x2 := by
  obtain ⟨xs, m, hm, hX, hl, hxl, hf⟩ := DataW.trod_array Try.underlying64 h
  subst hX
  rw [yc64] at hl
  obtain ⟨k0, k1, k2, k3, k4, k5, k6, k7, k8, rfl⟩ := list9' hl
  obtain ⟨y0, y1, y2, rfl⟩ := list3' hxl
  have g0 : DataW.trod enc0 Try.prog W base spare held m 26 [k0, k1, k2] = some y0 := by
    have h5 : DataW.trod enc0 Try.prog W base spare held m 26 (([k0, k1, k2, k3, k4, k5, k6, k7, k8].drop (0 * Try.prog.cellsOf 26)).take (Try.prog.cellsOf 26)) = some y0 := hf 0 (by omega)
    rw [yc26] at h5; exact h5
  have g1 : DataW.trod enc0 Try.prog W base spare held m 26 [k3, k4, k5] = some y1 := by
    have h5 : DataW.trod enc0 Try.prog W base spare held m 26 (([k0, k1, k2, k3, k4, k5, k6, k7, k8].drop (1 * Try.prog.cellsOf 26)).take (Try.prog.cellsOf 26)) = some y1 := hf 1 (by omega)
    rw [yc26] at h5; exact h5
  have g2 : DataW.trod enc0 Try.prog W base spare held m 26 [k6, k7, k8] = some y2 := by
    have h5 : DataW.trod enc0 Try.prog W base spare held m 26 (([k0, k1, k2, k3, k4, k5, k6, k7, k8].drop (2 * Try.prog.cellsOf 26)).take (Try.prog.cellsOf 26)) = some y2 := hf 2 (by omega)
    rw [yc26] at h5; exact h5
  obtain ⟨x0, e0, h0⟩ := ofw26 _ _ _ g0
  obtain ⟨x1, e1, h1⟩ := ofw26 _ _ _ g1
  obtain ⟨x2, e2, h2⟩ := ofw26 _ _ _ g2
  cases e0; cases e1; cases e2
  exact ⟨x0, x1, x2, rfl, h0, h1, h2⟩
end Go.Proofs.Ytlfbghkcfmcnlaa
