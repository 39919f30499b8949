/- Texts of ours, joined: 1 of them. Conditions: none. -/
import Derived.Test.YtlfbghkcfmcnlaaGreatDoorZi
import Derived.Test.YtlfbghkcfmcnlaaGreatDoorCards
import Derived.Test.YtlfbghkcfmcnlaaGreatDoorTie
import Derived.ProofKit
import Derived.LaidMore
import Derived.Stop.Joined
import Derived.HandedShaped
import Derived.Shelf.Vars
namespace Go.Proofs.YtlfbghkcfmcnlaaGreatDoor
open Go.Sx Go.RowKit Go.ChangeShapes Go.WideShapes Go.ChangeAt
set_option maxRecDepth 100000
theorem frOwn : ownKnob Tryz.prog.godebug = none := by kernel_rfl
theorem frLaidOut : laidOutB Tryz.prog = true := by kernel_rfl
theorem mx_of {W : World} (h : W.ShapedOpen Tryz.prog) : ∃ mx, Gl W 0 [.int .i64 mx] := by
  obtain ⟨mx, hm⟩ := cell_of_shapedOpen_int (P := Tryz.prog) (g := 0) (t := 3) (zero := #[.int .i64 0]) h (of_decide_eq_true (by kernel_rfl)) (by kernel_rfl) rfl (by kernel_rfl) (by kernel_rfl) Tryz.underlying3
  refine ⟨mx, fun i v hv => ?_, World.block_lt_of_cell? _ _ hm⟩
  cases i with
  | zero => rw [hm]; exact hv
  | succ i => cases hv
/-- A row's call, from what it does in a world that is laid and shaped. -/
theorem rih_laid {H : Type} {enc : TypeId × Value → H} {a : Assume} {C : Checked} {os : Os} {f : FuncId} {fn : Func} {s : ChangeSpec} {conds : List PathCond} {apart fresh handsOn again : Bool} {X : World → Array Value → Prop}
    (hX : ∀ (w w' : World) (args : Array Value), w.heap = w'.heap → X w args → X w' args) (own : ownKnob C.prog.godebug = none) (started : os.Started) (noInit : C.prog.inits.idxOf? f = none) (hfn : C.prog.funcs[f]? = some fn)
    (witness : ∃ (w : World) (tape : Tape) (i : Input), w.os = os ∧ (w.forCall tape i).Shaped C.prog ∧ i.vars = [] ∧ Input.okWide C.prog (w.forCall tape i) .any w.heap.size f i ∧
      ((s.pre enc C.prog fn conds apart (w.forCall tape i).memory i.args ∧ X (w.forCall tape i).memory i.args) ∧ sizedMet enc C.prog fn (OpenSpec.ofChange s) apart (w.forCall tape i).memory i.args) ∧ a.holds C.prog (lone (Frame.enter C.prog f i.args .normal) [] (w.forCall tape i)))
    (walk : ∀ (W : World) (base : Nat) (args : Array Value) (ds gs : List (DataW H)) (before : List MemPlace), (∀ (j : Nat) t v, fn.params[j]? = some t → args[j]? = some v → Value.okWide C.prog W .any base t v) →
      DataW.Whole enc C.prog fn.params.toList s.vars apart W args.toList ds gs before → (DataW.weightsEach C.prog (fn.params.toList ++ s.plain.varTypes C.prog) (ds ++ gs)).all (· ≤ reachBytes) = true → X W args → W.ShapedOpen C.prog →
      Calls C.prog f args W fun e W' => ∃ v, e = .returned v ∧ s.post enc C.prog fn apart fresh handsOn again W args v W') :
    ReturnsInHanded a C os f .any (fun w args => (s.pre enc C.prog fn conds apart w args ∧ X w args) ∧ sizedMet enc C.prog fn (OpenSpec.ofChange s) apart w args) (s.post enc C.prog fn apart fresh handsOn again) :=
  returnsInHanded_of_calls own started noInit witness fun w tape i _ hsh _ hok hpre _ => by
    obtain ⟨_, _, _, fn2, hfn2, _, _, _, _, hval⟩ := hok
    cases Option.some.inj (hfn2.symm.trans hfn)
    obtain ⟨⟨⟨ds, gs, before, hw, _⟩, hx⟩, hz⟩ := hpre
    refine (walk (w.forCall tape i) w.heap.size i.args ds gs before hval (DataW.Whole.of_heap (w' := w.forCall tape i) (by rfl) hw) (hz.weights hw) (hX _ _ _ (by rfl) hx) hsh).mono fun e W' h => ?_
    obtain ⟨v, rfl, hp⟩ := h
    exact ChangeSpec.post_blind hp
theorem yc3 : Tryz.prog.cellsOf 3 = 1 := by kernel_rfl
theorem yc4 : Tryz.prog.cellsOf 4 = 1 := by kernel_rfl
theorem yc9 : Tryz.prog.cellsOf 9 = 1 := by kernel_rfl
theorem yc22 : Tryz.prog.cellsOf 22 = 1 := by kernel_rfl
theorem yc23 : Tryz.prog.cellsOf 23 = 1 := by kernel_rfl
theorem yc24 : Tryz.prog.cellsOf 24 = 1 := by kernel_rfl
theorem yc26 : Tryz.prog.cellsOf 26 = 3 := by kernel_rfl
theorem yc35 : Tryz.prog.cellsOf 35 = 1 := by kernel_rfl
theorem yc37 : Tryz.prog.cellsOf 37 = 4 := by kernel_rfl
theorem yc39 : Tryz.prog.cellsOf 39 = 3 := by kernel_rfl
theorem rd_of_trodP {H : Type} {enc0 : TypeId × Value → H} {P : Program} {w : World} {base : Nat} {spare : Nat → Bool} {held : Bool} {α : Type} {t e : TypeId} {sz fuel : Nat} (enc : α → List Value) (G : α → Prop) {cs : List Value} {x : DataW H × List MemPlace} (ht : P.underlying t = some (.slice e)) (hsz : P.cellsOf e = sz) (hpos : 0 < sz) (henc : ∀ s, (enc s).length = sz)
    (hdec : ∀ (n : Nat) (cs : List Value) (y : DataW H × List MemPlace), n < fuel → DataW.trod enc0 P w base spare held n e cs = some y → ∃ s : α, cs = enc s ∧ G s)
    (h : DataW.trod enc0 P w base spare held fuel t cs = some x) : ∃ (A : Option Addr) (c : Nat) (xs : List α), cs = [.slice A xs.length c] ∧ Rd w sz enc A xs ∧ ∀ s ∈ xs, G s := by
  rcases DataW.trod_slice ht h with ⟨hcs, _⟩ | ⟨a, len, cap, elems, rest, n, hfu, hcs, _, _, hl, hm, hel, hget, _⟩
  · exact ⟨none, 0, [], hcs, Rd.nil, by simp⟩
  · have hone : ∀ i, i < len → ∃ s : α, w.cells? base (a.add (i * sz)) sz = some (enc s) ∧ G s := by
      intro i hi
      have h1 := hget i hi
      rw [hsz] at h1
      have hx : elems[i]? = some (elems[i]'(by omega)) := List.getElem?_eq_getElem (by omega)
      rw [hx] at h1
      obtain ⟨cs', h2, h3⟩ := Option.bind_eq_some_iff.1 h1
      obtain ⟨s, rfl, hs⟩ := hdec n cs' _ (by omega) h3
      exact ⟨s, h2, hs⟩
    have key : ∀ k, k ≤ len → ∃ xs : List α, xs.length = k ∧ ∀ i s, xs[i]? = some s → w.cells? base (a.add (i * sz)) sz = some (enc s) ∧ G s := by
      intro k
      induction k with
      | zero => intro _; exact ⟨[], rfl, fun i s hs => by simp at hs⟩
      | succ k ih =>
        intro hk
        obtain ⟨xs, h1, h2⟩ := ih (by omega)
        obtain ⟨s, hs⟩ := hone k (by omega)
        refine ⟨xs ++ [s], by simp [h1], fun i s' hs' => ?_⟩
        by_cases hi : i < xs.length
        · rw [List.getElem?_append_left hi] at hs'; exact h2 i s' hs'
        · rw [List.getElem?_append_right (by omega)] at hs'
          have : i = k := by
            have := (List.getElem?_eq_some_iff.1 hs').1
            simp at this; omega
          subst this
          rw [h1] at hs'
          simp at hs'
          rw [← hs']; exact hs
    obtain ⟨xs, h1, h2⟩ := key len (Nat.le_refl _)
    refine ⟨some a, cap, xs, by rw [h1]; exact hcs, ⟨by rw [h1]; omega, fun hne => ⟨a, rfl, ?_, fun i s j u hs hu => ?_⟩⟩, fun s hs => ?_⟩
    · obtain ⟨s, hs⟩ : ∃ s, xs[0]? = some s := by cases xs with | nil => exact absurd rfl hne | cons s l => exact ⟨s, rfl⟩
      have h3 := cells_get (h2 0 s hs).1
      obtain ⟨u, hu⟩ : ∃ u, (enc s)[0]? = some u := ⟨_, List.getElem?_eq_getElem (by rw [henc]; exact hpos)⟩
      have h4 := h3.2 0 u hu
      have := World.block_lt_of_cell? _ _ h4
      simpa [Go.Sx.block_add] using this
    · have h3 := cells_get (h2 i s hs).1
      have := h3.2 j u hu
      rwa [add_add] at this
    · obtain ⟨i, hi⟩ := List.mem_iff_getElem?.1 hs
      exact (h2 i s hi).2
theorem int_of {H : Type} {enc0 : TypeId × Value → H} {W : World} {base : Nat} {spare : Nat → Bool} {held : Bool} (n : Nat) (cs : List Value) (y : DataW H × List MemPlace) (h : DataW.trod enc0 Tryz.prog W base spare held n 3 cs = some y) : ∃ s : Int, cs = enInt s ∧ True := by
  obtain ⟨m, hm, _⟩ := DataW.trod_int Tryz.underlying3 h
  exact ⟨m, hm, trivial⟩
theorem str_sm {H : Type} {enc0 : TypeId × Value → H} {W : World} {base : Nat} {spare : Nat → Bool} {held : Bool} (n : Nat) (cs : List Value) (y : DataW H × List MemPlace) (h : DataW.trod enc0 Tryz.prog W base spare held n 9 cs = some y) : ∃ s : ByteArray, cs = enStr s ∧ s.size ≤ 9223372036854775807 := by
  obtain ⟨s, h1, h2⟩ := str_cells Tryz.underlying9 h
  exact ⟨s, h1, by unfold maxLen at h2; omega⟩
theorem ofw23 {H : Type} {enc0 : TypeId × Value → H} {W : World} {base : Nat} {spare : Nat → Bool} {held : Bool} (n : Nat) (cs : List Value) (y : DataW H × List MemPlace) (h : DataW.trod enc0 Tryz.prog W base spare held n 23 cs = some y) : ∃ (A : Option Addr) (c : Nat) (xs : List ByteArray), cs = [.slice A xs.length c] ∧ Rd W 1 enStr A xs ∧ smS xs := by
  exact rd_of_trodP enStr _ Tryz.underlying23 yc9 (by decide) (fun _ => rfl) (fun n cs y _ h => str_sm n cs y h) h
theorem ofw39 {H : Type} {enc0 : TypeId × Value → H} {W : World} {base : Nat} {spare : Nat → Bool} {held : Bool} (n : Nat) (cs : List Value) (y : DataW H × List MemPlace) (h : DataW.trod enc0 Tryz.prog W base spare held n 39 cs = some y) : ∃ t : TraitV, cs = encTr t ∧ GoodT W t := by
  obtain ⟨xs, m, hm, hX, hl, hxl, hf⟩ := DataW.trod_struct Tryz.underlying39 h
  subst hX
  rw [yc39] at hl
  obtain ⟨k0, k1, k2, rfl⟩ := list3' hl
  obtain ⟨y0, y1, y2, rfl⟩ := list3' hxl
  have g0 : DataW.trod enc0 Tryz.prog W base spare held m 9 [k0] = some y0 := by
    have h5 : DataW.trod enc0 Tryz.prog W base spare held m 9 (([k0, k1, k2].drop 0).take (Tryz.prog.cellsOf 9)) = some y0 := hf 0 _ rfl
    rw [yc9] at h5; exact h5
  have g1 : DataW.trod enc0 Tryz.prog W base spare held m 23 [k1] = some y1 := by
    have h5 : DataW.trod enc0 Tryz.prog W base spare held m 23 (([k0, k1, k2].drop 1).take (Tryz.prog.cellsOf 23)) = some y1 := hf 1 _ rfl
    rw [yc23] at h5; exact h5
  have g2 : DataW.trod enc0 Tryz.prog W base spare held m 4 [k2] = some y2 := by
    have h5 : DataW.trod enc0 Tryz.prog W base spare held m 4 (([k0, k1, k2].drop 2).take (Tryz.prog.cellsOf 4)) = some y2 := hf 2 _ rfl
    rw [yc4] at h5; exact h5
  obtain ⟨s, e0, hs⟩ := str_sm _ _ _ g0
  obtain ⟨A, c, l, e1, r1, s1⟩ := ofw23 _ _ _ g1
  obtain ⟨b, e2⟩ := bool_cells Tryz.underlying4 g2
  cases e0; cases e1; cases e2
  exact ⟨⟨s, A, c, l, b⟩, rfl, ⟨r1, s1, hs⟩⟩
theorem ofw37 {H : Type} {enc0 : TypeId × Value → H} {W : World} {base : Nat} {spare : Nat → Bool} {held : Bool} (n : Nat) (cs : List Value) (y : DataW H × List MemPlace) (h : DataW.trod enc0 Tryz.prog W base spare held n 37 cs = some y) : ∃ c : ClassV, cs = encCl c ∧ GoodC W c := by
  obtain ⟨xs, m, hm, hX, hl, hxl, hf⟩ := DataW.trod_struct Tryz.underlying37 h
  subst hX
  rw [yc37] at hl
  obtain ⟨k0, k1, k2, k3, rfl⟩ := list4' hl
  obtain ⟨y0, y1, y2, y3, rfl⟩ := list4' hxl
  have g0 : DataW.trod enc0 Tryz.prog W base spare held m 9 [k0] = some y0 := by
    have h5 : DataW.trod enc0 Tryz.prog W base spare held m 9 (([k0, k1, k2, k3].drop 0).take (Tryz.prog.cellsOf 9)) = some y0 := hf 0 _ rfl
    rw [yc9] at h5; exact h5
  have g1 : DataW.trod enc0 Tryz.prog W base spare held m 35 [k1] = some y1 := by
    have h5 : DataW.trod enc0 Tryz.prog W base spare held m 35 (([k0, k1, k2, k3].drop 1).take (Tryz.prog.cellsOf 35)) = some y1 := hf 1 _ rfl
    rw [yc35] at h5; exact h5
  have g2 : DataW.trod enc0 Tryz.prog W base spare held m 23 [k2] = some y2 := by
    have h5 : DataW.trod enc0 Tryz.prog W base spare held m 23 (([k0, k1, k2, k3].drop 2).take (Tryz.prog.cellsOf 23)) = some y2 := hf 2 _ rfl
    rw [yc23] at h5; exact h5
  have g3 : DataW.trod enc0 Tryz.prog W base spare held m 3 [k3] = some y3 := by
    have h5 : DataW.trod enc0 Tryz.prog W base spare held m 3 (([k0, k1, k2, k3].drop 3).take (Tryz.prog.cellsOf 3)) = some y3 := hf 3 _ rfl
    rw [yc3] at h5; exact h5
  obtain ⟨s, e0, hs⟩ := str_sm _ _ _ g0
  obtain ⟨A, c, l, e1, r1, s1⟩ := rd_of_trodP encTr (GoodT W) Tryz.underlying35 yc39 (by decide) (fun _ => rfl) (fun n cs y _ h => ofw39 n cs y h) g1
  obtain ⟨B, d, ps, e2, r2, s2⟩ := ofw23 _ _ _ g2
  obtain ⟨m, e3, _⟩ := int_of _ _ _ g3
  cases e0; cases e1; cases e2; cases e3
  exact ⟨⟨s, A, c, l, B, d, ps, m⟩, rfl, ⟨r1, s1, r2, s2, hs⟩⟩
theorem ofw22 {H : Type} {enc0 : TypeId × Value → H} {W : World} {base : Nat} {spare : Nat → Bool} {held : Bool} (n : Nat) (cs : List Value) (y : DataW H × List MemPlace) (h : DataW.trod enc0 Tryz.prog W base spare held n 22 cs = some y) : ∃ (A : Option Addr) (c : Nat) (xs : List ClassV), cs = [.slice A xs.length c] ∧ Rd W 4 encCl A xs ∧ ∀ x ∈ xs, GoodC W x := by
  exact rd_of_trodP encCl (GoodC W) Tryz.underlying22 yc37 (by decide) (fun _ => rfl) (fun n cs y _ h => ofw37 n cs y h) h
theorem ofw26 {H : Type} {enc0 : TypeId × Value → H} {W : World} {base : Nat} {spare : Nat → Bool} {held : Bool} : ∀ (n : Nat) (cs : List Value) (y : DataW H × List MemPlace), DataW.trod enc0 Tryz.prog W base spare held n 26 cs = some y → ∃ x : ItemV, cs = encIt x ∧ GoodI W x := by
  intro n
  induction n using Nat.strongRecOn with
  | _ n ih =>
  intro cs y h
  obtain ⟨xs, m, hm, hX, hl, hxl, hf⟩ := DataW.trod_struct Tryz.underlying26 h
  subst hX
  rw [yc26] at hl
  obtain ⟨k0, k1, k2, rfl⟩ := list3' hl
  obtain ⟨y0, y1, y2, rfl⟩ := list3' hxl
  have g0 : DataW.trod enc0 Tryz.prog W base spare held m 9 [k0] = some y0 := by
    have h5 : DataW.trod enc0 Tryz.prog W base spare held m 9 (([k0, k1, k2].drop 0).take (Tryz.prog.cellsOf 9)) = some y0 := hf 0 _ rfl
    rw [yc9] at h5; exact h5
  have g1 : DataW.trod enc0 Tryz.prog W base spare held m 23 [k1] = some y1 := by
    have h5 : DataW.trod enc0 Tryz.prog W base spare held m 23 (([k0, k1, k2].drop 1).take (Tryz.prog.cellsOf 23)) = some y1 := hf 1 _ rfl
    rw [yc23] at h5; exact h5
  have g2 : DataW.trod enc0 Tryz.prog W base spare held m 24 [k2] = some y2 := by
    have h5 : DataW.trod enc0 Tryz.prog W base spare held m 24 (([k0, k1, k2].drop 2).take (Tryz.prog.cellsOf 24)) = some y2 := hf 2 _ rfl
    rw [yc24] at h5; exact h5
  obtain ⟨s, e0, hs⟩ := str_sm _ _ _ g0
  obtain ⟨A, c, l, e1, r1, s1⟩ := ofw23 _ _ _ g1
  obtain ⟨B, d, ps, e2, r2, s2⟩ := rd_of_trodP encIt (GoodI W) Tryz.underlying24 yc26 (by decide) (fun _ => rfl) (fun n cs y hn h => ih n (by omega) cs y h) g2
  cases e0; cases e1; cases e2
  exact ⟨.mk s A c l B d ps, rfl, .mk r1 r2 hs s1 s2⟩
theorem of22 {H : Type} {enc0 : TypeId × Value → H} {W : World} {base : Nat} {spare : Nat → Bool} {held : Bool} {n : Nat} {cs : List Value} {y : DataW H × List MemPlace} (h : DataW.trod enc0 Tryz.prog W base spare held n 22 cs = some y) (_hw : Wok Tryz.prog 22 y.1) : ∃ (Ax : Option Addr) (cx : Nat) (x : List ClassV), cs = [.slice Ax x.length cx] ∧ Rd W 4 encCl Ax x ∧ (∀ q ∈ x, GoodC W q) := by
  exact ofw22 _ _ _ h
theorem of26 {H : Type} {enc0 : TypeId × Value → H} {W : World} {base : Nat} {spare : Nat → Bool} {held : Bool} {n : Nat} {cs : List Value} {y : DataW H × List MemPlace} (h : DataW.trod enc0 Tryz.prog W base spare held n 26 cs = some y) (_hw : Wok Tryz.prog 26 y.1) : ∃ (x : ItemV), cs = [.string x.cls, .slice x.As x.says.length x.cs, .slice x.Ap x.parts.length x.cp] ∧ GoodI W x := by
  obtain ⟨x, e, h⟩ := ofw26 _ _ _ h
  exact ⟨x, e, h⟩
end Go.Proofs.YtlfbghkcfmcnlaaGreatDoor
