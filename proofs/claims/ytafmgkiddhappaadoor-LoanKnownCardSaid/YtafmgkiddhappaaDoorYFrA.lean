/- What the rows' conditions give the walks: the table of ways; markets and wares that can be read. Conditions: none. -/
import Derived.Test.YtafmgkiddhappaaDoorZP
import Derived.Test.YtafmgkiddhappaaDoorZSb
import Derived.Test.YtafmgkiddhappaaDoorCards
import Derived.Test.YtafmgkiddhappaaDoorTie
import Derived.ProofKit
import Derived.LaidMore
import Derived.Stop.Joined
namespace Go.Proofs.YtafmgkiddhappaaDoor
open Go.Sx Go.RowKit Go.ChangeShapes Go.WideShapes Go.ChangeAt
set_option maxRecDepth 100000

theorem frOwn : ownKnob Tryd.prog.godebug = none := by kernel_rfl
theorem frCells3 : Tryd.prog.cellsOf 3 = 1 := by kernel_rfl
theorem frCells25 : Tryd.prog.cellsOf 25 = 5 := by kernel_rfl
theorem frCells56 : Tryd.prog.cellsOf 56 = 5 := by kernel_rfl
theorem frCells29 : Tryd.prog.cellsOf 29 = 3 := by kernel_rfl
theorem frCells27 : Tryd.prog.cellsOf 27 = 2 := by kernel_rfl
theorem frCells22 : Tryd.prog.cellsOf 22 = 1 := by kernel_rfl
theorem frCells23 : Tryd.prog.cellsOf 23 = 1 := by kernel_rfl
theorem frCells168 : Tryd.prog.cellsOf 168 = 1 := by kernel_rfl
theorem frCells169 : Tryd.prog.cellsOf 169 = 4 := by kernel_rfl
theorem frLaidOut : laidOutB Tryd.prog = true := by kernel_rfl
theorem frWays : Tryd.prog.globalNamed "lombard/loan.ways" = some 0 := by kernel_rfl
theorem frWaysT : (Tryd.prog.globals[0]?).map (·.type) = some 169 := by kernel_rfl

theorem list4 {α : Type} {l : List α} (h : l.length = 4) : ∃ a b c d, l = [a, b, c, d] := by
  match l, h with
  | [a, b, c, d], _ => exact ⟨a, b, c, d, rfl⟩
theorem list5 {α : Type} {l : List α} (h : l.length = 5) : ∃ a b c d e, l = [a, b, c, d, e] := by
  match l, h with
  | [a, b, c, d, e], _ => exact ⟨a, b, c, d, e, rfl⟩
theorem list2 {α : Type} {l : List α} (h : l.length = 2) : ∃ a b, l = [a, b] := by
  match l, h with
  | [a, b], _ => exact ⟨a, b, rfl⟩
theorem list3 {α : Type} {l : List α} (h : l.length = 3) : ∃ a b c, l = [a, b, c] := by
  match l, h with
  | [a, b, c], _ => exact ⟨a, b, c, rfl⟩

/-- THE TABLE OF WAYS. -/
theorem ways_of {W : World} (h : laidMetH Tryd.prog [("lombard/loan.ways", Rows.laid_lombard_loan_ways)] W) : Gl W 0 WAYS := by
  obtain ⟨g, t, cs, fuel, p, hg, ht, hv, hd⟩ := h.funcs (List.mem_singleton.2 rfl)
  obtain rfl := Option.some.inj (frWays.symm.trans hg)
  obtain rfl := Option.some.inj (frWaysT.symm.trans ht)
  obtain ⟨xs, m, _, hx, hl, hxl, hget⟩ := DataW.trod_array Tryd.underlying169 hd
  rw [frCells169] at hl
  obtain ⟨c0, c1, c2, c3, hcs⟩ := list4 hl
  obtain ⟨x0, x1, x2, x3, rfl⟩ := list4 hxl
  rw [hcs, frCells168] at hget
  simp only [Prod.mk.injEq] at hx
  obtain ⟨hx, _⟩ := hx
  have e : [DataW.held [40, 42, 108, 111, 109, 98, 97, 114, 100, 47, 108, 111, 97, 110, 46, 108, 111, 97, 110, 41, 46, 112, 97, 121], .held [40, 42, 108, 111, 109, 98, 97, 114, 100, 47, 108, 111, 97, 110, 46, 108, 111, 97, 110, 41, 46, 114, 101, 110, 101, 119], .held [40, 42, 108, 111, 109, 98, 97, 114, 100, 47, 108, 111, 97, 110, 46, 108, 111, 97, 110, 41, 46, 104, 111, 108, 100], .held [40, 42, 108, 111, 109, 98, 97, 114, 100, 47, 108, 111, 97, 110, 46, 108, 111, 97, 110, 41, 46, 114, 101, 100, 101, 101, 109]] = [x0.1, x1.1, x2.1, x3.1] := DataW.agg.inj hx
  injection e with e0 e
  injection e with e1 e
  injection e with e2 e
  injection e with e3 e
  have g0 : DataW.trod (funcToken Tryd.prog) Tryd.prog W 0 (fun _ => true) true m 168 [c0] = some (.held [40, 42, 108, 111, 109, 98, 97, 114, 100, 47, 108, 111, 97, 110, 46, 108, 111, 97, 110, 41, 46, 112, 97, 121], x0.2) := by rw [e0]; exact hget 0 (by omega)
  have g1 : DataW.trod (funcToken Tryd.prog) Tryd.prog W 0 (fun _ => true) true m 168 [c1] = some (.held [40, 42, 108, 111, 109, 98, 97, 114, 100, 47, 108, 111, 97, 110, 46, 108, 111, 97, 110, 41, 46, 114, 101, 110, 101, 119], x1.2) := by rw [e1]; exact hget 1 (by omega)
  have g2 : DataW.trod (funcToken Tryd.prog) Tryd.prog W 0 (fun _ => true) true m 168 [c2] = some (.held [40, 42, 108, 111, 109, 98, 97, 114, 100, 47, 108, 111, 97, 110, 46, 108, 111, 97, 110, 41, 46, 104, 111, 108, 100], x2.2) := by rw [e2]; exact hget 2 (by omega)
  have g3 : DataW.trod (funcToken Tryd.prog) Tryd.prog W 0 (fun _ => true) true m 168 [c3] = some (.held [40, 42, 108, 111, 109, 98, 97, 114, 100, 47, 108, 111, 97, 110, 46, 108, 111, 97, 110, 41, 46, 114, 101, 100, 101, 101, 109], x3.2) := by rw [e3]; exact hget 3 (by omega)
  obtain rfl := func_of_trod (f0 := 147) Tryd.underlying168 (by kernel_rfl) g0
  obtain rfl := func_of_trod (f0 := 66) Tryd.underlying168 (by kernel_rfl) g1
  obtain rfl := func_of_trod (f0 := 148) Tryd.underlying168 (by kernel_rfl) g2
  obtain rfl := func_of_trod (f0 := 149) Tryd.underlying168 (by kernel_rfl) g3
  have hcell : ∀ i, W.cell? ⟨0, i, none⟩ = WAYS[i]? := fun i => by
    rw [World.var?_cell hg hv i, ← Array.getElem?_toList, hcs]
  refine ⟨fun i v hv => (hcell i).trans hv, ?_⟩
  exact World.block_lt_of_cell? _ _ ((hcell 0).trans rfl)

/-- A sale. -/
theorem sale_of {H : Type} {enc0 : TypeId × Value → H} {W : World} {base : Nat} {spare : Nat → Bool} {held : Bool} (n : Nat) (cs : List Value) (y : DataW H × List MemPlace) (h : DataW.trod enc0 Tryd.prog W base spare held n 56 cs = some y) : ∃ s : Sale, cs = encSale s := by
  obtain ⟨ns, h1, h2⟩ := ints_of_trod Tryd.underlying56 (T := 3) (fun i f hf => by
    rcases i with _ | _ | _ | _ | _ | i <;> simp at hf <;> (subst hf; exact ⟨rfl, rfl⟩)) Tryd.underlying3 frCells3 frCells56 h
  obtain ⟨a, b, c, d, e, rfl⟩ := list5 h1
  exact ⟨⟨a, b, c, d, e⟩, h2⟩
theorem int_of {H : Type} {enc0 : TypeId × Value → H} {W : World} {base : Nat} {spare : Nat → Bool} {held : Bool} (n : Nat) (cs : List Value) (y : DataW H × List MemPlace) (h : DataW.trod enc0 Tryd.prog W base spare held n 3 cs = some y) : ∃ s : Int, cs = enInt s := by
  obtain ⟨m, hm, _⟩ := DataW.trod_int Tryd.underlying3 h
  exact ⟨m, hm⟩
/-- A market. -/
theorem market_of {H : Type} {enc0 : TypeId × Value → H} {W : World} {base : Nat} {spare : Nat → Bool} {held : Bool} {n : Nat} {cs : List Value} {y : DataW H × List MemPlace} (h : DataW.trod enc0 Tryd.prog W base spare held n 25 cs = some y) :
    ∃ (sales : List Sale) (fade : List Int) (metal day few : Int) (As Af : Option Addr) (cs1 cf : Nat), cs = [.slice As sales.length cs1, .slice Af fade.length cf, .int .i64 metal, .int .i64 day, .int .i64 few] ∧ Rd W 5 encSale As sales ∧ Rd W 1 enInt Af fade := by
  obtain ⟨xs, m, _, _, hl, hxl, hf⟩ := DataW.trod_struct Tryd.underlying25 h
  rw [frCells25] at hl
  obtain ⟨c0, c1, c2, c3, c4, rfl⟩ := list5 hl
  obtain ⟨x0, x1, x2, x3, x4, rfl⟩ := list5 hxl
  have g0 : DataW.trod enc0 Tryd.prog W base spare held m 22 [c0] = some x0 := by
    have h5 : DataW.trod enc0 Tryd.prog W base spare held m 22 (([c0, c1, c2, c3, c4].drop 0).take (Tryd.prog.cellsOf 22)) = some x0 := hf 0 _ rfl
    rw [frCells22] at h5; exact h5
  have g1 : DataW.trod enc0 Tryd.prog W base spare held m 23 [c1] = some x1 := by
    have h5 : DataW.trod enc0 Tryd.prog W base spare held m 23 (([c0, c1, c2, c3, c4].drop 1).take (Tryd.prog.cellsOf 23)) = some x1 := hf 1 _ rfl
    rw [frCells23] at h5; exact h5
  have g2 : DataW.trod enc0 Tryd.prog W base spare held m 3 [c2] = some x2 := by
    have h5 : DataW.trod enc0 Tryd.prog W base spare held m 3 (([c0, c1, c2, c3, c4].drop 2).take (Tryd.prog.cellsOf 3)) = some x2 := hf 2 _ rfl
    rw [frCells3] at h5; exact h5
  have g3 : DataW.trod enc0 Tryd.prog W base spare held m 3 [c3] = some x3 := by
    have h5 : DataW.trod enc0 Tryd.prog W base spare held m 3 (([c0, c1, c2, c3, c4].drop 3).take (Tryd.prog.cellsOf 3)) = some x3 := hf 3 _ rfl
    rw [frCells3] at h5; exact h5
  have g4 : DataW.trod enc0 Tryd.prog W base spare held m 3 [c4] = some x4 := by
    have h5 : DataW.trod enc0 Tryd.prog W base spare held m 3 (([c0, c1, c2, c3, c4].drop 4).take (Tryd.prog.cellsOf 3)) = some x4 := hf 4 _ rfl
    rw [frCells3] at h5; exact h5
  obtain ⟨As, cs1, sales, h0, r0⟩ := rd_of_trod encSale Tryd.underlying22 frCells56 (by decide) (fun _ => rfl) sale_of g0
  obtain ⟨Af, cf, fade, h1, r1⟩ := rd_of_trod enInt Tryd.underlying23 frCells3 (by decide) (fun _ => rfl) int_of g1
  obtain ⟨a, ha⟩ := int_of _ _ _ g2
  obtain ⟨b, hb⟩ := int_of _ _ _ g3
  obtain ⟨c, hc⟩ := int_of _ _ _ g4
  injection h0 with h0; injection h1 with h1; injection ha with ha; injection hb with hb; injection hc with hc
  exact ⟨sales, fade, a, b, c, As, Af, cs1, cf, by rw [h0, h1, ha, hb, hc], r0, r1⟩
/-- A ware. -/
theorem ware_of {H : Type} {enc0 : TypeId × Value → H} {W : World} {base : Nat} {spare : Nat → Bool} {held : Bool} {n : Nat} {cs : List Value} {y : DataW H × List MemPlace} (h : DataW.trod enc0 Tryd.prog W base spare held n 29 cs = some y) :
    ∃ kind wmin wmax : Int, cs = [.int .i64 kind, .int .i64 wmin, .int .i64 wmax] := by
  obtain ⟨xs, m, _, _, hl, hxl, hf⟩ := DataW.trod_struct Tryd.underlying29 h
  rw [frCells29] at hl
  obtain ⟨c0, c1, c2, rfl⟩ := list3 hl
  obtain ⟨x0, x1, rfl⟩ := list2 hxl
  have g0 : DataW.trod enc0 Tryd.prog W base spare held m 3 [c0] = some x0 := by
    have h5 : DataW.trod enc0 Tryd.prog W base spare held m 3 (([c0, c1, c2].drop 0).take (Tryd.prog.cellsOf 3)) = some x0 := hf 0 _ rfl
    rw [frCells3] at h5; exact h5
  have g1 : DataW.trod enc0 Tryd.prog W base spare held m 27 [c1, c2] = some x1 := by
    have h5 : DataW.trod enc0 Tryd.prog W base spare held m 27 (([c0, c1, c2].drop 1).take (Tryd.prog.cellsOf 27)) = some x1 := hf 1 _ rfl
    rw [frCells27] at h5; exact h5
  obtain ⟨a, ha⟩ := int_of _ _ _ g0
  obtain ⟨ns, h1, h2⟩ := ints_of_trod Tryd.underlying27 (T := 3) (fun i f hf => by
    rcases i with _ | _ | i <;> simp at hf <;> (subst hf; exact ⟨rfl, rfl⟩)) Tryd.underlying3 frCells3 frCells27 g1
  obtain ⟨b, c, rfl⟩ := list2 h1
  injection ha with ha
  injection h2 with h2 h3
  injection h3 with h3
  exact ⟨a, b, c, by rw [ha, h2, h3]⟩
end Go.Proofs.YtafmgkiddhappaaDoor
