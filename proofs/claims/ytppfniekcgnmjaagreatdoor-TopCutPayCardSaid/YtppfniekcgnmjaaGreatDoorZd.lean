/- Texts of ours, joined: 2 of them. Conditions: none. -/
import Derived.Test.YtppfniekcgnmjaaGreatDoorZc
import Derived.Test.YtppfniekcgnmjaaGreatDoorCards
import Derived.Test.YtppfniekcgnmjaaGreatDoorTie
import Derived.ProofKit
import Derived.LaidMore
import Derived.Stop.Joined
namespace Go.Proofs.YtppfniekcgnmjaaGreatDoor.To
open Go.Sx Go.RowKit Go.ChangeShapes Go.WideShapes Go.ChangeAt
set_option maxRecDepth 100000

theorem frOwn : ownKnob Tryz.prog.godebug = none := by kernel_rfl
theorem frCells183 : Tryz.prog.cellsOf 183 = 1 := by kernel_rfl
theorem frCells184 : Tryz.prog.cellsOf 184 = 4 := by kernel_rfl
theorem frLaidOut : laidOutB Tryz.prog = true := by kernel_rfl
theorem frWays : Tryz.prog.globalNamed "lombard/loan.ways" = some 0 := by kernel_rfl
theorem frWaysT : (Tryz.prog.globals[0]?).map (·.type) = some 184 := by kernel_rfl

theorem list4 {α : Type} {l : List α} (h : l.length = 4) : ∃ a b c d, l = [a, b, c, d] := by
  match l, h with
  | [a, b, c, d], _ => exact ⟨a, b, c, d, rfl⟩
/-- THE TABLE OF Ln.WAYS. -/
theorem ways_of {W : World} (h : laidMetH Tryz.prog [("lombard/loan.ways", Rows.laid_lombard_loan_ways)] W) : Gl W 0 Ln.WAYS := by
  obtain ⟨g, t, cs, fuel, p, hg, ht, hv, hd⟩ := h.funcs (List.mem_singleton.2 rfl)
  obtain rfl := Option.some.inj (frWays.symm.trans hg)
  obtain rfl := Option.some.inj (frWaysT.symm.trans ht)
  obtain ⟨xs, m, _, hx, hl, hxl, hget⟩ := DataW.trod_array Tryz.underlying184 hd
  rw [frCells184] at hl
  obtain ⟨c0, c1, c2, c3, hcs⟩ := list4 hl
  obtain ⟨x0, x1, x2, x3, rfl⟩ := list4 hxl
  rw [hcs, frCells183] at hget
  simp only [Prod.mk.injEq] at hx
  obtain ⟨hx, _⟩ := hx
  have e : [DataW.held [40, 42, 108, 111, 109, 98, 97, 114, 100, 47, 108, 111, 97, 110, 46, 108, 111, 97, 110, 41, 46, 112, 97, 121], .held [40, 42, 108, 111, 109, 98, 97, 114, 100, 47, 108, 111, 97, 110, 46, 108, 111, 97, 110, 41, 46, 114, 101, 110, 101, 119], .held [40, 42, 108, 111, 109, 98, 97, 114, 100, 47, 108, 111, 97, 110, 46, 108, 111, 97, 110, 41, 46, 104, 111, 108, 100], .held [40, 42, 108, 111, 109, 98, 97, 114, 100, 47, 108, 111, 97, 110, 46, 108, 111, 97, 110, 41, 46, 114, 101, 100, 101, 101, 109]] = [x0.1, x1.1, x2.1, x3.1] := DataW.agg.inj hx
  injection e with e0 e
  injection e with e1 e
  injection e with e2 e
  injection e with e3 e
  have g0 : DataW.trod (funcToken Tryz.prog) Tryz.prog W 0 (fun _ => true) true m 183 [c0] = some (.held [40, 42, 108, 111, 109, 98, 97, 114, 100, 47, 108, 111, 97, 110, 46, 108, 111, 97, 110, 41, 46, 112, 97, 121], x0.2) := by rw [e0]; exact hget 0 (by omega)
  have g1 : DataW.trod (funcToken Tryz.prog) Tryz.prog W 0 (fun _ => true) true m 183 [c1] = some (.held [40, 42, 108, 111, 109, 98, 97, 114, 100, 47, 108, 111, 97, 110, 46, 108, 111, 97, 110, 41, 46, 114, 101, 110, 101, 119], x1.2) := by rw [e1]; exact hget 1 (by omega)
  have g2 : DataW.trod (funcToken Tryz.prog) Tryz.prog W 0 (fun _ => true) true m 183 [c2] = some (.held [40, 42, 108, 111, 109, 98, 97, 114, 100, 47, 108, 111, 97, 110, 46, 108, 111, 97, 110, 41, 46, 104, 111, 108, 100], x2.2) := by rw [e2]; exact hget 2 (by omega)
  have g3 : DataW.trod (funcToken Tryz.prog) Tryz.prog W 0 (fun _ => true) true m 183 [c3] = some (.held [40, 42, 108, 111, 109, 98, 97, 114, 100, 47, 108, 111, 97, 110, 46, 108, 111, 97, 110, 41, 46, 114, 101, 100, 101, 101, 109], x3.2) := by rw [e3]; exact hget 3 (by omega)
  obtain rfl := func_of_trod (f0 := 229) Tryz.underlying183 (by kernel_rfl) g0
  obtain rfl := func_of_trod (f0 := 230) Tryz.underlying183 (by kernel_rfl) g1
  obtain rfl := func_of_trod (f0 := 231) Tryz.underlying183 (by kernel_rfl) g2
  obtain rfl := func_of_trod (f0 := 232) Tryz.underlying183 (by kernel_rfl) g3
  have hcell : ∀ i, W.cell? ⟨0, i, none⟩ = Ln.WAYS[i]? := fun i => by
    rw [World.var?_cell hg hv i, ← Array.getElem?_toList, hcs]
  refine ⟨fun i v hv => (hcell i).trans hv, ?_⟩
  exact World.block_lt_of_cell? _ _ ((hcell 0).trans rfl)

theorem int_of {H : Type} {enc0 : TypeId × Value → H} {W : World} {base : Nat} {spare : Nat → Bool} {held : Bool} (n : Nat) (cs : List Value) (y : DataW H × List MemPlace) (h : DataW.trod enc0 Tryz.prog W base spare held n 3 cs = some y) : ∃ s : Int, cs = enInt s := by
  obtain ⟨m, hm, _⟩ := DataW.trod_int Tryz.underlying3 h
  exact ⟨m, hm⟩
end Go.Proofs.YtppfniekcgnmjaaGreatDoor.To
namespace Go.Proofs.YtppfniekcgnmjaaGreatDoor.To
open Go.Sx Go.RowKit Go.ChangeShapes Go.WideShapes Go.ChangeAt
set_option maxRecDepth 100000
theorem list11' {α : Type} {l : List α} (h : l.length = 11) : ∃ a b c d e f g i j k m, l = [a, b, c, d, e, f, g, i, j, k, m] := by
  match l, h with
  | [a, b, c, d, e, f, g, i, j, k, m], _ => exact ⟨a, b, c, d, e, f, g, i, j, k, m, rfl⟩
theorem xc88 : Tryz.prog.cellsOf 88 = 3 := by kernel_rfl
theorem xc3 : Tryz.prog.cellsOf 3 = 1 := by kernel_rfl
theorem of88 {H : Type} {enc0 : TypeId × Value → H} {W : World} {base : Nat} {spare : Nat → Bool} {held : Bool} {n : Nat} {cs : List Value} {y : DataW H × List MemPlace} (h : DataW.trod enc0 Tryz.prog W base spare held n 88 cs = some y) : ∃ (x0 : Int) (x1 : Int) (x2 : Int), cs = [.int .i64 x0, .int .i64 x1, .int .i64 x2] ∧ (-9223372036854775808 ≤ x0 ∧ x0 ≤ 9223372036854775807) ∧ (-9223372036854775808 ≤ x1 ∧ x1 ≤ 9223372036854775807) ∧ (-9223372036854775808 ≤ x2 ∧ x2 ≤ 9223372036854775807) := by
  obtain ⟨xs, m, _, hX, hl, hxl, hf⟩ := DataW.trod_struct Tryz.underlying88 h
  subst hX
  rw [xc88] at hl
  obtain ⟨k0, k1, k2, rfl⟩ := list3' hl
  obtain ⟨y0, y1, y2, rfl⟩ := list3' hxl
  have g0 : DataW.trod enc0 Tryz.prog W base spare held m 3 [k0] = some y0 := by
    have h5 : DataW.trod enc0 Tryz.prog W base spare held m 3 (([k0, k1, k2].drop 0).take (Tryz.prog.cellsOf 3)) = some y0 := hf 0 _ rfl
    rw [xc3] at h5; exact h5
  obtain ⟨x0, e0, r0_0⟩ := int_cells Tryz.underlying3 g0
  have g1 : DataW.trod enc0 Tryz.prog W base spare held m 3 [k1] = some y1 := by
    have h5 : DataW.trod enc0 Tryz.prog W base spare held m 3 (([k0, k1, k2].drop 1).take (Tryz.prog.cellsOf 3)) = some y1 := hf 1 _ rfl
    rw [xc3] at h5; exact h5
  obtain ⟨x1, e1, r1_0⟩ := int_cells Tryz.underlying3 g1
  have g2 : DataW.trod enc0 Tryz.prog W base spare held m 3 [k2] = some y2 := by
    have h5 : DataW.trod enc0 Tryz.prog W base spare held m 3 (([k0, k1, k2].drop 2).take (Tryz.prog.cellsOf 3)) = some y2 := hf 2 _ rfl
    rw [xc3] at h5; exact h5
  obtain ⟨x2, e2, r2_0⟩ := int_cells Tryz.underlying3 g2
  cases e0; cases e1; cases e2
  exact ⟨x0, x1, x2, rfl, r0_0, r1_0, r2_0⟩
theorem act_of {H : Type} {enc0 : TypeId × Value → H} {W : World} {base : Nat} {spare : Nat → Bool} {held : Bool} (n : Nat) (cs : List Value) (y : DataW H × List MemPlace) (h : DataW.trod enc0 Tryz.prog W base spare held n 88 cs = some y) : ∃ s : Ln.Act1, cs = Ln.encAct s := by
  obtain ⟨a, b, c, rfl, _⟩ := of88 h
  exact ⟨⟨a, b, c⟩, rfl⟩
theorem xc31 : Tryz.prog.cellsOf 31 = 11 := by kernel_rfl
theorem xc28 : Tryz.prog.cellsOf 28 = 10 := by kernel_rfl
theorem xc23 : Tryz.prog.cellsOf 23 = 2 := by kernel_rfl
theorem of23 {H : Type} {enc0 : TypeId × Value → H} {W : World} {base : Nat} {spare : Nat → Bool} {held : Bool} {n : Nat} {cs : List Value} {y : DataW H × List MemPlace} (h : DataW.trod enc0 Tryz.prog W base spare held n 23 cs = some y) : ∃ (x0 : Int) (x1 : Int), cs = [.int .i64 x0, .int .i64 x1] ∧ (-9223372036854775808 ≤ x0 ∧ x0 ≤ 9223372036854775807) ∧ (-9223372036854775808 ≤ x1 ∧ x1 ≤ 9223372036854775807) := by
  obtain ⟨xs, m, _, hX, hl, hxl, hf⟩ := DataW.trod_struct Tryz.underlying23 h
  subst hX
  rw [xc23] at hl
  obtain ⟨k0, k1, rfl⟩ := list2' hl
  obtain ⟨y0, y1, rfl⟩ := list2' hxl
  have g0 : DataW.trod enc0 Tryz.prog W base spare held m 3 [k0] = some y0 := by
    have h5 : DataW.trod enc0 Tryz.prog W base spare held m 3 (([k0, k1].drop 0).take (Tryz.prog.cellsOf 3)) = some y0 := hf 0 _ rfl
    rw [xc3] at h5; exact h5
  obtain ⟨x0, e0, r0_0⟩ := int_cells Tryz.underlying3 g0
  have g1 : DataW.trod enc0 Tryz.prog W base spare held m 3 [k1] = some y1 := by
    have h5 : DataW.trod enc0 Tryz.prog W base spare held m 3 (([k0, k1].drop 1).take (Tryz.prog.cellsOf 3)) = some y1 := hf 1 _ rfl
    rw [xc3] at h5; exact h5
  obtain ⟨x1, e1, r1_0⟩ := int_cells Tryz.underlying3 g1
  cases e0; cases e1
  exact ⟨x0, x1, rfl, r0_0, r1_0⟩
theorem xc25 : Tryz.prog.cellsOf 25 = 5 := by kernel_rfl
theorem of25 {H : Type} {enc0 : TypeId × Value → H} {W : World} {base : Nat} {spare : Nat → Bool} {held : Bool} {n : Nat} {cs : List Value} {y : DataW H × List MemPlace} (h : DataW.trod enc0 Tryz.prog W base spare held n 25 cs = some y) : ∃ (x0 : Int) (x1 : Int) (x2 : Int) (x3 : Int) (x4 : Int), cs = [.int .i64 x0, .int .i64 x1, .int .i64 x2, .int .i64 x3, .int .i64 x4] ∧ (-9223372036854775808 ≤ x0 ∧ x0 ≤ 9223372036854775807) ∧ (-9223372036854775808 ≤ x1 ∧ x1 ≤ 9223372036854775807) ∧ (-9223372036854775808 ≤ x2 ∧ x2 ≤ 9223372036854775807) ∧ (-9223372036854775808 ≤ x3 ∧ x3 ≤ 9223372036854775807) ∧ (-9223372036854775808 ≤ x4 ∧ x4 ≤ 9223372036854775807) := by
  obtain ⟨xs, m, _, hX, hl, hxl, hf⟩ := DataW.trod_struct Tryz.underlying25 h
  subst hX
  rw [xc25] at hl
  obtain ⟨k0, k1, k2, k3, k4, rfl⟩ := list5' hl
  obtain ⟨y0, y1, y2, y3, y4, rfl⟩ := list5' hxl
  have g0 : DataW.trod enc0 Tryz.prog W base spare held m 3 [k0] = some y0 := by
    have h5 : DataW.trod enc0 Tryz.prog W base spare held m 3 (([k0, k1, k2, k3, k4].drop 0).take (Tryz.prog.cellsOf 3)) = some y0 := hf 0 _ rfl
    rw [xc3] at h5; exact h5
  obtain ⟨x0, e0, r0_0⟩ := int_cells Tryz.underlying3 g0
  have g1 : DataW.trod enc0 Tryz.prog W base spare held m 3 [k1] = some y1 := by
    have h5 : DataW.trod enc0 Tryz.prog W base spare held m 3 (([k0, k1, k2, k3, k4].drop 1).take (Tryz.prog.cellsOf 3)) = some y1 := hf 1 _ rfl
    rw [xc3] at h5; exact h5
  obtain ⟨x1, e1, r1_0⟩ := int_cells Tryz.underlying3 g1
  have g2 : DataW.trod enc0 Tryz.prog W base spare held m 3 [k2] = some y2 := by
    have h5 : DataW.trod enc0 Tryz.prog W base spare held m 3 (([k0, k1, k2, k3, k4].drop 2).take (Tryz.prog.cellsOf 3)) = some y2 := hf 2 _ rfl
    rw [xc3] at h5; exact h5
  obtain ⟨x2, e2, r2_0⟩ := int_cells Tryz.underlying3 g2
  have g3 : DataW.trod enc0 Tryz.prog W base spare held m 3 [k3] = some y3 := by
    have h5 : DataW.trod enc0 Tryz.prog W base spare held m 3 (([k0, k1, k2, k3, k4].drop 3).take (Tryz.prog.cellsOf 3)) = some y3 := hf 3 _ rfl
    rw [xc3] at h5; exact h5
  obtain ⟨x3, e3, r3_0⟩ := int_cells Tryz.underlying3 g3
  have g4 : DataW.trod enc0 Tryz.prog W base spare held m 3 [k4] = some y4 := by
    have h5 : DataW.trod enc0 Tryz.prog W base spare held m 3 (([k0, k1, k2, k3, k4].drop 4).take (Tryz.prog.cellsOf 3)) = some y4 := hf 4 _ rfl
    rw [xc3] at h5; exact h5
  obtain ⟨x4, e4, r4_0⟩ := int_cells Tryz.underlying3 g4
  cases e0; cases e1; cases e2; cases e3; cases e4
  exact ⟨x0, x1, x2, x3, x4, rfl, r0_0, r1_0, r2_0, r3_0, r4_0⟩
theorem xc26 : Tryz.prog.cellsOf 26 = 1 := by kernel_rfl
theorem of26 {H : Type} {enc0 : TypeId × Value → H} {W : World} {base : Nat} {spare : Nat → Bool} {held : Bool} {n : Nat} {cs : List Value} {y : DataW H × List MemPlace} (h : DataW.trod enc0 Tryz.prog W base spare held n 26 cs = some y) (hw : Wok Tryz.prog 26 y.1) : ∃ (Ax : Option Addr) (cx : Nat) (x : List Int), cs = [.slice Ax x.length cx] ∧ Rd W 1 enInt Ax x ∧ x.length * 8 ≤ 140737488351232 := by
  obtain ⟨a, c, l, e, r⟩ := rd_of_trod enInt Tryz.underlying26 xc3 (by decide) (fun _ => rfl) int_of h
  exact ⟨a, c, l, e, r, wslice Tryz.underlying26 (B := 8) (by kernel_rfl) h hw e⟩
theorem of28 {H : Type} {enc0 : TypeId × Value → H} {W : World} {base : Nat} {spare : Nat → Bool} {held : Bool} {n : Nat} {cs : List Value} {y : DataW H × List MemPlace} (h : DataW.trod enc0 Tryz.prog W base spare held n 28 cs = some y) (hw : Wok Tryz.prog 28 y.1) : ∃ (x0_0 : Int) (x0_1 : Int) (x1_0 : Int) (x1_1 : Int) (x1_2 : Int) (x1_3 : Int) (x1_4 : Int) (Ax2 : Option Addr) (cx2 : Nat) (x2 : List Int) (x3 : Int) (x4 : Int), cs = [.int .i64 x0_0, .int .i64 x0_1, .int .i64 x1_0, .int .i64 x1_1, .int .i64 x1_2, .int .i64 x1_3, .int .i64 x1_4, .slice Ax2 x2.length cx2, .int .i64 x3, .int .i64 x4] ∧ (-9223372036854775808 ≤ x0_0 ∧ x0_0 ≤ 9223372036854775807) ∧ (-9223372036854775808 ≤ x0_1 ∧ x0_1 ≤ 9223372036854775807) ∧ (-9223372036854775808 ≤ x1_0 ∧ x1_0 ≤ 9223372036854775807) ∧ (-9223372036854775808 ≤ x1_1 ∧ x1_1 ≤ 9223372036854775807) ∧ (-9223372036854775808 ≤ x1_2 ∧ x1_2 ≤ 9223372036854775807) ∧ (-9223372036854775808 ≤ x1_3 ∧ x1_3 ≤ 9223372036854775807) ∧ (-9223372036854775808 ≤ x1_4 ∧ x1_4 ≤ 9223372036854775807) ∧ Rd W 1 enInt Ax2 x2 ∧ x2.length * 8 ≤ 140737488351232 ∧ (-9223372036854775808 ≤ x3 ∧ x3 ≤ 9223372036854775807) ∧ (-9223372036854775808 ≤ x4 ∧ x4 ≤ 9223372036854775807) := by
  obtain ⟨xs, m, _, hX, hl, hxl, hf⟩ := DataW.trod_struct Tryz.underlying28 h
  subst hX
  rw [xc28] at hl
  obtain ⟨k0, k1, k2, k3, k4, k5, k6, k7, k8, k9, rfl⟩ := list10' hl
  obtain ⟨y0, y1, y2, y3, y4, rfl⟩ := list5' hxl
  have g0 : DataW.trod enc0 Tryz.prog W base spare held m 23 [k0, k1] = some y0 := by
    have h5 : DataW.trod enc0 Tryz.prog W base spare held m 23 (([k0, k1, k2, k3, k4, k5, k6, k7, k8, k9].drop 0).take (Tryz.prog.cellsOf 23)) = some y0 := hf 0 _ rfl
    rw [xc23] at h5; exact h5
  obtain ⟨x0_0, x0_1, e0, r0_0, r0_1⟩ := of23 g0
  have g1 : DataW.trod enc0 Tryz.prog W base spare held m 25 [k2, k3, k4, k5, k6] = some y1 := by
    have h5 : DataW.trod enc0 Tryz.prog W base spare held m 25 (([k0, k1, k2, k3, k4, k5, k6, k7, k8, k9].drop 2).take (Tryz.prog.cellsOf 25)) = some y1 := hf 1 _ rfl
    rw [xc25] at h5; exact h5
  obtain ⟨x1_0, x1_1, x1_2, x1_3, x1_4, e1, r1_0, r1_1, r1_2, r1_3, r1_4⟩ := of25 g1
  have g2 : DataW.trod enc0 Tryz.prog W base spare held m 26 [k7] = some y2 := by
    have h5 : DataW.trod enc0 Tryz.prog W base spare held m 26 (([k0, k1, k2, k3, k4, k5, k6, k7, k8, k9].drop 7).take (Tryz.prog.cellsOf 26)) = some y2 := hf 2 _ rfl
    rw [xc26] at h5; exact h5
  obtain ⟨Ax2, cx2, x2, e2, r2_0, r2_1⟩ := of26 g2 (wfield (i := 2) Tryz.underlying28 hw rfl rfl)
  have g3 : DataW.trod enc0 Tryz.prog W base spare held m 3 [k8] = some y3 := by
    have h5 : DataW.trod enc0 Tryz.prog W base spare held m 3 (([k0, k1, k2, k3, k4, k5, k6, k7, k8, k9].drop 8).take (Tryz.prog.cellsOf 3)) = some y3 := hf 3 _ rfl
    rw [xc3] at h5; exact h5
  obtain ⟨x3, e3, r3_0⟩ := int_cells Tryz.underlying3 g3
  have g4 : DataW.trod enc0 Tryz.prog W base spare held m 3 [k9] = some y4 := by
    have h5 : DataW.trod enc0 Tryz.prog W base spare held m 3 (([k0, k1, k2, k3, k4, k5, k6, k7, k8, k9].drop 9).take (Tryz.prog.cellsOf 3)) = some y4 := hf 4 _ rfl
    rw [xc3] at h5; exact h5
  obtain ⟨x4, e4, r4_0⟩ := int_cells Tryz.underlying3 g4
  cases e0; cases e1; cases e2; cases e3; cases e4
  exact ⟨x0_0, x0_1, x1_0, x1_1, x1_2, x1_3, x1_4, Ax2, cx2, x2, x3, x4, rfl, r0_0, r0_1, r1_0, r1_1, r1_2, r1_3, r1_4, r2_0, r2_1, r3_0, r4_0⟩
theorem xc29 : Tryz.prog.cellsOf 29 = 1 := by kernel_rfl
theorem of29 {H : Type} {enc0 : TypeId × Value → H} {W : World} {base : Nat} {spare : Nat → Bool} {held : Bool} {n : Nat} {cs : List Value} {y : DataW H × List MemPlace} (h : DataW.trod enc0 Tryz.prog W base spare held n 29 cs = some y) (hw : Wok Tryz.prog 29 y.1) : ∃ (Ax : Option Addr) (cx : Nat) (x : List Ln.Act1), cs = [.slice Ax x.length cx] ∧ Rd W 3 Ln.encAct Ax x ∧ x.length * 24 ≤ 140737488351232 := by
  obtain ⟨a, c, l, e, r⟩ := rd_of_trod Ln.encAct Tryz.underlying29 xc88 (by decide) (fun _ => rfl) act_of h
  exact ⟨a, c, l, e, r, wslice Tryz.underlying29 (B := 24) (by kernel_rfl) h hw e⟩
theorem of31 {H : Type} {enc0 : TypeId × Value → H} {W : World} {base : Nat} {spare : Nat → Bool} {held : Bool} {n : Nat} {cs : List Value} {y : DataW H × List MemPlace} (h : DataW.trod enc0 Tryz.prog W base spare held n 31 cs = some y) (hw : Wok Tryz.prog 31 y.1) : ∃ (x0_0_0 : Int) (x0_0_1 : Int) (x0_1_0 : Int) (x0_1_1 : Int) (x0_1_2 : Int) (x0_1_3 : Int) (x0_1_4 : Int) (Ax0_2 : Option Addr) (cx0_2 : Nat) (x0_2 : List Int) (x0_3 : Int) (x0_4 : Int) (Ax1 : Option Addr) (cx1 : Nat) (x1 : List Ln.Act1), cs = [.int .i64 x0_0_0, .int .i64 x0_0_1, .int .i64 x0_1_0, .int .i64 x0_1_1, .int .i64 x0_1_2, .int .i64 x0_1_3, .int .i64 x0_1_4, .slice Ax0_2 x0_2.length cx0_2, .int .i64 x0_3, .int .i64 x0_4, .slice Ax1 x1.length cx1] ∧ (-9223372036854775808 ≤ x0_0_0 ∧ x0_0_0 ≤ 9223372036854775807) ∧ (-9223372036854775808 ≤ x0_0_1 ∧ x0_0_1 ≤ 9223372036854775807) ∧ (-9223372036854775808 ≤ x0_1_0 ∧ x0_1_0 ≤ 9223372036854775807) ∧ (-9223372036854775808 ≤ x0_1_1 ∧ x0_1_1 ≤ 9223372036854775807) ∧ (-9223372036854775808 ≤ x0_1_2 ∧ x0_1_2 ≤ 9223372036854775807) ∧ (-9223372036854775808 ≤ x0_1_3 ∧ x0_1_3 ≤ 9223372036854775807) ∧ (-9223372036854775808 ≤ x0_1_4 ∧ x0_1_4 ≤ 9223372036854775807) ∧ Rd W 1 enInt Ax0_2 x0_2 ∧ x0_2.length * 8 ≤ 140737488351232 ∧ (-9223372036854775808 ≤ x0_3 ∧ x0_3 ≤ 9223372036854775807) ∧ (-9223372036854775808 ≤ x0_4 ∧ x0_4 ≤ 9223372036854775807) ∧ Rd W 3 Ln.encAct Ax1 x1 ∧ x1.length * 24 ≤ 140737488351232 := by
  obtain ⟨xs, m, _, hX, hl, hxl, hf⟩ := DataW.trod_struct Tryz.underlying31 h
  subst hX
  rw [xc31] at hl
  obtain ⟨k0, k1, k2, k3, k4, k5, k6, k7, k8, k9, k10, rfl⟩ := list11' hl
  obtain ⟨y0, y1, rfl⟩ := list2' hxl
  have g0 : DataW.trod enc0 Tryz.prog W base spare held m 28 [k0, k1, k2, k3, k4, k5, k6, k7, k8, k9] = some y0 := by
    have h5 : DataW.trod enc0 Tryz.prog W base spare held m 28 (([k0, k1, k2, k3, k4, k5, k6, k7, k8, k9, k10].drop 0).take (Tryz.prog.cellsOf 28)) = some y0 := hf 0 _ rfl
    rw [xc28] at h5; exact h5
  obtain ⟨x0_0_0, x0_0_1, x0_1_0, x0_1_1, x0_1_2, x0_1_3, x0_1_4, Ax0_2, cx0_2, x0_2, x0_3, x0_4, e0, r0_0, r0_1, r0_2, r0_3, r0_4, r0_5, r0_6, r0_7, r0_8, r0_9, r0_10⟩ := of28 g0 (wfield (i := 0) Tryz.underlying31 hw rfl rfl)
  have g1 : DataW.trod enc0 Tryz.prog W base spare held m 29 [k10] = some y1 := by
    have h5 : DataW.trod enc0 Tryz.prog W base spare held m 29 (([k0, k1, k2, k3, k4, k5, k6, k7, k8, k9, k10].drop 10).take (Tryz.prog.cellsOf 29)) = some y1 := hf 1 _ rfl
    rw [xc29] at h5; exact h5
  obtain ⟨Ax1, cx1, x1, e1, r1_0, r1_1⟩ := of29 g1 (wfield (i := 1) Tryz.underlying31 hw rfl rfl)
  cases e0; cases e1
  exact ⟨x0_0_0, x0_0_1, x0_1_0, x0_1_1, x0_1_2, x0_1_3, x0_1_4, Ax0_2, cx0_2, x0_2, x0_3, x0_4, Ax1, cx1, x1, rfl, r0_0, r0_1, r0_2, r0_3, r0_4, r0_5, r0_6, r0_7, r0_8, r0_9, r0_10, r1_0, r1_1⟩
theorem xc33 : Tryz.prog.cellsOf 33 = 4 := by kernel_rfl
theorem of33 {H : Type} {enc0 : TypeId × Value → H} {W : World} {base : Nat} {spare : Nat → Bool} {held : Bool} {n : Nat} {cs : List Value} {y : DataW H × List MemPlace} (h : DataW.trod enc0 Tryz.prog W base spare held n 33 cs = some y) : ∃ (x0 : Int) (x1 : Int) (x2 : Int) (x3 : Int), cs = [.int .i64 x0, .int .i64 x1, .int .i64 x2, .int .i64 x3] ∧ (-9223372036854775808 ≤ x0 ∧ x0 ≤ 9223372036854775807) ∧ (-9223372036854775808 ≤ x1 ∧ x1 ≤ 9223372036854775807) ∧ (-9223372036854775808 ≤ x2 ∧ x2 ≤ 9223372036854775807) ∧ (-9223372036854775808 ≤ x3 ∧ x3 ≤ 9223372036854775807) := by
  obtain ⟨xs, m, _, hX, hl, hxl, hf⟩ := DataW.trod_struct Tryz.underlying33 h
  subst hX
  rw [xc33] at hl
  obtain ⟨k0, k1, k2, k3, rfl⟩ := list4' hl
  obtain ⟨y0, y1, y2, y3, rfl⟩ := list4' hxl
  have g0 : DataW.trod enc0 Tryz.prog W base spare held m 3 [k0] = some y0 := by
    have h5 : DataW.trod enc0 Tryz.prog W base spare held m 3 (([k0, k1, k2, k3].drop 0).take (Tryz.prog.cellsOf 3)) = some y0 := hf 0 _ rfl
    rw [xc3] at h5; exact h5
  obtain ⟨x0, e0, r0_0⟩ := int_cells Tryz.underlying3 g0
  have g1 : DataW.trod enc0 Tryz.prog W base spare held m 3 [k1] = some y1 := by
    have h5 : DataW.trod enc0 Tryz.prog W base spare held m 3 (([k0, k1, k2, k3].drop 1).take (Tryz.prog.cellsOf 3)) = some y1 := hf 1 _ rfl
    rw [xc3] at h5; exact h5
  obtain ⟨x1, e1, r1_0⟩ := int_cells Tryz.underlying3 g1
  have g2 : DataW.trod enc0 Tryz.prog W base spare held m 3 [k2] = some y2 := by
    have h5 : DataW.trod enc0 Tryz.prog W base spare held m 3 (([k0, k1, k2, k3].drop 2).take (Tryz.prog.cellsOf 3)) = some y2 := hf 2 _ rfl
    rw [xc3] at h5; exact h5
  obtain ⟨x2, e2, r2_0⟩ := int_cells Tryz.underlying3 g2
  have g3 : DataW.trod enc0 Tryz.prog W base spare held m 3 [k3] = some y3 := by
    have h5 : DataW.trod enc0 Tryz.prog W base spare held m 3 (([k0, k1, k2, k3].drop 3).take (Tryz.prog.cellsOf 3)) = some y3 := hf 3 _ rfl
    rw [xc3] at h5; exact h5
  obtain ⟨x3, e3, r3_0⟩ := int_cells Tryz.underlying3 g3
  cases e0; cases e1; cases e2; cases e3
  exact ⟨x0, x1, x2, x3, rfl, r0_0, r1_0, r2_0, r3_0⟩
theorem xc34 : Tryz.prog.cellsOf 34 = 4 := by kernel_rfl
theorem of34 {H : Type} {enc0 : TypeId × Value → H} {W : World} {base : Nat} {spare : Nat → Bool} {held : Bool} {n : Nat} {cs : List Value} {y : DataW H × List MemPlace} (h : DataW.trod enc0 Tryz.prog W base spare held n 34 cs = some y) : ∃ (x0 : Int) (x1 : Int) (x2 : Int) (x3 : Int), cs = [.int .i64 x0, .int .i64 x1, .int .i64 x2, .int .i64 x3] := by
  obtain ⟨ns, h1, h2⟩ := arr_cells Tryz.underlying34 Tryz.underlying3 xc3 xc34 h
  obtain ⟨x0, x1, x2, x3, rfl⟩ := list4' h1
  exact ⟨x0, x1, x2, x3, h2⟩
end Go.Proofs.YtppfniekcgnmjaaGreatDoor.To
