/- What reads arguments of the laws. Conditions: none. -/
import Derived.Test.YtafmgkiddhappaaDoorYFrA
import Derived.Test.YtafmgkiddhappaaDoorZSb
import Derived.Test.YtafmgkiddhappaaDoorZP
namespace Go.Proofs.YtafmgkiddhappaaDoor
open Go.Sx Go.RowKit Go.ChangeShapes Go.WideShapes Go.ChangeAt
set_option maxRecDepth 100000
theorem xc68 : Tryd.prog.cellsOf 68 = 3 := by kernel_rfl
theorem xc3 : Tryd.prog.cellsOf 3 = 1 := by kernel_rfl
theorem of68 {H : Type} {enc0 : TypeId × Value → H} {W : World} {base : Nat} {spare : Nat → Bool} {held : Bool} {n : Nat} {cs : List Value} {y : DataW H × List MemPlace} (h : DataW.trod enc0 Tryd.prog W base spare held n 68 cs = some y) : ∃ (x0 : Int) (x1 : Int) (x2 : Int), cs = [.int .i64 x0, .int .i64 x1, .int .i64 x2] ∧ (-9223372036854775808 ≤ x0 ∧ x0 ≤ 9223372036854775807) ∧ (-9223372036854775808 ≤ x1 ∧ x1 ≤ 9223372036854775807) ∧ (-9223372036854775808 ≤ x2 ∧ x2 ≤ 9223372036854775807) := by
  obtain ⟨xs, m, _, hX, hl, hxl, hf⟩ := DataW.trod_struct Tryd.underlying68 h
  subst hX
  rw [xc68] at hl
  obtain ⟨k0, k1, k2, rfl⟩ := list3' hl
  obtain ⟨y0, y1, y2, rfl⟩ := list3' hxl
  have g0 : DataW.trod enc0 Tryd.prog W base spare held m 3 [k0] = some y0 := by
    have h5 : DataW.trod enc0 Tryd.prog W base spare held m 3 (([k0, k1, k2].drop 0).take (Tryd.prog.cellsOf 3)) = some y0 := hf 0 _ rfl
    rw [xc3] at h5; exact h5
  obtain ⟨x0, e0, r0_0⟩ := int_cells Tryd.underlying3 g0
  have g1 : DataW.trod enc0 Tryd.prog W base spare held m 3 [k1] = some y1 := by
    have h5 : DataW.trod enc0 Tryd.prog W base spare held m 3 (([k0, k1, k2].drop 1).take (Tryd.prog.cellsOf 3)) = some y1 := hf 1 _ rfl
    rw [xc3] at h5; exact h5
  obtain ⟨x1, e1, r1_0⟩ := int_cells Tryd.underlying3 g1
  have g2 : DataW.trod enc0 Tryd.prog W base spare held m 3 [k2] = some y2 := by
    have h5 : DataW.trod enc0 Tryd.prog W base spare held m 3 (([k0, k1, k2].drop 2).take (Tryd.prog.cellsOf 3)) = some y2 := hf 2 _ rfl
    rw [xc3] at h5; exact h5
  obtain ⟨x2, e2, r2_0⟩ := int_cells Tryd.underlying3 g2
  cases e0; cases e1; cases e2
  exact ⟨x0, x1, x2, rfl, r0_0, r1_0, r2_0⟩
theorem act_of {H : Type} {enc0 : TypeId × Value → H} {W : World} {base : Nat} {spare : Nat → Bool} {held : Bool} (n : Nat) (cs : List Value) (y : DataW H × List MemPlace) (h : DataW.trod enc0 Tryd.prog W base spare held n 68 cs = some y) : ∃ s : Act1, cs = encAct s := by
  obtain ⟨a, b, c, rfl, _⟩ := of68 h
  exact ⟨⟨a, b, c⟩, rfl⟩
theorem xc25 : Tryd.prog.cellsOf 25 = 5 := by kernel_rfl
theorem xc22 : Tryd.prog.cellsOf 22 = 1 := by kernel_rfl
theorem xc56 : Tryd.prog.cellsOf 56 = 5 := by kernel_rfl
theorem of22 {H : Type} {enc0 : TypeId × Value → H} {W : World} {base : Nat} {spare : Nat → Bool} {held : Bool} {n : Nat} {cs : List Value} {y : DataW H × List MemPlace} (h : DataW.trod enc0 Tryd.prog W base spare held n 22 cs = some y) (hw : Wok Tryd.prog 22 y.1) : ∃ (Ax : Option Addr) (cx : Nat) (x : List Sale), cs = [.slice Ax x.length cx] ∧ Rd W 5 encSale Ax x ∧ x.length * 40 ≤ 140737488351232 := by
  obtain ⟨a, c, l, e, r⟩ := rd_of_trod encSale Tryd.underlying22 xc56 (by decide) (fun _ => rfl) sale_of h
  exact ⟨a, c, l, e, r, wslice Tryd.underlying22 (B := 40) (by kernel_rfl) h hw e⟩
theorem xc23 : Tryd.prog.cellsOf 23 = 1 := by kernel_rfl
theorem of23 {H : Type} {enc0 : TypeId × Value → H} {W : World} {base : Nat} {spare : Nat → Bool} {held : Bool} {n : Nat} {cs : List Value} {y : DataW H × List MemPlace} (h : DataW.trod enc0 Tryd.prog W base spare held n 23 cs = some y) (hw : Wok Tryd.prog 23 y.1) : ∃ (Ax : Option Addr) (cx : Nat) (x : List Int), cs = [.slice Ax x.length cx] ∧ Rd W 1 enInt Ax x ∧ x.length * 8 ≤ 140737488351232 := by
  obtain ⟨a, c, l, e, r⟩ := rd_of_trod enInt Tryd.underlying23 xc3 (by decide) (fun _ => rfl) int_of h
  exact ⟨a, c, l, e, r, wslice Tryd.underlying23 (B := 8) (by kernel_rfl) h hw e⟩
theorem of25 {H : Type} {enc0 : TypeId × Value → H} {W : World} {base : Nat} {spare : Nat → Bool} {held : Bool} {n : Nat} {cs : List Value} {y : DataW H × List MemPlace} (h : DataW.trod enc0 Tryd.prog W base spare held n 25 cs = some y) (hw : Wok Tryd.prog 25 y.1) : ∃ (Ax0 : Option Addr) (cx0 : Nat) (x0 : List Sale) (Ax1 : Option Addr) (cx1 : Nat) (x1 : List Int) (x2 : Int) (x3 : Int) (x4 : Int), cs = [.slice Ax0 x0.length cx0, .slice Ax1 x1.length cx1, .int .i64 x2, .int .i64 x3, .int .i64 x4] ∧ Rd W 5 encSale Ax0 x0 ∧ x0.length * 40 ≤ 140737488351232 ∧ Rd W 1 enInt Ax1 x1 ∧ x1.length * 8 ≤ 140737488351232 ∧ (-9223372036854775808 ≤ x2 ∧ x2 ≤ 9223372036854775807) ∧ (-9223372036854775808 ≤ x3 ∧ x3 ≤ 9223372036854775807) ∧ (-9223372036854775808 ≤ x4 ∧ x4 ≤ 9223372036854775807) := by
  obtain ⟨xs, m, _, hX, hl, hxl, hf⟩ := DataW.trod_struct Tryd.underlying25 h
  subst hX
  rw [xc25] at hl
  obtain ⟨k0, k1, k2, k3, k4, rfl⟩ := list5' hl
  obtain ⟨y0, y1, y2, y3, y4, rfl⟩ := list5' hxl
  have g0 : DataW.trod enc0 Tryd.prog W base spare held m 22 [k0] = some y0 := by
    have h5 : DataW.trod enc0 Tryd.prog W base spare held m 22 (([k0, k1, k2, k3, k4].drop 0).take (Tryd.prog.cellsOf 22)) = some y0 := hf 0 _ rfl
    rw [xc22] at h5; exact h5
  obtain ⟨Ax0, cx0, x0, e0, r0_0, r0_1⟩ := of22 g0 (wfield (i := 0) Tryd.underlying25 hw rfl rfl)
  have g1 : DataW.trod enc0 Tryd.prog W base spare held m 23 [k1] = some y1 := by
    have h5 : DataW.trod enc0 Tryd.prog W base spare held m 23 (([k0, k1, k2, k3, k4].drop 1).take (Tryd.prog.cellsOf 23)) = some y1 := hf 1 _ rfl
    rw [xc23] at h5; exact h5
  obtain ⟨Ax1, cx1, x1, e1, r1_0, r1_1⟩ := of23 g1 (wfield (i := 1) Tryd.underlying25 hw rfl rfl)
  have g2 : DataW.trod enc0 Tryd.prog W base spare held m 3 [k2] = some y2 := by
    have h5 : DataW.trod enc0 Tryd.prog W base spare held m 3 (([k0, k1, k2, k3, k4].drop 2).take (Tryd.prog.cellsOf 3)) = some y2 := hf 2 _ rfl
    rw [xc3] at h5; exact h5
  obtain ⟨x2, e2, r2_0⟩ := int_cells Tryd.underlying3 g2
  have g3 : DataW.trod enc0 Tryd.prog W base spare held m 3 [k3] = some y3 := by
    have h5 : DataW.trod enc0 Tryd.prog W base spare held m 3 (([k0, k1, k2, k3, k4].drop 3).take (Tryd.prog.cellsOf 3)) = some y3 := hf 3 _ rfl
    rw [xc3] at h5; exact h5
  obtain ⟨x3, e3, r3_0⟩ := int_cells Tryd.underlying3 g3
  have g4 : DataW.trod enc0 Tryd.prog W base spare held m 3 [k4] = some y4 := by
    have h5 : DataW.trod enc0 Tryd.prog W base spare held m 3 (([k0, k1, k2, k3, k4].drop 4).take (Tryd.prog.cellsOf 3)) = some y4 := hf 4 _ rfl
    rw [xc3] at h5; exact h5
  obtain ⟨x4, e4, r4_0⟩ := int_cells Tryd.underlying3 g4
  cases e0; cases e1; cases e2; cases e3; cases e4
  exact ⟨Ax0, cx0, x0, Ax1, cx1, x1, x2, x3, x4, rfl, r0_0, r0_1, r1_0, r1_1, r2_0, r3_0, r4_0⟩
theorem xc29 : Tryd.prog.cellsOf 29 = 3 := by kernel_rfl
theorem xc27 : Tryd.prog.cellsOf 27 = 2 := by kernel_rfl
theorem of27 {H : Type} {enc0 : TypeId × Value → H} {W : World} {base : Nat} {spare : Nat → Bool} {held : Bool} {n : Nat} {cs : List Value} {y : DataW H × List MemPlace} (h : DataW.trod enc0 Tryd.prog W base spare held n 27 cs = some y) : ∃ (x0 : Int) (x1 : Int), cs = [.int .i64 x0, .int .i64 x1] ∧ (-9223372036854775808 ≤ x0 ∧ x0 ≤ 9223372036854775807) ∧ (-9223372036854775808 ≤ x1 ∧ x1 ≤ 9223372036854775807) := by
  obtain ⟨xs, m, _, hX, hl, hxl, hf⟩ := DataW.trod_struct Tryd.underlying27 h
  subst hX
  rw [xc27] at hl
  obtain ⟨k0, k1, rfl⟩ := list2' hl
  obtain ⟨y0, y1, rfl⟩ := list2' hxl
  have g0 : DataW.trod enc0 Tryd.prog W base spare held m 3 [k0] = some y0 := by
    have h5 : DataW.trod enc0 Tryd.prog W base spare held m 3 (([k0, k1].drop 0).take (Tryd.prog.cellsOf 3)) = some y0 := hf 0 _ rfl
    rw [xc3] at h5; exact h5
  obtain ⟨x0, e0, r0_0⟩ := int_cells Tryd.underlying3 g0
  have g1 : DataW.trod enc0 Tryd.prog W base spare held m 3 [k1] = some y1 := by
    have h5 : DataW.trod enc0 Tryd.prog W base spare held m 3 (([k0, k1].drop 1).take (Tryd.prog.cellsOf 3)) = some y1 := hf 1 _ rfl
    rw [xc3] at h5; exact h5
  obtain ⟨x1, e1, r1_0⟩ := int_cells Tryd.underlying3 g1
  cases e0; cases e1
  exact ⟨x0, x1, rfl, r0_0, r1_0⟩
theorem of29 {H : Type} {enc0 : TypeId × Value → H} {W : World} {base : Nat} {spare : Nat → Bool} {held : Bool} {n : Nat} {cs : List Value} {y : DataW H × List MemPlace} (h : DataW.trod enc0 Tryd.prog W base spare held n 29 cs = some y) : ∃ (x0 : Int) (x1_0 : Int) (x1_1 : Int), cs = [.int .i64 x0, .int .i64 x1_0, .int .i64 x1_1] ∧ (-9223372036854775808 ≤ x0 ∧ x0 ≤ 9223372036854775807) ∧ (-9223372036854775808 ≤ x1_0 ∧ x1_0 ≤ 9223372036854775807) ∧ (-9223372036854775808 ≤ x1_1 ∧ x1_1 ≤ 9223372036854775807) := by
  obtain ⟨xs, m, _, hX, hl, hxl, hf⟩ := DataW.trod_struct Tryd.underlying29 h
  subst hX
  rw [xc29] at hl
  obtain ⟨k0, k1, k2, rfl⟩ := list3' hl
  obtain ⟨y0, y1, rfl⟩ := list2' hxl
  have g0 : DataW.trod enc0 Tryd.prog W base spare held m 3 [k0] = some y0 := by
    have h5 : DataW.trod enc0 Tryd.prog W base spare held m 3 (([k0, k1, k2].drop 0).take (Tryd.prog.cellsOf 3)) = some y0 := hf 0 _ rfl
    rw [xc3] at h5; exact h5
  obtain ⟨x0, e0, r0_0⟩ := int_cells Tryd.underlying3 g0
  have g1 : DataW.trod enc0 Tryd.prog W base spare held m 27 [k1, k2] = some y1 := by
    have h5 : DataW.trod enc0 Tryd.prog W base spare held m 27 (([k0, k1, k2].drop 1).take (Tryd.prog.cellsOf 27)) = some y1 := hf 1 _ rfl
    rw [xc27] at h5; exact h5
  obtain ⟨x1_0, x1_1, e1, r1_0, r1_1⟩ := of27 g1
  cases e0; cases e1
  exact ⟨x0, x1_0, x1_1, rfl, r0_0, r1_0, r1_1⟩
theorem xc44 : Tryd.prog.cellsOf 44 = 10 := by kernel_rfl
theorem xc40 : Tryd.prog.cellsOf 40 = 2 := by kernel_rfl
theorem of40 {H : Type} {enc0 : TypeId × Value → H} {W : World} {base : Nat} {spare : Nat → Bool} {held : Bool} {n : Nat} {cs : List Value} {y : DataW H × List MemPlace} (h : DataW.trod enc0 Tryd.prog W base spare held n 40 cs = some y) : ∃ (x0 : Int) (x1 : Int), cs = [.int .i64 x0, .int .i64 x1] ∧ (-9223372036854775808 ≤ x0 ∧ x0 ≤ 9223372036854775807) ∧ (-9223372036854775808 ≤ x1 ∧ x1 ≤ 9223372036854775807) := by
  obtain ⟨xs, m, _, hX, hl, hxl, hf⟩ := DataW.trod_struct Tryd.underlying40 h
  subst hX
  rw [xc40] at hl
  obtain ⟨k0, k1, rfl⟩ := list2' hl
  obtain ⟨y0, y1, rfl⟩ := list2' hxl
  have g0 : DataW.trod enc0 Tryd.prog W base spare held m 3 [k0] = some y0 := by
    have h5 : DataW.trod enc0 Tryd.prog W base spare held m 3 (([k0, k1].drop 0).take (Tryd.prog.cellsOf 3)) = some y0 := hf 0 _ rfl
    rw [xc3] at h5; exact h5
  obtain ⟨x0, e0, r0_0⟩ := int_cells Tryd.underlying3 g0
  have g1 : DataW.trod enc0 Tryd.prog W base spare held m 3 [k1] = some y1 := by
    have h5 : DataW.trod enc0 Tryd.prog W base spare held m 3 (([k0, k1].drop 1).take (Tryd.prog.cellsOf 3)) = some y1 := hf 1 _ rfl
    rw [xc3] at h5; exact h5
  obtain ⟨x1, e1, r1_0⟩ := int_cells Tryd.underlying3 g1
  cases e0; cases e1
  exact ⟨x0, x1, rfl, r0_0, r1_0⟩
theorem xc42 : Tryd.prog.cellsOf 42 = 5 := by kernel_rfl
theorem of42 {H : Type} {enc0 : TypeId × Value → H} {W : World} {base : Nat} {spare : Nat → Bool} {held : Bool} {n : Nat} {cs : List Value} {y : DataW H × List MemPlace} (h : DataW.trod enc0 Tryd.prog W base spare held n 42 cs = some y) : ∃ (x0 : Int) (x1 : Int) (x2 : Int) (x3 : Int) (x4 : Int), cs = [.int .i64 x0, .int .i64 x1, .int .i64 x2, .int .i64 x3, .int .i64 x4] ∧ (-9223372036854775808 ≤ x0 ∧ x0 ≤ 9223372036854775807) ∧ (-9223372036854775808 ≤ x1 ∧ x1 ≤ 9223372036854775807) ∧ (-9223372036854775808 ≤ x2 ∧ x2 ≤ 9223372036854775807) ∧ (-9223372036854775808 ≤ x3 ∧ x3 ≤ 9223372036854775807) ∧ (-9223372036854775808 ≤ x4 ∧ x4 ≤ 9223372036854775807) := by
  obtain ⟨xs, m, _, hX, hl, hxl, hf⟩ := DataW.trod_struct Tryd.underlying42 h
  subst hX
  rw [xc42] at hl
  obtain ⟨k0, k1, k2, k3, k4, rfl⟩ := list5' hl
  obtain ⟨y0, y1, y2, y3, y4, rfl⟩ := list5' hxl
  have g0 : DataW.trod enc0 Tryd.prog W base spare held m 3 [k0] = some y0 := by
    have h5 : DataW.trod enc0 Tryd.prog W base spare held m 3 (([k0, k1, k2, k3, k4].drop 0).take (Tryd.prog.cellsOf 3)) = some y0 := hf 0 _ rfl
    rw [xc3] at h5; exact h5
  obtain ⟨x0, e0, r0_0⟩ := int_cells Tryd.underlying3 g0
  have g1 : DataW.trod enc0 Tryd.prog W base spare held m 3 [k1] = some y1 := by
    have h5 : DataW.trod enc0 Tryd.prog W base spare held m 3 (([k0, k1, k2, k3, k4].drop 1).take (Tryd.prog.cellsOf 3)) = some y1 := hf 1 _ rfl
    rw [xc3] at h5; exact h5
  obtain ⟨x1, e1, r1_0⟩ := int_cells Tryd.underlying3 g1
  have g2 : DataW.trod enc0 Tryd.prog W base spare held m 3 [k2] = some y2 := by
    have h5 : DataW.trod enc0 Tryd.prog W base spare held m 3 (([k0, k1, k2, k3, k4].drop 2).take (Tryd.prog.cellsOf 3)) = some y2 := hf 2 _ rfl
    rw [xc3] at h5; exact h5
  obtain ⟨x2, e2, r2_0⟩ := int_cells Tryd.underlying3 g2
  have g3 : DataW.trod enc0 Tryd.prog W base spare held m 3 [k3] = some y3 := by
    have h5 : DataW.trod enc0 Tryd.prog W base spare held m 3 (([k0, k1, k2, k3, k4].drop 3).take (Tryd.prog.cellsOf 3)) = some y3 := hf 3 _ rfl
    rw [xc3] at h5; exact h5
  obtain ⟨x3, e3, r3_0⟩ := int_cells Tryd.underlying3 g3
  have g4 : DataW.trod enc0 Tryd.prog W base spare held m 3 [k4] = some y4 := by
    have h5 : DataW.trod enc0 Tryd.prog W base spare held m 3 (([k0, k1, k2, k3, k4].drop 4).take (Tryd.prog.cellsOf 3)) = some y4 := hf 4 _ rfl
    rw [xc3] at h5; exact h5
  obtain ⟨x4, e4, r4_0⟩ := int_cells Tryd.underlying3 g4
  cases e0; cases e1; cases e2; cases e3; cases e4
  exact ⟨x0, x1, x2, x3, x4, rfl, r0_0, r1_0, r2_0, r3_0, r4_0⟩
theorem of44 {H : Type} {enc0 : TypeId × Value → H} {W : World} {base : Nat} {spare : Nat → Bool} {held : Bool} {n : Nat} {cs : List Value} {y : DataW H × List MemPlace} (h : DataW.trod enc0 Tryd.prog W base spare held n 44 cs = some y) (hw : Wok Tryd.prog 44 y.1) : ∃ (x0_0 : Int) (x0_1 : Int) (x1_0 : Int) (x1_1 : Int) (x1_2 : Int) (x1_3 : Int) (x1_4 : Int) (Ax2 : Option Addr) (cx2 : Nat) (x2 : List Int) (x3 : Int) (x4 : Int), cs = [.int .i64 x0_0, .int .i64 x0_1, .int .i64 x1_0, .int .i64 x1_1, .int .i64 x1_2, .int .i64 x1_3, .int .i64 x1_4, .slice Ax2 x2.length cx2, .int .i64 x3, .int .i64 x4] ∧ (-9223372036854775808 ≤ x0_0 ∧ x0_0 ≤ 9223372036854775807) ∧ (-9223372036854775808 ≤ x0_1 ∧ x0_1 ≤ 9223372036854775807) ∧ (-9223372036854775808 ≤ x1_0 ∧ x1_0 ≤ 9223372036854775807) ∧ (-9223372036854775808 ≤ x1_1 ∧ x1_1 ≤ 9223372036854775807) ∧ (-9223372036854775808 ≤ x1_2 ∧ x1_2 ≤ 9223372036854775807) ∧ (-9223372036854775808 ≤ x1_3 ∧ x1_3 ≤ 9223372036854775807) ∧ (-9223372036854775808 ≤ x1_4 ∧ x1_4 ≤ 9223372036854775807) ∧ Rd W 1 enInt Ax2 x2 ∧ x2.length * 8 ≤ 140737488351232 ∧ (-9223372036854775808 ≤ x3 ∧ x3 ≤ 9223372036854775807) ∧ (-9223372036854775808 ≤ x4 ∧ x4 ≤ 9223372036854775807) := by
  obtain ⟨xs, m, _, hX, hl, hxl, hf⟩ := DataW.trod_struct Tryd.underlying44 h
  subst hX
  rw [xc44] at hl
  obtain ⟨k0, k1, k2, k3, k4, k5, k6, k7, k8, k9, rfl⟩ := list10' hl
  obtain ⟨y0, y1, y2, y3, y4, rfl⟩ := list5' hxl
  have g0 : DataW.trod enc0 Tryd.prog W base spare held m 40 [k0, k1] = some y0 := by
    have h5 : DataW.trod enc0 Tryd.prog W base spare held m 40 (([k0, k1, k2, k3, k4, k5, k6, k7, k8, k9].drop 0).take (Tryd.prog.cellsOf 40)) = some y0 := hf 0 _ rfl
    rw [xc40] at h5; exact h5
  obtain ⟨x0_0, x0_1, e0, r0_0, r0_1⟩ := of40 g0
  have g1 : DataW.trod enc0 Tryd.prog W base spare held m 42 [k2, k3, k4, k5, k6] = some y1 := by
    have h5 : DataW.trod enc0 Tryd.prog W base spare held m 42 (([k0, k1, k2, k3, k4, k5, k6, k7, k8, k9].drop 2).take (Tryd.prog.cellsOf 42)) = some y1 := hf 1 _ rfl
    rw [xc42] at h5; exact h5
  obtain ⟨x1_0, x1_1, x1_2, x1_3, x1_4, e1, r1_0, r1_1, r1_2, r1_3, r1_4⟩ := of42 g1
  have g2 : DataW.trod enc0 Tryd.prog W base spare held m 23 [k7] = some y2 := by
    have h5 : DataW.trod enc0 Tryd.prog W base spare held m 23 (([k0, k1, k2, k3, k4, k5, k6, k7, k8, k9].drop 7).take (Tryd.prog.cellsOf 23)) = some y2 := hf 2 _ rfl
    rw [xc23] at h5; exact h5
  obtain ⟨Ax2, cx2, x2, e2, r2_0, r2_1⟩ := of23 g2 (wfield (i := 2) Tryd.underlying44 hw rfl rfl)
  have g3 : DataW.trod enc0 Tryd.prog W base spare held m 3 [k8] = some y3 := by
    have h5 : DataW.trod enc0 Tryd.prog W base spare held m 3 (([k0, k1, k2, k3, k4, k5, k6, k7, k8, k9].drop 8).take (Tryd.prog.cellsOf 3)) = some y3 := hf 3 _ rfl
    rw [xc3] at h5; exact h5
  obtain ⟨x3, e3, r3_0⟩ := int_cells Tryd.underlying3 g3
  have g4 : DataW.trod enc0 Tryd.prog W base spare held m 3 [k9] = some y4 := by
    have h5 : DataW.trod enc0 Tryd.prog W base spare held m 3 (([k0, k1, k2, k3, k4, k5, k6, k7, k8, k9].drop 9).take (Tryd.prog.cellsOf 3)) = some y4 := hf 4 _ rfl
    rw [xc3] at h5; exact h5
  obtain ⟨x4, e4, r4_0⟩ := int_cells Tryd.underlying3 g4
  cases e0; cases e1; cases e2; cases e3; cases e4
  exact ⟨x0_0, x0_1, x1_0, x1_1, x1_2, x1_3, x1_4, Ax2, cx2, x2, x3, x4, rfl, r0_0, r0_1, r1_0, r1_1, r1_2, r1_3, r1_4, r2_0, r2_1, r3_0, r4_0⟩
theorem xc47 : Tryd.prog.cellsOf 47 = 3 := by kernel_rfl
theorem of47 {H : Type} {enc0 : TypeId × Value → H} {W : World} {base : Nat} {spare : Nat → Bool} {held : Bool} {n : Nat} {cs : List Value} {y : DataW H × List MemPlace} (h : DataW.trod enc0 Tryd.prog W base spare held n 47 cs = some y) : ∃ (x0 : Int) (x1 : Int) (x2 : Int), cs = [.int .i64 x0, .int .i64 x1, .int .i64 x2] := by
  obtain ⟨ns, h1, h2⟩ := arr_cells Tryd.underlying47 Tryd.underlying3 xc3 xc47 h
  obtain ⟨x0, x1, x2, rfl⟩ := list3' h1
  exact ⟨x0, x1, x2, h2⟩
theorem xc54 : Tryd.prog.cellsOf 54 = 5 := by kernel_rfl
theorem xc52 : Tryd.prog.cellsOf 52 = 3 := by kernel_rfl
theorem of52 {H : Type} {enc0 : TypeId × Value → H} {W : World} {base : Nat} {spare : Nat → Bool} {held : Bool} {n : Nat} {cs : List Value} {y : DataW H × List MemPlace} (h : DataW.trod enc0 Tryd.prog W base spare held n 52 cs = some y) : ∃ (x0 : Int) (x1 : Int) (x2 : Int), cs = [.int .i64 x0, .int .i64 x1, .int .i64 x2] ∧ (-9223372036854775808 ≤ x0 ∧ x0 ≤ 9223372036854775807) ∧ (-9223372036854775808 ≤ x1 ∧ x1 ≤ 9223372036854775807) ∧ (-9223372036854775808 ≤ x2 ∧ x2 ≤ 9223372036854775807) := by
  obtain ⟨xs, m, _, hX, hl, hxl, hf⟩ := DataW.trod_struct Tryd.underlying52 h
  subst hX
  rw [xc52] at hl
  obtain ⟨k0, k1, k2, rfl⟩ := list3' hl
  obtain ⟨y0, y1, y2, rfl⟩ := list3' hxl
  have g0 : DataW.trod enc0 Tryd.prog W base spare held m 3 [k0] = some y0 := by
    have h5 : DataW.trod enc0 Tryd.prog W base spare held m 3 (([k0, k1, k2].drop 0).take (Tryd.prog.cellsOf 3)) = some y0 := hf 0 _ rfl
    rw [xc3] at h5; exact h5
  obtain ⟨x0, e0, r0_0⟩ := int_cells Tryd.underlying3 g0
  have g1 : DataW.trod enc0 Tryd.prog W base spare held m 3 [k1] = some y1 := by
    have h5 : DataW.trod enc0 Tryd.prog W base spare held m 3 (([k0, k1, k2].drop 1).take (Tryd.prog.cellsOf 3)) = some y1 := hf 1 _ rfl
    rw [xc3] at h5; exact h5
  obtain ⟨x1, e1, r1_0⟩ := int_cells Tryd.underlying3 g1
  have g2 : DataW.trod enc0 Tryd.prog W base spare held m 3 [k2] = some y2 := by
    have h5 : DataW.trod enc0 Tryd.prog W base spare held m 3 (([k0, k1, k2].drop 2).take (Tryd.prog.cellsOf 3)) = some y2 := hf 2 _ rfl
    rw [xc3] at h5; exact h5
  obtain ⟨x2, e2, r2_0⟩ := int_cells Tryd.underlying3 g2
  cases e0; cases e1; cases e2
  exact ⟨x0, x1, x2, rfl, r0_0, r1_0, r2_0⟩
theorem of54 {H : Type} {enc0 : TypeId × Value → H} {W : World} {base : Nat} {spare : Nat → Bool} {held : Bool} {n : Nat} {cs : List Value} {y : DataW H × List MemPlace} (h : DataW.trod enc0 Tryd.prog W base spare held n 54 cs = some y) : ∃ (x0_0 : Int) (x0_1 : Int) (x0_2 : Int) (x1 : Int) (x2 : Int), cs = [.int .i64 x0_0, .int .i64 x0_1, .int .i64 x0_2, .int .i64 x1, .int .i64 x2] ∧ (-9223372036854775808 ≤ x0_0 ∧ x0_0 ≤ 9223372036854775807) ∧ (-9223372036854775808 ≤ x0_1 ∧ x0_1 ≤ 9223372036854775807) ∧ (-9223372036854775808 ≤ x0_2 ∧ x0_2 ≤ 9223372036854775807) ∧ (-9223372036854775808 ≤ x1 ∧ x1 ≤ 9223372036854775807) ∧ (-9223372036854775808 ≤ x2 ∧ x2 ≤ 9223372036854775807) := by
  obtain ⟨xs, m, _, hX, hl, hxl, hf⟩ := DataW.trod_struct Tryd.underlying54 h
  subst hX
  rw [xc54] at hl
  obtain ⟨k0, k1, k2, k3, k4, rfl⟩ := list5' hl
  obtain ⟨y0, y1, y2, rfl⟩ := list3' hxl
  have g0 : DataW.trod enc0 Tryd.prog W base spare held m 52 [k0, k1, k2] = some y0 := by
    have h5 : DataW.trod enc0 Tryd.prog W base spare held m 52 (([k0, k1, k2, k3, k4].drop 0).take (Tryd.prog.cellsOf 52)) = some y0 := hf 0 _ rfl
    rw [xc52] at h5; exact h5
  obtain ⟨x0_0, x0_1, x0_2, e0, r0_0, r0_1, r0_2⟩ := of52 g0
  have g1 : DataW.trod enc0 Tryd.prog W base spare held m 3 [k3] = some y1 := by
    have h5 : DataW.trod enc0 Tryd.prog W base spare held m 3 (([k0, k1, k2, k3, k4].drop 3).take (Tryd.prog.cellsOf 3)) = some y1 := hf 1 _ rfl
    rw [xc3] at h5; exact h5
  obtain ⟨x1, e1, r1_0⟩ := int_cells Tryd.underlying3 g1
  have g2 : DataW.trod enc0 Tryd.prog W base spare held m 3 [k4] = some y2 := by
    have h5 : DataW.trod enc0 Tryd.prog W base spare held m 3 (([k0, k1, k2, k3, k4].drop 4).take (Tryd.prog.cellsOf 3)) = some y2 := hf 2 _ rfl
    rw [xc3] at h5; exact h5
  obtain ⟨x2, e2, r2_0⟩ := int_cells Tryd.underlying3 g2
  cases e0; cases e1; cases e2
  exact ⟨x0_0, x0_1, x0_2, x1, x2, rfl, r0_0, r0_1, r0_2, r1_0, r2_0⟩
theorem xc61 : Tryd.prog.cellsOf 61 = 4 := by kernel_rfl
theorem of61 {H : Type} {enc0 : TypeId × Value → H} {W : World} {base : Nat} {spare : Nat → Bool} {held : Bool} {n : Nat} {cs : List Value} {y : DataW H × List MemPlace} (h : DataW.trod enc0 Tryd.prog W base spare held n 61 cs = some y) : ∃ (x0 : Int) (x1 : Int) (x2 : Int) (x3 : Int), cs = [.int .i64 x0, .int .i64 x1, .int .i64 x2, .int .i64 x3] := by
  obtain ⟨ns, h1, h2⟩ := arr_cells Tryd.underlying61 Tryd.underlying3 xc3 xc61 h
  obtain ⟨x0, x1, x2, x3, rfl⟩ := list4' h1
  exact ⟨x0, x1, x2, x3, h2⟩
theorem xc71 : Tryd.prog.cellsOf 71 = 2 := by kernel_rfl
theorem of71 {H : Type} {enc0 : TypeId × Value → H} {W : World} {base : Nat} {spare : Nat → Bool} {held : Bool} {n : Nat} {cs : List Value} {y : DataW H × List MemPlace} (h : DataW.trod enc0 Tryd.prog W base spare held n 71 cs = some y) : ∃ (x0 : Int) (x1 : Int), cs = [.int .i64 x0, .int .i64 x1] := by
  obtain ⟨ns, h1, h2⟩ := arr_cells Tryd.underlying71 Tryd.underlying3 xc3 xc71 h
  obtain ⟨x0, x1, rfl⟩ := list2' h1
  exact ⟨x0, x1, h2⟩
theorem of69 {H : Type} {enc0 : TypeId × Value → H} {W : World} {base : Nat} {spare : Nat → Bool} {held : Bool} {n : Nat} {cs : List Value} {y : DataW H × List MemPlace} (h : DataW.trod enc0 Tryd.prog W base spare held n 69 cs = some y) (hw : Wok Tryd.prog 69 y.1) : ∃ (Ax : Option Addr) (cx : Nat) (x : List Act1), cs = [.slice Ax x.length cx] ∧ Rd W 3 encAct Ax x ∧ x.length * 24 ≤ 140737488351232 := by
  obtain ⟨a, c, l, e, r⟩ := rd_of_trod encAct Tryd.underlying69 xc68 (by decide) (fun _ => rfl) act_of h
  exact ⟨a, c, l, e, r, wslice Tryd.underlying69 (B := 24) (by kernel_rfl) h hw e⟩
end Go.Proofs.YtafmgkiddhappaaDoor
