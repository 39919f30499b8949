/- What reads arguments of the laws. Conditions: none. -/
import Derived.Test.YtafmgkiddhappaaDoorYFrB
import Derived.Test.YtafmgkiddhappaaDoorYPLend
namespace Go.Proofs.YtafmgkiddhappaaDoor
open Go.Sx Go.RowKit Go.ChangeShapes Go.WideShapes Go.ChangeAt
set_option maxRecDepth 100000
theorem xc95 : Tryd.prog.cellsOf 95 = 4 := by kernel_rfl
theorem xc9 : Tryd.prog.cellsOf 9 = 1 := by kernel_rfl
theorem of95 {H : Type} {enc0 : TypeId × Value → H} {W : World} {base : Nat} {spare : Nat → Bool} {held : Bool} {n : Nat} {cs : List Value} {y : DataW H × List MemPlace} (h : DataW.trod enc0 Tryd.prog W base spare held n 95 cs = some y) : ∃ (x0 : ByteArray) (x1_0 : Int) (x1_1 : Int) (x1_2 : Int), cs = [.string x0, .int .i64 x1_0, .int .i64 x1_1, .int .i64 x1_2] ∧ x0.size ≤ maxLen ∧ (-9223372036854775808 ≤ x1_0 ∧ x1_0 ≤ 9223372036854775807) ∧ (-9223372036854775808 ≤ x1_1 ∧ x1_1 ≤ 9223372036854775807) ∧ (-9223372036854775808 ≤ x1_2 ∧ x1_2 ≤ 9223372036854775807) := by
  obtain ⟨xs, m, _, hX, hl, hxl, hf⟩ := DataW.trod_struct Tryd.underlying95 h
  subst hX
  rw [xc95] at hl
  obtain ⟨k0, k1, k2, k3, rfl⟩ := list4' hl
  obtain ⟨y0, y1, rfl⟩ := list2' hxl
  have g0 : DataW.trod enc0 Tryd.prog W base spare held m 9 [k0] = some y0 := by
    have h5 : DataW.trod enc0 Tryd.prog W base spare held m 9 (([k0, k1, k2, k3].drop 0).take (Tryd.prog.cellsOf 9)) = some y0 := hf 0 _ rfl
    rw [xc9] at h5; exact h5
  obtain ⟨x0, e0, r0_0⟩ := str_cells Tryd.underlying9 g0
  have g1 : DataW.trod enc0 Tryd.prog W base spare held m 52 [k1, k2, k3] = some y1 := by
    have h5 : DataW.trod enc0 Tryd.prog W base spare held m 52 (([k0, k1, k2, k3].drop 1).take (Tryd.prog.cellsOf 52)) = some y1 := hf 1 _ rfl
    rw [xc52] at h5; exact h5
  obtain ⟨x1_0, x1_1, x1_2, e1, r1_0, r1_1, r1_2⟩ := of52 g1
  cases e0; cases e1
  exact ⟨x0, x1_0, x1_1, x1_2, rfl, r0_0, r1_0, r1_1, r1_2⟩
theorem rule_of {H : Type} {enc0 : TypeId × Value → H} {W : World} {base : Nat} {spare : Nat → Bool} {held : Bool} (n : Nat) (cs : List Value) (y : DataW H × List MemPlace) (h : DataW.trod enc0 Tryd.prog W base spare held n 95 cs = some y) : ∃ s : RuleS, cs = encRuleS s := by
  obtain ⟨a, b, c, d, rfl, h1, _⟩ := of95 h
  exact ⟨⟨⟨a, b, c, d⟩, h1⟩, rfl⟩
theorem xc86 : Tryd.prog.cellsOf 86 = 3 := by kernel_rfl
theorem xc84 : Tryd.prog.cellsOf 84 = 1 := by kernel_rfl
theorem of84 {H : Type} {enc0 : TypeId × Value → H} {W : World} {base : Nat} {spare : Nat → Bool} {held : Bool} {n : Nat} {cs : List Value} {y : DataW H × List MemPlace} (h : DataW.trod enc0 Tryd.prog W base spare held n 84 cs = some y) (hw : Wok Tryd.prog 84 y.1) : ∃ (Ax : Option Addr) (cx : Nat) (x : List RuleS), cs = [.slice Ax x.length cx] ∧ Rd W 4 encRuleS Ax x ∧ x.length * 40 ≤ 140737488351232 := by
  obtain ⟨a, c, l, e, r⟩ := rd_of_trod encRuleS Tryd.underlying84 xc95 (by decide) (fun _ => rfl) rule_of h
  exact ⟨a, c, l, e, r, wslice Tryd.underlying84 (B := 40) (by kernel_rfl) h hw e⟩
theorem of86 {H : Type} {enc0 : TypeId × Value → H} {W : World} {base : Nat} {spare : Nat → Bool} {held : Bool} {n : Nat} {cs : List Value} {y : DataW H × List MemPlace} (h : DataW.trod enc0 Tryd.prog W base spare held n 86 cs = some y) (hw : Wok Tryd.prog 86 y.1) : ∃ (Ax0 : Option Addr) (cx0 : Nat) (x0 : List RuleS) (x1 : ByteArray) (x2 : Int), cs = [.slice Ax0 x0.length cx0, .string x1, .int .i64 x2] ∧ Rd W 4 encRuleS Ax0 x0 ∧ x0.length * 40 ≤ 140737488351232 ∧ x1.size ≤ maxLen ∧ (-9223372036854775808 ≤ x2 ∧ x2 ≤ 9223372036854775807) := by
  obtain ⟨xs, m, _, hX, hl, hxl, hf⟩ := DataW.trod_struct Tryd.underlying86 h
  subst hX
  rw [xc86] at hl
  obtain ⟨k0, k1, k2, rfl⟩ := list3' hl
  obtain ⟨y0, y1, y2, rfl⟩ := list3' hxl
  have g0 : DataW.trod enc0 Tryd.prog W base spare held m 84 [k0] = some y0 := by
    have h5 : DataW.trod enc0 Tryd.prog W base spare held m 84 (([k0, k1, k2].drop 0).take (Tryd.prog.cellsOf 84)) = some y0 := hf 0 _ rfl
    rw [xc84] at h5; exact h5
  obtain ⟨Ax0, cx0, x0, e0, r0_0, r0_1⟩ := of84 g0 (wfield (i := 0) Tryd.underlying86 hw rfl rfl)
  have g1 : DataW.trod enc0 Tryd.prog W base spare held m 9 [k1] = some y1 := by
    have h5 : DataW.trod enc0 Tryd.prog W base spare held m 9 (([k0, k1, k2].drop 1).take (Tryd.prog.cellsOf 9)) = some y1 := hf 1 _ rfl
    rw [xc9] at h5; exact h5
  obtain ⟨x1, e1, r1_0⟩ := str_cells Tryd.underlying9 g1
  have g2 : DataW.trod enc0 Tryd.prog W base spare held m 3 [k2] = some y2 := by
    have h5 : DataW.trod enc0 Tryd.prog W base spare held m 3 (([k0, k1, k2].drop 2).take (Tryd.prog.cellsOf 3)) = some y2 := hf 2 _ rfl
    rw [xc3] at h5; exact h5
  obtain ⟨x2, e2, r2_0⟩ := int_cells Tryd.underlying3 g2
  cases e0; cases e1; cases e2
  exact ⟨Ax0, cx0, x0, x1, x2, rfl, r0_0, r0_1, r1_0, r2_0⟩
end Go.Proofs.YtafmgkiddhappaaDoor
