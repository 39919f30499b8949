/- Texts of ours, joined: 1 of them. Conditions: none. -/
import Derived.Test.YtomidcehahdmbaaXVaultKnown0
namespace Go.Proofs.Ytomidcehahdmbaa
open Go.Sx Go.RowKit Vm
set_option maxRecDepth 20000
def tblK : List Int := [1, 3, 1, 7, 3, 7, 7, 7]
def testsK : List (CarryV × Int) := [(⟨6, 1, 7, 1, 0, 1, 9, 1⟩, 44), (⟨6, 5, 6, 0, 0, 1, 0, 0⟩, 44), (⟨6, 1, 8, 2, 0, 1, 9, 2⟩, 46), (⟨6, 2, 7, 2, 0, 1, 0, 0⟩, 46), (⟨6, 1, 8, 1, 0, 1, 9, 2⟩, 47), (⟨6, 1, 8, 1, 0, 1, 10, 1⟩, 48), (⟨6, 4, 7, 0, 0, 1, 10, 0⟩, 48), (⟨6, 3, 7, 0, 0, 1, 11, 0⟩, 48), (⟨5, 5, 7, 0, 0, 1, 0, 0⟩, 43), (⟨6, 5, 7, 0, 0, 0, 0, 0⟩, 43), (⟨6, 5, 7, 0, 0, 1, 1, 0⟩, 43), (⟨6, 2, 7, 0, 0, 1, 0, 0⟩, 43), (⟨6, 5, 7, 0, 0, 1, 0, 0⟩, 0)]
abbrev encT (t : CarryV × Int) : List Value := encCa t.1 ++ [.int .i64 t.2]
abbrev encSt (s : StrV) : List Value := [.slice s.Ar s.rooms.length s.cr, .slice s.Ag s.gates.length s.cg, .slice s.As s.staff.length s.cs]
theorem bad_E : strE ⟨[], [], []⟩ = 40 ∧ strE ⟨exS.rooms, exS.gates, [1]⟩ = 40 ∧ strE ⟨exS.rooms, [⟨0, 0, 1, [1]⟩, ⟨1, 2, 2, [6]⟩, ⟨0, 2, 1, [8]⟩], exS.staff⟩ = 40 ∧ strE ⟨exS.rooms, [⟨0, 1, 1, [1]⟩, ⟨1, 2, 2, []⟩, ⟨0, 2, 1, [8]⟩], exS.staff⟩ = 40 ∧ strE ⟨[⟨0, 0, 0⟩, ⟨2, 0, 4⟩, ⟨1, 4, 0⟩], exS.gates, exS.staff⟩ = 40 := by decide +kernel
theorem ex_Ent {s : StrV} (h : s.s = exS) : ∀ i : Nat, i < 8 → askE s i = 0 ∧ EntV s i = tblK.getD i 0 := by
  have hst : s.staff = exS.staff := congrArg Str.staff h
  simp only [EntV, askE, h, hst]
  decide +kernel
theorem ex_K {s : StrV} (h : s.s = exS) : askE s 8 = 41 ∧ clsE s 0 8 = 7 ∧ clsE s 0 6 = 0 ∧ clsV s 0 6 = false ∧ wayE s 1 2 = 4 ∧ wayE s 1 3 = 7 ∧ opnE s 3 [1] = 42 ∧ opnE s 3 [0, 0] = 42 ∧ opnE s 3 [3] = 42 ∧ wayE s 0 0 = 0 ∧ wayL s 0 0 = [] ∧ roomE s 0 = 0 ∧ grpsV s 0 = [0] ∧ grdsV s 0 = [] := by
  have hr : s.rooms = exS.rooms := congrArg Str.rooms h
  have hst : s.staff = exS.staff := congrArg Str.staff h
  simp only [askE, wayE, wayL, roomE, grpsV, grdsV, clsE, clsV, opnE, h, hr, hst]
  decide +kernel
abbrev shutV (s : StrV) : StrV := ⟨s.Ar, s.cr, s.rooms, none, 0, [], s.As, s.cs, s.staff⟩
theorem ex_S {s : StrV} (h : s.s = exS) : roomE (shutV s) 1 = 0 ∧ grpsV (shutV s) 1 = [] ∧ grdsV (shutV s) 1 = [0] := by
  have hr : s.rooms = exS.rooms := congrArg Str.rooms h
  have hst : s.staff = exS.staff := congrArg Str.staff h
  have hs : (shutV s).s = ⟨exS.rooms, [], exS.staff⟩ := by
    show (⟨s.rooms, [], s.staff⟩ : Str) = _
    rw [hr, hst]
  simp only [roomE, grpsV, grdsV, hs, hr]
  decide +kernel
theorem ex_T : ∀ t ∈ testsK, playE exS (exL.take 2 ++ [t.1]) = t.2 ∧ (t.2 = 43 → playAt exS (exL.take 2 ++ [t.1]) = 0) ∧ (t.2 = 0 → playAt exS (exL.take 2 ++ [t.1]) = 3) ∧ (t.2 ≠ 0 → t.2 ≠ 43 → playAt exS (exL.take 2 ++ [t.1]) = 2) := by decide +kernel
def aloneS : Str := ⟨exS.rooms, [⟨0, 1, 2, [1]⟩, ⟨1, 2, 2, [6]⟩, ⟨0, 2, 1, [8]⟩], [2, 0, 0]⟩
theorem ex_A : playE aloneS exL = 45 ∧ playAt aloneS exL = 0 ∧ whereE exS exL 32 5 = 7 ∧ whereE exS exL 7 36501 = 7 ∧ suspE exS exL 6 = 44 ∧ suspE exS exL (-1) = 7 := by decide +kernel

set_option maxHeartbeats 1000000 in
theorem k_strongO  (w : World)  : Calls Try.prog 40 #[] w (fun e w' => ∃ z : Nat × Nat × Nat × Nat × Nat × Nat, e = .returned (.agg #[.slice (some ⟨z.1, 0, none⟩) 3 3, .slice (some ⟨z.2.1, 0, none⟩) 3 3, .slice (some ⟨z.2.2.2.2.2, 0, none⟩) 3 3]) ∧ Giv [] w w' [ownB z.1 (cellsB 71 [.int .i64 0, .int .i64 0, .int .i64 0, .int .i64 2, .int .i64 0, .int .i64 4, .int .i64 1, .int .i64 1, .int .i64 0]), ownB z.2.1 (cellsB 69 [.int .i64 0, .int .i64 1, .int .i64 1, .slice (some ⟨z.2.2.1, 0, none⟩) 1 1, .int .i64 1, .int .i64 2, .int .i64 2, .slice (some ⟨z.2.2.2.1, 0, none⟩) 1 1, .int .i64 0, .int .i64 2, .int .i64 1, .slice (some ⟨z.2.2.2.2.1, 0, none⟩) 1 1]), ownB z.2.2.1 (cellsB 3 [.int .i64 1]), ownB z.2.2.2.1 (cellsB 3 [.int .i64 6]), ownB z.2.2.2.2.1 (cellsB 3 [.int .i64 8]), ownB z.2.2.2.2.2 (cellsB 3 [.int .i64 1, .int .i64 2, .int .i64 3])]) := by
  refine enterO (args := []) [] [] Try.func40 rfl (by rw [Try.ntmps40]; simp) (fun g hg => by cases hg) (.nil) (fun g hg => by cases hg) ?_
  refine cj_seq (cj_region ?_)
  refine oj_alloc Try.zeroValue26 rfl rfl (fun b0 => ?_)
  refine oj_nil ?_
  refine ej_th (cj_seq (cj_region ?_))
  refine oj_step (y_build st71 rfl rfl) rfl rfl rfl ?_
  refine oj_step (y_build (cs := [.int .i64 2, .int .i64 0, .int .i64 4]) st71 rfl (by kernel_rfl)) rfl rfl rfl ?_
  refine oj_step (y_build (cs := [.int .i64 1, .int .i64 1, .int .i64 0]) st71 rfl (by kernel_rfl)) rfl rfl rfl ?_
  refine oj_buildSlice (cs := [.int .i64 0, .int .i64 0, .int .i64 0, .int .i64 2, .int .i64 0, .int .i64 4, .int .i64 1, .int .i64 1, .int .i64 0]) [.int .i64 0, .int .i64 0, .int .i64 0, .int .i64 0, .int .i64 0, .int .i64 0, .int .i64 0, .int .i64 0, .int .i64 0] Try.underlying22 Try.sizeOf71 Try.zeroValue71 rfl rfl (by kernel_rfl) (by kernel_rfl) rfl (fun b4 => ?_)
  refine oj_buildSlice (cs := [.int .i64 1]) [.int .i64 0] Try.underlying24 Try.sizeOf3 Try.zeroValue3 rfl rfl (by kernel_rfl) (by kernel_rfl) rfl (fun b5 => ?_)
  refine oj_step (y_build (cs := [.int .i64 0, .int .i64 1, .int .i64 1, .slice (some ⟨b5, 0, none⟩) 1 1]) st69 rfl (by kernel_rfl)) rfl rfl rfl ?_
  refine oj_buildSlice (cs := [.int .i64 6]) [.int .i64 0] Try.underlying24 Try.sizeOf3 Try.zeroValue3 rfl rfl (by kernel_rfl) (by kernel_rfl) rfl (fun b7 => ?_)
  refine oj_step (y_build (cs := [.int .i64 1, .int .i64 2, .int .i64 2, .slice (some ⟨b7, 0, none⟩) 1 1]) st69 rfl (by kernel_rfl)) rfl rfl rfl ?_
  refine oj_buildSlice (cs := [.int .i64 8]) [.int .i64 0] Try.underlying24 Try.sizeOf3 Try.zeroValue3 rfl rfl (by kernel_rfl) (by kernel_rfl) rfl (fun b9 => ?_)
  refine oj_step (y_build (cs := [.int .i64 0, .int .i64 2, .int .i64 1, .slice (some ⟨b9, 0, none⟩) 1 1]) st69 rfl (by kernel_rfl)) rfl rfl rfl ?_
  refine oj_buildSlice (cs := [.int .i64 0, .int .i64 1, .int .i64 1, .slice (some ⟨b5, 0, none⟩) 1 1, .int .i64 1, .int .i64 2, .int .i64 2, .slice (some ⟨b7, 0, none⟩) 1 1, .int .i64 0, .int .i64 2, .int .i64 1, .slice (some ⟨b9, 0, none⟩) 1 1]) [.int .i64 0, .int .i64 0, .int .i64 0, .slice none 0 0, .int .i64 0, .int .i64 0, .int .i64 0, .slice none 0 0, .int .i64 0, .int .i64 0, .int .i64 0, .slice none 0 0] Try.underlying23 Try.sizeOf69 Try.zeroValue69 rfl rfl (by kernel_rfl) (by kernel_rfl) rfl (fun b11 => ?_)
  refine oj_buildSlice (cs := [.int .i64 1, .int .i64 2, .int .i64 3]) [.int .i64 0, .int .i64 0, .int .i64 0] Try.underlying24 Try.sizeOf3 Try.zeroValue3 rfl rfl (by kernel_rfl) (by kernel_rfl) rfl (fun b12 => ?_)
  refine oj_step (y_build (cs := [.slice (some ⟨b4, 0, none⟩) 3 3, .slice (some ⟨b11, 0, none⟩) 3 3, .slice (some ⟨b12, 0, none⟩) 3 3]) st26 rfl (by kernel_rfl)) rfl rfl rfl ?_
  refine oj_store rfl rfl rfl rfl Try.sizeOf26 rfl ?_
  refine oj_nil ?_
  refine ej_th (cj_ret ?_)
  exact ej_retC1 rfl Try.results40 rfl (y_loadN Try.isAgg26 Try.sizeOf26 rfl) (fun w' hp => ⟨(b4, b11, b5, b7, b9, b12), rfl, hp.givT _⟩)

theorem k_logO  (w : World)  : Calls Try.prog 41 #[] w (fun e w' => ∃ z : Nat, e = .returned (.slice (some ⟨z, 0, none⟩) 3 3) ∧ Giv [] w w' [ow 52 8 encCa (some ⟨z, 0, none⟩) 3 exL]) := by
  refine enterO (args := []) [] [] Try.func41 rfl (by rw [Try.ntmps41]; simp) (fun g hg => by cases hg) (.nil) (fun g hg => by cases hg) ?_
  refine cj_seq ?_
  refine cj_regionG (gj_step (y_assign rfl) rfl rfl rfl (gj_nil ?_))
  refine ej_th (cj_seq (cj_region ?_))
  refine oj_step (y_build (cs := [.int .i64 5, .int .i64 1, .int .i64 7, .int .i64 1, .int .i64 0, .int .i64 1, .int .i64 10, .int .i64 3]) st52 rfl (by kernel_rfl)) rfl rfl rfl ?_
  refine oj_step (y_build (cs := [.int .i64 6, .int .i64 2, .int .i64 7, .int .i64 2, .int .i64 1, .int .i64 2, .int .i64 0, .int .i64 0]) st52 rfl (by kernel_rfl)) rfl rfl rfl ?_
  refine oj_step (y_build (cs := [.int .i64 8, .int .i64 3, .int .i64 7, .int .i64 0, .int .i64 0, .int .i64 1, .int .i64 10, .int .i64 0]) st52 rfl (by kernel_rfl)) rfl rfl rfl ?_
  refine oj_buildSlice (cs := [.int .i64 5, .int .i64 1, .int .i64 7, .int .i64 1, .int .i64 0, .int .i64 1, .int .i64 10, .int .i64 3, .int .i64 6, .int .i64 2, .int .i64 7, .int .i64 2, .int .i64 1, .int .i64 2, .int .i64 0, .int .i64 0, .int .i64 8, .int .i64 3, .int .i64 7, .int .i64 0, .int .i64 0, .int .i64 1, .int .i64 10, .int .i64 0]) [.int .i64 0, .int .i64 0, .int .i64 0, .int .i64 0, .int .i64 0, .int .i64 0, .int .i64 0, .int .i64 0, .int .i64 0, .int .i64 0, .int .i64 0, .int .i64 0, .int .i64 0, .int .i64 0, .int .i64 0, .int .i64 0, .int .i64 0, .int .i64 0, .int .i64 0, .int .i64 0, .int .i64 0, .int .i64 0, .int .i64 0, .int .i64 0] Try.underlying45 Try.sizeOf52 Try.zeroValue52 rfl rfl (by kernel_rfl) (by kernel_rfl) rfl (fun b4 => ?_)
  refine oj_step (y_assign rfl) rfl rfl rfl ?_
  refine oj_nil ?_
  refine ej_th (cj_ret ?_)
  exact ej_ret1 rfl Try.results41 rfl (fun w' hp => ⟨b4, rfl, (hp_litOw (b := b4) (e := 52) (c := 3) (sz := 8) (enc := encCa) hp exL rfl rfl rfl (by unfold maxLen; decide)).givT _⟩)

set_option maxHeartbeats 12800000 in
theorem k_VaultKnown  (w : World)  : Calls Try.prog 12 #[] w (fun e w' => e = .returned (.bool true) ∧ Grow w w') := by
  refine enter_pure (args := []) [] Try.func12 rfl (by rw [Try.ntmps12]; simp) (by simp) ?_
  refine cj_seq ?_
  refine cj_regionG (gj_step (y_assign rfl) rfl rfl rfl (gj_nil ?_))
  refine ej_th (cj_seq (cj_region ?_))
  refine oj_step (y_build st26 rfl rfl) rfl rfl rfl ?_
  refine oj_callL (X := Nat × Nat × Nat × Nat × Nat × Nat) (fun z => .agg #[.slice (some ⟨z.1, 0, none⟩) 3 3, .slice (some ⟨z.2.1, 0, none⟩) 3 3, .slice (some ⟨z.2.2.2.2.2, 0, none⟩) 3 3]) [] (fun z => [ownB z.1 (cellsB 71 [.int .i64 0, .int .i64 0, .int .i64 0, .int .i64 2, .int .i64 0, .int .i64 4, .int .i64 1, .int .i64 1, .int .i64 0]), ownB z.2.1 (cellsB 69 [.int .i64 0, .int .i64 1, .int .i64 1, .slice (some ⟨z.2.2.1, 0, none⟩) 1 1, .int .i64 1, .int .i64 2, .int .i64 2, .slice (some ⟨z.2.2.2.1, 0, none⟩) 1 1, .int .i64 0, .int .i64 2, .int .i64 1, .slice (some ⟨z.2.2.2.2.1, 0, none⟩) 1 1]), ownB z.2.2.1 (cellsB 3 [.int .i64 1]), ownB z.2.2.2.1 (cellsB 3 [.int .i64 6]), ownB z.2.2.2.2.1 (cellsB 3 [.int .i64 8]), ownB z.2.2.2.2.2 (cellsB 3 [.int .i64 1, .int .i64 2, .int .i64 3])]) Try.call40 rfl rfl (fun w1 hp => k_strongO w1) rfl ?_
  rintro ⟨r38, g38, u38, v38, x38, s38⟩
  dsimp only [List.cons_append, List.nil_append]
  refine oj_callL (X := Nat × Nat × Nat × Nat × Nat × Nat) (fun z => .agg #[.slice (some ⟨z.1, 0, none⟩) 3 3, .slice (some ⟨z.2.1, 0, none⟩) 3 3, .slice (some ⟨z.2.2.2.2.2, 0, none⟩) 3 3]) [] (fun z => [ownB z.1 (cellsB 71 [.int .i64 0, .int .i64 0, .int .i64 0, .int .i64 2, .int .i64 0, .int .i64 4, .int .i64 1, .int .i64 1, .int .i64 0]), ownB z.2.1 (cellsB 69 [.int .i64 0, .int .i64 1, .int .i64 1, .slice (some ⟨z.2.2.1, 0, none⟩) 1 1, .int .i64 1, .int .i64 2, .int .i64 2, .slice (some ⟨z.2.2.2.1, 0, none⟩) 1 1, .int .i64 0, .int .i64 2, .int .i64 1, .slice (some ⟨z.2.2.2.2.1, 0, none⟩) 1 1]), ownB z.2.2.1 (cellsB 3 [.int .i64 1]), ownB z.2.2.2.1 (cellsB 3 [.int .i64 6]), ownB z.2.2.2.2.1 (cellsB 3 [.int .i64 8]), ownB z.2.2.2.2.2 (cellsB 3 [.int .i64 1, .int .i64 2, .int .i64 3])]) Try.call40 rfl rfl (fun w1 hp => k_strongO w1) rfl ?_
  rintro ⟨r39, g39, u39, v39, x39, s39⟩
  dsimp only [List.cons_append, List.nil_append]
  refine oj_callL (X := Nat × Nat × Nat × Nat × Nat × Nat) (fun z => .agg #[.slice (some ⟨z.1, 0, none⟩) 3 3, .slice (some ⟨z.2.1, 0, none⟩) 3 3, .slice (some ⟨z.2.2.2.2.2, 0, none⟩) 3 3]) [] (fun z => [ownB z.1 (cellsB 71 [.int .i64 0, .int .i64 0, .int .i64 0, .int .i64 2, .int .i64 0, .int .i64 4, .int .i64 1, .int .i64 1, .int .i64 0]), ownB z.2.1 (cellsB 69 [.int .i64 0, .int .i64 1, .int .i64 1, .slice (some ⟨z.2.2.1, 0, none⟩) 1 1, .int .i64 1, .int .i64 2, .int .i64 2, .slice (some ⟨z.2.2.2.1, 0, none⟩) 1 1, .int .i64 0, .int .i64 2, .int .i64 1, .slice (some ⟨z.2.2.2.2.1, 0, none⟩) 1 1]), ownB z.2.2.1 (cellsB 3 [.int .i64 1]), ownB z.2.2.2.1 (cellsB 3 [.int .i64 6]), ownB z.2.2.2.2.1 (cellsB 3 [.int .i64 8]), ownB z.2.2.2.2.2 (cellsB 3 [.int .i64 1, .int .i64 2, .int .i64 3])]) Try.call40 rfl rfl (fun w1 hp => k_strongO w1) rfl ?_
  rintro ⟨r40, g40, u40, v40, x40, s40⟩
  dsimp only [List.cons_append, List.nil_append]
  refine oj_callL (X := Nat × Nat × Nat × Nat × Nat × Nat) (fun z => .agg #[.slice (some ⟨z.1, 0, none⟩) 3 3, .slice (some ⟨z.2.1, 0, none⟩) 3 3, .slice (some ⟨z.2.2.2.2.2, 0, none⟩) 3 3]) [] (fun z => [ownB z.1 (cellsB 71 [.int .i64 0, .int .i64 0, .int .i64 0, .int .i64 2, .int .i64 0, .int .i64 4, .int .i64 1, .int .i64 1, .int .i64 0]), ownB z.2.1 (cellsB 69 [.int .i64 0, .int .i64 1, .int .i64 1, .slice (some ⟨z.2.2.1, 0, none⟩) 1 1, .int .i64 1, .int .i64 2, .int .i64 2, .slice (some ⟨z.2.2.2.1, 0, none⟩) 1 1, .int .i64 0, .int .i64 2, .int .i64 1, .slice (some ⟨z.2.2.2.2.1, 0, none⟩) 1 1]), ownB z.2.2.1 (cellsB 3 [.int .i64 1]), ownB z.2.2.2.1 (cellsB 3 [.int .i64 6]), ownB z.2.2.2.2.1 (cellsB 3 [.int .i64 8]), ownB z.2.2.2.2.2 (cellsB 3 [.int .i64 1, .int .i64 2, .int .i64 3])]) Try.call40 rfl rfl (fun w1 hp => k_strongO w1) rfl ?_
  rintro ⟨r41, g41, u41, v41, x41, s41⟩
  dsimp only [List.cons_append, List.nil_append]
  refine oj_buildSlice (cs := [.slice none 0 0, .slice none 0 0, .slice none 0 0, .slice (some ⟨r38, 0, none⟩) 3 3, .slice (some ⟨g38, 0, none⟩) 3 3, .slice (some ⟨s38, 0, none⟩) 3 3, .slice (some ⟨r39, 0, none⟩) 3 3, .slice (some ⟨g39, 0, none⟩) 3 3, .slice (some ⟨s39, 0, none⟩) 3 3, .slice (some ⟨r40, 0, none⟩) 3 3, .slice (some ⟨g40, 0, none⟩) 3 3, .slice (some ⟨s40, 0, none⟩) 3 3, .slice (some ⟨r41, 0, none⟩) 3 3, .slice (some ⟨g41, 0, none⟩) 3 3, .slice (some ⟨s41, 0, none⟩) 3 3]) [.slice none 0 0, .slice none 0 0, .slice none 0 0, .slice none 0 0, .slice none 0 0, .slice none 0 0, .slice none 0 0, .slice none 0 0, .slice none 0 0, .slice none 0 0, .slice none 0 0, .slice none 0 0, .slice none 0 0, .slice none 0 0, .slice none 0 0] Try.underlying67 Try.sizeOf26 Try.zeroValue26 rfl rfl (by kernel_rfl) (by kernel_rfl) rfl (fun b42 => ?_)
  refine oj_step (y_assign rfl) rfl rfl rfl ?_
  refine oj_nil ?_
  refine ej_th (cj_seq (cj_region ?_))
  refine oj_step (y_move rfl) rfl rfl rfl ?_
  refine oj_buildSlice (cs := [.int .i64 1]) [.int .i64 0] Try.underlying24 Try.sizeOf3 Try.zeroValue3 rfl rfl (by kernel_rfl) (by kernel_rfl) rfl (fun b44 => ?_)
  refine oj_step (y_ixL 3 Try.underlying67 Try.sizeOf26 rfl rfl ⟨by decide, by decide⟩ (by decide)) rfl rfl rfl ?_
  refine oj_step (y_fa fa26_2 rfl) rfl rfl rfl ?_
  refine oj_store rfl rfl rfl rfl Try.sizeOf24 rfl ?_
  refine oj_nil ?_
  refine ej_th (cj_seq (cj_region ?_))
  refine oj_step (y_move rfl) rfl rfl rfl ?_
  refine oj_step (y_ixL 6 Try.underlying67 Try.sizeOf26 rfl rfl ⟨by decide, by decide⟩ (by decide)) rfl rfl rfl ?_
  refine oj_step (y_fa fa26_1 rfl) rfl rfl rfl ?_
  refine oj_step (y_load1 Try.isAgg23 rfl rfl) rfl rfl rfl ?_
  refine oj_step (y_ixL 0 Try.underlying23 Try.sizeOf69 rfl rfl ⟨by decide, by decide⟩ (by decide)) rfl rfl rfl ?_
  refine oj_step (y_fa fa69_1 rfl) rfl rfl rfl ?_
  refine oj_store rfl rfl rfl rfl Try.sizeOf3 rfl ?_
  refine oj_nil ?_
  refine ej_th (cj_seq (cj_region ?_))
  refine oj_step (y_move rfl) rfl rfl rfl ?_
  refine oj_step (y_ixL 9 Try.underlying67 Try.sizeOf26 rfl rfl ⟨by decide, by decide⟩ (by decide)) rfl rfl rfl ?_
  refine oj_step (y_fa fa26_1 rfl) rfl rfl rfl ?_
  refine oj_step (y_load1 Try.isAgg23 rfl rfl) rfl rfl rfl ?_
  refine oj_step (y_ixL 4 Try.underlying23 Try.sizeOf69 rfl rfl ⟨by decide, by decide⟩ (by decide)) rfl rfl rfl ?_
  refine oj_step (y_fa fa69_3 rfl) rfl rfl rfl ?_
  refine oj_store rfl rfl rfl rfl Try.sizeOf24 rfl ?_
  refine oj_nil ?_
  refine ej_th (cj_seq (cj_region ?_))
  refine oj_step (y_move rfl) rfl rfl rfl ?_
  refine oj_step (y_ixL 12 Try.underlying67 Try.sizeOf26 rfl rfl ⟨by decide, by decide⟩ (by decide)) rfl rfl rfl ?_
  refine oj_step (y_fa0 fa26_0 rfl) rfl rfl rfl ?_
  refine oj_step (y_load1 Try.isAgg22 rfl rfl) rfl rfl rfl ?_
  refine oj_step (y_ixL 6 Try.underlying22 Try.sizeOf71 rfl rfl ⟨by decide, by decide⟩ (by decide)) rfl rfl rfl ?_
  refine oj_step (y_fa fa71_1 rfl) rfl rfl rfl ?_
  refine oj_store rfl rfl rfl rfl Try.sizeOf3 rfl ?_
  refine oj_nil ?_
  refine ej_th ?_
  refine cj_cuti (X := Unit) [] trivial (fun _ => True) (fun _ => []) (fun _ => []) (fun _ => []) ?_ ?_
  · refine cj_seq ?_
    refine cj_regionG (gj_step (y_assign rfl) rfl rfl rfl (gj_nil ?_))
    refine ej_th (cj_block ?_)
    refine cj_lpic (X := Nat) [(1, _)] (fun i => i ≤ 5) (fun i => [(2, .int .i64 (i : Nat))]) (fun i => 5 - i) 0 (by omega) ⟨rfl, rfl, trivial⟩ ?_
    rintro i hi
    dsimp only [List.cons_append, List.nil_append]
    refine cj_seq (cj_seq ?_)
    refine cj_regionG (gj_step (y_move rfl) rfl rfl rfl (gj_step (y_move rfl) rfl rfl rfl (gj_step (y_lenA Try.underlying67 rfl) rfl rfl rfl (gj_step (y_lss rfl rfl) rfl rfl rfl (gj_nil ?_)))))
    refine ej_th ?_
    refine cj_cond rfl (fun h68 => ?_) (fun h68 => ?_)
    · have h68b := h68
      try simp only [sxb] at h68
      obtain ⟨x, hx⟩ : ∃ x, ([zeroS, (⟨some ⟨r38, 0, none⟩, 3, [⟨0, 0, 0⟩, ⟨2, 0, 4⟩, ⟨1, 1, 0⟩], some ⟨g38, 0, none⟩, 3, [⟨0, 1, 1, some ⟨u38, 0, none⟩, 1, [1]⟩, ⟨1, 2, 2, some ⟨v38, 0, none⟩, 1, [6]⟩, ⟨0, 2, 1, some ⟨x38, 0, none⟩, 1, [8]⟩], some ⟨b44, 0, none⟩, 1, [1]⟩ : StrV), (⟨some ⟨r39, 0, none⟩, 3, [⟨0, 0, 0⟩, ⟨2, 0, 4⟩, ⟨1, 1, 0⟩], some ⟨g39, 0, none⟩, 3, [⟨0, 0, 1, some ⟨u39, 0, none⟩, 1, [1]⟩, ⟨1, 2, 2, some ⟨v39, 0, none⟩, 1, [6]⟩, ⟨0, 2, 1, some ⟨x39, 0, none⟩, 1, [8]⟩], some ⟨s39, 0, none⟩, 3, [1, 2, 3]⟩ : StrV), (⟨some ⟨r40, 0, none⟩, 3, [⟨0, 0, 0⟩, ⟨2, 0, 4⟩, ⟨1, 1, 0⟩], some ⟨g40, 0, none⟩, 3, [⟨0, 1, 1, some ⟨u40, 0, none⟩, 1, [1]⟩, ⟨1, 2, 2, none, 0, []⟩, ⟨0, 2, 1, some ⟨x40, 0, none⟩, 1, [8]⟩], some ⟨s40, 0, none⟩, 3, [1, 2, 3]⟩ : StrV), (⟨some ⟨r41, 0, none⟩, 3, [⟨0, 0, 0⟩, ⟨2, 0, 4⟩, ⟨1, 4, 0⟩], some ⟨g41, 0, none⟩, 3, [⟨0, 1, 1, some ⟨u41, 0, none⟩, 1, [1]⟩, ⟨1, 2, 2, some ⟨v41, 0, none⟩, 1, [6]⟩, ⟨0, 2, 1, some ⟨x41, 0, none⟩, 1, [8]⟩], some ⟨s41, 0, none⟩, 3, [1, 2, 3]⟩ : StrV)] : List StrV)[i]? = some x := ⟨_, List.getElem?_eq_getElem (show i < 5 by omega)⟩
      have hxE : strE x.s = 40 := by
        have hxm := List.mem_of_getElem? hx
        simp only [List.mem_cons, List.mem_nil_iff, or_false] at hxm
        rcases hxm with rfl | rfl | rfl | rfl | rfl
        · exact bad_E.1
        · exact bad_E.2.1
        · exact bad_E.2.2.1
        · exact bad_E.2.2.2.1
        · exact bad_E.2.2.2.2
      refine cj_skip (ej_th (cj_seq (cj_block (cj_seq ?_))))
      refine cj_regionG ?_
      refine gj_step (y_move rfl) rfl rfl rfl (gj_step (y_move rfl) rfl rfl rfl (gj_step (y_ixR (reads_lit (sz := 3) (enc := encSt) ([zeroS, (⟨some ⟨r38, 0, none⟩, 3, [⟨0, 0, 0⟩, ⟨2, 0, 4⟩, ⟨1, 1, 0⟩], some ⟨g38, 0, none⟩, 3, [⟨0, 1, 1, some ⟨u38, 0, none⟩, 1, [1]⟩, ⟨1, 2, 2, some ⟨v38, 0, none⟩, 1, [6]⟩, ⟨0, 2, 1, some ⟨x38, 0, none⟩, 1, [8]⟩], some ⟨b44, 0, none⟩, 1, [1]⟩ : StrV), (⟨some ⟨r39, 0, none⟩, 3, [⟨0, 0, 0⟩, ⟨2, 0, 4⟩, ⟨1, 1, 0⟩], some ⟨g39, 0, none⟩, 3, [⟨0, 0, 1, some ⟨u39, 0, none⟩, 1, [1]⟩, ⟨1, 2, 2, some ⟨v39, 0, none⟩, 1, [6]⟩, ⟨0, 2, 1, some ⟨x39, 0, none⟩, 1, [8]⟩], some ⟨s39, 0, none⟩, 3, [1, 2, 3]⟩ : StrV), (⟨some ⟨r40, 0, none⟩, 3, [⟨0, 0, 0⟩, ⟨2, 0, 4⟩, ⟨1, 1, 0⟩], some ⟨g40, 0, none⟩, 3, [⟨0, 1, 1, some ⟨u40, 0, none⟩, 1, [1]⟩, ⟨1, 2, 2, none, 0, []⟩, ⟨0, 2, 1, some ⟨x40, 0, none⟩, 1, [8]⟩], some ⟨s40, 0, none⟩, 3, [1, 2, 3]⟩ : StrV), (⟨some ⟨r41, 0, none⟩, 3, [⟨0, 0, 0⟩, ⟨2, 0, 4⟩, ⟨1, 4, 0⟩], some ⟨g41, 0, none⟩, 3, [⟨0, 1, 1, some ⟨u41, 0, none⟩, 1, [1]⟩, ⟨1, 2, 2, some ⟨v41, 0, none⟩, 1, [6]⟩, ⟨0, 2, 1, some ⟨x41, 0, none⟩, 1, [8]⟩], some ⟨s41, 0, none⟩, 3, [1, 2, 3]⟩ : StrV)] : List StrV) (fun _ => rfl) rfl) Try.underlying67 Try.sizeOf26 rfl rfl (show (0 : Int) ≤ (i : Nat) ∧ ((i : Nat) : Int) < 5 by omega)) rfl rfl rfl (gj_step (y_ldW (reads_lit (sz := 3) (enc := encSt) ([zeroS, (⟨some ⟨r38, 0, none⟩, 3, [⟨0, 0, 0⟩, ⟨2, 0, 4⟩, ⟨1, 1, 0⟩], some ⟨g38, 0, none⟩, 3, [⟨0, 1, 1, some ⟨u38, 0, none⟩, 1, [1]⟩, ⟨1, 2, 2, some ⟨v38, 0, none⟩, 1, [6]⟩, ⟨0, 2, 1, some ⟨x38, 0, none⟩, 1, [8]⟩], some ⟨b44, 0, none⟩, 1, [1]⟩ : StrV), (⟨some ⟨r39, 0, none⟩, 3, [⟨0, 0, 0⟩, ⟨2, 0, 4⟩, ⟨1, 1, 0⟩], some ⟨g39, 0, none⟩, 3, [⟨0, 0, 1, some ⟨u39, 0, none⟩, 1, [1]⟩, ⟨1, 2, 2, some ⟨v39, 0, none⟩, 1, [6]⟩, ⟨0, 2, 1, some ⟨x39, 0, none⟩, 1, [8]⟩], some ⟨s39, 0, none⟩, 3, [1, 2, 3]⟩ : StrV), (⟨some ⟨r40, 0, none⟩, 3, [⟨0, 0, 0⟩, ⟨2, 0, 4⟩, ⟨1, 1, 0⟩], some ⟨g40, 0, none⟩, 3, [⟨0, 1, 1, some ⟨u40, 0, none⟩, 1, [1]⟩, ⟨1, 2, 2, none, 0, []⟩, ⟨0, 2, 1, some ⟨x40, 0, none⟩, 1, [8]⟩], some ⟨s40, 0, none⟩, 3, [1, 2, 3]⟩ : StrV), (⟨some ⟨r41, 0, none⟩, 3, [⟨0, 0, 0⟩, ⟨2, 0, 4⟩, ⟨1, 4, 0⟩], some ⟨g41, 0, none⟩, 3, [⟨0, 1, 1, some ⟨u41, 0, none⟩, 1, [1]⟩, ⟨1, 2, 2, some ⟨v41, 0, none⟩, 1, [6]⟩, ⟨0, 2, 1, some ⟨x41, 0, none⟩, 1, [8]⟩], some ⟨s41, 0, none⟩, 3, [1, 2, 3]⟩ : StrV)] : List StrV) (fun _ => rfl) rfl) Try.isAgg26 Try.sizeOf26 rfl hx (fun _ => rfl)) rfl rfl rfl (?_))))
      refine gj_step (y_call Try.call15 rfl (fun w hp => by
        refine k_Check x w ?_
        have hxm := List.mem_of_getElem? hx
        simp only [List.mem_cons, List.mem_nil_iff, or_false] at hxm
        rcases hxm with rfl | rfl | rfl | rfl | rfl
        · exact ⟨Rd.nil, Rd.nil, Rd.nil, fun y hy => by cases hy⟩
        · exact ⟨hp.rdLit (b := r38) (sz := 3) (enc := encRo) [⟨0, 0, 0⟩, ⟨2, 0, 4⟩, ⟨1, 1, 0⟩] (fun _ => rfl) rfl (by unfold maxLen; simp), hp.rdLit (b := g38) (sz := 4) (enc := encGa) [⟨0, 1, 1, some ⟨u38, 0, none⟩, 1, [1]⟩, ⟨1, 2, 2, some ⟨v38, 0, none⟩, 1, [6]⟩, ⟨0, 2, 1, some ⟨x38, 0, none⟩, 1, [8]⟩] (fun _ => rfl) rfl (by unfold maxLen; simp), hp.rdLit (b := b44) (sz := 1) (enc := enInt) [1] (fun _ => rfl) rfl (by unfold maxLen; simp), fun y hy => by
            simp only [List.mem_cons, List.mem_nil_iff, or_false] at hy
            rcases hy with rfl | rfl | rfl
            · exact hp.rdLit (b := u38) (sz := 1) (enc := enInt) [1] (fun _ => rfl) rfl (by unfold maxLen; simp)
            · exact hp.rdLit (b := v38) (sz := 1) (enc := enInt) [6] (fun _ => rfl) rfl (by unfold maxLen; simp)
            · exact hp.rdLit (b := x38) (sz := 1) (enc := enInt) [8] (fun _ => rfl) rfl (by unfold maxLen; simp)⟩
        · exact ⟨hp.rdLit (b := r39) (sz := 3) (enc := encRo) [⟨0, 0, 0⟩, ⟨2, 0, 4⟩, ⟨1, 1, 0⟩] (fun _ => rfl) rfl (by unfold maxLen; simp), hp.rdLit (b := g39) (sz := 4) (enc := encGa) [⟨0, 0, 1, some ⟨u39, 0, none⟩, 1, [1]⟩, ⟨1, 2, 2, some ⟨v39, 0, none⟩, 1, [6]⟩, ⟨0, 2, 1, some ⟨x39, 0, none⟩, 1, [8]⟩] (fun _ => rfl) rfl (by unfold maxLen; simp), hp.rdLit (b := s39) (sz := 1) (enc := enInt) [1, 2, 3] (fun _ => rfl) rfl (by unfold maxLen; simp), fun y hy => by
            simp only [List.mem_cons, List.mem_nil_iff, or_false] at hy
            rcases hy with rfl | rfl | rfl
            · exact hp.rdLit (b := u39) (sz := 1) (enc := enInt) [1] (fun _ => rfl) rfl (by unfold maxLen; simp)
            · exact hp.rdLit (b := v39) (sz := 1) (enc := enInt) [6] (fun _ => rfl) rfl (by unfold maxLen; simp)
            · exact hp.rdLit (b := x39) (sz := 1) (enc := enInt) [8] (fun _ => rfl) rfl (by unfold maxLen; simp)⟩
        · exact ⟨hp.rdLit (b := r40) (sz := 3) (enc := encRo) [⟨0, 0, 0⟩, ⟨2, 0, 4⟩, ⟨1, 1, 0⟩] (fun _ => rfl) rfl (by unfold maxLen; simp), hp.rdLit (b := g40) (sz := 4) (enc := encGa) [⟨0, 1, 1, some ⟨u40, 0, none⟩, 1, [1]⟩, ⟨1, 2, 2, none, 0, []⟩, ⟨0, 2, 1, some ⟨x40, 0, none⟩, 1, [8]⟩] (fun _ => rfl) rfl (by unfold maxLen; simp), hp.rdLit (b := s40) (sz := 1) (enc := enInt) [1, 2, 3] (fun _ => rfl) rfl (by unfold maxLen; simp), fun y hy => by
            simp only [List.mem_cons, List.mem_nil_iff, or_false] at hy
            rcases hy with rfl | rfl | rfl
            · exact hp.rdLit (b := u40) (sz := 1) (enc := enInt) [1] (fun _ => rfl) rfl (by unfold maxLen; simp)
            · exact Rd.nil
            · exact hp.rdLit (b := x40) (sz := 1) (enc := enInt) [8] (fun _ => rfl) rfl (by unfold maxLen; simp)⟩
        · exact ⟨hp.rdLit (b := r41) (sz := 3) (enc := encRo) [⟨0, 0, 0⟩, ⟨2, 0, 4⟩, ⟨1, 4, 0⟩] (fun _ => rfl) rfl (by unfold maxLen; simp), hp.rdLit (b := g41) (sz := 4) (enc := encGa) [⟨0, 1, 1, some ⟨u41, 0, none⟩, 1, [1]⟩, ⟨1, 2, 2, some ⟨v41, 0, none⟩, 1, [6]⟩, ⟨0, 2, 1, some ⟨x41, 0, none⟩, 1, [8]⟩] (fun _ => rfl) rfl (by unfold maxLen; simp), hp.rdLit (b := s41) (sz := 1) (enc := enInt) [1, 2, 3] (fun _ => rfl) rfl (by unfold maxLen; simp), fun y hy => by
            simp only [List.mem_cons, List.mem_nil_iff, or_false] at hy
            rcases hy with rfl | rfl | rfl
            · exact hp.rdLit (b := u41) (sz := 1) (enc := enInt) [1] (fun _ => rfl) rfl (by unfold maxLen; simp)
            · exact hp.rdLit (b := v41) (sz := 1) (enc := enInt) [6] (fun _ => rfl) rfl (by unfold maxLen; simp)
            · exact hp.rdLit (b := x41) (sz := 1) (enc := enInt) [8] (fun _ => rfl) rfl (by unfold maxLen; simp)⟩)) rfl rfl rfl ?_
      refine gj_step (y_neq rfl rfl) rfl rfl rfl (?_)
      refine gj_nil ?_
      refine ej_th ?_
      refine cj_cond rfl (fun h76 => ?_) (fun h76 => ?_)
      · rw [hxE] at h76
        exact absurd h76 (by decide)
      · have h76b := h76
        try simp only [sxb] at h76
        refine cj_skip (ej_blk (ej_th ?_))
        refine cj_regionG (gj_step (y_move rfl) rfl rfl rfl (gj_step (y_add rfl rfl (by omega)) rfl rfl rfl (gj_step (y_assign rfl) rfl rfl rfl (gj_nil ?_))))
        exact ej_nx (i + 1) (by omega) (by omega) ⟨rfl, rfl, trivial⟩
    · have h68b := h68
      try simp only [sxb] at h68
      refine cj_exit (ej_then_exit (ej_then_exit (ej_blk_hit ?_)))
      exact ej_ct () trivial trivial
  · rintro _ -
    dsimp only [List.cons_append, List.nil_append]
    refine cj_cuti (X := Unit) [] trivial (fun _ => True) (fun _ => []) (fun _ => []) (fun _ => []) ?_ ?_
    · refine cj_seq ?_
      refine cj_regionG (gj_step (y_assign rfl) rfl rfl rfl (gj_nil ?_))
      refine ej_th (cj_block ?_)
      refine cj_lpi (X := Nat) [] (fun i => i ≤ 8) (fun i => [(3, .int .i64 (i : Nat))]) (fun i => []) (fun i => []) (fun i => 8 - i) 0 (by omega) ⟨rfl, trivial⟩ ?_
      rintro i hi
      dsimp only [List.cons_append, List.nil_append]
      refine cj_seq (cj_seq ?_)
      refine cj_regionG (gj_step (y_move rfl) rfl rfl rfl (gj_step (y_lss rfl rfl) rfl rfl rfl (gj_nil ?_)))
      refine ej_th ?_
      refine cj_cond rfl (fun h78 => ?_) (fun h78 => ?_)
      · have h78b := h78
        try simp only [sxb] at h78
        obtain ⟨v, hv⟩ : ∃ v, tblK[i]? = some v := ⟨_, List.getElem?_eq_getElem (show i < 8 by omega)⟩
        refine cj_skip (ej_th (cj_seq (cj_block (cj_seq (cj_region ?_)))))
        refine oj_callR (X := { z : StrV × Nat × Nat // z.1.s = exS }) (fun z => .agg #[.slice z.1.1.Ar z.1.1.rooms.length z.1.1.cr, .slice z.1.1.Ag z.1.1.gates.length z.1.1.cg, .slice z.1.1.As z.1.1.staff.length z.1.1.cs]) (fun z => [strF (fun b => z.1.2.1 ≤ b ∧ b < z.1.2.2) z.1.1]) Try.call40 rfl (fun w1 hp => (k_strong w1).mono fun e w2 ⟨s, h1, h2, h3, h4⟩ => ⟨⟨(s, w1.heap.size, w2.heap.size), h1⟩, h2, h3, fun g hg => by
          rw [List.mem_singleton.1 hg]
          exact ⟨h4, fun b hb => .inr hb⟩⟩) rfl ?_
        rintro ⟨⟨s82, n82, m82⟩, he82⟩
        dsimp only [List.cons_append, List.nil_append] at he82 ⊢
        refine oj_step (y_move rfl) rfl rfl rfl ?_
        refine oj_step (y_call Try.call13 rfl (fun w hp => k_Enter s82 (i : Nat) w (str_rd hp (.head _)))) rfl rfl rfl ?_
        refine oj_step (y_move rfl) rfl rfl rfl ?_
        refine oj_step (y_extract rfl rfl) rfl rfl rfl ?_
        refine oj_step (y_extract rfl rfl) rfl rfl rfl ?_
        refine oj_step (y_assign rfl) rfl rfl rfl ?_
        refine oj_step (y_assign rfl) rfl rfl rfl ?_
        refine oj_nil ?_
        refine ej_th (cj_seq ?_)
        obtain ⟨k1, k2⟩ := ex_Ent he82 i (by omega)
        rw [List.getD_eq_getElem?_getD, hv] at k2
        change EntV s82 (i : Nat) = v at k2
        rw [k1, k2]
        refine cj_region ?_
        refine oj_step (y_move rfl) rfl rfl rfl ?_
        refine oj_step (y_neq rfl rfl) rfl rfl rfl ?_
        refine oj_step (y_move rfl) rfl rfl rfl ?_
        refine oj_yes rfl rfl rfl ?_
        refine oj_step (y_move rfl) rfl rfl rfl ?_
        refine oj_yes rfl rfl rfl ?_
        refine oj_buildSlice (cs := [.int .i64 1, .int .i64 3, .int .i64 1, .int .i64 7, .int .i64 3, .int .i64 7, .int .i64 7, .int .i64 7]) [.int .i64 0, .int .i64 0, .int .i64 0, .int .i64 0, .int .i64 0, .int .i64 0, .int .i64 0, .int .i64 0] Try.underlying24 Try.sizeOf3 Try.zeroValue3 rfl rfl (by kernel_rfl) (by kernel_rfl) rfl (fun b91 => ?_)
        refine oj_yes rfl rfl rfl ?_
        refine oj_step (y_move rfl) rfl rfl rfl ?_
        refine oj_yes rfl rfl rfl ?_
        refine oj_step (y_ixR (reads_lit (sz := 1) (enc := enInt) tblK (fun _ => rfl) rfl) Try.underlying24 Try.sizeOf3 rfl rfl (show (0 : Int) ≤ (i : Nat) ∧ ((i : Nat) : Int) < 8 by omega)) rfl rfl rfl ?_
        refine oj_yes rfl rfl rfl ?_
        refine oj_step (y_ld0 (reads_lit (sz := 1) (enc := enInt) tblK (fun _ => rfl) rfl) Try.isAgg3 rfl hv rfl) rfl rfl rfl ?_
        refine oj_yes rfl rfl rfl ?_
        refine oj_step (y_neq rfl rfl) rfl rfl rfl ?_
        refine oj_step (y_pick rfl rfl rfl) rfl rfl rfl ?_
        refine oj_nil ?_
        refine ej_th ?_
        refine cj_condF rfl (by simp) ?_
        refine cj_skip (ej_blk (ej_th ?_))
        refine cj_regionG (gj_step (y_move rfl) rfl rfl rfl (gj_step (y_add rfl rfl (by omega)) rfl rfl rfl (gj_step (y_assign rfl) rfl rfl rfl (gj_nil ?_))))
        exact ej_nx (i + 1) (by omega) (by omega) ⟨rfl, trivial⟩
      · have h78b := h78
        try simp only [sxb] at h78
        refine cj_exit (ej_then_exit (ej_then_exit (ej_blk_hit ?_)))
        exact ej_ct () trivial trivial
    · rintro _ -
      dsimp only [List.cons_append, List.nil_append]
      refine cj_seq (cj_region ?_)
      refine oj_callR (X := { z : StrV × Nat × Nat // z.1.s = exS }) (fun z => .agg #[.slice z.1.1.Ar z.1.1.rooms.length z.1.1.cr, .slice z.1.1.Ag z.1.1.gates.length z.1.1.cg, .slice z.1.1.As z.1.1.staff.length z.1.1.cs]) (fun z => [strF (fun b => z.1.2.1 ≤ b ∧ b < z.1.2.2) z.1.1]) Try.call40 rfl (fun w1 hp => (k_strong w1).mono fun e w2 ⟨s, h1, h2, h3, h4⟩ => ⟨⟨(s, w1.heap.size, w2.heap.size), h1⟩, h2, h3, fun g hg => by
        rw [List.mem_singleton.1 hg]
        exact ⟨h4, fun b hb => .inr hb⟩⟩) rfl ?_
      rintro ⟨⟨s98, n98, m98⟩, he98⟩
      dsimp only [List.cons_append, List.nil_append] at he98 ⊢
      refine oj_step (y_call Try.call13 rfl (fun w hp => k_Enter s98 8 w (str_rd hp (.head _)))) rfl rfl rfl ?_
      refine oj_step (y_move rfl) rfl rfl rfl ?_
      refine oj_step (y_extract rfl rfl) rfl rfl rfl ?_
      refine oj_step (y_extract rfl rfl) rfl rfl rfl ?_
      refine oj_step (y_assign rfl) rfl rfl rfl ?_
      refine oj_step (y_assign rfl) rfl rfl rfl ?_
      refine oj_nil ?_
      refine ej_th (cj_seq (cj_region ?_))
      refine oj_callR (X := { z : StrV × Nat × Nat // z.1.s = exS }) (fun z => .agg #[.slice z.1.1.Ar z.1.1.rooms.length z.1.1.cr, .slice z.1.1.Ag z.1.1.gates.length z.1.1.cg, .slice z.1.1.As z.1.1.staff.length z.1.1.cs]) (fun z => [strF (fun b => z.1.2.1 ≤ b ∧ b < z.1.2.2) z.1.1]) Try.call40 rfl (fun w1 hp => (k_strong w1).mono fun e w2 ⟨s, h1, h2, h3, h4⟩ => ⟨⟨(s, w1.heap.size, w2.heap.size), h1⟩, h2, h3, fun g hg => by
        rw [List.mem_singleton.1 hg]
        exact ⟨h4, fun b hb => .inr hb⟩⟩) rfl ?_
      rintro ⟨⟨s103, n103, m103⟩, he103⟩
      dsimp only [List.cons_append, List.nil_append] at he103 ⊢
      refine oj_step (y_call Try.call17 rfl (fun w hp => k_Closed s103 0 8 w (str_rd hp (.head _)))) rfl rfl rfl ?_
      refine oj_step (y_move rfl) rfl rfl rfl ?_
      refine oj_step (y_extract rfl rfl) rfl rfl rfl ?_
      refine oj_step (y_extract rfl rfl) rfl rfl rfl ?_
      refine oj_step (y_assign rfl) rfl rfl rfl ?_
      refine oj_step (y_assign rfl) rfl rfl rfl ?_
      refine oj_nil ?_
      refine ej_th (cj_seq (cj_region ?_))
      refine oj_callR (X := { z : StrV × Nat × Nat // z.1.s = exS }) (fun z => .agg #[.slice z.1.1.Ar z.1.1.rooms.length z.1.1.cr, .slice z.1.1.Ag z.1.1.gates.length z.1.1.cg, .slice z.1.1.As z.1.1.staff.length z.1.1.cs]) (fun z => [strF (fun b => z.1.2.1 ≤ b ∧ b < z.1.2.2) z.1.1]) Try.call40 rfl (fun w1 hp => (k_strong w1).mono fun e w2 ⟨s, h1, h2, h3, h4⟩ => ⟨⟨(s, w1.heap.size, w2.heap.size), h1⟩, h2, h3, fun g hg => by
        rw [List.mem_singleton.1 hg]
        exact ⟨h4, fun b hb => .inr hb⟩⟩) rfl ?_
      rintro ⟨⟨s108, n108, m108⟩, he108⟩
      dsimp only [List.cons_append, List.nil_append] at he108 ⊢
      refine oj_step (y_call Try.call17 rfl (fun w hp => k_Closed s108 0 6 w (str_rd hp (.head _)))) rfl rfl rfl ?_
      refine oj_step (y_move rfl) rfl rfl rfl ?_
      refine oj_step (y_extract rfl rfl) rfl rfl rfl ?_
      refine oj_step (y_extract rfl rfl) rfl rfl rfl ?_
      refine oj_step (y_assign rfl) rfl rfl rfl ?_
      refine oj_step (y_assign rfl) rfl rfl rfl ?_
      refine oj_nil ?_
      refine ej_th (cj_seq (cj_region ?_))
      refine oj_callR (X := { z : StrV × Nat × Nat // z.1.s = exS }) (fun z => .agg #[.slice z.1.1.Ar z.1.1.rooms.length z.1.1.cr, .slice z.1.1.Ag z.1.1.gates.length z.1.1.cg, .slice z.1.1.As z.1.1.staff.length z.1.1.cs]) (fun z => [strF (fun b => z.1.2.1 ≤ b ∧ b < z.1.2.2) z.1.1]) Try.call40 rfl (fun w1 hp => (k_strong w1).mono fun e w2 ⟨s, h1, h2, h3, h4⟩ => ⟨⟨(s, w1.heap.size, w2.heap.size), h1⟩, h2, h3, fun g hg => by
        rw [List.mem_singleton.1 hg]
        exact ⟨h4, fun b hb => .inr hb⟩⟩) rfl ?_
      rintro ⟨⟨s113, n113, m113⟩, he113⟩
      dsimp only [List.cons_append, List.nil_append] at he113 ⊢
      refine oj_callS (fun A c => .tuple #[.slice A (intsL (wayL s113 1 2)).length c, .int .i64 (wayE s113 1 2)]) 1 enInt (intsL (wayL s113 1 2)) Try.call35 rfl (fun w hp => k_Way s113 1 2 w (str_rd hp (.head _))) rfl (fun A114 c114 fp114 hfp114 => ?_)
      rw [(ex_K he113).2.2.2.2.1]
      refine oj_step (y_move rfl) rfl rfl rfl ?_
      refine oj_step (y_extract rfl rfl) rfl rfl rfl ?_
      refine oj_step (y_extract rfl rfl) rfl rfl rfl ?_
      refine oj_step (y_assign rfl) rfl rfl rfl ?_
      refine oj_step (y_assign rfl) rfl rfl rfl ?_
      refine oj_nil ?_
      refine ej_th (cj_seq (cj_region ?_))
      refine oj_callR (X := { z : StrV × Nat × Nat // z.1.s = exS }) (fun z => .agg #[.slice z.1.1.Ar z.1.1.rooms.length z.1.1.cr, .slice z.1.1.Ag z.1.1.gates.length z.1.1.cg, .slice z.1.1.As z.1.1.staff.length z.1.1.cs]) (fun z => [strF (fun b => z.1.2.1 ≤ b ∧ b < z.1.2.2) z.1.1]) Try.call40 rfl (fun w1 hp => (k_strong w1).mono fun e w2 ⟨s, h1, h2, h3, h4⟩ => ⟨⟨(s, w1.heap.size, w2.heap.size), h1⟩, h2, h3, fun g hg => by
        rw [List.mem_singleton.1 hg]
        exact ⟨h4, fun b hb => .inr hb⟩⟩) rfl ?_
      rintro ⟨⟨s118, n118, m118⟩, he118⟩
      dsimp only [List.cons_append, List.nil_append] at he118 ⊢
      refine oj_callS (fun A c => .tuple #[.slice A (intsL (wayL s118 1 3)).length c, .int .i64 (wayE s118 1 3)]) 1 enInt (intsL (wayL s118 1 3)) Try.call35 rfl (fun w hp => k_Way s118 1 3 w (str_rd hp (.head _))) rfl (fun A119 c119 fp119 hfp119 => ?_)
      rw [(ex_K he118).2.2.2.2.2.1]
      refine oj_step (y_move rfl) rfl rfl rfl ?_
      refine oj_step (y_extract rfl rfl) rfl rfl rfl ?_
      refine oj_step (y_extract rfl rfl) rfl rfl rfl ?_
      refine oj_step (y_assign rfl) rfl rfl rfl ?_
      refine oj_step (y_assign rfl) rfl rfl rfl ?_
      refine oj_nil ?_
      refine ej_th (cj_seq (cj_region ?_))
      refine oj_callR (X := { z : StrV × Nat × Nat // z.1.s = exS }) (fun z => .agg #[.slice z.1.1.Ar z.1.1.rooms.length z.1.1.cr, .slice z.1.1.Ag z.1.1.gates.length z.1.1.cg, .slice z.1.1.As z.1.1.staff.length z.1.1.cs]) (fun z => [strF (fun b => z.1.2.1 ≤ b ∧ b < z.1.2.2) z.1.1]) Try.call40 rfl (fun w1 hp => (k_strong w1).mono fun e w2 ⟨s, h1, h2, h3, h4⟩ => ⟨⟨(s, w1.heap.size, w2.heap.size), h1⟩, h2, h3, fun g hg => by
        rw [List.mem_singleton.1 hg]
        exact ⟨h4, fun b hb => .inr hb⟩⟩) rfl ?_
      rintro ⟨⟨s123, n123, m123⟩, he123⟩
      dsimp only [List.cons_append, List.nil_append] at he123 ⊢
      refine oj_buildSlice (cs := [.int .i64 1]) [.int .i64 0] Try.underlying24 Try.sizeOf3 Try.zeroValue3 rfl rfl (by kernel_rfl) (by kernel_rfl) rfl (fun b124 => ?_)
      refine oj_step (y_call Try.call37 rfl (fun w hp => k_Opens s123 3 [1] (some ⟨b124, 0, none⟩) 1 w (str_rd hp (.head _)) (hp.rdLit (b := b124) (sz := 1) (enc := enInt) [1] (fun _ => rfl) rfl (by unfold maxLen; simp)))) rfl rfl rfl ?_
      refine oj_step (y_move rfl) rfl rfl rfl ?_
      refine oj_step (y_extract rfl rfl) rfl rfl rfl ?_
      refine oj_step (y_extract rfl rfl) rfl rfl rfl ?_
      refine oj_step (y_assign rfl) rfl rfl rfl ?_
      refine oj_step (y_assign rfl) rfl rfl rfl ?_
      refine oj_nil ?_
      refine ej_th (cj_seq (cj_region ?_))
      refine oj_callR (X := { z : StrV × Nat × Nat // z.1.s = exS }) (fun z => .agg #[.slice z.1.1.Ar z.1.1.rooms.length z.1.1.cr, .slice z.1.1.Ag z.1.1.gates.length z.1.1.cg, .slice z.1.1.As z.1.1.staff.length z.1.1.cs]) (fun z => [strF (fun b => z.1.2.1 ≤ b ∧ b < z.1.2.2) z.1.1]) Try.call40 rfl (fun w1 hp => (k_strong w1).mono fun e w2 ⟨s, h1, h2, h3, h4⟩ => ⟨⟨(s, w1.heap.size, w2.heap.size), h1⟩, h2, h3, fun g hg => by
        rw [List.mem_singleton.1 hg]
        exact ⟨h4, fun b hb => .inr hb⟩⟩) rfl ?_
      rintro ⟨⟨s129, n129, m129⟩, he129⟩
      dsimp only [List.cons_append, List.nil_append] at he129 ⊢
      refine oj_buildSlice (cs := [.int .i64 0, .int .i64 0]) [.int .i64 0, .int .i64 0] Try.underlying24 Try.sizeOf3 Try.zeroValue3 rfl rfl (by kernel_rfl) (by kernel_rfl) rfl (fun b130 => ?_)
      refine oj_step (y_call Try.call37 rfl (fun w hp => k_Opens s129 3 [0, 0] (some ⟨b130, 0, none⟩) 2 w (str_rd hp (.head _)) (hp.rdLit (b := b130) (sz := 1) (enc := enInt) [0, 0] (fun _ => rfl) rfl (by unfold maxLen; simp)))) rfl rfl rfl ?_
      refine oj_step (y_move rfl) rfl rfl rfl ?_
      refine oj_step (y_extract rfl rfl) rfl rfl rfl ?_
      refine oj_step (y_extract rfl rfl) rfl rfl rfl ?_
      refine oj_step (y_assign rfl) rfl rfl rfl ?_
      refine oj_step (y_assign rfl) rfl rfl rfl ?_
      refine oj_nil ?_
      refine ej_th (cj_seq (cj_region ?_))
      refine oj_callR (X := { z : StrV × Nat × Nat // z.1.s = exS }) (fun z => .agg #[.slice z.1.1.Ar z.1.1.rooms.length z.1.1.cr, .slice z.1.1.Ag z.1.1.gates.length z.1.1.cg, .slice z.1.1.As z.1.1.staff.length z.1.1.cs]) (fun z => [strF (fun b => z.1.2.1 ≤ b ∧ b < z.1.2.2) z.1.1]) Try.call40 rfl (fun w1 hp => (k_strong w1).mono fun e w2 ⟨s, h1, h2, h3, h4⟩ => ⟨⟨(s, w1.heap.size, w2.heap.size), h1⟩, h2, h3, fun g hg => by
        rw [List.mem_singleton.1 hg]
        exact ⟨h4, fun b hb => .inr hb⟩⟩) rfl ?_
      rintro ⟨⟨s135, n135, m135⟩, he135⟩
      dsimp only [List.cons_append, List.nil_append] at he135 ⊢
      refine oj_buildSlice (cs := [.int .i64 3]) [.int .i64 0] Try.underlying24 Try.sizeOf3 Try.zeroValue3 rfl rfl (by kernel_rfl) (by kernel_rfl) rfl (fun b136 => ?_)
      refine oj_step (y_call Try.call37 rfl (fun w hp => k_Opens s135 3 [3] (some ⟨b136, 0, none⟩) 1 w (str_rd hp (.head _)) (hp.rdLit (b := b136) (sz := 1) (enc := enInt) [3] (fun _ => rfl) rfl (by unfold maxLen; simp)))) rfl rfl rfl ?_
      refine oj_step (y_move rfl) rfl rfl rfl ?_
      refine oj_step (y_extract rfl rfl) rfl rfl rfl ?_
      refine oj_step (y_extract rfl rfl) rfl rfl rfl ?_
      refine oj_step (y_assign rfl) rfl rfl rfl ?_
      refine oj_step (y_assign rfl) rfl rfl rfl ?_
      refine oj_nil ?_
      refine ej_th (cj_seq (cj_region ?_))
      refine oj_callR (X := { z : StrV × Nat × Nat // z.1.s = exS }) (fun z => .agg #[.slice z.1.1.Ar z.1.1.rooms.length z.1.1.cr, .slice z.1.1.Ag z.1.1.gates.length z.1.1.cg, .slice z.1.1.As z.1.1.staff.length z.1.1.cs]) (fun z => [strF (fun b => z.1.2.1 ≤ b ∧ b < z.1.2.2) z.1.1]) Try.call40 rfl (fun w1 hp => (k_strong w1).mono fun e w2 ⟨s, h1, h2, h3, h4⟩ => ⟨⟨(s, w1.heap.size, w2.heap.size), h1⟩, h2, h3, fun g hg => by
        rw [List.mem_singleton.1 hg]
        exact ⟨h4, fun b hb => .inr hb⟩⟩) rfl ?_
      rintro ⟨⟨s141, n141, m141⟩, he141⟩
      dsimp only [List.cons_append, List.nil_append] at he141 ⊢
      refine oj_callS (fun A c => .tuple #[.slice A (intsL (wayL s141 0 0)).length c, .int .i64 (wayE s141 0 0)]) 1 enInt (intsL (wayL s141 0 0)) Try.call35 rfl (fun w hp => k_Way s141 0 0 w (str_rd hp (.head _))) rfl (fun A142 c142 fp142 hfp142 => ?_)
      rw [(ex_K he141).2.2.2.2.2.2.2.2.2.1, (ex_K he141).2.2.2.2.2.2.2.2.2.2.1]
      refine oj_step (y_move rfl) rfl rfl rfl ?_
      refine oj_step (y_extract rfl rfl) rfl rfl rfl ?_
      refine oj_step (y_extract rfl rfl) rfl rfl rfl ?_
      refine oj_step (y_assign rfl) rfl rfl rfl ?_
      refine oj_step (y_assign rfl) rfl rfl rfl ?_
      refine oj_nil ?_
      refine ej_th ?_
      refine cj_cuti (X := Unit) [(7, _), (9, _), (11, _), (13, _), (15, _)] ⟨rfl, rfl, rfl, rfl, rfl, trivial⟩ (fun _ => True) (fun _ => []) (fun _ => []) (fun _ => []) ?_ ?_
      · refine cj_seq ?_
        rw [(ex_K he98).1, (ex_K he103).2.1, (ex_K he108).2.2.1, (ex_K he108).2.2.2.1, (ex_K he123).2.2.2.2.2.2.1, (ex_K he129).2.2.2.2.2.2.2.1, (ex_K he135).2.2.2.2.2.2.2.2.1]
        refine cj_region ?_
        refine oj_step (y_move rfl) rfl rfl rfl ?_
        refine oj_step (y_neq rfl rfl) rfl rfl rfl ?_
        refine oj_step (y_move rfl) rfl rfl rfl ?_
        refine oj_yes rfl rfl rfl ?_
        refine oj_step (y_move rfl) rfl rfl rfl ?_
        refine oj_yes rfl rfl rfl ?_
        refine oj_step (y_neq rfl rfl) rfl rfl rfl ?_
        refine oj_step (y_pick rfl rfl rfl) rfl rfl rfl ?_
        refine oj_step (y_move rfl) rfl rfl rfl ?_
        refine oj_yes rfl rfl rfl ?_
        refine oj_step (y_move rfl) rfl rfl rfl ?_
        refine oj_yes rfl rfl rfl ?_
        refine oj_step (y_neq rfl rfl) rfl rfl rfl ?_
        refine oj_step (y_pick rfl rfl rfl) rfl rfl rfl ?_
        refine oj_step (y_move rfl) rfl rfl rfl ?_
        refine oj_yes rfl rfl rfl ?_
        refine oj_step (y_move rfl) rfl rfl rfl ?_
        refine oj_step (y_pick rfl rfl rfl) rfl rfl rfl ?_
        refine oj_step (y_move rfl) rfl rfl rfl ?_
        refine oj_yes rfl rfl rfl ?_
        refine oj_step (y_move rfl) rfl rfl rfl ?_
        refine oj_yes rfl rfl rfl ?_
        refine oj_step (y_neq rfl rfl) rfl rfl rfl ?_
        refine oj_step (y_pick rfl rfl rfl) rfl rfl rfl ?_
        refine oj_step (y_move rfl) rfl rfl rfl ?_
        refine oj_yes rfl rfl rfl ?_
        refine oj_step (y_move rfl) rfl rfl rfl ?_
        refine oj_yes rfl rfl rfl ?_
        refine oj_step (y_neq rfl rfl) rfl rfl rfl ?_
        refine oj_step (y_pick rfl rfl rfl) rfl rfl rfl ?_
        refine oj_step (y_move rfl) rfl rfl rfl ?_
        refine oj_yes rfl rfl rfl ?_
        refine oj_step (y_move rfl) rfl rfl rfl ?_
        refine oj_yes rfl rfl rfl ?_
        refine oj_step (y_neq rfl rfl) rfl rfl rfl ?_
        refine oj_step (y_pick rfl rfl rfl) rfl rfl rfl ?_
        refine oj_step (y_move rfl) rfl rfl rfl ?_
        refine oj_yes rfl rfl rfl ?_
        refine oj_step (y_move rfl) rfl rfl rfl ?_
        refine oj_yes rfl rfl rfl ?_
        refine oj_step (y_neq rfl rfl) rfl rfl rfl ?_
        refine oj_step (y_pick rfl rfl rfl) rfl rfl rfl ?_
        refine oj_step (y_move rfl) rfl rfl rfl ?_
        refine oj_yes rfl rfl rfl ?_
        refine oj_step (y_move rfl) rfl rfl rfl ?_
        refine oj_yes rfl rfl rfl ?_
        refine oj_step (y_neq rfl rfl) rfl rfl rfl ?_
        refine oj_step (y_pick rfl rfl rfl) rfl rfl rfl ?_
        refine oj_step (y_move rfl) rfl rfl rfl ?_
        refine oj_yes rfl rfl rfl ?_
        refine oj_step (y_move rfl) rfl rfl rfl ?_
        refine oj_yes rfl rfl rfl ?_
        refine oj_step (y_neq rfl rfl) rfl rfl rfl ?_
        refine oj_step (y_pick rfl rfl rfl) rfl rfl rfl ?_
        refine oj_step (y_move rfl) rfl rfl rfl ?_
        refine oj_yes rfl rfl rfl ?_
        refine oj_step (y_move rfl) rfl rfl rfl ?_
        refine oj_yes rfl rfl rfl ?_
        refine oj_step (y_lenA Try.underlying24 rfl) rfl rfl rfl ?_
        refine oj_yes rfl rfl rfl ?_
        refine oj_step (y_neq rfl rfl) rfl rfl rfl ?_
        refine oj_step (y_pick rfl rfl rfl) rfl rfl rfl ?_
        refine oj_nil ?_
        refine ej_th ?_
        refine cj_condF rfl (by decide) ?_
        refine cj_skip ?_
        exact ej_ct () trivial ⟨rfl, rfl, rfl, rfl, rfl, trivial⟩
      · rintro _ -
        dsimp only [List.cons_append, List.nil_append]
        refine cj_seq (cj_region ?_)
        refine oj_callR (X := { z : StrV × Nat × Nat // z.1.s = exS }) (fun z => .agg #[.slice z.1.1.Ar z.1.1.rooms.length z.1.1.cr, .slice z.1.1.Ag z.1.1.gates.length z.1.1.cg, .slice z.1.1.As z.1.1.staff.length z.1.1.cs]) (fun z => [strF (fun b => z.1.2.1 ≤ b ∧ b < z.1.2.2) z.1.1]) Try.call40 rfl (fun w1 hp => (k_strong w1).mono fun e w2 ⟨s, h1, h2, h3, h4⟩ => ⟨⟨(s, w1.heap.size, w2.heap.size), h1⟩, h2, h3, fun g hg => by
          rw [List.mem_singleton.1 hg]
          exact ⟨h4, fun b hb => .inr hb⟩⟩) rfl ?_
        rintro ⟨⟨s188, n188, m188⟩, he188⟩
        dsimp only [List.cons_append, List.nil_append] at he188 ⊢
        refine oj_callS (fun A c => .tuple #[.slice A (intsL (grpsV s188 0)).length c, .int .i64 (roomE s188 0)]) 1 enInt (intsL (grpsV s188 0)) Try.call20 rfl (fun w hp => k_Groups s188 0 w (str_rd hp (.head _))) rfl (fun A189 c189 fp189 hfp189 => ?_)
        rw [(ex_K he188).2.2.2.2.2.2.2.2.2.2.2.1, (ex_K he188).2.2.2.2.2.2.2.2.2.2.2.2.1]
        refine oj_step (y_move rfl) rfl rfl rfl ?_
        refine oj_step (y_extract rfl rfl) rfl rfl rfl ?_
        refine oj_step (y_extract rfl rfl) rfl rfl rfl ?_
        refine oj_step (y_assign rfl) rfl rfl rfl ?_
        refine oj_step (y_assign rfl) rfl rfl rfl ?_
        refine oj_nil ?_
        refine ej_th (cj_seq (cj_region ?_))
        refine oj_callR (X := { z : StrV × Nat × Nat // z.1.s = exS }) (fun z => .agg #[.slice z.1.1.Ar z.1.1.rooms.length z.1.1.cr, .slice z.1.1.Ag z.1.1.gates.length z.1.1.cg, .slice z.1.1.As z.1.1.staff.length z.1.1.cs]) (fun z => [strF (fun b => z.1.2.1 ≤ b ∧ b < z.1.2.2) z.1.1]) Try.call40 rfl (fun w1 hp => (k_strong w1).mono fun e w2 ⟨s, h1, h2, h3, h4⟩ => ⟨⟨(s, w1.heap.size, w2.heap.size), h1⟩, h2, h3, fun g hg => by
          rw [List.mem_singleton.1 hg]
          exact ⟨h4, fun b hb => .inr hb⟩⟩) rfl ?_
        rintro ⟨⟨s193, n193, m193⟩, he193⟩
        dsimp only [List.cons_append, List.nil_append] at he193 ⊢
        refine oj_callS (fun A c => .tuple #[.slice A (intsL (grdsV s193 0)).length c, .int .i64 (roomE s193 0)]) 1 enInt (intsL (grdsV s193 0)) Try.call23 rfl (fun w hp => k_Guards s193 0 w (str_rd hp (.head _))) rfl (fun A194 c194 fp194 hfp194 => ?_)
        rw [(ex_K he193).2.2.2.2.2.2.2.2.2.2.2.1, (ex_K he193).2.2.2.2.2.2.2.2.2.2.2.2.2]
        refine oj_step (y_move rfl) rfl rfl rfl ?_
        refine oj_step (y_extract rfl rfl) rfl rfl rfl ?_
        refine oj_step (y_extract rfl rfl) rfl rfl rfl ?_
        refine oj_step (y_assign rfl) rfl rfl rfl ?_
        refine oj_step (y_assign rfl) rfl rfl rfl ?_
        refine oj_nil ?_
        refine ej_th (cj_seq (cj_region ?_))
        refine oj_callR (X := { z : StrV × Nat × Nat // z.1.s = exS }) (fun z => .agg #[.slice z.1.1.Ar z.1.1.rooms.length z.1.1.cr, .slice z.1.1.Ag z.1.1.gates.length z.1.1.cg, .slice z.1.1.As z.1.1.staff.length z.1.1.cs]) (fun z => [strF (fun b => z.1.2.1 ≤ b ∧ b < z.1.2.2) z.1.1]) Try.call40 rfl (fun w1 hp => (k_strong w1).mono fun e w2 ⟨s, h1, h2, h3, h4⟩ => ⟨⟨(s, w1.heap.size, w2.heap.size), h1⟩, h2, h3, fun g hg => by
          rw [List.mem_singleton.1 hg]
          exact ⟨h4, fun b hb => .inr hb⟩⟩) rfl ?_
        rintro ⟨⟨s197, n197, m197⟩, he197⟩
        dsimp only [List.cons_append, List.nil_append] at he197 ⊢
        refine oj_alloc Try.zeroValue26 rfl rfl (fun b26 => ?_)
        refine oj_store rfl rfl rfl rfl Try.sizeOf26 rfl ?_
        refine oj_nil ?_
        refine ej_th (cj_seq (cj_region ?_))
        refine oj_step (y_fa fa26_1 rfl) rfl rfl rfl ?_
        refine oj_store rfl rfl rfl rfl Try.sizeOf23 rfl ?_
        refine oj_nil ?_
        refine ej_th (cj_seq (cj_region ?_))
        refine oj_step (y_loadN Try.isAgg26 Try.sizeOf26 rfl) rfl rfl rfl ?_
        refine oj_callS (fun A c => .tuple #[.slice A (intsL (grpsV (shutV s197) 1)).length c, .int .i64 (roomE (shutV s197) 1)]) 1 enInt (intsL (grpsV (shutV s197) 1)) Try.call20 rfl (fun w hp => k_Groups (shutV s197) 1 w ⟨(str_rd hp (.head _)).rooms, Rd.nil, (str_rd hp (.head _)).staff, fun y hy => by cases hy⟩) rfl (fun A201 c201 fp201 hfp201 => ?_)
        rw [(ex_S he197).1, (ex_S he197).2.1]
        refine oj_step (y_move rfl) rfl rfl rfl ?_
        refine oj_step (y_extract rfl rfl) rfl rfl rfl ?_
        refine oj_step (y_extract rfl rfl) rfl rfl rfl ?_
        refine oj_step (y_assign rfl) rfl rfl rfl ?_
        refine oj_step (y_assign rfl) rfl rfl rfl ?_
        refine oj_nil ?_
        refine ej_th (cj_seq (cj_region ?_))
        refine oj_step (y_loadN Try.isAgg26 Try.sizeOf26 rfl) rfl rfl rfl ?_
        refine oj_callS (fun A c => .tuple #[.slice A (intsL (grdsV (shutV s197) 1)).length c, .int .i64 (roomE (shutV s197) 1)]) 1 enInt (intsL (grdsV (shutV s197) 1)) Try.call23 rfl (fun w hp => k_Guards (shutV s197) 1 w ⟨(str_rd hp (.tail _ (.head _))).rooms, Rd.nil, (str_rd hp (.tail _ (.head _))).staff, fun y hy => by cases hy⟩) rfl (fun A206 c206 fp206 hfp206 => ?_)
        rw [(ex_S he197).1, (ex_S he197).2.2]
        refine oj_step (y_move rfl) rfl rfl rfl ?_
        refine oj_step (y_extract rfl rfl) rfl rfl rfl ?_
        refine oj_step (y_extract rfl rfl) rfl rfl rfl ?_
        refine oj_step (y_assign rfl) rfl rfl rfl ?_
        refine oj_step (y_assign rfl) rfl rfl rfl ?_
        refine oj_nil ?_
        refine ej_th ?_
        refine cj_cuti (X := Unit) [(7, _), (9, _), (11, _), (13, _), (15, _)] ⟨rfl, rfl, rfl, rfl, rfl, trivial⟩ (fun _ => True) (fun _ => []) (fun _ => []) (fun _ => []) ?_ ?_
        · refine cj_seq (cj_region ?_)
          refine oj_step (y_move rfl) rfl rfl rfl ?_
          refine oj_step (y_neq rfl rfl) rfl rfl rfl ?_
          refine oj_step (y_move rfl) rfl rfl rfl ?_
          refine oj_yes rfl rfl rfl ?_
          refine oj_step (y_move rfl) rfl rfl rfl ?_
          refine oj_yes rfl rfl rfl ?_
          refine oj_step (y_neq rfl rfl) rfl rfl rfl ?_
          refine oj_step (y_pick rfl rfl rfl) rfl rfl rfl ?_
          refine oj_step (y_move rfl) rfl rfl rfl ?_
          refine oj_yes rfl rfl rfl ?_
          refine oj_step (y_move rfl) rfl rfl rfl ?_
          refine oj_yes rfl rfl rfl ?_
          refine oj_step (y_neq rfl rfl) rfl rfl rfl ?_
          refine oj_step (y_pick rfl rfl rfl) rfl rfl rfl ?_
          refine oj_step (y_move rfl) rfl rfl rfl ?_
          refine oj_yes rfl rfl rfl ?_
          refine oj_step (y_move rfl) rfl rfl rfl ?_
          refine oj_yes rfl rfl rfl ?_
          refine oj_step (y_neq rfl rfl) rfl rfl rfl ?_
          refine oj_step (y_pick rfl rfl rfl) rfl rfl rfl ?_
          refine oj_step (y_move rfl) rfl rfl rfl ?_
          refine oj_yes rfl rfl rfl ?_
          refine oj_step (y_move rfl) rfl rfl rfl ?_
          refine oj_yes rfl rfl rfl ?_
          refine oj_buildSlice (cs := [.int .i64 0]) [.int .i64 0] Try.underlying24 Try.sizeOf3 Try.zeroValue3 rfl rfl (by kernel_rfl) (by kernel_rfl) rfl (fun b225 => ?_)
          refine oj_yes rfl rfl rfl ?_
          refine oj_step (y_call Try.call22 rfl (fun w hp => k_Same (intsL [0]) [0] A189 (some ⟨b225, 0, none⟩) c189 1 w hp.rd (hp.rdLit (b := b225) (sz := 1) (enc := enInt) [0] (fun _ => rfl) rfl (by unfold maxLen; simp)))) rfl rfl rfl ?_
          refine oj_yes rfl rfl rfl ?_
          refine oj_step (y_not rfl) rfl rfl rfl ?_
          refine oj_step (y_pick rfl rfl rfl) rfl rfl rfl ?_
          refine oj_step (y_move rfl) rfl rfl rfl ?_
          refine oj_yes rfl rfl rfl ?_
          refine oj_step (y_move rfl) rfl rfl rfl ?_
          refine oj_yes rfl rfl rfl ?_
          refine oj_step (y_lenA Try.underlying24 rfl) rfl rfl rfl ?_
          refine oj_yes rfl rfl rfl ?_
          refine oj_step (y_neq rfl rfl) rfl rfl rfl ?_
          refine oj_step (y_pick rfl rfl rfl) rfl rfl rfl ?_
          refine oj_step (y_move rfl) rfl rfl rfl ?_
          refine oj_yes rfl rfl rfl ?_
          refine oj_step (y_move rfl) rfl rfl rfl ?_
          refine oj_yes rfl rfl rfl ?_
          refine oj_step (y_lenA Try.underlying24 rfl) rfl rfl rfl ?_
          refine oj_yes rfl rfl rfl ?_
          refine oj_step (y_neq rfl rfl) rfl rfl rfl ?_
          refine oj_step (y_pick rfl rfl rfl) rfl rfl rfl ?_
          refine oj_step (y_move rfl) rfl rfl rfl ?_
          refine oj_yes rfl rfl rfl ?_
          refine oj_step (y_move rfl) rfl rfl rfl ?_
          refine oj_yes rfl rfl rfl ?_
          refine oj_buildSlice (cs := [.int .i64 0]) [.int .i64 0] Try.underlying24 Try.sizeOf3 Try.zeroValue3 rfl rfl (by kernel_rfl) (by kernel_rfl) rfl (fun b241 => ?_)
          refine oj_yes rfl rfl rfl ?_
          refine oj_step (y_call Try.call22 rfl (fun w hp => k_Same (intsL [0]) [0] A206 (some ⟨b241, 0, none⟩) c206 1 w hp.rd (hp.rdLit (b := b241) (sz := 1) (enc := enInt) [0] (fun _ => rfl) rfl (by unfold maxLen; simp)))) rfl rfl rfl ?_
          refine oj_yes rfl rfl rfl ?_
          refine oj_step (y_not rfl) rfl rfl rfl ?_
          refine oj_step (y_pick rfl rfl rfl) rfl rfl rfl ?_
          refine oj_nil ?_
          refine ej_th ?_
          refine cj_condF rfl (by decide) ?_
          refine cj_skip ?_
          exact ej_ct () trivial ⟨rfl, rfl, rfl, rfl, rfl, trivial⟩
        · rintro _ -
          dsimp only [List.cons_append, List.nil_append]
          refine cj_seq (cj_region ?_)
          refine oj_step (y_build (cs := [.int .i64 6, .int .i64 1, .int .i64 7, .int .i64 1, .int .i64 0, .int .i64 1, .int .i64 9, .int .i64 1]) st52 rfl (by kernel_rfl)) rfl rfl rfl ?_
          refine oj_step (y_build (cs := [.int .i64 6, .int .i64 1, .int .i64 7, .int .i64 1, .int .i64 0, .int .i64 1, .int .i64 9, .int .i64 1, .int .i64 44]) st72 rfl (by kernel_rfl)) rfl rfl rfl ?_
          refine oj_step (y_build (cs := [.int .i64 6, .int .i64 5, .int .i64 6, .int .i64 0, .int .i64 0, .int .i64 1, .int .i64 0, .int .i64 0]) st52 rfl (by kernel_rfl)) rfl rfl rfl ?_
          refine oj_step (y_build (cs := [.int .i64 6, .int .i64 5, .int .i64 6, .int .i64 0, .int .i64 0, .int .i64 1, .int .i64 0, .int .i64 0, .int .i64 44]) st72 rfl (by kernel_rfl)) rfl rfl rfl ?_
          refine oj_step (y_build (cs := [.int .i64 6, .int .i64 1, .int .i64 8, .int .i64 2, .int .i64 0, .int .i64 1, .int .i64 9, .int .i64 2]) st52 rfl (by kernel_rfl)) rfl rfl rfl ?_
          refine oj_step (y_build (cs := [.int .i64 6, .int .i64 1, .int .i64 8, .int .i64 2, .int .i64 0, .int .i64 1, .int .i64 9, .int .i64 2, .int .i64 46]) st72 rfl (by kernel_rfl)) rfl rfl rfl ?_
          refine oj_step (y_build (cs := [.int .i64 6, .int .i64 2, .int .i64 7, .int .i64 2, .int .i64 0, .int .i64 1, .int .i64 0, .int .i64 0]) st52 rfl (by kernel_rfl)) rfl rfl rfl ?_
          refine oj_step (y_build (cs := [.int .i64 6, .int .i64 2, .int .i64 7, .int .i64 2, .int .i64 0, .int .i64 1, .int .i64 0, .int .i64 0, .int .i64 46]) st72 rfl (by kernel_rfl)) rfl rfl rfl ?_
          refine oj_step (y_build (cs := [.int .i64 6, .int .i64 1, .int .i64 8, .int .i64 1, .int .i64 0, .int .i64 1, .int .i64 9, .int .i64 2]) st52 rfl (by kernel_rfl)) rfl rfl rfl ?_
          refine oj_step (y_build (cs := [.int .i64 6, .int .i64 1, .int .i64 8, .int .i64 1, .int .i64 0, .int .i64 1, .int .i64 9, .int .i64 2, .int .i64 47]) st72 rfl (by kernel_rfl)) rfl rfl rfl ?_
          refine oj_step (y_build (cs := [.int .i64 6, .int .i64 1, .int .i64 8, .int .i64 1, .int .i64 0, .int .i64 1, .int .i64 10, .int .i64 1]) st52 rfl (by kernel_rfl)) rfl rfl rfl ?_
          refine oj_step (y_build (cs := [.int .i64 6, .int .i64 1, .int .i64 8, .int .i64 1, .int .i64 0, .int .i64 1, .int .i64 10, .int .i64 1, .int .i64 48]) st72 rfl (by kernel_rfl)) rfl rfl rfl ?_
          refine oj_step (y_build (cs := [.int .i64 6, .int .i64 4, .int .i64 7, .int .i64 0, .int .i64 0, .int .i64 1, .int .i64 10, .int .i64 0]) st52 rfl (by kernel_rfl)) rfl rfl rfl ?_
          refine oj_step (y_build (cs := [.int .i64 6, .int .i64 4, .int .i64 7, .int .i64 0, .int .i64 0, .int .i64 1, .int .i64 10, .int .i64 0, .int .i64 48]) st72 rfl (by kernel_rfl)) rfl rfl rfl ?_
          refine oj_step (y_build (cs := [.int .i64 6, .int .i64 3, .int .i64 7, .int .i64 0, .int .i64 0, .int .i64 1, .int .i64 11, .int .i64 0]) st52 rfl (by kernel_rfl)) rfl rfl rfl ?_
          refine oj_step (y_build (cs := [.int .i64 6, .int .i64 3, .int .i64 7, .int .i64 0, .int .i64 0, .int .i64 1, .int .i64 11, .int .i64 0, .int .i64 48]) st72 rfl (by kernel_rfl)) rfl rfl rfl ?_
          refine oj_step (y_build (cs := [.int .i64 5, .int .i64 5, .int .i64 7, .int .i64 0, .int .i64 0, .int .i64 1, .int .i64 0, .int .i64 0]) st52 rfl (by kernel_rfl)) rfl rfl rfl ?_
          refine oj_step (y_build (cs := [.int .i64 5, .int .i64 5, .int .i64 7, .int .i64 0, .int .i64 0, .int .i64 1, .int .i64 0, .int .i64 0, .int .i64 43]) st72 rfl (by kernel_rfl)) rfl rfl rfl ?_
          refine oj_step (y_build (cs := [.int .i64 6, .int .i64 5, .int .i64 7, .int .i64 0, .int .i64 0, .int .i64 0, .int .i64 0, .int .i64 0]) st52 rfl (by kernel_rfl)) rfl rfl rfl ?_
          refine oj_step (y_build (cs := [.int .i64 6, .int .i64 5, .int .i64 7, .int .i64 0, .int .i64 0, .int .i64 0, .int .i64 0, .int .i64 0, .int .i64 43]) st72 rfl (by kernel_rfl)) rfl rfl rfl ?_
          refine oj_step (y_build (cs := [.int .i64 6, .int .i64 5, .int .i64 7, .int .i64 0, .int .i64 0, .int .i64 1, .int .i64 1, .int .i64 0]) st52 rfl (by kernel_rfl)) rfl rfl rfl ?_
          refine oj_step (y_build (cs := [.int .i64 6, .int .i64 5, .int .i64 7, .int .i64 0, .int .i64 0, .int .i64 1, .int .i64 1, .int .i64 0, .int .i64 43]) st72 rfl (by kernel_rfl)) rfl rfl rfl ?_
          refine oj_step (y_build (cs := [.int .i64 6, .int .i64 2, .int .i64 7, .int .i64 0, .int .i64 0, .int .i64 1, .int .i64 0, .int .i64 0]) st52 rfl (by kernel_rfl)) rfl rfl rfl ?_
          refine oj_step (y_build (cs := [.int .i64 6, .int .i64 2, .int .i64 7, .int .i64 0, .int .i64 0, .int .i64 1, .int .i64 0, .int .i64 0, .int .i64 43]) st72 rfl (by kernel_rfl)) rfl rfl rfl ?_
          refine oj_step (y_build (cs := [.int .i64 6, .int .i64 5, .int .i64 7, .int .i64 0, .int .i64 0, .int .i64 1, .int .i64 0, .int .i64 0]) st52 rfl (by kernel_rfl)) rfl rfl rfl ?_
          refine oj_step (y_build (cs := [.int .i64 6, .int .i64 5, .int .i64 7, .int .i64 0, .int .i64 0, .int .i64 1, .int .i64 0, .int .i64 0, .int .i64 0]) st72 rfl (by kernel_rfl)) rfl rfl rfl ?_
          refine oj_buildSlice (cs := [.int .i64 6, .int .i64 1, .int .i64 7, .int .i64 1, .int .i64 0, .int .i64 1, .int .i64 9, .int .i64 1, .int .i64 44, .int .i64 6, .int .i64 5, .int .i64 6, .int .i64 0, .int .i64 0, .int .i64 1, .int .i64 0, .int .i64 0, .int .i64 44, .int .i64 6, .int .i64 1, .int .i64 8, .int .i64 2, .int .i64 0, .int .i64 1, .int .i64 9, .int .i64 2, .int .i64 46, .int .i64 6, .int .i64 2, .int .i64 7, .int .i64 2, .int .i64 0, .int .i64 1, .int .i64 0, .int .i64 0, .int .i64 46, .int .i64 6, .int .i64 1, .int .i64 8, .int .i64 1, .int .i64 0, .int .i64 1, .int .i64 9, .int .i64 2, .int .i64 47, .int .i64 6, .int .i64 1, .int .i64 8, .int .i64 1, .int .i64 0, .int .i64 1, .int .i64 10, .int .i64 1, .int .i64 48, .int .i64 6, .int .i64 4, .int .i64 7, .int .i64 0, .int .i64 0, .int .i64 1, .int .i64 10, .int .i64 0, .int .i64 48, .int .i64 6, .int .i64 3, .int .i64 7, .int .i64 0, .int .i64 0, .int .i64 1, .int .i64 11, .int .i64 0, .int .i64 48, .int .i64 5, .int .i64 5, .int .i64 7, .int .i64 0, .int .i64 0, .int .i64 1, .int .i64 0, .int .i64 0, .int .i64 43, .int .i64 6, .int .i64 5, .int .i64 7, .int .i64 0, .int .i64 0, .int .i64 0, .int .i64 0, .int .i64 0, .int .i64 43, .int .i64 6, .int .i64 5, .int .i64 7, .int .i64 0, .int .i64 0, .int .i64 1, .int .i64 1, .int .i64 0, .int .i64 43, .int .i64 6, .int .i64 2, .int .i64 7, .int .i64 0, .int .i64 0, .int .i64 1, .int .i64 0, .int .i64 0, .int .i64 43, .int .i64 6, .int .i64 5, .int .i64 7, .int .i64 0, .int .i64 0, .int .i64 1, .int .i64 0, .int .i64 0, .int .i64 0]) [.int .i64 0, .int .i64 0, .int .i64 0, .int .i64 0, .int .i64 0, .int .i64 0, .int .i64 0, .int .i64 0, .int .i64 0, .int .i64 0, .int .i64 0, .int .i64 0, .int .i64 0, .int .i64 0, .int .i64 0, .int .i64 0, .int .i64 0, .int .i64 0, .int .i64 0, .int .i64 0, .int .i64 0, .int .i64 0, .int .i64 0, .int .i64 0, .int .i64 0, .int .i64 0, .int .i64 0, .int .i64 0, .int .i64 0, .int .i64 0, .int .i64 0, .int .i64 0, .int .i64 0, .int .i64 0, .int .i64 0, .int .i64 0, .int .i64 0, .int .i64 0, .int .i64 0, .int .i64 0, .int .i64 0, .int .i64 0, .int .i64 0, .int .i64 0, .int .i64 0, .int .i64 0, .int .i64 0, .int .i64 0, .int .i64 0, .int .i64 0, .int .i64 0, .int .i64 0, .int .i64 0, .int .i64 0, .int .i64 0, .int .i64 0, .int .i64 0, .int .i64 0, .int .i64 0, .int .i64 0, .int .i64 0, .int .i64 0, .int .i64 0, .int .i64 0, .int .i64 0, .int .i64 0, .int .i64 0, .int .i64 0, .int .i64 0, .int .i64 0, .int .i64 0, .int .i64 0, .int .i64 0, .int .i64 0, .int .i64 0, .int .i64 0, .int .i64 0, .int .i64 0, .int .i64 0, .int .i64 0, .int .i64 0, .int .i64 0, .int .i64 0, .int .i64 0, .int .i64 0, .int .i64 0, .int .i64 0, .int .i64 0, .int .i64 0, .int .i64 0, .int .i64 0, .int .i64 0, .int .i64 0, .int .i64 0, .int .i64 0, .int .i64 0, .int .i64 0, .int .i64 0, .int .i64 0, .int .i64 0, .int .i64 0, .int .i64 0, .int .i64 0, .int .i64 0, .int .i64 0, .int .i64 0, .int .i64 0, .int .i64 0, .int .i64 0, .int .i64 0, .int .i64 0, .int .i64 0, .int .i64 0, .int .i64 0, .int .i64 0, .int .i64 0, .int .i64 0] Try.underlying73 Try.sizeOf72 Try.zeroValue72 rfl rfl (by kernel_rfl) (by kernel_rfl) rfl (fun b271 => ?_)
          refine oj_step (y_assign rfl) rfl rfl rfl ?_
          refine oj_nil ?_
          refine ej_th ?_
          refine cj_cuti (X := Unit) [(7, _), (9, _), (11, _), (13, _), (15, _)] ⟨rfl, rfl, rfl, rfl, rfl, trivial⟩ (fun _ => True) (fun _ => []) (fun _ => []) (fun _ => []) ?_ ?_
          · refine cj_seq ?_
            refine cj_regionG (gj_step (y_assign rfl) rfl rfl rfl (gj_nil ?_))
            refine ej_th (cj_block ?_)
            refine cj_eqO [ownB b271 (cellsB 72 (testsK.flatMap encT))] rfl ?_
            refine cj_lpi (X := Nat) [(7, _), (9, _), (11, _), (13, _), (15, _), (29, _)] (fun i => i ≤ 13) (fun i => [(30, .int .i64 (i : Nat))]) (fun i => [ownB b271 (cellsB 72 (testsK.flatMap encT))]) (fun i => []) (fun i => 13 - i) 0 (by omega) ⟨rfl, rfl, rfl, rfl, rfl, rfl, rfl, trivial⟩ ?_
            rintro i hi
            dsimp only [List.cons_append, List.nil_append]
            refine cj_seq (cj_seq ?_)
            refine cj_regionG (gj_step (y_move rfl) rfl rfl rfl (gj_step (y_move rfl) rfl rfl rfl (gj_step (y_lenA Try.underlying73 rfl) rfl rfl rfl (gj_step (y_lss rfl rfl) rfl rfl rfl (gj_nil ?_)))))
            refine ej_th ?_
            refine cj_cond rfl (fun h275 => ?_) (fun h275 => ?_)
            · have h275b := h275
              try simp only [sxb] at h275
              obtain ⟨t, ht⟩ : ∃ t, testsK[i]? = some t := ⟨_, List.getElem?_eq_getElem (show i < 13 by omega)⟩
              obtain ⟨q1, q2, q3, q4⟩ := ex_T t (List.mem_of_getElem? ht)
              refine cj_skip (ej_th (cj_seq (cj_block ?_)))
              refine cj_cuti (X := Unit) [(30, _), (7, _), (9, _), (11, _), (13, _), (15, _), (29, _)] ⟨rfl, rfl, rfl, rfl, rfl, rfl, rfl, trivial⟩ (fun _ => True) (fun _ => [(32, .int .i64 (playAt exS (exL.take 2 ++ [t.1]) : Nat)), (33, .int .i64 (playE exS (exL.take 2 ++ [t.1])))]) (fun _ => [ownB b271 (cellsB 72 (testsK.flatMap encT))]) (fun _ => []) ?_ ?_
              · refine cj_plan 19 (by kernel_rfl) (by kernel_rfl) ?_
                refine pl_y 3 rfl (y_move rfl) rfl rfl rfl rfl (by kernel_rfl) ?_
                refine pl_y 4 rfl (y_move rfl) rfl rfl rfl rfl (by kernel_rfl) ?_
                refine pl_y 5 rfl (y_ixR (reads_lit (sz := 9) (enc := encT) testsK (fun _ => rfl) rfl) Try.underlying73 Try.sizeOf72 rfl rfl (show (0 : Int) ≤ (i : Nat) ∧ ((i : Nat) : Int) < 13 by omega)) rfl rfl rfl rfl (by kernel_rfl) ?_
                refine pl_y 6 rfl (y_faE fa72_0 rfl) rfl rfl rfl rfl (by kernel_rfl) ?_
                refine pl_y 7 rfl (y_ldN (j := 0) (vs := encCa t.1) (reads_lit (sz := 9) (enc := encT) testsK (fun _ => rfl) rfl) Try.isAgg52 Try.sizeOf52 rfl ht ⟨fun j hj => by rw [Nat.zero_add]; exact List.getElem?_append_left hj, rfl⟩) rfl rfl rfl rfl (by kernel_rfl) ?_
                refine pl_w3 0 8 15 (by kernel_rfl) rfl rfl (pl_fire rfl rfl rfl (by kernel_rfl) ?_) (pl_fire rfl rfl rfl (by kernel_rfl) ?_) (pl_fire rfl rfl rfl (by kernel_rfl) ?_)
                · refine oj_callR (X := { z : StrV × Nat × Nat // z.1.s = exS }) (fun z => .agg #[.slice z.1.1.Ar z.1.1.rooms.length z.1.1.cr, .slice z.1.1.Ag z.1.1.gates.length z.1.1.cg, .slice z.1.1.As z.1.1.staff.length z.1.1.cs]) (fun z => [strF (fun b => z.1.2.1 ≤ b ∧ b < z.1.2.2) z.1.1]) Try.call40 rfl (fun w1 hp => (k_strong w1).mono fun e w2 ⟨s, h1, h2, h3, h4⟩ => ⟨⟨(s, w1.heap.size, w2.heap.size), h1⟩, h2, h3, fun g hg => by
                    rw [List.mem_singleton.1 hg]
                    exact ⟨h4, fun b hb => .inr hb⟩⟩) rfl ?_
                  rintro ⟨⟨s279, n279, m279⟩, he279⟩
                  dsimp only [List.cons_append, List.nil_append] at he279 ⊢
                  refine oj_nil ?_
                  refine ej_pl (lt_y (y_ldN (j := 0) (vs := encCa t.1) (reads_lit (sz := 9) (enc := encT) testsK (fun _ => rfl) rfl) Try.isAgg52 Try.sizeOf52 rfl ht ⟨fun j hj => by rw [Nat.zero_add]; exact List.getElem?_append_left hj, rfl⟩) rfl (lt_y (y_faE fa72_0 rfl) rfl (lt_y (y_ixR (reads_lit (sz := 9) (enc := encT) testsK (fun _ => rfl) rfl) Try.underlying73 Try.sizeOf72 rfl rfl (show (0 : Int) ≤ (i : Nat) ∧ ((i : Nat) : Int) < 13 by omega)) rfl (lt_y (y_move rfl) rfl (lt_y (y_move rfl) rfl (lt_nil)))))) ?_
                  refine pl_w3 1 8 15 (by kernel_rfl) rfl rfl (pl_fire rfl rfl rfl (by kernel_rfl) ?_) (pl_fire rfl rfl rfl (by kernel_rfl) ?_) (pl_fire rfl rfl rfl (by kernel_rfl) ?_)
                  · refine oj_callL (X := Nat) (fun z => .slice (some ⟨z, 0, none⟩) 3 3) [] (fun z => [ow 52 8 encCa (some ⟨z, 0, none⟩) 3 exL]) Try.call41 rfl rfl (fun w1 hp => k_logO w1) rfl (fun l280 => ?_)
                    dsimp only [List.cons_append, List.nil_append]
                    refine oj_nil ?_
                    refine ej_pl (lt_y (y_ldN (j := 0) (vs := encCa t.1) (reads_lit (sz := 9) (enc := encT) testsK (fun _ => rfl) rfl) Try.isAgg52 Try.sizeOf52 rfl ht ⟨fun j hj => by rw [Nat.zero_add]; exact List.getElem?_append_left hj, rfl⟩) rfl (lt_y (y_faE fa72_0 rfl) rfl (lt_y (y_ixR (reads_lit (sz := 9) (enc := encT) testsK (fun _ => rfl) rfl) Try.underlying73 Try.sizeOf72 rfl rfl (show (0 : Int) ≤ (i : Nat) ∧ ((i : Nat) : Int) < 13 by omega)) rfl (lt_y (y_move rfl) rfl (lt_y (y_move rfl) rfl (lt_nil)))))) ?_
                    refine pl_y 2 rfl (y_sliceTo (xs := exL) 2 Try.underlying45 Try.sizeOf52 rfl rfl (by decide) (by decide)) rfl rfl rfl rfl (by kernel_rfl) ?_
                    refine pl_w2 8 15 (by kernel_rfl) rfl rfl (pl_fire rfl rfl rfl (by kernel_rfl) ?_) (pl_fire rfl rfl rfl (by kernel_rfl) ?_)
                    · refine oj_buildSlice (cs := [.int .i64 t.1.day, .int .i64 t.1.kind, .int .i64 t.1.bag, .int .i64 t.1.to_, .int .i64 t.1.by_, .int .i64 t.1.with_, .int .i64 t.1.mark, .int .i64 t.1.suits]) [.int .i64 0, .int .i64 0, .int .i64 0, .int .i64 0, .int .i64 0, .int .i64 0, .int .i64 0, .int .i64 0] Try.underlying45 Try.sizeOf52 Try.zeroValue52 rfl rfl (by kernel_rfl) (by kernel_rfl) rfl (fun b287 => ?_)
                      refine oj_nil ?_
                      refine ej_pl (lt_y (y_sliceTo (xs := exL) 2 Try.underlying45 Try.sizeOf52 rfl rfl (by decide) (by decide)) rfl (lt_w (by kernel_rfl) (lt_y (y_faE fa72_0 rfl) rfl (lt_y (y_ixR (reads_lit (sz := 9) (enc := encT) testsK (fun _ => rfl) rfl) Try.underlying73 Try.sizeOf72 rfl rfl (show (0 : Int) ≤ (i : Nat) ∧ ((i : Nat) : Int) < 13 by omega)) rfl (lt_y (y_move rfl) rfl (lt_y (y_move rfl) rfl (lt_nil))))))) ?_
                      refine pl_w2 9 15 (by kernel_rfl) rfl rfl (pl_fire rfl rfl rfl (by kernel_rfl) ?_) (pl_fire rfl rfl rfl (by kernel_rfl) ?_)
                      · refine oj_cutO (e := 52) (sz := 8) (enc := encCa) (A := some ⟨l280, 0, none⟩) (c := 3) (xs := exL.take 2) (ys := exL.drop 2) (fun _ => rfl) (fun h => by cases h) ?_
                        refine oj_append (xs := exL.take 2) (c := 3) el45 (fun _ => rfl) encCa_one rfl rfl rfl (reads_lit [t.1] (fun _ => rfl) rfl) (by unfold maxLen; simp) (by simp) rfl (fun A288 c288 => ?_)
                        refine oj_nil ?_
                        refine ej_pl (lt_w (by kernel_rfl) (lt_y (y_ldN (j := 0) (vs := encCa t.1) (reads_lit (sz := 9) (enc := encT) testsK (fun _ => rfl) rfl) Try.isAgg52 Try.sizeOf52 rfl ht ⟨fun j hj => by rw [Nat.zero_add]; exact List.getElem?_append_left hj, rfl⟩) rfl (lt_y (y_faE fa72_0 rfl) rfl (lt_y (y_ixR (reads_lit (sz := 9) (enc := encT) testsK (fun _ => rfl) rfl) Try.underlying73 Try.sizeOf72 rfl rfl (show (0 : Int) ≤ (i : Nat) ∧ ((i : Nat) : Int) < 13 by omega)) rfl (lt_y (y_move rfl) rfl (lt_y (y_move rfl) rfl (lt_nil))))))) ?_
                        refine pl_y 10 rfl (y_call Try.call30 rfl (fun w hp => k_Play s279 (exL.take 2 ++ [t.1]) A288 c288 w (str_rd hp (.head _)) (hp.rdO (fun _ => rfl) (by unfold maxLen; simp)))) rfl rfl rfl rfl (by kernel_rfl) ?_
                        refine pl_y 11 rfl (y_move rfl) rfl rfl rfl rfl (by kernel_rfl) ?_
                        refine pl_y 12 rfl (y_extract rfl rfl) rfl rfl rfl rfl (by kernel_rfl) ?_
                        refine pl_y 13 rfl (y_extract rfl rfl) rfl rfl rfl rfl (by kernel_rfl) ?_
                        refine pl_y 14 rfl (y_extract rfl rfl) rfl rfl rfl rfl (by kernel_rfl) ?_
                        refine pl_w1 15 (by kernel_rfl) rfl rfl (pl_fire rfl rfl rfl (by kernel_rfl) ?_)
                        refine oj_alloc Try.zeroValue48 rfl rfl (fun b31 => ?_)
                        refine oj_nil ?_
                        refine ej_pl (lt_y (y_extract rfl rfl) rfl (lt_y (y_extract rfl rfl) rfl (lt_y (y_extract rfl rfl) rfl (lt_y (y_move rfl) rfl (lt_y (y_call Try.call30 rfl (fun w hp => k_Play s279 (exL.take 2 ++ [t.1]) A288 c288 w (str_rd hp (.head _)) (hp.rdO (fun _ => rfl) (by unfold maxLen; simp)))) rfl (lt_y (y_sliceTo (xs := exL) 2 Try.underlying45 Try.sizeOf52 rfl rfl (by decide) (by decide)) rfl (lt_y (y_ldN (j := 0) (vs := encCa t.1) (reads_lit (sz := 9) (enc := encT) testsK (fun _ => rfl) rfl) Try.isAgg52 Try.sizeOf52 rfl ht ⟨fun j hj => by rw [Nat.zero_add]; exact List.getElem?_append_left hj, rfl⟩) rfl (lt_y (y_faE fa72_0 rfl) rfl (lt_y (y_ixR (reads_lit (sz := 9) (enc := encT) testsK (fun _ => rfl) rfl) Try.underlying73 Try.sizeOf72 rfl rfl (show (0 : Int) ≤ (i : Nat) ∧ ((i : Nat) : Int) < 13 by omega)) rfl (lt_y (y_move rfl) rfl (lt_y (y_move rfl) rfl (lt_nil)))))))))))) ?_
                        refine pl_w1 16 (by kernel_rfl) rfl rfl (pl_fire rfl rfl rfl (by kernel_rfl) ?_)
                        refine oj_store (vs := ((playB s279.s (exL.take 2 ++ [t.1])).flatMap encBa)) (n := 160) (hset := set_all _ _ (by rw [bf_len (playB_len _)]; rfl)) rfl rfl rfl (bf_one _) Try.sizeOf48 (bf_len (playB_len _)) ?_
                        refine oj_nil ?_
                        refine ej_pl (lt_y (y_extract rfl rfl) rfl (lt_y (y_extract rfl rfl) rfl (lt_w (by kernel_rfl) (lt_w (by kernel_rfl) (lt_w (by kernel_rfl) (lt_w (by kernel_rfl) (lt_w (by kernel_rfl) (lt_w (by kernel_rfl) (lt_w (by kernel_rfl) (lt_w (by kernel_rfl) (lt_w (by kernel_rfl) (lt_nil)))))))))))) ?_
                        refine pl_y 17 rfl (y_assign rfl) rfl rfl rfl rfl (by kernel_rfl) ?_
                        refine pl_y 18 rfl (y_assign rfl) rfl rfl rfl rfl (by kernel_rfl) ?_
                        refine pl_end (by kernel_rfl) ?_
                        rw [he279]
                        exact ej_ct () trivial ⟨rfl, rfl, rfl, rfl, rfl, rfl, rfl, rfl, rfl, trivial⟩
                      · refine oj_alloc Try.zeroValue48 rfl rfl (fun b31 => ?_)
                        refine oj_nil ?_
                        refine ej_pl (lt_y (y_sliceTo (xs := exL) 2 Try.underlying45 Try.sizeOf52 rfl rfl (by decide) (by decide)) rfl (lt_y (y_ldN (j := 0) (vs := encCa t.1) (reads_lit (sz := 9) (enc := encT) testsK (fun _ => rfl) rfl) Try.isAgg52 Try.sizeOf52 rfl ht ⟨fun j hj => by rw [Nat.zero_add]; exact List.getElem?_append_left hj, rfl⟩) rfl (lt_y (y_faE fa72_0 rfl) rfl (lt_y (y_ixR (reads_lit (sz := 9) (enc := encT) testsK (fun _ => rfl) rfl) Try.underlying73 Try.sizeOf72 rfl rfl (show (0 : Int) ≤ (i : Nat) ∧ ((i : Nat) : Int) < 13 by omega)) rfl (lt_y (y_move rfl) rfl (lt_y (y_move rfl) rfl (lt_nil))))))) ?_
                        refine pl_w1 9 (by kernel_rfl) rfl rfl (pl_fire rfl rfl rfl (by kernel_rfl) ?_)
                        refine oj_cutO (e := 52) (sz := 8) (enc := encCa) (A := some ⟨l280, 0, none⟩) (c := 3) (xs := exL.take 2) (ys := exL.drop 2) (fun _ => rfl) (fun h => by cases h) ?_
                        refine oj_append (xs := exL.take 2) (c := 3) el45 (fun _ => rfl) encCa_one rfl rfl rfl (reads_lit [t.1] (fun _ => rfl) rfl) (by unfold maxLen; simp) (by simp) rfl (fun A288 c288 => ?_)
                        refine oj_nil ?_
                        refine ej_pl (lt_w (by kernel_rfl) (lt_y (y_ldN (j := 0) (vs := encCa t.1) (reads_lit (sz := 9) (enc := encT) testsK (fun _ => rfl) rfl) Try.isAgg52 Try.sizeOf52 rfl ht ⟨fun j hj => by rw [Nat.zero_add]; exact List.getElem?_append_left hj, rfl⟩) rfl (lt_y (y_faE fa72_0 rfl) rfl (lt_y (y_ixR (reads_lit (sz := 9) (enc := encT) testsK (fun _ => rfl) rfl) Try.underlying73 Try.sizeOf72 rfl rfl (show (0 : Int) ≤ (i : Nat) ∧ ((i : Nat) : Int) < 13 by omega)) rfl (lt_y (y_move rfl) rfl (lt_y (y_move rfl) rfl (lt_nil))))))) ?_
                        refine pl_y 10 rfl (y_call Try.call30 rfl (fun w hp => k_Play s279 (exL.take 2 ++ [t.1]) A288 c288 w (str_rd hp (.head _)) (hp.rdO (fun _ => rfl) (by unfold maxLen; simp)))) rfl rfl rfl rfl (by kernel_rfl) ?_
                        refine pl_y 11 rfl (y_move rfl) rfl rfl rfl rfl (by kernel_rfl) ?_
                        refine pl_y 12 rfl (y_extract rfl rfl) rfl rfl rfl rfl (by kernel_rfl) ?_
                        refine pl_y 13 rfl (y_extract rfl rfl) rfl rfl rfl rfl (by kernel_rfl) ?_
                        refine pl_y 14 rfl (y_extract rfl rfl) rfl rfl rfl rfl (by kernel_rfl) ?_
                        refine pl_w1 16 (by kernel_rfl) rfl rfl (pl_fire rfl rfl rfl (by kernel_rfl) ?_)
                        refine oj_store (vs := ((playB s279.s (exL.take 2 ++ [t.1])).flatMap encBa)) (n := 160) (hset := set_all _ _ (by rw [bf_len (playB_len _)]; rfl)) rfl rfl rfl (bf_one _) Try.sizeOf48 (bf_len (playB_len _)) ?_
                        refine oj_nil ?_
                        refine ej_pl (lt_y (y_extract rfl rfl) rfl (lt_y (y_extract rfl rfl) rfl (lt_w (by kernel_rfl) (lt_w (by kernel_rfl) (lt_w (by kernel_rfl) (lt_w (by kernel_rfl) (lt_w (by kernel_rfl) (lt_w (by kernel_rfl) (lt_w (by kernel_rfl) (lt_w (by kernel_rfl) (lt_w (by kernel_rfl) (lt_nil)))))))))))) ?_
                        refine pl_y 17 rfl (y_assign rfl) rfl rfl rfl rfl (by kernel_rfl) ?_
                        refine pl_y 18 rfl (y_assign rfl) rfl rfl rfl rfl (by kernel_rfl) ?_
                        refine pl_end (by kernel_rfl) ?_
                        rw [he279]
                        exact ej_ct () trivial ⟨rfl, rfl, rfl, rfl, rfl, rfl, rfl, rfl, rfl, trivial⟩
                    · refine oj_alloc Try.zeroValue48 rfl rfl (fun b31 => ?_)
                      refine oj_nil ?_
                      refine ej_pl (lt_y (y_sliceTo (xs := exL) 2 Try.underlying45 Try.sizeOf52 rfl rfl (by decide) (by decide)) rfl (lt_y (y_ldN (j := 0) (vs := encCa t.1) (reads_lit (sz := 9) (enc := encT) testsK (fun _ => rfl) rfl) Try.isAgg52 Try.sizeOf52 rfl ht ⟨fun j hj => by rw [Nat.zero_add]; exact List.getElem?_append_left hj, rfl⟩) rfl (lt_y (y_faE fa72_0 rfl) rfl (lt_y (y_ixR (reads_lit (sz := 9) (enc := encT) testsK (fun _ => rfl) rfl) Try.underlying73 Try.sizeOf72 rfl rfl (show (0 : Int) ≤ (i : Nat) ∧ ((i : Nat) : Int) < 13 by omega)) rfl (lt_y (y_move rfl) rfl (lt_y (y_move rfl) rfl (lt_nil))))))) ?_
                      refine pl_w1 8 (by kernel_rfl) rfl rfl (pl_fire rfl rfl rfl (by kernel_rfl) ?_)
                      refine oj_buildSlice (cs := [.int .i64 t.1.day, .int .i64 t.1.kind, .int .i64 t.1.bag, .int .i64 t.1.to_, .int .i64 t.1.by_, .int .i64 t.1.with_, .int .i64 t.1.mark, .int .i64 t.1.suits]) [.int .i64 0, .int .i64 0, .int .i64 0, .int .i64 0, .int .i64 0, .int .i64 0, .int .i64 0, .int .i64 0] Try.underlying45 Try.sizeOf52 Try.zeroValue52 rfl rfl (by kernel_rfl) (by kernel_rfl) rfl (fun b287 => ?_)
                      refine oj_nil ?_
                      refine ej_pl (lt_y (y_sliceTo (xs := exL) 2 Try.underlying45 Try.sizeOf52 rfl rfl (by decide) (by decide)) rfl (lt_w (by kernel_rfl) (lt_y (y_faE fa72_0 rfl) rfl (lt_y (y_ixR (reads_lit (sz := 9) (enc := encT) testsK (fun _ => rfl) rfl) Try.underlying73 Try.sizeOf72 rfl rfl (show (0 : Int) ≤ (i : Nat) ∧ ((i : Nat) : Int) < 13 by omega)) rfl (lt_y (y_move rfl) rfl (lt_y (y_move rfl) rfl (lt_nil))))))) ?_
                      refine pl_w1 9 (by kernel_rfl) rfl rfl (pl_fire rfl rfl rfl (by kernel_rfl) ?_)
                      refine oj_cutO (e := 52) (sz := 8) (enc := encCa) (A := some ⟨l280, 0, none⟩) (c := 3) (xs := exL.take 2) (ys := exL.drop 2) (fun _ => rfl) (fun h => by cases h) ?_
                      refine oj_append (xs := exL.take 2) (c := 3) el45 (fun _ => rfl) encCa_one rfl rfl rfl (reads_lit [t.1] (fun _ => rfl) rfl) (by unfold maxLen; simp) (by simp) rfl (fun A288 c288 => ?_)
                      refine oj_nil ?_
                      refine ej_pl (lt_w (by kernel_rfl) (lt_y (y_ldN (j := 0) (vs := encCa t.1) (reads_lit (sz := 9) (enc := encT) testsK (fun _ => rfl) rfl) Try.isAgg52 Try.sizeOf52 rfl ht ⟨fun j hj => by rw [Nat.zero_add]; exact List.getElem?_append_left hj, rfl⟩) rfl (lt_y (y_faE fa72_0 rfl) rfl (lt_y (y_ixR (reads_lit (sz := 9) (enc := encT) testsK (fun _ => rfl) rfl) Try.underlying73 Try.sizeOf72 rfl rfl (show (0 : Int) ≤ (i : Nat) ∧ ((i : Nat) : Int) < 13 by omega)) rfl (lt_y (y_move rfl) rfl (lt_y (y_move rfl) rfl (lt_nil))))))) ?_
                      refine pl_y 10 rfl (y_call Try.call30 rfl (fun w hp => k_Play s279 (exL.take 2 ++ [t.1]) A288 c288 w (str_rd hp (.head _)) (hp.rdO (fun _ => rfl) (by unfold maxLen; simp)))) rfl rfl rfl rfl (by kernel_rfl) ?_
                      refine pl_y 11 rfl (y_move rfl) rfl rfl rfl rfl (by kernel_rfl) ?_
                      refine pl_y 12 rfl (y_extract rfl rfl) rfl rfl rfl rfl (by kernel_rfl) ?_
                      refine pl_y 13 rfl (y_extract rfl rfl) rfl rfl rfl rfl (by kernel_rfl) ?_
                      refine pl_y 14 rfl (y_extract rfl rfl) rfl rfl rfl rfl (by kernel_rfl) ?_
                      refine pl_w1 16 (by kernel_rfl) rfl rfl (pl_fire rfl rfl rfl (by kernel_rfl) ?_)
                      refine oj_store (vs := ((playB s279.s (exL.take 2 ++ [t.1])).flatMap encBa)) (n := 160) (hset := set_all _ _ (by rw [bf_len (playB_len _)]; rfl)) rfl rfl rfl (bf_one _) Try.sizeOf48 (bf_len (playB_len _)) ?_
                      refine oj_nil ?_
                      refine ej_pl (lt_y (y_extract rfl rfl) rfl (lt_y (y_extract rfl rfl) rfl (lt_w (by kernel_rfl) (lt_w (by kernel_rfl) (lt_w (by kernel_rfl) (lt_w (by kernel_rfl) (lt_w (by kernel_rfl) (lt_w (by kernel_rfl) (lt_w (by kernel_rfl) (lt_w (by kernel_rfl) (lt_w (by kernel_rfl) (lt_nil)))))))))))) ?_
                      refine pl_y 17 rfl (y_assign rfl) rfl rfl rfl rfl (by kernel_rfl) ?_
                      refine pl_y 18 rfl (y_assign rfl) rfl rfl rfl rfl (by kernel_rfl) ?_
                      refine pl_end (by kernel_rfl) ?_
                      rw [he279]
                      exact ej_ct () trivial ⟨rfl, rfl, rfl, rfl, rfl, rfl, rfl, rfl, rfl, trivial⟩
                  · refine oj_buildSlice (cs := [.int .i64 t.1.day, .int .i64 t.1.kind, .int .i64 t.1.bag, .int .i64 t.1.to_, .int .i64 t.1.by_, .int .i64 t.1.with_, .int .i64 t.1.mark, .int .i64 t.1.suits]) [.int .i64 0, .int .i64 0, .int .i64 0, .int .i64 0, .int .i64 0, .int .i64 0, .int .i64 0, .int .i64 0] Try.underlying45 Try.sizeOf52 Try.zeroValue52 rfl rfl (by kernel_rfl) (by kernel_rfl) rfl (fun b287 => ?_)
                    refine oj_nil ?_
                    refine ej_pl (lt_w (by kernel_rfl) (lt_y (y_faE fa72_0 rfl) rfl (lt_y (y_ixR (reads_lit (sz := 9) (enc := encT) testsK (fun _ => rfl) rfl) Try.underlying73 Try.sizeOf72 rfl rfl (show (0 : Int) ≤ (i : Nat) ∧ ((i : Nat) : Int) < 13 by omega)) rfl (lt_y (y_move rfl) rfl (lt_y (y_move rfl) rfl (lt_nil)))))) ?_
                    refine pl_w2 1 15 (by kernel_rfl) rfl rfl (pl_fire rfl rfl rfl (by kernel_rfl) ?_) (pl_fire rfl rfl rfl (by kernel_rfl) ?_)
                    · refine oj_callL (X := Nat) (fun z => .slice (some ⟨z, 0, none⟩) 3 3) [] (fun z => [ow 52 8 encCa (some ⟨z, 0, none⟩) 3 exL]) Try.call41 rfl rfl (fun w1 hp => k_logO w1) rfl (fun l280 => ?_)
                      dsimp only [List.cons_append, List.nil_append]
                      refine oj_nil ?_
                      refine ej_pl (lt_y (y_ldN (j := 0) (vs := encCa t.1) (reads_lit (sz := 9) (enc := encT) testsK (fun _ => rfl) rfl) Try.isAgg52 Try.sizeOf52 rfl ht ⟨fun j hj => by rw [Nat.zero_add]; exact List.getElem?_append_left hj, rfl⟩) rfl (lt_y (y_faE fa72_0 rfl) rfl (lt_y (y_ixR (reads_lit (sz := 9) (enc := encT) testsK (fun _ => rfl) rfl) Try.underlying73 Try.sizeOf72 rfl rfl (show (0 : Int) ≤ (i : Nat) ∧ ((i : Nat) : Int) < 13 by omega)) rfl (lt_y (y_move rfl) rfl (lt_y (y_move rfl) rfl (lt_nil)))))) ?_
                      refine pl_y 2 rfl (y_sliceTo (xs := exL) 2 Try.underlying45 Try.sizeOf52 rfl rfl (by decide) (by decide)) rfl rfl rfl rfl (by kernel_rfl) ?_
                      refine pl_w2 9 15 (by kernel_rfl) rfl rfl (pl_fire rfl rfl rfl (by kernel_rfl) ?_) (pl_fire rfl rfl rfl (by kernel_rfl) ?_)
                      · refine oj_cutO (e := 52) (sz := 8) (enc := encCa) (A := some ⟨l280, 0, none⟩) (c := 3) (xs := exL.take 2) (ys := exL.drop 2) (fun _ => rfl) (fun h => by cases h) ?_
                        refine oj_append (xs := exL.take 2) (c := 3) el45 (fun _ => rfl) encCa_one rfl rfl rfl (reads_lit [t.1] (fun _ => rfl) rfl) (by unfold maxLen; simp) (by simp) rfl (fun A288 c288 => ?_)
                        refine oj_nil ?_
                        refine ej_pl (lt_w (by kernel_rfl) (lt_y (y_ldN (j := 0) (vs := encCa t.1) (reads_lit (sz := 9) (enc := encT) testsK (fun _ => rfl) rfl) Try.isAgg52 Try.sizeOf52 rfl ht ⟨fun j hj => by rw [Nat.zero_add]; exact List.getElem?_append_left hj, rfl⟩) rfl (lt_y (y_faE fa72_0 rfl) rfl (lt_y (y_ixR (reads_lit (sz := 9) (enc := encT) testsK (fun _ => rfl) rfl) Try.underlying73 Try.sizeOf72 rfl rfl (show (0 : Int) ≤ (i : Nat) ∧ ((i : Nat) : Int) < 13 by omega)) rfl (lt_y (y_move rfl) rfl (lt_y (y_move rfl) rfl (lt_nil))))))) ?_
                        refine pl_y 10 rfl (y_call Try.call30 rfl (fun w hp => k_Play s279 (exL.take 2 ++ [t.1]) A288 c288 w (str_rd hp (.head _)) (hp.rdO (fun _ => rfl) (by unfold maxLen; simp)))) rfl rfl rfl rfl (by kernel_rfl) ?_
                        refine pl_y 11 rfl (y_move rfl) rfl rfl rfl rfl (by kernel_rfl) ?_
                        refine pl_y 12 rfl (y_extract rfl rfl) rfl rfl rfl rfl (by kernel_rfl) ?_
                        refine pl_y 13 rfl (y_extract rfl rfl) rfl rfl rfl rfl (by kernel_rfl) ?_
                        refine pl_y 14 rfl (y_extract rfl rfl) rfl rfl rfl rfl (by kernel_rfl) ?_
                        refine pl_w1 15 (by kernel_rfl) rfl rfl (pl_fire rfl rfl rfl (by kernel_rfl) ?_)
                        refine oj_alloc Try.zeroValue48 rfl rfl (fun b31 => ?_)
                        refine oj_nil ?_
                        refine ej_pl (lt_y (y_extract rfl rfl) rfl (lt_y (y_extract rfl rfl) rfl (lt_y (y_extract rfl rfl) rfl (lt_y (y_move rfl) rfl (lt_y (y_call Try.call30 rfl (fun w hp => k_Play s279 (exL.take 2 ++ [t.1]) A288 c288 w (str_rd hp (.head _)) (hp.rdO (fun _ => rfl) (by unfold maxLen; simp)))) rfl (lt_y (y_sliceTo (xs := exL) 2 Try.underlying45 Try.sizeOf52 rfl rfl (by decide) (by decide)) rfl (lt_y (y_ldN (j := 0) (vs := encCa t.1) (reads_lit (sz := 9) (enc := encT) testsK (fun _ => rfl) rfl) Try.isAgg52 Try.sizeOf52 rfl ht ⟨fun j hj => by rw [Nat.zero_add]; exact List.getElem?_append_left hj, rfl⟩) rfl (lt_y (y_faE fa72_0 rfl) rfl (lt_y (y_ixR (reads_lit (sz := 9) (enc := encT) testsK (fun _ => rfl) rfl) Try.underlying73 Try.sizeOf72 rfl rfl (show (0 : Int) ≤ (i : Nat) ∧ ((i : Nat) : Int) < 13 by omega)) rfl (lt_y (y_move rfl) rfl (lt_y (y_move rfl) rfl (lt_nil)))))))))))) ?_
                        refine pl_w1 16 (by kernel_rfl) rfl rfl (pl_fire rfl rfl rfl (by kernel_rfl) ?_)
                        refine oj_store (vs := ((playB s279.s (exL.take 2 ++ [t.1])).flatMap encBa)) (n := 160) (hset := set_all _ _ (by rw [bf_len (playB_len _)]; rfl)) rfl rfl rfl (bf_one _) Try.sizeOf48 (bf_len (playB_len _)) ?_
                        refine oj_nil ?_
                        refine ej_pl (lt_y (y_extract rfl rfl) rfl (lt_y (y_extract rfl rfl) rfl (lt_w (by kernel_rfl) (lt_w (by kernel_rfl) (lt_w (by kernel_rfl) (lt_w (by kernel_rfl) (lt_w (by kernel_rfl) (lt_w (by kernel_rfl) (lt_w (by kernel_rfl) (lt_w (by kernel_rfl) (lt_w (by kernel_rfl) (lt_nil)))))))))))) ?_
                        refine pl_y 17 rfl (y_assign rfl) rfl rfl rfl rfl (by kernel_rfl) ?_
                        refine pl_y 18 rfl (y_assign rfl) rfl rfl rfl rfl (by kernel_rfl) ?_
                        refine pl_end (by kernel_rfl) ?_
                        rw [he279]
                        exact ej_ct () trivial ⟨rfl, rfl, rfl, rfl, rfl, rfl, rfl, rfl, rfl, trivial⟩
                      · refine oj_alloc Try.zeroValue48 rfl rfl (fun b31 => ?_)
                        refine oj_nil ?_
                        refine ej_pl (lt_y (y_sliceTo (xs := exL) 2 Try.underlying45 Try.sizeOf52 rfl rfl (by decide) (by decide)) rfl (lt_y (y_ldN (j := 0) (vs := encCa t.1) (reads_lit (sz := 9) (enc := encT) testsK (fun _ => rfl) rfl) Try.isAgg52 Try.sizeOf52 rfl ht ⟨fun j hj => by rw [Nat.zero_add]; exact List.getElem?_append_left hj, rfl⟩) rfl (lt_y (y_faE fa72_0 rfl) rfl (lt_y (y_ixR (reads_lit (sz := 9) (enc := encT) testsK (fun _ => rfl) rfl) Try.underlying73 Try.sizeOf72 rfl rfl (show (0 : Int) ≤ (i : Nat) ∧ ((i : Nat) : Int) < 13 by omega)) rfl (lt_y (y_move rfl) rfl (lt_y (y_move rfl) rfl (lt_nil))))))) ?_
                        refine pl_w1 9 (by kernel_rfl) rfl rfl (pl_fire rfl rfl rfl (by kernel_rfl) ?_)
                        refine oj_cutO (e := 52) (sz := 8) (enc := encCa) (A := some ⟨l280, 0, none⟩) (c := 3) (xs := exL.take 2) (ys := exL.drop 2) (fun _ => rfl) (fun h => by cases h) ?_
                        refine oj_append (xs := exL.take 2) (c := 3) el45 (fun _ => rfl) encCa_one rfl rfl rfl (reads_lit [t.1] (fun _ => rfl) rfl) (by unfold maxLen; simp) (by simp) rfl (fun A288 c288 => ?_)
                        refine oj_nil ?_
                        refine ej_pl (lt_w (by kernel_rfl) (lt_y (y_ldN (j := 0) (vs := encCa t.1) (reads_lit (sz := 9) (enc := encT) testsK (fun _ => rfl) rfl) Try.isAgg52 Try.sizeOf52 rfl ht ⟨fun j hj => by rw [Nat.zero_add]; exact List.getElem?_append_left hj, rfl⟩) rfl (lt_y (y_faE fa72_0 rfl) rfl (lt_y (y_ixR (reads_lit (sz := 9) (enc := encT) testsK (fun _ => rfl) rfl) Try.underlying73 Try.sizeOf72 rfl rfl (show (0 : Int) ≤ (i : Nat) ∧ ((i : Nat) : Int) < 13 by omega)) rfl (lt_y (y_move rfl) rfl (lt_y (y_move rfl) rfl (lt_nil))))))) ?_
                        refine pl_y 10 rfl (y_call Try.call30 rfl (fun w hp => k_Play s279 (exL.take 2 ++ [t.1]) A288 c288 w (str_rd hp (.head _)) (hp.rdO (fun _ => rfl) (by unfold maxLen; simp)))) rfl rfl rfl rfl (by kernel_rfl) ?_
                        refine pl_y 11 rfl (y_move rfl) rfl rfl rfl rfl (by kernel_rfl) ?_
                        refine pl_y 12 rfl (y_extract rfl rfl) rfl rfl rfl rfl (by kernel_rfl) ?_
                        refine pl_y 13 rfl (y_extract rfl rfl) rfl rfl rfl rfl (by kernel_rfl) ?_
                        refine pl_y 14 rfl (y_extract rfl rfl) rfl rfl rfl rfl (by kernel_rfl) ?_
                        refine pl_w1 16 (by kernel_rfl) rfl rfl (pl_fire rfl rfl rfl (by kernel_rfl) ?_)
                        refine oj_store (vs := ((playB s279.s (exL.take 2 ++ [t.1])).flatMap encBa)) (n := 160) (hset := set_all _ _ (by rw [bf_len (playB_len _)]; rfl)) rfl rfl rfl (bf_one _) Try.sizeOf48 (bf_len (playB_len _)) ?_
                        refine oj_nil ?_
                        refine ej_pl (lt_y (y_extract rfl rfl) rfl (lt_y (y_extract rfl rfl) rfl (lt_w (by kernel_rfl) (lt_w (by kernel_rfl) (lt_w (by kernel_rfl) (lt_w (by kernel_rfl) (lt_w (by kernel_rfl) (lt_w (by kernel_rfl) (lt_w (by kernel_rfl) (lt_w (by kernel_rfl) (lt_w (by kernel_rfl) (lt_nil)))))))))))) ?_
                        refine pl_y 17 rfl (y_assign rfl) rfl rfl rfl rfl (by kernel_rfl) ?_
                        refine pl_y 18 rfl (y_assign rfl) rfl rfl rfl rfl (by kernel_rfl) ?_
                        refine pl_end (by kernel_rfl) ?_
                        rw [he279]
                        exact ej_ct () trivial ⟨rfl, rfl, rfl, rfl, rfl, rfl, rfl, rfl, rfl, trivial⟩
                    · refine oj_alloc Try.zeroValue48 rfl rfl (fun b31 => ?_)
                      refine oj_nil ?_
                      refine ej_pl (lt_y (y_ldN (j := 0) (vs := encCa t.1) (reads_lit (sz := 9) (enc := encT) testsK (fun _ => rfl) rfl) Try.isAgg52 Try.sizeOf52 rfl ht ⟨fun j hj => by rw [Nat.zero_add]; exact List.getElem?_append_left hj, rfl⟩) rfl (lt_y (y_faE fa72_0 rfl) rfl (lt_y (y_ixR (reads_lit (sz := 9) (enc := encT) testsK (fun _ => rfl) rfl) Try.underlying73 Try.sizeOf72 rfl rfl (show (0 : Int) ≤ (i : Nat) ∧ ((i : Nat) : Int) < 13 by omega)) rfl (lt_y (y_move rfl) rfl (lt_y (y_move rfl) rfl (lt_nil)))))) ?_
                      refine pl_w1 1 (by kernel_rfl) rfl rfl (pl_fire rfl rfl rfl (by kernel_rfl) ?_)
                      refine oj_callL (X := Nat) (fun z => .slice (some ⟨z, 0, none⟩) 3 3) [] (fun z => [ow 52 8 encCa (some ⟨z, 0, none⟩) 3 exL]) Try.call41 rfl rfl (fun w1 hp => k_logO w1) rfl (fun l280 => ?_)
                      dsimp only [List.cons_append, List.nil_append]
                      refine oj_nil ?_
                      refine ej_pl (lt_y (y_ldN (j := 0) (vs := encCa t.1) (reads_lit (sz := 9) (enc := encT) testsK (fun _ => rfl) rfl) Try.isAgg52 Try.sizeOf52 rfl ht ⟨fun j hj => by rw [Nat.zero_add]; exact List.getElem?_append_left hj, rfl⟩) rfl (lt_y (y_faE fa72_0 rfl) rfl (lt_y (y_ixR (reads_lit (sz := 9) (enc := encT) testsK (fun _ => rfl) rfl) Try.underlying73 Try.sizeOf72 rfl rfl (show (0 : Int) ≤ (i : Nat) ∧ ((i : Nat) : Int) < 13 by omega)) rfl (lt_y (y_move rfl) rfl (lt_y (y_move rfl) rfl (lt_nil)))))) ?_
                      refine pl_y 2 rfl (y_sliceTo (xs := exL) 2 Try.underlying45 Try.sizeOf52 rfl rfl (by decide) (by decide)) rfl rfl rfl rfl (by kernel_rfl) ?_
                      refine pl_w1 9 (by kernel_rfl) rfl rfl (pl_fire rfl rfl rfl (by kernel_rfl) ?_)
                      refine oj_cutO (e := 52) (sz := 8) (enc := encCa) (A := some ⟨l280, 0, none⟩) (c := 3) (xs := exL.take 2) (ys := exL.drop 2) (fun _ => rfl) (fun h => by cases h) ?_
                      refine oj_append (xs := exL.take 2) (c := 3) el45 (fun _ => rfl) encCa_one rfl rfl rfl (reads_lit [t.1] (fun _ => rfl) rfl) (by unfold maxLen; simp) (by simp) rfl (fun A288 c288 => ?_)
                      refine oj_nil ?_
                      refine ej_pl (lt_w (by kernel_rfl) (lt_y (y_ldN (j := 0) (vs := encCa t.1) (reads_lit (sz := 9) (enc := encT) testsK (fun _ => rfl) rfl) Try.isAgg52 Try.sizeOf52 rfl ht ⟨fun j hj => by rw [Nat.zero_add]; exact List.getElem?_append_left hj, rfl⟩) rfl (lt_y (y_faE fa72_0 rfl) rfl (lt_y (y_ixR (reads_lit (sz := 9) (enc := encT) testsK (fun _ => rfl) rfl) Try.underlying73 Try.sizeOf72 rfl rfl (show (0 : Int) ≤ (i : Nat) ∧ ((i : Nat) : Int) < 13 by omega)) rfl (lt_y (y_move rfl) rfl (lt_y (y_move rfl) rfl (lt_nil))))))) ?_
                      refine pl_y 10 rfl (y_call Try.call30 rfl (fun w hp => k_Play s279 (exL.take 2 ++ [t.1]) A288 c288 w (str_rd hp (.head _)) (hp.rdO (fun _ => rfl) (by unfold maxLen; simp)))) rfl rfl rfl rfl (by kernel_rfl) ?_
                      refine pl_y 11 rfl (y_move rfl) rfl rfl rfl rfl (by kernel_rfl) ?_
                      refine pl_y 12 rfl (y_extract rfl rfl) rfl rfl rfl rfl (by kernel_rfl) ?_
                      refine pl_y 13 rfl (y_extract rfl rfl) rfl rfl rfl rfl (by kernel_rfl) ?_
                      refine pl_y 14 rfl (y_extract rfl rfl) rfl rfl rfl rfl (by kernel_rfl) ?_
                      refine pl_w1 16 (by kernel_rfl) rfl rfl (pl_fire rfl rfl rfl (by kernel_rfl) ?_)
                      refine oj_store (vs := ((playB s279.s (exL.take 2 ++ [t.1])).flatMap encBa)) (n := 160) (hset := set_all _ _ (by rw [bf_len (playB_len _)]; rfl)) rfl rfl rfl (bf_one _) Try.sizeOf48 (bf_len (playB_len _)) ?_
                      refine oj_nil ?_
                      refine ej_pl (lt_y (y_extract rfl rfl) rfl (lt_y (y_extract rfl rfl) rfl (lt_w (by kernel_rfl) (lt_w (by kernel_rfl) (lt_w (by kernel_rfl) (lt_w (by kernel_rfl) (lt_w (by kernel_rfl) (lt_w (by kernel_rfl) (lt_w (by kernel_rfl) (lt_w (by kernel_rfl) (lt_w (by kernel_rfl) (lt_nil)))))))))))) ?_
                      refine pl_y 17 rfl (y_assign rfl) rfl rfl rfl rfl (by kernel_rfl) ?_
                      refine pl_y 18 rfl (y_assign rfl) rfl rfl rfl rfl (by kernel_rfl) ?_
                      refine pl_end (by kernel_rfl) ?_
                      rw [he279]
                      exact ej_ct () trivial ⟨rfl, rfl, rfl, rfl, rfl, rfl, rfl, rfl, rfl, trivial⟩
                  · refine oj_alloc Try.zeroValue48 rfl rfl (fun b31 => ?_)
                    refine oj_nil ?_
                    refine ej_pl (lt_y (y_ldN (j := 0) (vs := encCa t.1) (reads_lit (sz := 9) (enc := encT) testsK (fun _ => rfl) rfl) Try.isAgg52 Try.sizeOf52 rfl ht ⟨fun j hj => by rw [Nat.zero_add]; exact List.getElem?_append_left hj, rfl⟩) rfl (lt_y (y_faE fa72_0 rfl) rfl (lt_y (y_ixR (reads_lit (sz := 9) (enc := encT) testsK (fun _ => rfl) rfl) Try.underlying73 Try.sizeOf72 rfl rfl (show (0 : Int) ≤ (i : Nat) ∧ ((i : Nat) : Int) < 13 by omega)) rfl (lt_y (y_move rfl) rfl (lt_y (y_move rfl) rfl (lt_nil)))))) ?_
                    refine pl_w2 1 8 (by kernel_rfl) rfl rfl (pl_fire rfl rfl rfl (by kernel_rfl) ?_) (pl_fire rfl rfl rfl (by kernel_rfl) ?_)
                    · refine oj_callL (X := Nat) (fun z => .slice (some ⟨z, 0, none⟩) 3 3) [] (fun z => [ow 52 8 encCa (some ⟨z, 0, none⟩) 3 exL]) Try.call41 rfl rfl (fun w1 hp => k_logO w1) rfl (fun l280 => ?_)
                      dsimp only [List.cons_append, List.nil_append]
                      refine oj_nil ?_
                      refine ej_pl (lt_y (y_ldN (j := 0) (vs := encCa t.1) (reads_lit (sz := 9) (enc := encT) testsK (fun _ => rfl) rfl) Try.isAgg52 Try.sizeOf52 rfl ht ⟨fun j hj => by rw [Nat.zero_add]; exact List.getElem?_append_left hj, rfl⟩) rfl (lt_y (y_faE fa72_0 rfl) rfl (lt_y (y_ixR (reads_lit (sz := 9) (enc := encT) testsK (fun _ => rfl) rfl) Try.underlying73 Try.sizeOf72 rfl rfl (show (0 : Int) ≤ (i : Nat) ∧ ((i : Nat) : Int) < 13 by omega)) rfl (lt_y (y_move rfl) rfl (lt_y (y_move rfl) rfl (lt_nil)))))) ?_
                      refine pl_y 2 rfl (y_sliceTo (xs := exL) 2 Try.underlying45 Try.sizeOf52 rfl rfl (by decide) (by decide)) rfl rfl rfl rfl (by kernel_rfl) ?_
                      refine pl_w1 8 (by kernel_rfl) rfl rfl (pl_fire rfl rfl rfl (by kernel_rfl) ?_)
                      refine oj_buildSlice (cs := [.int .i64 t.1.day, .int .i64 t.1.kind, .int .i64 t.1.bag, .int .i64 t.1.to_, .int .i64 t.1.by_, .int .i64 t.1.with_, .int .i64 t.1.mark, .int .i64 t.1.suits]) [.int .i64 0, .int .i64 0, .int .i64 0, .int .i64 0, .int .i64 0, .int .i64 0, .int .i64 0, .int .i64 0] Try.underlying45 Try.sizeOf52 Try.zeroValue52 rfl rfl (by kernel_rfl) (by kernel_rfl) rfl (fun b287 => ?_)
                      refine oj_nil ?_
                      refine ej_pl (lt_y (y_sliceTo (xs := exL) 2 Try.underlying45 Try.sizeOf52 rfl rfl (by decide) (by decide)) rfl (lt_w (by kernel_rfl) (lt_y (y_faE fa72_0 rfl) rfl (lt_y (y_ixR (reads_lit (sz := 9) (enc := encT) testsK (fun _ => rfl) rfl) Try.underlying73 Try.sizeOf72 rfl rfl (show (0 : Int) ≤ (i : Nat) ∧ ((i : Nat) : Int) < 13 by omega)) rfl (lt_y (y_move rfl) rfl (lt_y (y_move rfl) rfl (lt_nil))))))) ?_
                      refine pl_w1 9 (by kernel_rfl) rfl rfl (pl_fire rfl rfl rfl (by kernel_rfl) ?_)
                      refine oj_cutO (e := 52) (sz := 8) (enc := encCa) (A := some ⟨l280, 0, none⟩) (c := 3) (xs := exL.take 2) (ys := exL.drop 2) (fun _ => rfl) (fun h => by cases h) ?_
                      refine oj_append (xs := exL.take 2) (c := 3) el45 (fun _ => rfl) encCa_one rfl rfl rfl (reads_lit [t.1] (fun _ => rfl) rfl) (by unfold maxLen; simp) (by simp) rfl (fun A288 c288 => ?_)
                      refine oj_nil ?_
                      refine ej_pl (lt_w (by kernel_rfl) (lt_y (y_ldN (j := 0) (vs := encCa t.1) (reads_lit (sz := 9) (enc := encT) testsK (fun _ => rfl) rfl) Try.isAgg52 Try.sizeOf52 rfl ht ⟨fun j hj => by rw [Nat.zero_add]; exact List.getElem?_append_left hj, rfl⟩) rfl (lt_y (y_faE fa72_0 rfl) rfl (lt_y (y_ixR (reads_lit (sz := 9) (enc := encT) testsK (fun _ => rfl) rfl) Try.underlying73 Try.sizeOf72 rfl rfl (show (0 : Int) ≤ (i : Nat) ∧ ((i : Nat) : Int) < 13 by omega)) rfl (lt_y (y_move rfl) rfl (lt_y (y_move rfl) rfl (lt_nil))))))) ?_
                      refine pl_y 10 rfl (y_call Try.call30 rfl (fun w hp => k_Play s279 (exL.take 2 ++ [t.1]) A288 c288 w (str_rd hp (.head _)) (hp.rdO (fun _ => rfl) (by unfold maxLen; simp)))) rfl rfl rfl rfl (by kernel_rfl) ?_
                      refine pl_y 11 rfl (y_move rfl) rfl rfl rfl rfl (by kernel_rfl) ?_
                      refine pl_y 12 rfl (y_extract rfl rfl) rfl rfl rfl rfl (by kernel_rfl) ?_
                      refine pl_y 13 rfl (y_extract rfl rfl) rfl rfl rfl rfl (by kernel_rfl) ?_
                      refine pl_y 14 rfl (y_extract rfl rfl) rfl rfl rfl rfl (by kernel_rfl) ?_
                      refine pl_w1 16 (by kernel_rfl) rfl rfl (pl_fire rfl rfl rfl (by kernel_rfl) ?_)
                      refine oj_store (vs := ((playB s279.s (exL.take 2 ++ [t.1])).flatMap encBa)) (n := 160) (hset := set_all _ _ (by rw [bf_len (playB_len _)]; rfl)) rfl rfl rfl (bf_one _) Try.sizeOf48 (bf_len (playB_len _)) ?_
                      refine oj_nil ?_
                      refine ej_pl (lt_y (y_extract rfl rfl) rfl (lt_y (y_extract rfl rfl) rfl (lt_w (by kernel_rfl) (lt_w (by kernel_rfl) (lt_w (by kernel_rfl) (lt_w (by kernel_rfl) (lt_w (by kernel_rfl) (lt_w (by kernel_rfl) (lt_w (by kernel_rfl) (lt_w (by kernel_rfl) (lt_w (by kernel_rfl) (lt_nil)))))))))))) ?_
                      refine pl_y 17 rfl (y_assign rfl) rfl rfl rfl rfl (by kernel_rfl) ?_
                      refine pl_y 18 rfl (y_assign rfl) rfl rfl rfl rfl (by kernel_rfl) ?_
                      refine pl_end (by kernel_rfl) ?_
                      rw [he279]
                      exact ej_ct () trivial ⟨rfl, rfl, rfl, rfl, rfl, rfl, rfl, rfl, rfl, trivial⟩
                    · refine oj_buildSlice (cs := [.int .i64 t.1.day, .int .i64 t.1.kind, .int .i64 t.1.bag, .int .i64 t.1.to_, .int .i64 t.1.by_, .int .i64 t.1.with_, .int .i64 t.1.mark, .int .i64 t.1.suits]) [.int .i64 0, .int .i64 0, .int .i64 0, .int .i64 0, .int .i64 0, .int .i64 0, .int .i64 0, .int .i64 0] Try.underlying45 Try.sizeOf52 Try.zeroValue52 rfl rfl (by kernel_rfl) (by kernel_rfl) rfl (fun b287 => ?_)
                      refine oj_nil ?_
                      refine ej_pl (lt_w (by kernel_rfl) (lt_y (y_faE fa72_0 rfl) rfl (lt_y (y_ixR (reads_lit (sz := 9) (enc := encT) testsK (fun _ => rfl) rfl) Try.underlying73 Try.sizeOf72 rfl rfl (show (0 : Int) ≤ (i : Nat) ∧ ((i : Nat) : Int) < 13 by omega)) rfl (lt_y (y_move rfl) rfl (lt_y (y_move rfl) rfl (lt_nil)))))) ?_
                      refine pl_w1 1 (by kernel_rfl) rfl rfl (pl_fire rfl rfl rfl (by kernel_rfl) ?_)
                      refine oj_callL (X := Nat) (fun z => .slice (some ⟨z, 0, none⟩) 3 3) [] (fun z => [ow 52 8 encCa (some ⟨z, 0, none⟩) 3 exL]) Try.call41 rfl rfl (fun w1 hp => k_logO w1) rfl (fun l280 => ?_)
                      dsimp only [List.cons_append, List.nil_append]
                      refine oj_nil ?_
                      refine ej_pl (lt_y (y_ldN (j := 0) (vs := encCa t.1) (reads_lit (sz := 9) (enc := encT) testsK (fun _ => rfl) rfl) Try.isAgg52 Try.sizeOf52 rfl ht ⟨fun j hj => by rw [Nat.zero_add]; exact List.getElem?_append_left hj, rfl⟩) rfl (lt_y (y_faE fa72_0 rfl) rfl (lt_y (y_ixR (reads_lit (sz := 9) (enc := encT) testsK (fun _ => rfl) rfl) Try.underlying73 Try.sizeOf72 rfl rfl (show (0 : Int) ≤ (i : Nat) ∧ ((i : Nat) : Int) < 13 by omega)) rfl (lt_y (y_move rfl) rfl (lt_y (y_move rfl) rfl (lt_nil)))))) ?_
                      refine pl_y 2 rfl (y_sliceTo (xs := exL) 2 Try.underlying45 Try.sizeOf52 rfl rfl (by decide) (by decide)) rfl rfl rfl rfl (by kernel_rfl) ?_
                      refine pl_w1 9 (by kernel_rfl) rfl rfl (pl_fire rfl rfl rfl (by kernel_rfl) ?_)
                      refine oj_cutO (e := 52) (sz := 8) (enc := encCa) (A := some ⟨l280, 0, none⟩) (c := 3) (xs := exL.take 2) (ys := exL.drop 2) (fun _ => rfl) (fun h => by cases h) ?_
                      refine oj_append (xs := exL.take 2) (c := 3) el45 (fun _ => rfl) encCa_one rfl rfl rfl (reads_lit [t.1] (fun _ => rfl) rfl) (by unfold maxLen; simp) (by simp) rfl (fun A288 c288 => ?_)
                      refine oj_nil ?_
                      refine ej_pl (lt_w (by kernel_rfl) (lt_y (y_ldN (j := 0) (vs := encCa t.1) (reads_lit (sz := 9) (enc := encT) testsK (fun _ => rfl) rfl) Try.isAgg52 Try.sizeOf52 rfl ht ⟨fun j hj => by rw [Nat.zero_add]; exact List.getElem?_append_left hj, rfl⟩) rfl (lt_y (y_faE fa72_0 rfl) rfl (lt_y (y_ixR (reads_lit (sz := 9) (enc := encT) testsK (fun _ => rfl) rfl) Try.underlying73 Try.sizeOf72 rfl rfl (show (0 : Int) ≤ (i : Nat) ∧ ((i : Nat) : Int) < 13 by omega)) rfl (lt_y (y_move rfl) rfl (lt_y (y_move rfl) rfl (lt_nil))))))) ?_
                      refine pl_y 10 rfl (y_call Try.call30 rfl (fun w hp => k_Play s279 (exL.take 2 ++ [t.1]) A288 c288 w (str_rd hp (.head _)) (hp.rdO (fun _ => rfl) (by unfold maxLen; simp)))) rfl rfl rfl rfl (by kernel_rfl) ?_
                      refine pl_y 11 rfl (y_move rfl) rfl rfl rfl rfl (by kernel_rfl) ?_
                      refine pl_y 12 rfl (y_extract rfl rfl) rfl rfl rfl rfl (by kernel_rfl) ?_
                      refine pl_y 13 rfl (y_extract rfl rfl) rfl rfl rfl rfl (by kernel_rfl) ?_
                      refine pl_y 14 rfl (y_extract rfl rfl) rfl rfl rfl rfl (by kernel_rfl) ?_
                      refine pl_w1 16 (by kernel_rfl) rfl rfl (pl_fire rfl rfl rfl (by kernel_rfl) ?_)
                      refine oj_store (vs := ((playB s279.s (exL.take 2 ++ [t.1])).flatMap encBa)) (n := 160) (hset := set_all _ _ (by rw [bf_len (playB_len _)]; rfl)) rfl rfl rfl (bf_one _) Try.sizeOf48 (bf_len (playB_len _)) ?_
                      refine oj_nil ?_
                      refine ej_pl (lt_y (y_extract rfl rfl) rfl (lt_y (y_extract rfl rfl) rfl (lt_w (by kernel_rfl) (lt_w (by kernel_rfl) (lt_w (by kernel_rfl) (lt_w (by kernel_rfl) (lt_w (by kernel_rfl) (lt_w (by kernel_rfl) (lt_w (by kernel_rfl) (lt_w (by kernel_rfl) (lt_w (by kernel_rfl) (lt_nil)))))))))))) ?_
                      refine pl_y 17 rfl (y_assign rfl) rfl rfl rfl rfl (by kernel_rfl) ?_
                      refine pl_y 18 rfl (y_assign rfl) rfl rfl rfl rfl (by kernel_rfl) ?_
                      refine pl_end (by kernel_rfl) ?_
                      rw [he279]
                      exact ej_ct () trivial ⟨rfl, rfl, rfl, rfl, rfl, rfl, rfl, rfl, rfl, trivial⟩
                · refine oj_buildSlice (cs := [.int .i64 t.1.day, .int .i64 t.1.kind, .int .i64 t.1.bag, .int .i64 t.1.to_, .int .i64 t.1.by_, .int .i64 t.1.with_, .int .i64 t.1.mark, .int .i64 t.1.suits]) [.int .i64 0, .int .i64 0, .int .i64 0, .int .i64 0, .int .i64 0, .int .i64 0, .int .i64 0, .int .i64 0] Try.underlying45 Try.sizeOf52 Try.zeroValue52 rfl rfl (by kernel_rfl) (by kernel_rfl) rfl (fun b287 => ?_)
                  refine oj_nil ?_
                  refine ej_pl (lt_w (by kernel_rfl) (lt_y (y_faE fa72_0 rfl) rfl (lt_y (y_ixR (reads_lit (sz := 9) (enc := encT) testsK (fun _ => rfl) rfl) Try.underlying73 Try.sizeOf72 rfl rfl (show (0 : Int) ≤ (i : Nat) ∧ ((i : Nat) : Int) < 13 by omega)) rfl (lt_y (y_move rfl) rfl (lt_y (y_move rfl) rfl (lt_nil)))))) ?_
                  refine pl_w2 0 15 (by kernel_rfl) rfl rfl (pl_fire rfl rfl rfl (by kernel_rfl) ?_) (pl_fire rfl rfl rfl (by kernel_rfl) ?_)
                  · refine oj_callR (X := { z : StrV × Nat × Nat // z.1.s = exS }) (fun z => .agg #[.slice z.1.1.Ar z.1.1.rooms.length z.1.1.cr, .slice z.1.1.Ag z.1.1.gates.length z.1.1.cg, .slice z.1.1.As z.1.1.staff.length z.1.1.cs]) (fun z => [strF (fun b => z.1.2.1 ≤ b ∧ b < z.1.2.2) z.1.1]) Try.call40 rfl (fun w1 hp => (k_strong w1).mono fun e w2 ⟨s, h1, h2, h3, h4⟩ => ⟨⟨(s, w1.heap.size, w2.heap.size), h1⟩, h2, h3, fun g hg => by
                      rw [List.mem_singleton.1 hg]
                      exact ⟨h4, fun b hb => .inr hb⟩⟩) rfl ?_
                    rintro ⟨⟨s279, n279, m279⟩, he279⟩
                    dsimp only [List.cons_append, List.nil_append] at he279 ⊢
                    refine oj_nil ?_
                    refine ej_pl (lt_y (y_ldN (j := 0) (vs := encCa t.1) (reads_lit (sz := 9) (enc := encT) testsK (fun _ => rfl) rfl) Try.isAgg52 Try.sizeOf52 rfl ht ⟨fun j hj => by rw [Nat.zero_add]; exact List.getElem?_append_left hj, rfl⟩) rfl (lt_y (y_faE fa72_0 rfl) rfl (lt_y (y_ixR (reads_lit (sz := 9) (enc := encT) testsK (fun _ => rfl) rfl) Try.underlying73 Try.sizeOf72 rfl rfl (show (0 : Int) ≤ (i : Nat) ∧ ((i : Nat) : Int) < 13 by omega)) rfl (lt_y (y_move rfl) rfl (lt_y (y_move rfl) rfl (lt_nil)))))) ?_
                    refine pl_w2 1 15 (by kernel_rfl) rfl rfl (pl_fire rfl rfl rfl (by kernel_rfl) ?_) (pl_fire rfl rfl rfl (by kernel_rfl) ?_)
                    · refine oj_callL (X := Nat) (fun z => .slice (some ⟨z, 0, none⟩) 3 3) [] (fun z => [ow 52 8 encCa (some ⟨z, 0, none⟩) 3 exL]) Try.call41 rfl rfl (fun w1 hp => k_logO w1) rfl (fun l280 => ?_)
                      dsimp only [List.cons_append, List.nil_append]
                      refine oj_nil ?_
                      refine ej_pl (lt_y (y_ldN (j := 0) (vs := encCa t.1) (reads_lit (sz := 9) (enc := encT) testsK (fun _ => rfl) rfl) Try.isAgg52 Try.sizeOf52 rfl ht ⟨fun j hj => by rw [Nat.zero_add]; exact List.getElem?_append_left hj, rfl⟩) rfl (lt_y (y_faE fa72_0 rfl) rfl (lt_y (y_ixR (reads_lit (sz := 9) (enc := encT) testsK (fun _ => rfl) rfl) Try.underlying73 Try.sizeOf72 rfl rfl (show (0 : Int) ≤ (i : Nat) ∧ ((i : Nat) : Int) < 13 by omega)) rfl (lt_y (y_move rfl) rfl (lt_y (y_move rfl) rfl (lt_nil)))))) ?_
                      refine pl_y 2 rfl (y_sliceTo (xs := exL) 2 Try.underlying45 Try.sizeOf52 rfl rfl (by decide) (by decide)) rfl rfl rfl rfl (by kernel_rfl) ?_
                      refine pl_w2 9 15 (by kernel_rfl) rfl rfl (pl_fire rfl rfl rfl (by kernel_rfl) ?_) (pl_fire rfl rfl rfl (by kernel_rfl) ?_)
                      · refine oj_cutO (e := 52) (sz := 8) (enc := encCa) (A := some ⟨l280, 0, none⟩) (c := 3) (xs := exL.take 2) (ys := exL.drop 2) (fun _ => rfl) (fun h => by cases h) ?_
                        refine oj_append (xs := exL.take 2) (c := 3) el45 (fun _ => rfl) encCa_one rfl rfl rfl (reads_lit [t.1] (fun _ => rfl) rfl) (by unfold maxLen; simp) (by simp) rfl (fun A288 c288 => ?_)
                        refine oj_nil ?_
                        refine ej_pl (lt_w (by kernel_rfl) (lt_y (y_ldN (j := 0) (vs := encCa t.1) (reads_lit (sz := 9) (enc := encT) testsK (fun _ => rfl) rfl) Try.isAgg52 Try.sizeOf52 rfl ht ⟨fun j hj => by rw [Nat.zero_add]; exact List.getElem?_append_left hj, rfl⟩) rfl (lt_y (y_faE fa72_0 rfl) rfl (lt_y (y_ixR (reads_lit (sz := 9) (enc := encT) testsK (fun _ => rfl) rfl) Try.underlying73 Try.sizeOf72 rfl rfl (show (0 : Int) ≤ (i : Nat) ∧ ((i : Nat) : Int) < 13 by omega)) rfl (lt_y (y_move rfl) rfl (lt_y (y_move rfl) rfl (lt_nil))))))) ?_
                        refine pl_y 10 rfl (y_call Try.call30 rfl (fun w hp => k_Play s279 (exL.take 2 ++ [t.1]) A288 c288 w (str_rd hp (.head _)) (hp.rdO (fun _ => rfl) (by unfold maxLen; simp)))) rfl rfl rfl rfl (by kernel_rfl) ?_
                        refine pl_y 11 rfl (y_move rfl) rfl rfl rfl rfl (by kernel_rfl) ?_
                        refine pl_y 12 rfl (y_extract rfl rfl) rfl rfl rfl rfl (by kernel_rfl) ?_
                        refine pl_y 13 rfl (y_extract rfl rfl) rfl rfl rfl rfl (by kernel_rfl) ?_
                        refine pl_y 14 rfl (y_extract rfl rfl) rfl rfl rfl rfl (by kernel_rfl) ?_
                        refine pl_w1 15 (by kernel_rfl) rfl rfl (pl_fire rfl rfl rfl (by kernel_rfl) ?_)
                        refine oj_alloc Try.zeroValue48 rfl rfl (fun b31 => ?_)
                        refine oj_nil ?_
                        refine ej_pl (lt_y (y_extract rfl rfl) rfl (lt_y (y_extract rfl rfl) rfl (lt_y (y_extract rfl rfl) rfl (lt_y (y_move rfl) rfl (lt_y (y_call Try.call30 rfl (fun w hp => k_Play s279 (exL.take 2 ++ [t.1]) A288 c288 w (str_rd hp (.head _)) (hp.rdO (fun _ => rfl) (by unfold maxLen; simp)))) rfl (lt_y (y_sliceTo (xs := exL) 2 Try.underlying45 Try.sizeOf52 rfl rfl (by decide) (by decide)) rfl (lt_y (y_ldN (j := 0) (vs := encCa t.1) (reads_lit (sz := 9) (enc := encT) testsK (fun _ => rfl) rfl) Try.isAgg52 Try.sizeOf52 rfl ht ⟨fun j hj => by rw [Nat.zero_add]; exact List.getElem?_append_left hj, rfl⟩) rfl (lt_y (y_faE fa72_0 rfl) rfl (lt_y (y_ixR (reads_lit (sz := 9) (enc := encT) testsK (fun _ => rfl) rfl) Try.underlying73 Try.sizeOf72 rfl rfl (show (0 : Int) ≤ (i : Nat) ∧ ((i : Nat) : Int) < 13 by omega)) rfl (lt_y (y_move rfl) rfl (lt_y (y_move rfl) rfl (lt_nil)))))))))))) ?_
                        refine pl_w1 16 (by kernel_rfl) rfl rfl (pl_fire rfl rfl rfl (by kernel_rfl) ?_)
                        refine oj_store (vs := ((playB s279.s (exL.take 2 ++ [t.1])).flatMap encBa)) (n := 160) (hset := set_all _ _ (by rw [bf_len (playB_len _)]; rfl)) rfl rfl rfl (bf_one _) Try.sizeOf48 (bf_len (playB_len _)) ?_
                        refine oj_nil ?_
                        refine ej_pl (lt_y (y_extract rfl rfl) rfl (lt_y (y_extract rfl rfl) rfl (lt_w (by kernel_rfl) (lt_w (by kernel_rfl) (lt_w (by kernel_rfl) (lt_w (by kernel_rfl) (lt_w (by kernel_rfl) (lt_w (by kernel_rfl) (lt_w (by kernel_rfl) (lt_w (by kernel_rfl) (lt_w (by kernel_rfl) (lt_nil)))))))))))) ?_
                        refine pl_y 17 rfl (y_assign rfl) rfl rfl rfl rfl (by kernel_rfl) ?_
                        refine pl_y 18 rfl (y_assign rfl) rfl rfl rfl rfl (by kernel_rfl) ?_
                        refine pl_end (by kernel_rfl) ?_
                        rw [he279]
                        exact ej_ct () trivial ⟨rfl, rfl, rfl, rfl, rfl, rfl, rfl, rfl, rfl, trivial⟩
                      · refine oj_alloc Try.zeroValue48 rfl rfl (fun b31 => ?_)
                        refine oj_nil ?_
                        refine ej_pl (lt_y (y_sliceTo (xs := exL) 2 Try.underlying45 Try.sizeOf52 rfl rfl (by decide) (by decide)) rfl (lt_y (y_ldN (j := 0) (vs := encCa t.1) (reads_lit (sz := 9) (enc := encT) testsK (fun _ => rfl) rfl) Try.isAgg52 Try.sizeOf52 rfl ht ⟨fun j hj => by rw [Nat.zero_add]; exact List.getElem?_append_left hj, rfl⟩) rfl (lt_y (y_faE fa72_0 rfl) rfl (lt_y (y_ixR (reads_lit (sz := 9) (enc := encT) testsK (fun _ => rfl) rfl) Try.underlying73 Try.sizeOf72 rfl rfl (show (0 : Int) ≤ (i : Nat) ∧ ((i : Nat) : Int) < 13 by omega)) rfl (lt_y (y_move rfl) rfl (lt_y (y_move rfl) rfl (lt_nil))))))) ?_
                        refine pl_w1 9 (by kernel_rfl) rfl rfl (pl_fire rfl rfl rfl (by kernel_rfl) ?_)
                        refine oj_cutO (e := 52) (sz := 8) (enc := encCa) (A := some ⟨l280, 0, none⟩) (c := 3) (xs := exL.take 2) (ys := exL.drop 2) (fun _ => rfl) (fun h => by cases h) ?_
                        refine oj_append (xs := exL.take 2) (c := 3) el45 (fun _ => rfl) encCa_one rfl rfl rfl (reads_lit [t.1] (fun _ => rfl) rfl) (by unfold maxLen; simp) (by simp) rfl (fun A288 c288 => ?_)
                        refine oj_nil ?_
                        refine ej_pl (lt_w (by kernel_rfl) (lt_y (y_ldN (j := 0) (vs := encCa t.1) (reads_lit (sz := 9) (enc := encT) testsK (fun _ => rfl) rfl) Try.isAgg52 Try.sizeOf52 rfl ht ⟨fun j hj => by rw [Nat.zero_add]; exact List.getElem?_append_left hj, rfl⟩) rfl (lt_y (y_faE fa72_0 rfl) rfl (lt_y (y_ixR (reads_lit (sz := 9) (enc := encT) testsK (fun _ => rfl) rfl) Try.underlying73 Try.sizeOf72 rfl rfl (show (0 : Int) ≤ (i : Nat) ∧ ((i : Nat) : Int) < 13 by omega)) rfl (lt_y (y_move rfl) rfl (lt_y (y_move rfl) rfl (lt_nil))))))) ?_
                        refine pl_y 10 rfl (y_call Try.call30 rfl (fun w hp => k_Play s279 (exL.take 2 ++ [t.1]) A288 c288 w (str_rd hp (.head _)) (hp.rdO (fun _ => rfl) (by unfold maxLen; simp)))) rfl rfl rfl rfl (by kernel_rfl) ?_
                        refine pl_y 11 rfl (y_move rfl) rfl rfl rfl rfl (by kernel_rfl) ?_
                        refine pl_y 12 rfl (y_extract rfl rfl) rfl rfl rfl rfl (by kernel_rfl) ?_
                        refine pl_y 13 rfl (y_extract rfl rfl) rfl rfl rfl rfl (by kernel_rfl) ?_
                        refine pl_y 14 rfl (y_extract rfl rfl) rfl rfl rfl rfl (by kernel_rfl) ?_
                        refine pl_w1 16 (by kernel_rfl) rfl rfl (pl_fire rfl rfl rfl (by kernel_rfl) ?_)
                        refine oj_store (vs := ((playB s279.s (exL.take 2 ++ [t.1])).flatMap encBa)) (n := 160) (hset := set_all _ _ (by rw [bf_len (playB_len _)]; rfl)) rfl rfl rfl (bf_one _) Try.sizeOf48 (bf_len (playB_len _)) ?_
                        refine oj_nil ?_
                        refine ej_pl (lt_y (y_extract rfl rfl) rfl (lt_y (y_extract rfl rfl) rfl (lt_w (by kernel_rfl) (lt_w (by kernel_rfl) (lt_w (by kernel_rfl) (lt_w (by kernel_rfl) (lt_w (by kernel_rfl) (lt_w (by kernel_rfl) (lt_w (by kernel_rfl) (lt_w (by kernel_rfl) (lt_w (by kernel_rfl) (lt_nil)))))))))))) ?_
                        refine pl_y 17 rfl (y_assign rfl) rfl rfl rfl rfl (by kernel_rfl) ?_
                        refine pl_y 18 rfl (y_assign rfl) rfl rfl rfl rfl (by kernel_rfl) ?_
                        refine pl_end (by kernel_rfl) ?_
                        rw [he279]
                        exact ej_ct () trivial ⟨rfl, rfl, rfl, rfl, rfl, rfl, rfl, rfl, rfl, trivial⟩
                    · refine oj_alloc Try.zeroValue48 rfl rfl (fun b31 => ?_)
                      refine oj_nil ?_
                      refine ej_pl (lt_y (y_ldN (j := 0) (vs := encCa t.1) (reads_lit (sz := 9) (enc := encT) testsK (fun _ => rfl) rfl) Try.isAgg52 Try.sizeOf52 rfl ht ⟨fun j hj => by rw [Nat.zero_add]; exact List.getElem?_append_left hj, rfl⟩) rfl (lt_y (y_faE fa72_0 rfl) rfl (lt_y (y_ixR (reads_lit (sz := 9) (enc := encT) testsK (fun _ => rfl) rfl) Try.underlying73 Try.sizeOf72 rfl rfl (show (0 : Int) ≤ (i : Nat) ∧ ((i : Nat) : Int) < 13 by omega)) rfl (lt_y (y_move rfl) rfl (lt_y (y_move rfl) rfl (lt_nil)))))) ?_
                      refine pl_w1 1 (by kernel_rfl) rfl rfl (pl_fire rfl rfl rfl (by kernel_rfl) ?_)
                      refine oj_callL (X := Nat) (fun z => .slice (some ⟨z, 0, none⟩) 3 3) [] (fun z => [ow 52 8 encCa (some ⟨z, 0, none⟩) 3 exL]) Try.call41 rfl rfl (fun w1 hp => k_logO w1) rfl (fun l280 => ?_)
                      dsimp only [List.cons_append, List.nil_append]
                      refine oj_nil ?_
                      refine ej_pl (lt_y (y_ldN (j := 0) (vs := encCa t.1) (reads_lit (sz := 9) (enc := encT) testsK (fun _ => rfl) rfl) Try.isAgg52 Try.sizeOf52 rfl ht ⟨fun j hj => by rw [Nat.zero_add]; exact List.getElem?_append_left hj, rfl⟩) rfl (lt_y (y_faE fa72_0 rfl) rfl (lt_y (y_ixR (reads_lit (sz := 9) (enc := encT) testsK (fun _ => rfl) rfl) Try.underlying73 Try.sizeOf72 rfl rfl (show (0 : Int) ≤ (i : Nat) ∧ ((i : Nat) : Int) < 13 by omega)) rfl (lt_y (y_move rfl) rfl (lt_y (y_move rfl) rfl (lt_nil)))))) ?_
                      refine pl_y 2 rfl (y_sliceTo (xs := exL) 2 Try.underlying45 Try.sizeOf52 rfl rfl (by decide) (by decide)) rfl rfl rfl rfl (by kernel_rfl) ?_
                      refine pl_w1 9 (by kernel_rfl) rfl rfl (pl_fire rfl rfl rfl (by kernel_rfl) ?_)
                      refine oj_cutO (e := 52) (sz := 8) (enc := encCa) (A := some ⟨l280, 0, none⟩) (c := 3) (xs := exL.take 2) (ys := exL.drop 2) (fun _ => rfl) (fun h => by cases h) ?_
                      refine oj_append (xs := exL.take 2) (c := 3) el45 (fun _ => rfl) encCa_one rfl rfl rfl (reads_lit [t.1] (fun _ => rfl) rfl) (by unfold maxLen; simp) (by simp) rfl (fun A288 c288 => ?_)
                      refine oj_nil ?_
                      refine ej_pl (lt_w (by kernel_rfl) (lt_y (y_ldN (j := 0) (vs := encCa t.1) (reads_lit (sz := 9) (enc := encT) testsK (fun _ => rfl) rfl) Try.isAgg52 Try.sizeOf52 rfl ht ⟨fun j hj => by rw [Nat.zero_add]; exact List.getElem?_append_left hj, rfl⟩) rfl (lt_y (y_faE fa72_0 rfl) rfl (lt_y (y_ixR (reads_lit (sz := 9) (enc := encT) testsK (fun _ => rfl) rfl) Try.underlying73 Try.sizeOf72 rfl rfl (show (0 : Int) ≤ (i : Nat) ∧ ((i : Nat) : Int) < 13 by omega)) rfl (lt_y (y_move rfl) rfl (lt_y (y_move rfl) rfl (lt_nil))))))) ?_
                      refine pl_y 10 rfl (y_call Try.call30 rfl (fun w hp => k_Play s279 (exL.take 2 ++ [t.1]) A288 c288 w (str_rd hp (.head _)) (hp.rdO (fun _ => rfl) (by unfold maxLen; simp)))) rfl rfl rfl rfl (by kernel_rfl) ?_
                      refine pl_y 11 rfl (y_move rfl) rfl rfl rfl rfl (by kernel_rfl) ?_
                      refine pl_y 12 rfl (y_extract rfl rfl) rfl rfl rfl rfl (by kernel_rfl) ?_
                      refine pl_y 13 rfl (y_extract rfl rfl) rfl rfl rfl rfl (by kernel_rfl) ?_
                      refine pl_y 14 rfl (y_extract rfl rfl) rfl rfl rfl rfl (by kernel_rfl) ?_
                      refine pl_w1 16 (by kernel_rfl) rfl rfl (pl_fire rfl rfl rfl (by kernel_rfl) ?_)
                      refine oj_store (vs := ((playB s279.s (exL.take 2 ++ [t.1])).flatMap encBa)) (n := 160) (hset := set_all _ _ (by rw [bf_len (playB_len _)]; rfl)) rfl rfl rfl (bf_one _) Try.sizeOf48 (bf_len (playB_len _)) ?_
                      refine oj_nil ?_
                      refine ej_pl (lt_y (y_extract rfl rfl) rfl (lt_y (y_extract rfl rfl) rfl (lt_w (by kernel_rfl) (lt_w (by kernel_rfl) (lt_w (by kernel_rfl) (lt_w (by kernel_rfl) (lt_w (by kernel_rfl) (lt_w (by kernel_rfl) (lt_w (by kernel_rfl) (lt_w (by kernel_rfl) (lt_w (by kernel_rfl) (lt_nil)))))))))))) ?_
                      refine pl_y 17 rfl (y_assign rfl) rfl rfl rfl rfl (by kernel_rfl) ?_
                      refine pl_y 18 rfl (y_assign rfl) rfl rfl rfl rfl (by kernel_rfl) ?_
                      refine pl_end (by kernel_rfl) ?_
                      rw [he279]
                      exact ej_ct () trivial ⟨rfl, rfl, rfl, rfl, rfl, rfl, rfl, rfl, rfl, trivial⟩
                  · refine oj_alloc Try.zeroValue48 rfl rfl (fun b31 => ?_)
                    refine oj_nil ?_
                    refine ej_pl (lt_y (y_ldN (j := 0) (vs := encCa t.1) (reads_lit (sz := 9) (enc := encT) testsK (fun _ => rfl) rfl) Try.isAgg52 Try.sizeOf52 rfl ht ⟨fun j hj => by rw [Nat.zero_add]; exact List.getElem?_append_left hj, rfl⟩) rfl (lt_y (y_faE fa72_0 rfl) rfl (lt_y (y_ixR (reads_lit (sz := 9) (enc := encT) testsK (fun _ => rfl) rfl) Try.underlying73 Try.sizeOf72 rfl rfl (show (0 : Int) ≤ (i : Nat) ∧ ((i : Nat) : Int) < 13 by omega)) rfl (lt_y (y_move rfl) rfl (lt_y (y_move rfl) rfl (lt_nil)))))) ?_
                    refine pl_w1 0 (by kernel_rfl) rfl rfl (pl_fire rfl rfl rfl (by kernel_rfl) ?_)
                    refine oj_callR (X := { z : StrV × Nat × Nat // z.1.s = exS }) (fun z => .agg #[.slice z.1.1.Ar z.1.1.rooms.length z.1.1.cr, .slice z.1.1.Ag z.1.1.gates.length z.1.1.cg, .slice z.1.1.As z.1.1.staff.length z.1.1.cs]) (fun z => [strF (fun b => z.1.2.1 ≤ b ∧ b < z.1.2.2) z.1.1]) Try.call40 rfl (fun w1 hp => (k_strong w1).mono fun e w2 ⟨s, h1, h2, h3, h4⟩ => ⟨⟨(s, w1.heap.size, w2.heap.size), h1⟩, h2, h3, fun g hg => by
                      rw [List.mem_singleton.1 hg]
                      exact ⟨h4, fun b hb => .inr hb⟩⟩) rfl ?_
                    rintro ⟨⟨s279, n279, m279⟩, he279⟩
                    dsimp only [List.cons_append, List.nil_append] at he279 ⊢
                    refine oj_nil ?_
                    refine ej_pl (lt_y (y_ldN (j := 0) (vs := encCa t.1) (reads_lit (sz := 9) (enc := encT) testsK (fun _ => rfl) rfl) Try.isAgg52 Try.sizeOf52 rfl ht ⟨fun j hj => by rw [Nat.zero_add]; exact List.getElem?_append_left hj, rfl⟩) rfl (lt_y (y_faE fa72_0 rfl) rfl (lt_y (y_ixR (reads_lit (sz := 9) (enc := encT) testsK (fun _ => rfl) rfl) Try.underlying73 Try.sizeOf72 rfl rfl (show (0 : Int) ≤ (i : Nat) ∧ ((i : Nat) : Int) < 13 by omega)) rfl (lt_y (y_move rfl) rfl (lt_y (y_move rfl) rfl (lt_nil)))))) ?_
                    refine pl_w1 1 (by kernel_rfl) rfl rfl (pl_fire rfl rfl rfl (by kernel_rfl) ?_)
                    refine oj_callL (X := Nat) (fun z => .slice (some ⟨z, 0, none⟩) 3 3) [] (fun z => [ow 52 8 encCa (some ⟨z, 0, none⟩) 3 exL]) Try.call41 rfl rfl (fun w1 hp => k_logO w1) rfl (fun l280 => ?_)
                    dsimp only [List.cons_append, List.nil_append]
                    refine oj_nil ?_
                    refine ej_pl (lt_y (y_ldN (j := 0) (vs := encCa t.1) (reads_lit (sz := 9) (enc := encT) testsK (fun _ => rfl) rfl) Try.isAgg52 Try.sizeOf52 rfl ht ⟨fun j hj => by rw [Nat.zero_add]; exact List.getElem?_append_left hj, rfl⟩) rfl (lt_y (y_faE fa72_0 rfl) rfl (lt_y (y_ixR (reads_lit (sz := 9) (enc := encT) testsK (fun _ => rfl) rfl) Try.underlying73 Try.sizeOf72 rfl rfl (show (0 : Int) ≤ (i : Nat) ∧ ((i : Nat) : Int) < 13 by omega)) rfl (lt_y (y_move rfl) rfl (lt_y (y_move rfl) rfl (lt_nil)))))) ?_
                    refine pl_y 2 rfl (y_sliceTo (xs := exL) 2 Try.underlying45 Try.sizeOf52 rfl rfl (by decide) (by decide)) rfl rfl rfl rfl (by kernel_rfl) ?_
                    refine pl_w1 9 (by kernel_rfl) rfl rfl (pl_fire rfl rfl rfl (by kernel_rfl) ?_)
                    refine oj_cutO (e := 52) (sz := 8) (enc := encCa) (A := some ⟨l280, 0, none⟩) (c := 3) (xs := exL.take 2) (ys := exL.drop 2) (fun _ => rfl) (fun h => by cases h) ?_
                    refine oj_append (xs := exL.take 2) (c := 3) el45 (fun _ => rfl) encCa_one rfl rfl rfl (reads_lit [t.1] (fun _ => rfl) rfl) (by unfold maxLen; simp) (by simp) rfl (fun A288 c288 => ?_)
                    refine oj_nil ?_
                    refine ej_pl (lt_w (by kernel_rfl) (lt_y (y_ldN (j := 0) (vs := encCa t.1) (reads_lit (sz := 9) (enc := encT) testsK (fun _ => rfl) rfl) Try.isAgg52 Try.sizeOf52 rfl ht ⟨fun j hj => by rw [Nat.zero_add]; exact List.getElem?_append_left hj, rfl⟩) rfl (lt_y (y_faE fa72_0 rfl) rfl (lt_y (y_ixR (reads_lit (sz := 9) (enc := encT) testsK (fun _ => rfl) rfl) Try.underlying73 Try.sizeOf72 rfl rfl (show (0 : Int) ≤ (i : Nat) ∧ ((i : Nat) : Int) < 13 by omega)) rfl (lt_y (y_move rfl) rfl (lt_y (y_move rfl) rfl (lt_nil))))))) ?_
                    refine pl_y 10 rfl (y_call Try.call30 rfl (fun w hp => k_Play s279 (exL.take 2 ++ [t.1]) A288 c288 w (str_rd hp (.head _)) (hp.rdO (fun _ => rfl) (by unfold maxLen; simp)))) rfl rfl rfl rfl (by kernel_rfl) ?_
                    refine pl_y 11 rfl (y_move rfl) rfl rfl rfl rfl (by kernel_rfl) ?_
                    refine pl_y 12 rfl (y_extract rfl rfl) rfl rfl rfl rfl (by kernel_rfl) ?_
                    refine pl_y 13 rfl (y_extract rfl rfl) rfl rfl rfl rfl (by kernel_rfl) ?_
                    refine pl_y 14 rfl (y_extract rfl rfl) rfl rfl rfl rfl (by kernel_rfl) ?_
                    refine pl_w1 16 (by kernel_rfl) rfl rfl (pl_fire rfl rfl rfl (by kernel_rfl) ?_)
                    refine oj_store (vs := ((playB s279.s (exL.take 2 ++ [t.1])).flatMap encBa)) (n := 160) (hset := set_all _ _ (by rw [bf_len (playB_len _)]; rfl)) rfl rfl rfl (bf_one _) Try.sizeOf48 (bf_len (playB_len _)) ?_
                    refine oj_nil ?_
                    refine ej_pl (lt_y (y_extract rfl rfl) rfl (lt_y (y_extract rfl rfl) rfl (lt_w (by kernel_rfl) (lt_w (by kernel_rfl) (lt_w (by kernel_rfl) (lt_w (by kernel_rfl) (lt_w (by kernel_rfl) (lt_w (by kernel_rfl) (lt_w (by kernel_rfl) (lt_w (by kernel_rfl) (lt_w (by kernel_rfl) (lt_nil)))))))))))) ?_
                    refine pl_y 17 rfl (y_assign rfl) rfl rfl rfl rfl (by kernel_rfl) ?_
                    refine pl_y 18 rfl (y_assign rfl) rfl rfl rfl rfl (by kernel_rfl) ?_
                    refine pl_end (by kernel_rfl) ?_
                    rw [he279]
                    exact ej_ct () trivial ⟨rfl, rfl, rfl, rfl, rfl, rfl, rfl, rfl, rfl, trivial⟩
                · refine oj_alloc Try.zeroValue48 rfl rfl (fun b31 => ?_)
                  refine oj_nil ?_
                  refine ej_pl (lt_y (y_ldN (j := 0) (vs := encCa t.1) (reads_lit (sz := 9) (enc := encT) testsK (fun _ => rfl) rfl) Try.isAgg52 Try.sizeOf52 rfl ht ⟨fun j hj => by rw [Nat.zero_add]; exact List.getElem?_append_left hj, rfl⟩) rfl (lt_y (y_faE fa72_0 rfl) rfl (lt_y (y_ixR (reads_lit (sz := 9) (enc := encT) testsK (fun _ => rfl) rfl) Try.underlying73 Try.sizeOf72 rfl rfl (show (0 : Int) ≤ (i : Nat) ∧ ((i : Nat) : Int) < 13 by omega)) rfl (lt_y (y_move rfl) rfl (lt_y (y_move rfl) rfl (lt_nil)))))) ?_
                  refine pl_w2 0 8 (by kernel_rfl) rfl rfl (pl_fire rfl rfl rfl (by kernel_rfl) ?_) (pl_fire rfl rfl rfl (by kernel_rfl) ?_)
                  · refine oj_callR (X := { z : StrV × Nat × Nat // z.1.s = exS }) (fun z => .agg #[.slice z.1.1.Ar z.1.1.rooms.length z.1.1.cr, .slice z.1.1.Ag z.1.1.gates.length z.1.1.cg, .slice z.1.1.As z.1.1.staff.length z.1.1.cs]) (fun z => [strF (fun b => z.1.2.1 ≤ b ∧ b < z.1.2.2) z.1.1]) Try.call40 rfl (fun w1 hp => (k_strong w1).mono fun e w2 ⟨s, h1, h2, h3, h4⟩ => ⟨⟨(s, w1.heap.size, w2.heap.size), h1⟩, h2, h3, fun g hg => by
                      rw [List.mem_singleton.1 hg]
                      exact ⟨h4, fun b hb => .inr hb⟩⟩) rfl ?_
                    rintro ⟨⟨s279, n279, m279⟩, he279⟩
                    dsimp only [List.cons_append, List.nil_append] at he279 ⊢
                    refine oj_nil ?_
                    refine ej_pl (lt_y (y_ldN (j := 0) (vs := encCa t.1) (reads_lit (sz := 9) (enc := encT) testsK (fun _ => rfl) rfl) Try.isAgg52 Try.sizeOf52 rfl ht ⟨fun j hj => by rw [Nat.zero_add]; exact List.getElem?_append_left hj, rfl⟩) rfl (lt_y (y_faE fa72_0 rfl) rfl (lt_y (y_ixR (reads_lit (sz := 9) (enc := encT) testsK (fun _ => rfl) rfl) Try.underlying73 Try.sizeOf72 rfl rfl (show (0 : Int) ≤ (i : Nat) ∧ ((i : Nat) : Int) < 13 by omega)) rfl (lt_y (y_move rfl) rfl (lt_y (y_move rfl) rfl (lt_nil)))))) ?_
                    refine pl_w2 1 8 (by kernel_rfl) rfl rfl (pl_fire rfl rfl rfl (by kernel_rfl) ?_) (pl_fire rfl rfl rfl (by kernel_rfl) ?_)
                    · refine oj_callL (X := Nat) (fun z => .slice (some ⟨z, 0, none⟩) 3 3) [] (fun z => [ow 52 8 encCa (some ⟨z, 0, none⟩) 3 exL]) Try.call41 rfl rfl (fun w1 hp => k_logO w1) rfl (fun l280 => ?_)
                      dsimp only [List.cons_append, List.nil_append]
                      refine oj_nil ?_
                      refine ej_pl (lt_y (y_ldN (j := 0) (vs := encCa t.1) (reads_lit (sz := 9) (enc := encT) testsK (fun _ => rfl) rfl) Try.isAgg52 Try.sizeOf52 rfl ht ⟨fun j hj => by rw [Nat.zero_add]; exact List.getElem?_append_left hj, rfl⟩) rfl (lt_y (y_faE fa72_0 rfl) rfl (lt_y (y_ixR (reads_lit (sz := 9) (enc := encT) testsK (fun _ => rfl) rfl) Try.underlying73 Try.sizeOf72 rfl rfl (show (0 : Int) ≤ (i : Nat) ∧ ((i : Nat) : Int) < 13 by omega)) rfl (lt_y (y_move rfl) rfl (lt_y (y_move rfl) rfl (lt_nil)))))) ?_
                      refine pl_y 2 rfl (y_sliceTo (xs := exL) 2 Try.underlying45 Try.sizeOf52 rfl rfl (by decide) (by decide)) rfl rfl rfl rfl (by kernel_rfl) ?_
                      refine pl_w1 8 (by kernel_rfl) rfl rfl (pl_fire rfl rfl rfl (by kernel_rfl) ?_)
                      refine oj_buildSlice (cs := [.int .i64 t.1.day, .int .i64 t.1.kind, .int .i64 t.1.bag, .int .i64 t.1.to_, .int .i64 t.1.by_, .int .i64 t.1.with_, .int .i64 t.1.mark, .int .i64 t.1.suits]) [.int .i64 0, .int .i64 0, .int .i64 0, .int .i64 0, .int .i64 0, .int .i64 0, .int .i64 0, .int .i64 0] Try.underlying45 Try.sizeOf52 Try.zeroValue52 rfl rfl (by kernel_rfl) (by kernel_rfl) rfl (fun b287 => ?_)
                      refine oj_nil ?_
                      refine ej_pl (lt_y (y_sliceTo (xs := exL) 2 Try.underlying45 Try.sizeOf52 rfl rfl (by decide) (by decide)) rfl (lt_w (by kernel_rfl) (lt_y (y_faE fa72_0 rfl) rfl (lt_y (y_ixR (reads_lit (sz := 9) (enc := encT) testsK (fun _ => rfl) rfl) Try.underlying73 Try.sizeOf72 rfl rfl (show (0 : Int) ≤ (i : Nat) ∧ ((i : Nat) : Int) < 13 by omega)) rfl (lt_y (y_move rfl) rfl (lt_y (y_move rfl) rfl (lt_nil))))))) ?_
                      refine pl_w1 9 (by kernel_rfl) rfl rfl (pl_fire rfl rfl rfl (by kernel_rfl) ?_)
                      refine oj_cutO (e := 52) (sz := 8) (enc := encCa) (A := some ⟨l280, 0, none⟩) (c := 3) (xs := exL.take 2) (ys := exL.drop 2) (fun _ => rfl) (fun h => by cases h) ?_
                      refine oj_append (xs := exL.take 2) (c := 3) el45 (fun _ => rfl) encCa_one rfl rfl rfl (reads_lit [t.1] (fun _ => rfl) rfl) (by unfold maxLen; simp) (by simp) rfl (fun A288 c288 => ?_)
                      refine oj_nil ?_
                      refine ej_pl (lt_w (by kernel_rfl) (lt_y (y_ldN (j := 0) (vs := encCa t.1) (reads_lit (sz := 9) (enc := encT) testsK (fun _ => rfl) rfl) Try.isAgg52 Try.sizeOf52 rfl ht ⟨fun j hj => by rw [Nat.zero_add]; exact List.getElem?_append_left hj, rfl⟩) rfl (lt_y (y_faE fa72_0 rfl) rfl (lt_y (y_ixR (reads_lit (sz := 9) (enc := encT) testsK (fun _ => rfl) rfl) Try.underlying73 Try.sizeOf72 rfl rfl (show (0 : Int) ≤ (i : Nat) ∧ ((i : Nat) : Int) < 13 by omega)) rfl (lt_y (y_move rfl) rfl (lt_y (y_move rfl) rfl (lt_nil))))))) ?_
                      refine pl_y 10 rfl (y_call Try.call30 rfl (fun w hp => k_Play s279 (exL.take 2 ++ [t.1]) A288 c288 w (str_rd hp (.head _)) (hp.rdO (fun _ => rfl) (by unfold maxLen; simp)))) rfl rfl rfl rfl (by kernel_rfl) ?_
                      refine pl_y 11 rfl (y_move rfl) rfl rfl rfl rfl (by kernel_rfl) ?_
                      refine pl_y 12 rfl (y_extract rfl rfl) rfl rfl rfl rfl (by kernel_rfl) ?_
                      refine pl_y 13 rfl (y_extract rfl rfl) rfl rfl rfl rfl (by kernel_rfl) ?_
                      refine pl_y 14 rfl (y_extract rfl rfl) rfl rfl rfl rfl (by kernel_rfl) ?_
                      refine pl_w1 16 (by kernel_rfl) rfl rfl (pl_fire rfl rfl rfl (by kernel_rfl) ?_)
                      refine oj_store (vs := ((playB s279.s (exL.take 2 ++ [t.1])).flatMap encBa)) (n := 160) (hset := set_all _ _ (by rw [bf_len (playB_len _)]; rfl)) rfl rfl rfl (bf_one _) Try.sizeOf48 (bf_len (playB_len _)) ?_
                      refine oj_nil ?_
                      refine ej_pl (lt_y (y_extract rfl rfl) rfl (lt_y (y_extract rfl rfl) rfl (lt_w (by kernel_rfl) (lt_w (by kernel_rfl) (lt_w (by kernel_rfl) (lt_w (by kernel_rfl) (lt_w (by kernel_rfl) (lt_w (by kernel_rfl) (lt_w (by kernel_rfl) (lt_w (by kernel_rfl) (lt_w (by kernel_rfl) (lt_nil)))))))))))) ?_
                      refine pl_y 17 rfl (y_assign rfl) rfl rfl rfl rfl (by kernel_rfl) ?_
                      refine pl_y 18 rfl (y_assign rfl) rfl rfl rfl rfl (by kernel_rfl) ?_
                      refine pl_end (by kernel_rfl) ?_
                      rw [he279]
                      exact ej_ct () trivial ⟨rfl, rfl, rfl, rfl, rfl, rfl, rfl, rfl, rfl, trivial⟩
                    · refine oj_buildSlice (cs := [.int .i64 t.1.day, .int .i64 t.1.kind, .int .i64 t.1.bag, .int .i64 t.1.to_, .int .i64 t.1.by_, .int .i64 t.1.with_, .int .i64 t.1.mark, .int .i64 t.1.suits]) [.int .i64 0, .int .i64 0, .int .i64 0, .int .i64 0, .int .i64 0, .int .i64 0, .int .i64 0, .int .i64 0] Try.underlying45 Try.sizeOf52 Try.zeroValue52 rfl rfl (by kernel_rfl) (by kernel_rfl) rfl (fun b287 => ?_)
                      refine oj_nil ?_
                      refine ej_pl (lt_w (by kernel_rfl) (lt_y (y_faE fa72_0 rfl) rfl (lt_y (y_ixR (reads_lit (sz := 9) (enc := encT) testsK (fun _ => rfl) rfl) Try.underlying73 Try.sizeOf72 rfl rfl (show (0 : Int) ≤ (i : Nat) ∧ ((i : Nat) : Int) < 13 by omega)) rfl (lt_y (y_move rfl) rfl (lt_y (y_move rfl) rfl (lt_nil)))))) ?_
                      refine pl_w1 1 (by kernel_rfl) rfl rfl (pl_fire rfl rfl rfl (by kernel_rfl) ?_)
                      refine oj_callL (X := Nat) (fun z => .slice (some ⟨z, 0, none⟩) 3 3) [] (fun z => [ow 52 8 encCa (some ⟨z, 0, none⟩) 3 exL]) Try.call41 rfl rfl (fun w1 hp => k_logO w1) rfl (fun l280 => ?_)
                      dsimp only [List.cons_append, List.nil_append]
                      refine oj_nil ?_
                      refine ej_pl (lt_y (y_ldN (j := 0) (vs := encCa t.1) (reads_lit (sz := 9) (enc := encT) testsK (fun _ => rfl) rfl) Try.isAgg52 Try.sizeOf52 rfl ht ⟨fun j hj => by rw [Nat.zero_add]; exact List.getElem?_append_left hj, rfl⟩) rfl (lt_y (y_faE fa72_0 rfl) rfl (lt_y (y_ixR (reads_lit (sz := 9) (enc := encT) testsK (fun _ => rfl) rfl) Try.underlying73 Try.sizeOf72 rfl rfl (show (0 : Int) ≤ (i : Nat) ∧ ((i : Nat) : Int) < 13 by omega)) rfl (lt_y (y_move rfl) rfl (lt_y (y_move rfl) rfl (lt_nil)))))) ?_
                      refine pl_y 2 rfl (y_sliceTo (xs := exL) 2 Try.underlying45 Try.sizeOf52 rfl rfl (by decide) (by decide)) rfl rfl rfl rfl (by kernel_rfl) ?_
                      refine pl_w1 9 (by kernel_rfl) rfl rfl (pl_fire rfl rfl rfl (by kernel_rfl) ?_)
                      refine oj_cutO (e := 52) (sz := 8) (enc := encCa) (A := some ⟨l280, 0, none⟩) (c := 3) (xs := exL.take 2) (ys := exL.drop 2) (fun _ => rfl) (fun h => by cases h) ?_
                      refine oj_append (xs := exL.take 2) (c := 3) el45 (fun _ => rfl) encCa_one rfl rfl rfl (reads_lit [t.1] (fun _ => rfl) rfl) (by unfold maxLen; simp) (by simp) rfl (fun A288 c288 => ?_)
                      refine oj_nil ?_
                      refine ej_pl (lt_w (by kernel_rfl) (lt_y (y_ldN (j := 0) (vs := encCa t.1) (reads_lit (sz := 9) (enc := encT) testsK (fun _ => rfl) rfl) Try.isAgg52 Try.sizeOf52 rfl ht ⟨fun j hj => by rw [Nat.zero_add]; exact List.getElem?_append_left hj, rfl⟩) rfl (lt_y (y_faE fa72_0 rfl) rfl (lt_y (y_ixR (reads_lit (sz := 9) (enc := encT) testsK (fun _ => rfl) rfl) Try.underlying73 Try.sizeOf72 rfl rfl (show (0 : Int) ≤ (i : Nat) ∧ ((i : Nat) : Int) < 13 by omega)) rfl (lt_y (y_move rfl) rfl (lt_y (y_move rfl) rfl (lt_nil))))))) ?_
                      refine pl_y 10 rfl (y_call Try.call30 rfl (fun w hp => k_Play s279 (exL.take 2 ++ [t.1]) A288 c288 w (str_rd hp (.head _)) (hp.rdO (fun _ => rfl) (by unfold maxLen; simp)))) rfl rfl rfl rfl (by kernel_rfl) ?_
                      refine pl_y 11 rfl (y_move rfl) rfl rfl rfl rfl (by kernel_rfl) ?_
                      refine pl_y 12 rfl (y_extract rfl rfl) rfl rfl rfl rfl (by kernel_rfl) ?_
                      refine pl_y 13 rfl (y_extract rfl rfl) rfl rfl rfl rfl (by kernel_rfl) ?_
                      refine pl_y 14 rfl (y_extract rfl rfl) rfl rfl rfl rfl (by kernel_rfl) ?_
                      refine pl_w1 16 (by kernel_rfl) rfl rfl (pl_fire rfl rfl rfl (by kernel_rfl) ?_)
                      refine oj_store (vs := ((playB s279.s (exL.take 2 ++ [t.1])).flatMap encBa)) (n := 160) (hset := set_all _ _ (by rw [bf_len (playB_len _)]; rfl)) rfl rfl rfl (bf_one _) Try.sizeOf48 (bf_len (playB_len _)) ?_
                      refine oj_nil ?_
                      refine ej_pl (lt_y (y_extract rfl rfl) rfl (lt_y (y_extract rfl rfl) rfl (lt_w (by kernel_rfl) (lt_w (by kernel_rfl) (lt_w (by kernel_rfl) (lt_w (by kernel_rfl) (lt_w (by kernel_rfl) (lt_w (by kernel_rfl) (lt_w (by kernel_rfl) (lt_w (by kernel_rfl) (lt_w (by kernel_rfl) (lt_nil)))))))))))) ?_
                      refine pl_y 17 rfl (y_assign rfl) rfl rfl rfl rfl (by kernel_rfl) ?_
                      refine pl_y 18 rfl (y_assign rfl) rfl rfl rfl rfl (by kernel_rfl) ?_
                      refine pl_end (by kernel_rfl) ?_
                      rw [he279]
                      exact ej_ct () trivial ⟨rfl, rfl, rfl, rfl, rfl, rfl, rfl, rfl, rfl, trivial⟩
                  · refine oj_buildSlice (cs := [.int .i64 t.1.day, .int .i64 t.1.kind, .int .i64 t.1.bag, .int .i64 t.1.to_, .int .i64 t.1.by_, .int .i64 t.1.with_, .int .i64 t.1.mark, .int .i64 t.1.suits]) [.int .i64 0, .int .i64 0, .int .i64 0, .int .i64 0, .int .i64 0, .int .i64 0, .int .i64 0, .int .i64 0] Try.underlying45 Try.sizeOf52 Try.zeroValue52 rfl rfl (by kernel_rfl) (by kernel_rfl) rfl (fun b287 => ?_)
                    refine oj_nil ?_
                    refine ej_pl (lt_w (by kernel_rfl) (lt_y (y_faE fa72_0 rfl) rfl (lt_y (y_ixR (reads_lit (sz := 9) (enc := encT) testsK (fun _ => rfl) rfl) Try.underlying73 Try.sizeOf72 rfl rfl (show (0 : Int) ≤ (i : Nat) ∧ ((i : Nat) : Int) < 13 by omega)) rfl (lt_y (y_move rfl) rfl (lt_y (y_move rfl) rfl (lt_nil)))))) ?_
                    refine pl_w1 0 (by kernel_rfl) rfl rfl (pl_fire rfl rfl rfl (by kernel_rfl) ?_)
                    refine oj_callR (X := { z : StrV × Nat × Nat // z.1.s = exS }) (fun z => .agg #[.slice z.1.1.Ar z.1.1.rooms.length z.1.1.cr, .slice z.1.1.Ag z.1.1.gates.length z.1.1.cg, .slice z.1.1.As z.1.1.staff.length z.1.1.cs]) (fun z => [strF (fun b => z.1.2.1 ≤ b ∧ b < z.1.2.2) z.1.1]) Try.call40 rfl (fun w1 hp => (k_strong w1).mono fun e w2 ⟨s, h1, h2, h3, h4⟩ => ⟨⟨(s, w1.heap.size, w2.heap.size), h1⟩, h2, h3, fun g hg => by
                      rw [List.mem_singleton.1 hg]
                      exact ⟨h4, fun b hb => .inr hb⟩⟩) rfl ?_
                    rintro ⟨⟨s279, n279, m279⟩, he279⟩
                    dsimp only [List.cons_append, List.nil_append] at he279 ⊢
                    refine oj_nil ?_
                    refine ej_pl (lt_y (y_ldN (j := 0) (vs := encCa t.1) (reads_lit (sz := 9) (enc := encT) testsK (fun _ => rfl) rfl) Try.isAgg52 Try.sizeOf52 rfl ht ⟨fun j hj => by rw [Nat.zero_add]; exact List.getElem?_append_left hj, rfl⟩) rfl (lt_y (y_faE fa72_0 rfl) rfl (lt_y (y_ixR (reads_lit (sz := 9) (enc := encT) testsK (fun _ => rfl) rfl) Try.underlying73 Try.sizeOf72 rfl rfl (show (0 : Int) ≤ (i : Nat) ∧ ((i : Nat) : Int) < 13 by omega)) rfl (lt_y (y_move rfl) rfl (lt_y (y_move rfl) rfl (lt_nil)))))) ?_
                    refine pl_w1 1 (by kernel_rfl) rfl rfl (pl_fire rfl rfl rfl (by kernel_rfl) ?_)
                    refine oj_callL (X := Nat) (fun z => .slice (some ⟨z, 0, none⟩) 3 3) [] (fun z => [ow 52 8 encCa (some ⟨z, 0, none⟩) 3 exL]) Try.call41 rfl rfl (fun w1 hp => k_logO w1) rfl (fun l280 => ?_)
                    dsimp only [List.cons_append, List.nil_append]
                    refine oj_nil ?_
                    refine ej_pl (lt_y (y_ldN (j := 0) (vs := encCa t.1) (reads_lit (sz := 9) (enc := encT) testsK (fun _ => rfl) rfl) Try.isAgg52 Try.sizeOf52 rfl ht ⟨fun j hj => by rw [Nat.zero_add]; exact List.getElem?_append_left hj, rfl⟩) rfl (lt_y (y_faE fa72_0 rfl) rfl (lt_y (y_ixR (reads_lit (sz := 9) (enc := encT) testsK (fun _ => rfl) rfl) Try.underlying73 Try.sizeOf72 rfl rfl (show (0 : Int) ≤ (i : Nat) ∧ ((i : Nat) : Int) < 13 by omega)) rfl (lt_y (y_move rfl) rfl (lt_y (y_move rfl) rfl (lt_nil)))))) ?_
                    refine pl_y 2 rfl (y_sliceTo (xs := exL) 2 Try.underlying45 Try.sizeOf52 rfl rfl (by decide) (by decide)) rfl rfl rfl rfl (by kernel_rfl) ?_
                    refine pl_w1 9 (by kernel_rfl) rfl rfl (pl_fire rfl rfl rfl (by kernel_rfl) ?_)
                    refine oj_cutO (e := 52) (sz := 8) (enc := encCa) (A := some ⟨l280, 0, none⟩) (c := 3) (xs := exL.take 2) (ys := exL.drop 2) (fun _ => rfl) (fun h => by cases h) ?_
                    refine oj_append (xs := exL.take 2) (c := 3) el45 (fun _ => rfl) encCa_one rfl rfl rfl (reads_lit [t.1] (fun _ => rfl) rfl) (by unfold maxLen; simp) (by simp) rfl (fun A288 c288 => ?_)
                    refine oj_nil ?_
                    refine ej_pl (lt_w (by kernel_rfl) (lt_y (y_ldN (j := 0) (vs := encCa t.1) (reads_lit (sz := 9) (enc := encT) testsK (fun _ => rfl) rfl) Try.isAgg52 Try.sizeOf52 rfl ht ⟨fun j hj => by rw [Nat.zero_add]; exact List.getElem?_append_left hj, rfl⟩) rfl (lt_y (y_faE fa72_0 rfl) rfl (lt_y (y_ixR (reads_lit (sz := 9) (enc := encT) testsK (fun _ => rfl) rfl) Try.underlying73 Try.sizeOf72 rfl rfl (show (0 : Int) ≤ (i : Nat) ∧ ((i : Nat) : Int) < 13 by omega)) rfl (lt_y (y_move rfl) rfl (lt_y (y_move rfl) rfl (lt_nil))))))) ?_
                    refine pl_y 10 rfl (y_call Try.call30 rfl (fun w hp => k_Play s279 (exL.take 2 ++ [t.1]) A288 c288 w (str_rd hp (.head _)) (hp.rdO (fun _ => rfl) (by unfold maxLen; simp)))) rfl rfl rfl rfl (by kernel_rfl) ?_
                    refine pl_y 11 rfl (y_move rfl) rfl rfl rfl rfl (by kernel_rfl) ?_
                    refine pl_y 12 rfl (y_extract rfl rfl) rfl rfl rfl rfl (by kernel_rfl) ?_
                    refine pl_y 13 rfl (y_extract rfl rfl) rfl rfl rfl rfl (by kernel_rfl) ?_
                    refine pl_y 14 rfl (y_extract rfl rfl) rfl rfl rfl rfl (by kernel_rfl) ?_
                    refine pl_w1 16 (by kernel_rfl) rfl rfl (pl_fire rfl rfl rfl (by kernel_rfl) ?_)
                    refine oj_store (vs := ((playB s279.s (exL.take 2 ++ [t.1])).flatMap encBa)) (n := 160) (hset := set_all _ _ (by rw [bf_len (playB_len _)]; rfl)) rfl rfl rfl (bf_one _) Try.sizeOf48 (bf_len (playB_len _)) ?_
                    refine oj_nil ?_
                    refine ej_pl (lt_y (y_extract rfl rfl) rfl (lt_y (y_extract rfl rfl) rfl (lt_w (by kernel_rfl) (lt_w (by kernel_rfl) (lt_w (by kernel_rfl) (lt_w (by kernel_rfl) (lt_w (by kernel_rfl) (lt_w (by kernel_rfl) (lt_w (by kernel_rfl) (lt_w (by kernel_rfl) (lt_w (by kernel_rfl) (lt_nil)))))))))))) ?_
                    refine pl_y 17 rfl (y_assign rfl) rfl rfl rfl rfl (by kernel_rfl) ?_
                    refine pl_y 18 rfl (y_assign rfl) rfl rfl rfl rfl (by kernel_rfl) ?_
                    refine pl_end (by kernel_rfl) ?_
                    rw [he279]
                    exact ej_ct () trivial ⟨rfl, rfl, rfl, rfl, rfl, rfl, rfl, rfl, rfl, trivial⟩
              · rintro _ -
                dsimp only [List.cons_append, List.nil_append]
                refine cj_seq ?_
                refine cj_regionG (gj_step (y_move rfl) rfl rfl rfl (gj_step (y_move rfl) rfl rfl rfl (gj_step (y_move rfl) rfl rfl rfl (gj_step (y_ixR (reads_lit (sz := 9) (enc := encT) testsK (fun _ => rfl) rfl) Try.underlying73 Try.sizeOf72 rfl rfl (show (0 : Int) ≤ (i : Nat) ∧ ((i : Nat) : Int) < 13 by omega)) rfl rfl rfl (gj_step (y_faE fa72_1 rfl) rfl rfl rfl (gj_step (y_ld1 (j := 8) (reads_lit (sz := 9) (enc := encT) testsK (fun _ => rfl) rfl) Try.isAgg27 rfl ht rfl) rfl rfl rfl (gj_step (y_neq rfl rfl) rfl rfl rfl (gj_step (y_move rfl) rfl rfl rfl (gj_g 6 300 306 rfl rfl rfl rfl (fun hg300 => gj_yes rfl rfl rfl (y_move rfl) rfl rfl (gj_yes rfl rfl rfl (y_eql rfl rfl) rfl rfl (gj_yes rfl rfl rfl (y_move rfl) rfl rfl (gj_g 2 303 305 rfl rfl rfl rfl (fun hg303 => gj_yes rfl rfl rfl (y_move rfl) rfl rfl (gj_yes rfl rfl rfl (y_neq rfl rfl) rfl rfl (gj_nil rfl))) (gj_yes rfl rfl rfl (y_and rfl rfl rfl) rfl rfl (gj_nil rfl)))))) (gj_step (y_or rfl rfl rfl) rfl rfl rfl (gj_step (y_move rfl) rfl rfl rfl (gj_g 6 308 314 rfl rfl rfl rfl (fun hg308 => gj_yes rfl rfl rfl (y_move rfl) rfl rfl (gj_yes rfl rfl rfl (y_eql rfl rfl) rfl rfl (gj_yes rfl rfl rfl (y_move rfl) rfl rfl (gj_g 2 311 313 rfl rfl rfl rfl (fun hg311 => gj_yes rfl rfl rfl (y_move rfl) rfl rfl (gj_yes rfl rfl rfl (y_neq rfl rfl) rfl rfl (gj_nil rfl))) (gj_yes rfl rfl rfl (y_and rfl rfl rfl) rfl rfl (gj_nil rfl)))))) (gj_step (y_or rfl rfl rfl) rfl rfl rfl (gj_step (y_move rfl) rfl rfl rfl (gj_g 10 316 326 rfl rfl rfl rfl (fun hg316 => gj_yes rfl rfl rfl (y_move rfl) rfl rfl (gj_yes rfl rfl rfl (y_neq rfl rfl) rfl rfl (gj_yes rfl rfl rfl (y_move rfl) rfl rfl (gj_g 2 319 321 rfl rfl rfl rfl (fun hg319 => gj_yes rfl rfl rfl (y_move rfl) rfl rfl (gj_yes rfl rfl rfl (y_neq rfl rfl) rfl rfl (gj_nil rfl))) (gj_yes rfl rfl rfl (y_and rfl rfl rfl) rfl rfl (gj_yes rfl rfl rfl (y_move rfl) rfl rfl (gj_g 2 323 325 rfl rfl rfl rfl (fun hg323 => gj_yes rfl rfl rfl (y_move rfl) rfl rfl (gj_yes rfl rfl rfl (y_neq rfl rfl) rfl rfl (gj_nil rfl))) (gj_yes rfl rfl rfl (y_and rfl rfl rfl) rfl rfl (gj_nil rfl))))))))) (gj_step (y_or rfl rfl rfl) rfl rfl rfl (gj_nil ?_)))))))))))))))))
                refine ej_th ?_
                refine cj_cond rfl (fun h327 => ?_) (fun h327 => ?_)
                · exfalso
                  rw [q1] at h327
                  revert q2 q3 q4 h327
                  generalize playAt exS (exL.take 2 ++ [t.1]) = pa
                  clear q1
                  generalize t.2 = te
                  intro q2 q3 q4 h327
                  by_cases p1 : te = 43
                  · simp [p1, q2 p1] at h327
                  · by_cases p2 : te = 0
                    · simp [p2, q3 p2] at h327
                    · simp [p1, p2, q4 p2 p1] at h327
                · have h327b := h327
                  try simp only [sxb] at h327
                  refine cj_skip (ej_blk (ej_th ?_))
                  refine cj_regionG (gj_step (y_move rfl) rfl rfl rfl (gj_step (y_add rfl rfl (by omega)) rfl rfl rfl (gj_step (y_assign rfl) rfl rfl rfl (gj_nil ?_))))
                  exact ej_nx (i + 1) (by omega) (by omega) ⟨rfl, rfl, rfl, rfl, rfl, rfl, rfl, trivial⟩
            · have h275b := h275
              try simp only [sxb] at h275
              refine cj_exit (ej_then_exit (ej_then_exit (ej_blk_hit ?_)))
              exact ej_ct () trivial ⟨rfl, rfl, rfl, rfl, rfl, trivial⟩
          · rintro _ -
            dsimp only [List.cons_append, List.nil_append]
            refine cj_seq (cj_region ?_)
            refine oj_callL (X := Nat × Nat × Nat × Nat × Nat × Nat) (fun z => .agg #[.slice (some ⟨z.1, 0, none⟩) 3 3, .slice (some ⟨z.2.1, 0, none⟩) 3 3, .slice (some ⟨z.2.2.2.2.2, 0, none⟩) 3 3]) [] (fun z => [ownB z.1 (cellsB 71 [.int .i64 0, .int .i64 0, .int .i64 0, .int .i64 2, .int .i64 0, .int .i64 4, .int .i64 1, .int .i64 1, .int .i64 0]), ownB z.2.1 (cellsB 69 [.int .i64 0, .int .i64 1, .int .i64 1, .slice (some ⟨z.2.2.1, 0, none⟩) 1 1, .int .i64 1, .int .i64 2, .int .i64 2, .slice (some ⟨z.2.2.2.1, 0, none⟩) 1 1, .int .i64 0, .int .i64 2, .int .i64 1, .slice (some ⟨z.2.2.2.2.1, 0, none⟩) 1 1]), ownB z.2.2.1 (cellsB 3 [.int .i64 1]), ownB z.2.2.2.1 (cellsB 3 [.int .i64 6]), ownB z.2.2.2.2.1 (cellsB 3 [.int .i64 8]), ownB z.2.2.2.2.2 (cellsB 3 [.int .i64 1, .int .i64 2, .int .i64 3])]) Try.call40 rfl rfl (fun w1 hp => k_strongO w1) rfl ?_
            rintro ⟨r328, g328, u328, v328, x328, s328⟩
            dsimp only [List.cons_append, List.nil_append]
            refine oj_alloc Try.zeroValue26 rfl rfl (fun b34 => ?_)
            refine oj_store rfl rfl rfl rfl Try.sizeOf26 rfl ?_
            refine oj_nil ?_
            refine ej_th (cj_seq (cj_region ?_))
            refine oj_step (y_fa fa26_2 rfl) rfl rfl rfl ?_
            refine oj_step (y_load1 Try.isAgg24 rfl rfl) rfl rfl rfl ?_
            refine oj_step (y_ixL 1 Try.underlying24 Try.sizeOf3 rfl rfl ⟨by decide, by decide⟩ (by decide)) rfl rfl rfl ?_
            refine oj_store rfl rfl rfl rfl Try.sizeOf3 rfl ?_
            refine oj_nil ?_
            refine ej_th (cj_seq (cj_region ?_))
            refine oj_step (y_fa fa26_1 rfl) rfl rfl rfl ?_
            refine oj_step (y_load1 Try.isAgg23 rfl rfl) rfl rfl rfl ?_
            refine oj_step (y_ixL 0 Try.underlying23 Try.sizeOf69 rfl rfl ⟨by decide, by decide⟩ (by decide)) rfl rfl rfl ?_
            refine oj_step (y_fa fa69_2 rfl) rfl rfl rfl ?_
            refine oj_store rfl rfl rfl rfl Try.sizeOf3 rfl ?_
            refine oj_nil ?_
            refine ej_th (cj_seq (cj_region ?_))
            refine oj_step (y_fa fa26_2 rfl) rfl rfl rfl ?_
            refine oj_step (y_load1 Try.isAgg24 rfl rfl) rfl rfl rfl ?_
            refine oj_step (y_ixL 2 Try.underlying24 Try.sizeOf3 rfl rfl ⟨by decide, by decide⟩ (by decide)) rfl rfl rfl ?_
            refine oj_store rfl rfl rfl rfl Try.sizeOf3 rfl ?_
            refine oj_nil ?_
            refine ej_th (cj_seq (cj_region ?_))
            refine oj_step (y_fa fa26_2 rfl) rfl rfl rfl ?_
            refine oj_step (y_load1 Try.isAgg24 rfl rfl) rfl rfl rfl ?_
            refine oj_step (y_ixL 0 Try.underlying24 Try.sizeOf3 rfl rfl ⟨by decide, by decide⟩ (by decide)) rfl rfl rfl ?_
            refine oj_store rfl rfl rfl rfl Try.sizeOf3 rfl ?_
            refine oj_nil ?_
            refine ej_th ?_
            refine cj_cuti (X := Unit) [(9, _), (11, _), (13, _), (15, _)] ⟨rfl, rfl, rfl, rfl, trivial⟩ (fun _ => True) (fun _ => [(36, .int .i64 (playAt aloneS exL : Nat)), (7, .int .i64 (playE aloneS exL))]) (fun _ => []) (fun _ => []) ?_ ?_
            · refine cj_plan 11 (by kernel_rfl) (by kernel_rfl) ?_
              refine pl_y 0 rfl (y_loadN Try.isAgg26 Try.sizeOf26 rfl) rfl rfl rfl rfl (by kernel_rfl) ?_
              refine pl_w2 1 7 (by kernel_rfl) rfl rfl (pl_fire rfl rfl rfl (by kernel_rfl) ?_) (pl_fire rfl rfl rfl (by kernel_rfl) ?_)
              · refine oj_callS (fun A c => .slice A exL.length 3) 8 encCa exL Try.call41 rfl (fun w hp => k_log w) rfl (fun A344 c344 fp344 hfp344 => ?_)
                refine oj_nil ?_
                refine ej_pl (lt_y (y_loadN Try.isAgg26 Try.sizeOf26 rfl) rfl (lt_nil)) ?_
                refine pl_y 2 rfl (y_call Try.call30 rfl (fun w hp => by
                  have h8 := k_Play (⟨some ⟨r328, 0, none⟩, 3, [⟨0, 0, 0⟩, ⟨2, 0, 4⟩, ⟨1, 1, 0⟩], some ⟨g328, 0, none⟩, 3, [⟨0, 1, 2, some ⟨u328, 0, none⟩, 1, [1]⟩, ⟨1, 2, 2, some ⟨v328, 0, none⟩, 1, [6]⟩, ⟨0, 2, 1, some ⟨x328, 0, none⟩, 1, [8]⟩], some ⟨s328, 0, none⟩, 3, [2, 0, 0]⟩ : StrV) exL A344 3 w ⟨hp.rdLit (b := r328) (sz := 3) (enc := encRo) [⟨0, 0, 0⟩, ⟨2, 0, 4⟩, ⟨1, 1, 0⟩] (fun _ => rfl) rfl (by unfold maxLen; simp), hp.rdLit (b := g328) (sz := 4) (enc := encGa) [⟨0, 1, 2, some ⟨u328, 0, none⟩, 1, [1]⟩, ⟨1, 2, 2, some ⟨v328, 0, none⟩, 1, [6]⟩, ⟨0, 2, 1, some ⟨x328, 0, none⟩, 1, [8]⟩] (fun _ => rfl) rfl (by unfold maxLen; simp), hp.rdLit (b := s328) (sz := 1) (enc := enInt) [2, 0, 0] (fun _ => rfl) rfl (by unfold maxLen; simp), fun y hy => by
                      simp only [List.mem_cons, List.mem_nil_iff, or_false] at hy
                      rcases hy with rfl | rfl | rfl
                      · exact hp.rdLit (b := u328) (sz := 1) (enc := enInt) [1] (fun _ => rfl) rfl (by unfold maxLen; simp)
                      · exact hp.rdLit (b := v328) (sz := 1) (enc := enInt) [6] (fun _ => rfl) rfl (by unfold maxLen; simp)
                      · exact hp.rdLit (b := x328) (sz := 1) (enc := enInt) [8] (fun _ => rfl) rfl (by unfold maxLen; simp)⟩ hp.rd
                  exact h8)) rfl rfl rfl rfl (by kernel_rfl) ?_
                refine pl_y 3 rfl (y_move rfl) rfl rfl rfl rfl (by kernel_rfl) ?_
                refine pl_y 4 rfl (y_extract rfl rfl) rfl rfl rfl rfl (by kernel_rfl) ?_
                refine pl_y 5 rfl (y_extract rfl rfl) rfl rfl rfl rfl (by kernel_rfl) ?_
                refine pl_y 6 rfl (y_extract rfl rfl) rfl rfl rfl rfl (by kernel_rfl) ?_
                refine pl_w1 7 (by kernel_rfl) rfl rfl (pl_fire rfl rfl rfl (by kernel_rfl) ?_)
                refine oj_alloc Try.zeroValue48 rfl rfl (fun b35 => ?_)
                refine oj_nil ?_
                refine ej_pl (lt_y (y_extract rfl rfl) rfl (lt_y (y_extract rfl rfl) rfl (lt_y (y_extract rfl rfl) rfl (lt_y (y_move rfl) rfl (lt_y (y_call Try.call30 rfl (fun w hp => by
                  have h8 := k_Play (⟨some ⟨r328, 0, none⟩, 3, [⟨0, 0, 0⟩, ⟨2, 0, 4⟩, ⟨1, 1, 0⟩], some ⟨g328, 0, none⟩, 3, [⟨0, 1, 2, some ⟨u328, 0, none⟩, 1, [1]⟩, ⟨1, 2, 2, some ⟨v328, 0, none⟩, 1, [6]⟩, ⟨0, 2, 1, some ⟨x328, 0, none⟩, 1, [8]⟩], some ⟨s328, 0, none⟩, 3, [2, 0, 0]⟩ : StrV) exL A344 3 w ⟨hp.rdLit (b := r328) (sz := 3) (enc := encRo) [⟨0, 0, 0⟩, ⟨2, 0, 4⟩, ⟨1, 1, 0⟩] (fun _ => rfl) rfl (by unfold maxLen; simp), hp.rdLit (b := g328) (sz := 4) (enc := encGa) [⟨0, 1, 2, some ⟨u328, 0, none⟩, 1, [1]⟩, ⟨1, 2, 2, some ⟨v328, 0, none⟩, 1, [6]⟩, ⟨0, 2, 1, some ⟨x328, 0, none⟩, 1, [8]⟩] (fun _ => rfl) rfl (by unfold maxLen; simp), hp.rdLit (b := s328) (sz := 1) (enc := enInt) [2, 0, 0] (fun _ => rfl) rfl (by unfold maxLen; simp), fun y hy => by
                      simp only [List.mem_cons, List.mem_nil_iff, or_false] at hy
                      rcases hy with rfl | rfl | rfl
                      · exact hp.rdLit (b := u328) (sz := 1) (enc := enInt) [1] (fun _ => rfl) rfl (by unfold maxLen; simp)
                      · exact hp.rdLit (b := v328) (sz := 1) (enc := enInt) [6] (fun _ => rfl) rfl (by unfold maxLen; simp)
                      · exact hp.rdLit (b := x328) (sz := 1) (enc := enInt) [8] (fun _ => rfl) rfl (by unfold maxLen; simp)⟩ hp.rd
                  exact h8)) rfl (lt_y (y_loadN Try.isAgg26 Try.sizeOf26 rfl) rfl (lt_nil))))))) ?_
                refine pl_w1 8 (by kernel_rfl) rfl rfl (pl_fire rfl rfl rfl (by kernel_rfl) ?_)
                refine oj_store (vs := ((playB (⟨some ⟨r328, 0, none⟩, 3, [⟨0, 0, 0⟩, ⟨2, 0, 4⟩, ⟨1, 1, 0⟩], some ⟨g328, 0, none⟩, 3, [⟨0, 1, 2, some ⟨u328, 0, none⟩, 1, [1]⟩, ⟨1, 2, 2, some ⟨v328, 0, none⟩, 1, [6]⟩, ⟨0, 2, 1, some ⟨x328, 0, none⟩, 1, [8]⟩], some ⟨s328, 0, none⟩, 3, [2, 0, 0]⟩ : StrV).s exL).flatMap encBa)) (n := 160) (hset := set_all _ _ (by rw [bf_len (playB_len _)]; rfl)) rfl rfl rfl (bf_one _) Try.sizeOf48 (bf_len (playB_len _)) ?_
                refine oj_nil ?_
                refine ej_pl (lt_y (y_extract rfl rfl) rfl (lt_y (y_extract rfl rfl) rfl (lt_w (by kernel_rfl) (lt_w (by kernel_rfl) (lt_w (by kernel_rfl) (lt_w (by kernel_rfl) (lt_nil))))))) ?_
                refine pl_y 9 rfl (y_assign rfl) rfl rfl rfl rfl (by kernel_rfl) ?_
                refine pl_y 10 rfl (y_assign rfl) rfl rfl rfl rfl (by kernel_rfl) ?_
                refine pl_end (by kernel_rfl) ?_
                exact ej_ct () trivial ⟨rfl, rfl, rfl, rfl, rfl, rfl, trivial⟩
              · refine oj_alloc Try.zeroValue48 rfl rfl (fun b35 => ?_)
                refine oj_nil ?_
                refine ej_pl (lt_y (y_loadN Try.isAgg26 Try.sizeOf26 rfl) rfl (lt_nil)) ?_
                refine pl_w1 1 (by kernel_rfl) rfl rfl (pl_fire rfl rfl rfl (by kernel_rfl) ?_)
                refine oj_callS (fun A c => .slice A exL.length 3) 8 encCa exL Try.call41 rfl (fun w hp => k_log w) rfl (fun A344 c344 fp344 hfp344 => ?_)
                refine oj_nil ?_
                refine ej_pl (lt_y (y_loadN Try.isAgg26 Try.sizeOf26 rfl) rfl (lt_nil)) ?_
                refine pl_y 2 rfl (y_call Try.call30 rfl (fun w hp => by
                  have h8 := k_Play (⟨some ⟨r328, 0, none⟩, 3, [⟨0, 0, 0⟩, ⟨2, 0, 4⟩, ⟨1, 1, 0⟩], some ⟨g328, 0, none⟩, 3, [⟨0, 1, 2, some ⟨u328, 0, none⟩, 1, [1]⟩, ⟨1, 2, 2, some ⟨v328, 0, none⟩, 1, [6]⟩, ⟨0, 2, 1, some ⟨x328, 0, none⟩, 1, [8]⟩], some ⟨s328, 0, none⟩, 3, [2, 0, 0]⟩ : StrV) exL A344 3 w ⟨hp.rdLit (b := r328) (sz := 3) (enc := encRo) [⟨0, 0, 0⟩, ⟨2, 0, 4⟩, ⟨1, 1, 0⟩] (fun _ => rfl) rfl (by unfold maxLen; simp), hp.rdLit (b := g328) (sz := 4) (enc := encGa) [⟨0, 1, 2, some ⟨u328, 0, none⟩, 1, [1]⟩, ⟨1, 2, 2, some ⟨v328, 0, none⟩, 1, [6]⟩, ⟨0, 2, 1, some ⟨x328, 0, none⟩, 1, [8]⟩] (fun _ => rfl) rfl (by unfold maxLen; simp), hp.rdLit (b := s328) (sz := 1) (enc := enInt) [2, 0, 0] (fun _ => rfl) rfl (by unfold maxLen; simp), fun y hy => by
                      simp only [List.mem_cons, List.mem_nil_iff, or_false] at hy
                      rcases hy with rfl | rfl | rfl
                      · exact hp.rdLit (b := u328) (sz := 1) (enc := enInt) [1] (fun _ => rfl) rfl (by unfold maxLen; simp)
                      · exact hp.rdLit (b := v328) (sz := 1) (enc := enInt) [6] (fun _ => rfl) rfl (by unfold maxLen; simp)
                      · exact hp.rdLit (b := x328) (sz := 1) (enc := enInt) [8] (fun _ => rfl) rfl (by unfold maxLen; simp)⟩ hp.rd
                  exact h8)) rfl rfl rfl rfl (by kernel_rfl) ?_
                refine pl_y 3 rfl (y_move rfl) rfl rfl rfl rfl (by kernel_rfl) ?_
                refine pl_y 4 rfl (y_extract rfl rfl) rfl rfl rfl rfl (by kernel_rfl) ?_
                refine pl_y 5 rfl (y_extract rfl rfl) rfl rfl rfl rfl (by kernel_rfl) ?_
                refine pl_y 6 rfl (y_extract rfl rfl) rfl rfl rfl rfl (by kernel_rfl) ?_
                refine pl_w1 8 (by kernel_rfl) rfl rfl (pl_fire rfl rfl rfl (by kernel_rfl) ?_)
                refine oj_store (vs := ((playB (⟨some ⟨r328, 0, none⟩, 3, [⟨0, 0, 0⟩, ⟨2, 0, 4⟩, ⟨1, 1, 0⟩], some ⟨g328, 0, none⟩, 3, [⟨0, 1, 2, some ⟨u328, 0, none⟩, 1, [1]⟩, ⟨1, 2, 2, some ⟨v328, 0, none⟩, 1, [6]⟩, ⟨0, 2, 1, some ⟨x328, 0, none⟩, 1, [8]⟩], some ⟨s328, 0, none⟩, 3, [2, 0, 0]⟩ : StrV).s exL).flatMap encBa)) (n := 160) (hset := set_all _ _ (by rw [bf_len (playB_len _)]; rfl)) rfl rfl rfl (bf_one _) Try.sizeOf48 (bf_len (playB_len _)) ?_
                refine oj_nil ?_
                refine ej_pl (lt_y (y_extract rfl rfl) rfl (lt_y (y_extract rfl rfl) rfl (lt_w (by kernel_rfl) (lt_w (by kernel_rfl) (lt_w (by kernel_rfl) (lt_w (by kernel_rfl) (lt_nil))))))) ?_
                refine pl_y 9 rfl (y_assign rfl) rfl rfl rfl rfl (by kernel_rfl) ?_
                refine pl_y 10 rfl (y_assign rfl) rfl rfl rfl rfl (by kernel_rfl) ?_
                refine pl_end (by kernel_rfl) ?_
                exact ej_ct () trivial ⟨rfl, rfl, rfl, rfl, rfl, rfl, trivial⟩
            · rintro _ -
              dsimp only [List.cons_append, List.nil_append]
              refine cj_seq (cj_region ?_)
              refine oj_callR (X := { z : StrV × Nat × Nat // z.1.s = exS }) (fun z => .agg #[.slice z.1.1.Ar z.1.1.rooms.length z.1.1.cr, .slice z.1.1.Ag z.1.1.gates.length z.1.1.cg, .slice z.1.1.As z.1.1.staff.length z.1.1.cs]) (fun z => [strF (fun b => z.1.2.1 ≤ b ∧ b < z.1.2.2) z.1.1]) Try.call40 rfl (fun w1 hp => (k_strong w1).mono fun e w2 ⟨s, h1, h2, h3, h4⟩ => ⟨⟨(s, w1.heap.size, w2.heap.size), h1⟩, h2, h3, fun g hg => by
                rw [List.mem_singleton.1 hg]
                exact ⟨h4, fun b hb => .inr hb⟩⟩) rfl ?_
              rintro ⟨⟨s350, n350, m350⟩, he350⟩
              dsimp only [List.cons_append, List.nil_append] at he350 ⊢
              refine oj_callS (fun A c => .slice A exL.length 3) 8 encCa exL Try.call41 rfl (fun w hp => k_log w) rfl (fun A351 c351 fp351 hfp351 => ?_)
              refine oj_step (y_call Try.call31 rfl (fun w hp => k_Where s350 exL A351 3 32 5 w (str_rd hp (.tail _ (.head _))) hp.rd (Nat.le_refl 3))) rfl rfl rfl ?_
              refine oj_step (y_move rfl) rfl rfl rfl ?_
              refine oj_step (y_extract rfl rfl) rfl rfl rfl ?_
              refine oj_step (y_extract rfl rfl) rfl rfl rfl ?_
              refine oj_step (y_assign rfl) rfl rfl rfl ?_
              refine oj_nil ?_
              refine ej_th (cj_seq (cj_region ?_))
              refine oj_callR (X := { z : StrV × Nat × Nat // z.1.s = exS }) (fun z => .agg #[.slice z.1.1.Ar z.1.1.rooms.length z.1.1.cr, .slice z.1.1.Ag z.1.1.gates.length z.1.1.cg, .slice z.1.1.As z.1.1.staff.length z.1.1.cs]) (fun z => [strF (fun b => z.1.2.1 ≤ b ∧ b < z.1.2.2) z.1.1]) Try.call40 rfl (fun w1 hp => (k_strong w1).mono fun e w2 ⟨s, h1, h2, h3, h4⟩ => ⟨⟨(s, w1.heap.size, w2.heap.size), h1⟩, h2, h3, fun g hg => by
                rw [List.mem_singleton.1 hg]
                exact ⟨h4, fun b hb => .inr hb⟩⟩) rfl ?_
              rintro ⟨⟨s356, n356, m356⟩, he356⟩
              dsimp only [List.cons_append, List.nil_append] at he356 ⊢
              refine oj_callS (fun A c => .slice A exL.length 3) 8 encCa exL Try.call41 rfl (fun w hp => k_log w) rfl (fun A357 c357 fp357 hfp357 => ?_)
              refine oj_step (y_call Try.call31 rfl (fun w hp => k_Where s356 exL A357 3 7 36501 w (str_rd hp (.tail _ (.head _))) hp.rd (Nat.le_refl 3))) rfl rfl rfl ?_
              refine oj_step (y_move rfl) rfl rfl rfl ?_
              refine oj_step (y_extract rfl rfl) rfl rfl rfl ?_
              refine oj_step (y_extract rfl rfl) rfl rfl rfl ?_
              refine oj_step (y_assign rfl) rfl rfl rfl ?_
              refine oj_nil ?_
              refine ej_th (cj_seq (cj_region ?_))
              refine oj_callR (X := { z : StrV × Nat × Nat // z.1.s = exS }) (fun z => .agg #[.slice z.1.1.Ar z.1.1.rooms.length z.1.1.cr, .slice z.1.1.Ag z.1.1.gates.length z.1.1.cg, .slice z.1.1.As z.1.1.staff.length z.1.1.cs]) (fun z => [strF (fun b => z.1.2.1 ≤ b ∧ b < z.1.2.2) z.1.1]) Try.call40 rfl (fun w1 hp => (k_strong w1).mono fun e w2 ⟨s, h1, h2, h3, h4⟩ => ⟨⟨(s, w1.heap.size, w2.heap.size), h1⟩, h2, h3, fun g hg => by
                rw [List.mem_singleton.1 hg]
                exact ⟨h4, fun b hb => .inr hb⟩⟩) rfl ?_
              rintro ⟨⟨s362, n362, m362⟩, he362⟩
              dsimp only [List.cons_append, List.nil_append] at he362 ⊢
              refine oj_callS (fun A c => .slice A exL.length 3) 8 encCa exL Try.call41 rfl (fun w hp => k_log w) rfl (fun A363 c363 fp363 hfp363 => ?_)
              refine oj_callS (fun A c => .tuple #[.slice A (intsL (suspV s362.s exL 6)).length c, .int .i64 (suspE s362.s exL 6)]) 1 enInt (intsL (suspV s362.s exL 6)) Try.call34 rfl (fun w hp => k_Suspects s362 exL A363 3 6 w (str_rd hp (.tail _ (.head _))) hp.rd (Nat.le_refl 3)) rfl (fun A364 c364 fp364 hfp364 => ?_)
              rw [he362, ex_A.2.2.2.2.1]
              refine oj_step (y_move rfl) rfl rfl rfl ?_
              refine oj_step (y_extract rfl rfl) rfl rfl rfl ?_
              refine oj_step (y_extract rfl rfl) rfl rfl rfl ?_
              refine oj_step (y_assign rfl) rfl rfl rfl ?_
              refine oj_nil ?_
              refine ej_th (cj_seq (cj_region ?_))
              refine oj_callR (X := { z : StrV × Nat × Nat // z.1.s = exS }) (fun z => .agg #[.slice z.1.1.Ar z.1.1.rooms.length z.1.1.cr, .slice z.1.1.Ag z.1.1.gates.length z.1.1.cg, .slice z.1.1.As z.1.1.staff.length z.1.1.cs]) (fun z => [strF (fun b => z.1.2.1 ≤ b ∧ b < z.1.2.2) z.1.1]) Try.call40 rfl (fun w1 hp => (k_strong w1).mono fun e w2 ⟨s, h1, h2, h3, h4⟩ => ⟨⟨(s, w1.heap.size, w2.heap.size), h1⟩, h2, h3, fun g hg => by
                rw [List.mem_singleton.1 hg]
                exact ⟨h4, fun b hb => .inr hb⟩⟩) rfl ?_
              rintro ⟨⟨s368, n368, m368⟩, he368⟩
              dsimp only [List.cons_append, List.nil_append] at he368 ⊢
              refine oj_callS (fun A c => .slice A exL.length 3) 8 encCa exL Try.call41 rfl (fun w hp => k_log w) rfl (fun A369 c369 fp369 hfp369 => ?_)
              refine oj_callS (fun A c => .tuple #[.slice A (intsL (suspV s368.s exL (-1))).length c, .int .i64 (suspE s368.s exL (-1))]) 1 enInt (intsL (suspV s368.s exL (-1))) Try.call34 rfl (fun w hp => k_Suspects s368 exL A369 3 (-1) w (str_rd hp (.tail _ (.head _))) hp.rd (Nat.le_refl 3)) rfl (fun A370 c370 fp370 hfp370 => ?_)
              rw [he368, ex_A.2.2.2.2.2]
              refine oj_step (y_move rfl) rfl rfl rfl ?_
              refine oj_step (y_extract rfl rfl) rfl rfl rfl ?_
              refine oj_step (y_extract rfl rfl) rfl rfl rfl ?_
              refine oj_step (y_assign rfl) rfl rfl rfl ?_
              refine oj_nil ?_
              refine ej_th (cj_seq ?_)
              rw [he350, ex_A.2.2.1, he356, ex_A.2.2.2.1]
              refine cj_region ?_
              refine oj_step (y_move rfl) rfl rfl rfl ?_
              refine oj_step (y_eql rfl rfl) rfl rfl rfl ?_
              refine oj_step (y_move rfl) rfl rfl rfl ?_
              refine oj_yes rfl rfl rfl ?_
              refine oj_step (y_move rfl) rfl rfl rfl ?_
              refine oj_yes rfl rfl rfl ?_
              refine oj_step (y_eql rfl rfl) rfl rfl rfl ?_
              refine oj_step (y_pick rfl rfl rfl) rfl rfl rfl ?_
              refine oj_step (y_move rfl) rfl rfl rfl ?_
              refine oj_yes rfl rfl rfl ?_
              refine oj_step (y_move rfl) rfl rfl rfl ?_
              refine oj_yes rfl rfl rfl ?_
              refine oj_step (y_eql rfl rfl) rfl rfl rfl ?_
              refine oj_step (y_pick rfl rfl rfl) rfl rfl rfl ?_
              refine oj_step (y_move rfl) rfl rfl rfl ?_
              refine oj_yes rfl rfl rfl ?_
              refine oj_step (y_move rfl) rfl rfl rfl ?_
              refine oj_yes rfl rfl rfl ?_
              refine oj_step (y_eql rfl rfl) rfl rfl rfl ?_
              refine oj_step (y_pick rfl rfl rfl) rfl rfl rfl ?_
              refine oj_step (y_move rfl) rfl rfl rfl ?_
              refine oj_yes rfl rfl rfl ?_
              refine oj_step (y_move rfl) rfl rfl rfl ?_
              refine oj_yes rfl rfl rfl ?_
              refine oj_step (y_eql rfl rfl) rfl rfl rfl ?_
              refine oj_step (y_pick rfl rfl rfl) rfl rfl rfl ?_
              refine oj_step (y_move rfl) rfl rfl rfl ?_
              refine oj_yes rfl rfl rfl ?_
              refine oj_step (y_move rfl) rfl rfl rfl ?_
              refine oj_yes rfl rfl rfl ?_
              refine oj_step (y_eql rfl rfl) rfl rfl rfl ?_
              refine oj_step (y_pick rfl rfl rfl) rfl rfl rfl ?_
              refine oj_step (y_move rfl) rfl rfl rfl ?_
              refine oj_step (y_pick rfl rfl rfl) rfl rfl rfl ?_
              refine oj_step (y_move rfl) rfl rfl rfl ?_
              refine oj_yes rfl rfl rfl ?_
              refine oj_step (y_call Try.call19 rfl (fun w hp => k_works w)) rfl rfl rfl ?_
              refine oj_step (y_pick rfl rfl rfl) rfl rfl rfl ?_
              refine oj_step (y_assign rfl) rfl rfl rfl ?_
              refine oj_nil ?_
              refine ej_th (cj_ret ?_)
              exact ej_ret1 rfl Try.results12 rfl (fun w' hp => ⟨rfl, hp.below⟩)

end Go.Proofs.Ytomidcehahdmbaa
