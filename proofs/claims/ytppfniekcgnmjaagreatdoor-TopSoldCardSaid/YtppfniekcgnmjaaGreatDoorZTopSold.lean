/- TopSold: for whatever sale the law returns true, and its arguments read as they did. Conditions: the package-level variables that the card ties hold what the program's text lays; nothing else. -/
import Derived.Test.YtppfniekcgnmjaaGreatDoorXTopSold4
import Derived.SevenTiedAt
namespace Go.Proofs.YtppfniekcgnmjaaGreatDoor
open Go.Sx Go.RowKit Go.ChangeShapes Go.WideShapes Go.ChangeAt To
set_option maxRecDepth 100000

theorem topSold_door (os : Os) (args : Array Value) : laidMetH Tryz.prog Rows.topSoldRow.laid ((World.doorLaid Tryz.prog 600 os).forCall (fun _ _ => 0) ⟨#[], args, []⟩).memory :=
  laidMetH_of_parts3 (fuel := 8) (laidMet_of_run' 8 (by kernel_rfl) (by kernel_rfl)) (by kernel_rfl) (by kernel_rfl)

set_option maxHeartbeats 1600000 in
theorem topSold_lifted (os : Os) (started : os.Started) (H : Type) (enc : TypeId × Value → H) :
    ReturnsInHanded {} Tryz.checked os 4 .any (fun w args => (Rows.topSoldSpec.pre enc Tryz.prog Tryz.f4 [] false w args ∧ laidMetH Tryz.prog Rows.topSoldRow.laid w) ∧ sizedMet enc Tryz.prog Tryz.f4 (OpenSpec.ofChange Rows.topSoldSpec) false w args)
      (Rows.topSoldSpec.post enc Tryz.prog Tryz.f4 false true false false) := by
  refine returnsInHanded_of_change_and (C := Tryz.checked) (X := fun w _ => laidMetH Tryz.prog Rows.topSoldRow.laid w) (fun _ _ _ hh h => h.of_heap hh) frOwn started (by kernel_rfl) Tryz.func4
    (ChangeSpec.witness_shaped (enc := enc) (C := Tryz.checked) (os := os) (X := fun w _ => laidMetH Tryz.prog Rows.topSoldRow.laid w) false (World.doorLaid Tryz.prog 600 os)
      #[.agg #[.int .i64 0, .int .i64 0, .int .i64 0, .int .i64 0, .int .i64 0, .int .i64 0, .int .i64 0, .slice none 0 0, .int .i64 0, .int .i64 0, .slice none 0 0, .int .i64 0, .int .i64 0, .int .i64 0, .slice none 0 0, .slice none 0 0]] 8 rfl (World.shaped_of_RefB (by kernel_rfl) (by kernel_rfl)) (by kernel_rfl) (by kernel_rfl) (by kernel_rfl) (topSold_door os _)) ?_
  intro W base args ds gs before hval0 hW _ hsz0 hL _
  have hval : ∀ (j : Nat) t v, Tryz.f4.params[j]? = some t → args[j]? = some v → Value.okWide Tryz.prog W .any base t v := hval0
  have hW' := hW
  obtain ⟨p, q, hA0, hV, rfl, hfz, hnd⟩ := hW
  have hA : DataW.TrodAll enc Tryz.prog W 0 (fun _ => true) true Tryz.f4.params.toList args.toList ds p := hA0
  rw [Tryz.params4] at hA hval
  have hsz : (DataW.weightsEach Tryz.prog (Tryz.f4.params.toList ++ Rows.topSoldSpec.plain.varTypes Tryz.prog) (ds ++ gs)).all (· ≤ reachBytes) = true := hsz0
  clear hsz0
  rw [Tryz.params4] at hsz
  obtain ⟨v0, d0, rfl, rfl, h0⟩ := trodAll_one hA
  obtain ⟨w0, rfl, _⟩ := okWide_struct Tryz.underlying57 (hval 0 57 v0 rfl rfl)
  obtain ⟨f0, t0⟩ := h0
  obtain ⟨g0_0_0, g0_0_1, g0_1_0, g0_1_1, g0_1_2, g0_1_3, g0_1_4, Ag0_2, cg0_2, g0_2, g0_3, g0_4, Ag1, cg1, g1, g2, g3, g4, Ag5, cg5, g5, Ag6, cg6, g6, e0, r0_0, r0_1, r0_2, r0_3, r0_4, r0_5, r0_6, r0_7, r0_8, r0_9, r0_10, r0_11, r0_12, r0_13, r0_14, r0_15, r0_16, r0_17, r0_18, r0_19⟩ := of57 t0 (wparam (j := 0) hsz rfl rfl)
  have e0' : w0.toList = _ := e0
  have a0 := Array.toList_inj.1 (e0'.trans (List.toList_toArray).symm)
  subst a0
  refine (k_TopSold ⟨g0_0_0, g0_0_1, g0_1_0, g0_1_1, g0_1_2, g0_1_3, g0_1_4, g0_2, g0_3, g0_4⟩ Ag0_2 cg0_2 g1 Ag1 cg1 g2 g3 g4 g5 Ag5 cg5 g6 Ag6 cg6 W r0_7 r0_11 r0_16 r0_18 (ways_of hL)).mono fun e W' hh => ?_
  obtain ⟨he, hg⟩ := hh
  exact ⟨_, he, law_post hW' rfl (by obtain ⟨rfl, rfl⟩ := trodVars_none hV; rfl) (tb := 4) (by kernel_rfl) Tryz.underlying4 frLaidOut (by rw [Tryz.params4]; intro t ht; obtain h := (by simpa using ht : t = 57) <;> (subst h; exact ⟨by kernel_rfl, of_decide_eq_true (by kernel_rfl)⟩)) hg⟩

theorem topSold_said : Rows.TopSoldSaid :=
  OpenClaim.holds_of_wide 4 Tryz.f4 rfl rfl rfl rfl rfl rfl rfl ⟨rfl, rfl, rfl, rfl, rfl⟩ rfl rfl rfl rfl rfl (by kernel_rfl) Tryz.func4 (by kernel_rfl)
    (of_decide_eq_true (by kernel_rfl)) (by unfold Func.isWrapper; first | (rw [if_pos (by decide +kernel)]; kernel_rfl) | (rw [if_neg (by decide +kernel)]; exact ⟨rfl, rfl⟩))
    (fun os started H enc _ => topSold_lifted os started H enc)

theorem topSold_plain (f : FuncId) (fn : Func) (hf : Tryz.pinned.checked.prog.funcNamed "lombard/lombardtop.TopSold" = some f) (hfn : Tryz.pinned.checked.prog.funcs[f]? = some fn) :
    false = Tryz.pinned.checked.prog.looks [] ∧ ∀ (j : Nat) t, fn.params[j]? = some t → Tryz.pinned.checked.prog.wantsStandIn t = false := by
  obtain rfl : f = 4 := Option.some.inj ((show Tryz.prog.funcNamed "lombard/lombardtop.TopSold" = some 4 by kernel_rfl).symm.trans hf) |>.symm
  obtain rfl : fn = Tryz.f4 := (Option.some.inj (Tryz.func4.symm.trans hfn)).symm
  refine ⟨by kernel_rfl, fun j t ht => ?_⟩
  rw [Tryz.params4] at ht
  have hm : t ∈ ([57] : List TypeId) := by simpa using Array.mem_of_getElem? ht
  have hall : (([57] : List TypeId).all fun u => !Tryz.prog.wantsStandIn u) = true := by kernel_rfl
  exact (show Tryz.prog.wantsStandIn t = false by simpa using List.all_eq_true.1 hall t hm)

/-- THE CARD. -/
theorem topSold_card : Rows.TopSoldCardSaid :=
  Claim7.holds_tied_plain_at .later [] _ _ _ _ topSold_said (fun _ h => by cases h) (by kernel_rfl) (fun _ h => by cases h) topSold_row_tie rfl ⟨rfl, rfl⟩ (by kernel_rfl) rfl topSold_plain (by kernel_rfl)
end Go.Proofs.YtppfniekcgnmjaaGreatDoor
