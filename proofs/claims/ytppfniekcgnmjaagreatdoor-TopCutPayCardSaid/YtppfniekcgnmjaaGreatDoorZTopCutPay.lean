/- TopCutPay: for whatever loan and watch the law returns true, and its arguments read as they did. Conditions: the package-level variables that the card ties hold what the program's text lays; nothing else. -/
import Derived.Test.YtppfniekcgnmjaaGreatDoorXTopCutPay5
import Derived.SevenTiedAt
namespace Go.Proofs.YtppfniekcgnmjaaGreatDoor
open Go.Sx Go.RowKit Go.ChangeShapes Go.WideShapes Go.ChangeAt To
set_option maxRecDepth 100000

theorem topCutPay_door (os : Os) (args : Array Value) : laidMetH Tryz.prog Rows.topCutPayRow.laid ((World.doorLaid Tryz.prog 600 os).forCall (fun _ _ => 0) ⟨#[], args, []⟩).memory :=
  laidMetH_of_parts3 (fuel := 8) (laidMet_of_run' 8 (by kernel_rfl) (by kernel_rfl)) (by kernel_rfl) (by kernel_rfl)

set_option maxHeartbeats 1600000 in
theorem topCutPay_lifted (os : Os) (started : os.Started) (H : Type) (enc : TypeId × Value → H) :
    ReturnsInHanded {} Tryz.checked os 3 .any (fun w args => (Rows.topCutPaySpec.pre enc Tryz.prog Tryz.f3 [] false w args ∧ laidMetH Tryz.prog Rows.topCutPayRow.laid w) ∧ sizedMet enc Tryz.prog Tryz.f3 (OpenSpec.ofChange Rows.topCutPaySpec) false w args)
      (Rows.topCutPaySpec.post enc Tryz.prog Tryz.f3 false true false false) := by
  refine returnsInHanded_of_change_and (C := Tryz.checked) (X := fun w _ => laidMetH Tryz.prog Rows.topCutPayRow.laid w) (fun _ _ _ hh h => h.of_heap hh) frOwn started (by kernel_rfl) Tryz.func3
    (ChangeSpec.witness_shaped (enc := enc) (C := Tryz.checked) (os := os) (X := fun w _ => laidMetH Tryz.prog Rows.topCutPayRow.laid w) false (World.doorLaid Tryz.prog 600 os)
      #[.agg #[.int .i64 0, .int .i64 0, .int .i64 0, .int .i64 0, .int .i64 0, .int .i64 0, .int .i64 0, .slice none 0 0, .int .i64 0, .int .i64 0, .slice none 0 0], .agg #[.int .i64 0, .int .i64 0, .int .i64 0, .int .i64 0], .agg #[.int .i64 0, .int .i64 0, .int .i64 0, .int .i64 0]] 8 rfl (World.shaped_of_RefB (by kernel_rfl) (by kernel_rfl)) (by kernel_rfl) (by kernel_rfl) (by kernel_rfl) (topCutPay_door os _)) ?_
  intro W base args ds gs before hval0 hW _ hsz0 hL _
  have hval : ∀ (j : Nat) t v, Tryz.f3.params[j]? = some t → args[j]? = some v → Value.okWide Tryz.prog W .any base t v := hval0
  have hW' := hW
  obtain ⟨p, q, hA0, hV, rfl, hfz, hnd⟩ := hW
  have hA : DataW.TrodAll enc Tryz.prog W 0 (fun _ => true) true Tryz.f3.params.toList args.toList ds p := hA0
  rw [Tryz.params3] at hA hval
  have hsz : (DataW.weightsEach Tryz.prog (Tryz.f3.params.toList ++ Rows.topCutPaySpec.plain.varTypes Tryz.prog) (ds ++ gs)).all (· ≤ reachBytes) = true := hsz0
  clear hsz0
  rw [Tryz.params3] at hsz
  obtain ⟨v0, v1, v2, d0, d1, d2, p0, p1, p2, rfl, rfl, rfl, h0, h1, h2⟩ := trodAll_three hA
  obtain ⟨w0, rfl, _⟩ := okWide_struct Tryz.underlying31 (hval 0 31 v0 rfl rfl)
  obtain ⟨f0, t0⟩ := h0
  obtain ⟨x0_0_0, x0_0_1, x0_1_0, x0_1_1, x0_1_2, x0_1_3, x0_1_4, Ax0_2, cx0_2, x0_2, x0_3, x0_4, Ax1, cx1, x1, e0, r0_0, r0_1, r0_2, r0_3, r0_4, r0_5, r0_6, r0_7, r0_8, r0_9, r0_10, r0_11, r0_12⟩ := of31 t0 (wparam (j := 0) hsz rfl rfl)
  have e0' : w0.toList = _ := e0
  have a0 := Array.toList_inj.1 (e0'.trans (List.toList_toArray).symm)
  subst a0
  obtain ⟨w1, rfl, _⟩ := okWide_struct Tryz.underlying33 (hval 1 33 v1 rfl rfl)
  obtain ⟨f1, t1⟩ := h1
  obtain ⟨u0, u1, u2, u3, e1, r1_0, r1_1, r1_2, r1_3⟩ := of33 t1
  have e1' : w1.toList = _ := e1
  have a1 := Array.toList_inj.1 (e1'.trans (List.toList_toArray).symm)
  subst a1
  obtain ⟨w2, rfl, _⟩ := okWide_array Tryz.underlying34 (hval 2 34 v2 rfl rfl)
  obtain ⟨f2, t2⟩ := h2
  obtain ⟨m0, m1, m2, m3, e2⟩ := of34 t2
  have e2' : w2.toList = _ := e2
  have a2 := Array.toList_inj.1 (e2'.trans (List.toList_toArray).symm)
  subst a2
  refine (k_TopCutPay ⟨x0_0_0, x0_0_1, x0_1_0, x0_1_1, x0_1_2, x0_1_3, x0_1_4, x0_2, x0_3, x0_4⟩ Ax0_2 cx0_2 x1 Ax1 cx1 u0 u1 u2 u3 m0 m1 m2 m3 W r0_7 r0_11 (ways_of hL) r0_12).mono fun e W' hh => ?_
  obtain ⟨he, hg⟩ := hh
  exact ⟨_, he, law_post hW' rfl (by obtain ⟨rfl, rfl⟩ := trodVars_none hV; rfl) (tb := 4) (by kernel_rfl) Tryz.underlying4 frLaidOut (by rw [Tryz.params3]; intro t ht; obtain h | h | h := (by simpa using ht : t = 31 ∨ t = 33 ∨ t = 34) <;> (subst h; exact ⟨by kernel_rfl, of_decide_eq_true (by kernel_rfl)⟩)) hg⟩

theorem topCutPay_said : Rows.TopCutPaySaid :=
  OpenClaim.holds_of_wide 3 Tryz.f3 rfl rfl rfl rfl rfl rfl rfl ⟨rfl, rfl, rfl, rfl, rfl⟩ rfl rfl rfl rfl rfl (by kernel_rfl) Tryz.func3 (by kernel_rfl)
    (of_decide_eq_true (by kernel_rfl)) (by unfold Func.isWrapper; first | (rw [if_pos (by decide +kernel)]; kernel_rfl) | (rw [if_neg (by decide +kernel)]; exact ⟨rfl, rfl⟩))
    (fun os started H enc _ => topCutPay_lifted os started H enc)

theorem topCutPay_plain (f : FuncId) (fn : Func) (hf : Tryz.pinned.checked.prog.funcNamed "lombard/lombardtop.TopCutPay" = some f) (hfn : Tryz.pinned.checked.prog.funcs[f]? = some fn) :
    false = Tryz.pinned.checked.prog.looks [] ∧ ∀ (j : Nat) t, fn.params[j]? = some t → Tryz.pinned.checked.prog.wantsStandIn t = false := by
  obtain rfl : f = 3 := Option.some.inj ((show Tryz.prog.funcNamed "lombard/lombardtop.TopCutPay" = some 3 by kernel_rfl).symm.trans hf) |>.symm
  obtain rfl : fn = Tryz.f3 := (Option.some.inj (Tryz.func3.symm.trans hfn)).symm
  refine ⟨by kernel_rfl, fun j t ht => ?_⟩
  rw [Tryz.params3] at ht
  have hm : t ∈ ([31, 33, 34] : List TypeId) := by simpa using Array.mem_of_getElem? ht
  have hall : (([31, 33, 34] : List TypeId).all fun u => !Tryz.prog.wantsStandIn u) = true := by kernel_rfl
  exact (show Tryz.prog.wantsStandIn t = false by simpa using List.all_eq_true.1 hall t hm)

/-- THE CARD. -/
theorem topCutPay_card : Rows.TopCutPayCardSaid :=
  Claim7.holds_tied_plain_at .later [] _ _ _ _ topCutPay_said (fun _ h => by cases h) (by kernel_rfl) (fun _ h => by cases h) topCutPay_row_tie rfl ⟨rfl, rfl⟩ (by kernel_rfl) rfl topCutPay_plain (by kernel_rfl)
end Go.Proofs.YtppfniekcgnmjaaGreatDoor
