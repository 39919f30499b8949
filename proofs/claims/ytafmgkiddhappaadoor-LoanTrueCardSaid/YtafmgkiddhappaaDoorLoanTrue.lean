/- LoanTrue: for whatever market, ware and numbers the law returns true, and its arguments read as they did. Conditions: the package-level variables that the card ties hold what the program's text lays; nothing else. -/
import Derived.Test.YtafmgkiddhappaaDoorWP
import Derived.Test.YtafmgkiddhappaaDoorFrB
import Derived.SevenTiedAt
namespace Go.Proofs.YtafmgkiddhappaaDoor
open Go.Sx Go.RowKit Go.ChangeShapes Go.WideShapes Go.ChangeAt
set_option maxRecDepth 100000

theorem loanTrue_door (os : Os) (args : Array Value) : laidMetH Tryd.prog Rows.loanTrueRow.laid ((World.doorLaid Tryd.prog 600 os).forCall (fun _ _ => 0) ⟨#[], args, []⟩).memory :=
  laidMetH_of_parts3 (fuel := 8) (laidMet_of_run' 8 (by kernel_rfl) (by kernel_rfl)) (by kernel_rfl) (by kernel_rfl)

theorem loanTrue_lifted (os : Os) (started : os.Started) (H : Type) (enc : TypeId × Value → H) :
    ReturnsInHanded {} Tryd.checked os 5 .any (fun w args => (Rows.loanTrueSpec.pre enc Tryd.prog Tryd.f5 [] false w args ∧ laidMetH Tryd.prog Rows.loanTrueRow.laid w) ∧ sizedMet enc Tryd.prog Tryd.f5 (OpenSpec.ofChange Rows.loanTrueSpec) false w args)
      (Rows.loanTrueSpec.post enc Tryd.prog Tryd.f5 false true false false) := by
  refine returnsInHanded_of_change_and (C := Tryd.checked) (X := fun w _ => laidMetH Tryd.prog Rows.loanTrueRow.laid w) (fun _ _ _ hh h => h.of_heap hh) frOwn started (by kernel_rfl) Tryd.func5
    (ChangeSpec.witness_shaped (enc := enc) (C := Tryd.checked) (os := os) (X := fun w _ => laidMetH Tryd.prog Rows.loanTrueRow.laid w) false (World.doorLaid Tryd.prog 600 os)
      #[.agg #[.slice none 0 0, .slice none 0 0, .int .i64 0, .int .i64 0, .int .i64 0], .agg #[.int .i64 0, .int .i64 0, .int .i64 0], .agg #[.int .i64 0, .int .i64 0, .int .i64 0]] 8 rfl (World.shaped_of_RefB (by kernel_rfl) (by kernel_rfl)) (by kernel_rfl) (by kernel_rfl) (by kernel_rfl) (loanTrue_door os _)) ?_
  intro W base args ds gs before hval0 hW _ _ hL _
  have hval : ∀ (j : Nat) t v, Tryd.f5.params[j]? = some t → args[j]? = some v → Value.okWide Tryd.prog W .any base t v := hval0
  have hW' := hW
  obtain ⟨p, q, hA0, hV, rfl, hfz, hnd⟩ := hW
  have hA : DataW.TrodAll enc Tryd.prog W 0 (fun _ => true) true Tryd.f5.params.toList args.toList ds p := hA0
  rw [Tryd.params5] at hA hval
  obtain ⟨v0, v1, v2, d0, d1, d2, p0, p1, p2, rfl, rfl, rfl, h0, h1, h2⟩ := trodAll_three hA
  obtain ⟨w0, rfl, _⟩ := okWide_struct Tryd.underlying25 (hval 0 25 v0 rfl rfl)
  obtain ⟨f0, t0⟩ := h0
  obtain ⟨Am0, cm0, m0, Am1, cm1, m1, m2, m3, m4, e0, r0_0, r0_1, r0_2, r0_3, r0_4⟩ := of25 t0
  have e0' : w0.toList = _ := e0
  have a0 := Array.toList_inj.1 (e0'.trans (List.toList_toArray).symm)
  subst a0
  obtain ⟨w1, rfl, _⟩ := okWide_struct Tryd.underlying29 (hval 1 29 v1 rfl rfl)
  obtain ⟨f1, t1⟩ := h1
  obtain ⟨w0, w1_0, w1_1, e1, r1_0, r1_1, r1_2⟩ := of29 t1
  have e1' : w1.toList = _ := e1
  have a1 := Array.toList_inj.1 (e1'.trans (List.toList_toArray).symm)
  subst a1
  obtain ⟨w2, rfl, _⟩ := okWide_array Tryd.underlying47 (hval 2 47 v2 rfl rfl)
  obtain ⟨f2, t2⟩ := h2
  obtain ⟨n0, n1, n2, e2⟩ := of47 t2
  have e2' : w2.toList = _ := e2
  have a2 := Array.toList_inj.1 (e2'.trans (List.toList_toArray).symm)
  subst a2
  refine (k_LoanTrue m0 m1 m2 m3 m4 Am0 Am1 cm0 cm1 w0 w1_0 w1_1 n0 n1 n2 W r0_0 r0_1 (ways_of hL)).mono fun e W' hh => ?_
  obtain ⟨he, hg⟩ := hh
  exact ⟨_, he, law_post hW' rfl (by obtain ⟨rfl, rfl⟩ := trodVars_none hV; rfl) (tb := 4) (by kernel_rfl) Tryd.underlying4 frLaidOut (by rw [Tryd.params5]; intro t ht; obtain h | h | h := (by simpa using ht : t = 25 ∨ t = 29 ∨ t = 47) <;> (subst h; exact ⟨by kernel_rfl, of_decide_eq_true (by kernel_rfl)⟩)) hg⟩

theorem loanTrue_said : Rows.LoanTrueSaid :=
  OpenClaim.holds_of_wide 5 Tryd.f5 rfl rfl rfl rfl rfl rfl rfl ⟨rfl, rfl, rfl, rfl, rfl⟩ rfl rfl rfl rfl rfl (by kernel_rfl) Tryd.func5 (by kernel_rfl)
    (of_decide_eq_true (by kernel_rfl)) (by unfold Func.isWrapper; first | (rw [if_pos (by decide +kernel)]; kernel_rfl) | (rw [if_neg (by decide +kernel)]; exact ⟨rfl, rfl⟩))
    (fun os started H enc _ => loanTrue_lifted os started H enc)

theorem loanTrue_plain (f : FuncId) (fn : Func) (hf : Tryd.pinned.checked.prog.funcNamed "lombard/lombardlaw02.LoanTrue" = some f) (hfn : Tryd.pinned.checked.prog.funcs[f]? = some fn) :
    false = Tryd.pinned.checked.prog.looks [] ∧ ∀ (j : Nat) t, fn.params[j]? = some t → Tryd.pinned.checked.prog.wantsStandIn t = false := by
  obtain rfl : f = 5 := Option.some.inj ((show Tryd.prog.funcNamed "lombard/lombardlaw02.LoanTrue" = some 5 by kernel_rfl).symm.trans hf) |>.symm
  obtain rfl : fn = Tryd.f5 := (Option.some.inj (Tryd.func5.symm.trans hfn)).symm
  refine ⟨by kernel_rfl, fun j t ht => ?_⟩
  rw [Tryd.params5] at ht
  have hm : t ∈ ([25, 29, 47] : List TypeId) := by simpa using Array.mem_of_getElem? ht
  have hall : (([25, 29, 47] : List TypeId).all fun u => !Tryd.prog.wantsStandIn u) = true := by kernel_rfl
  exact (show Tryd.prog.wantsStandIn t = false by simpa using List.all_eq_true.1 hall t hm)

/-- THE CARD. -/
theorem loanTrue_card : Rows.LoanTrueCardSaid :=
  Claim7.holds_tied_plain_at .later [] _ _ _ _ loanTrue_said (fun _ h => by cases h) (by kernel_rfl) (fun _ h => by cases h) loanTrue_row_tie rfl ⟨rfl, rfl⟩ (by kernel_rfl) rfl loanTrue_plain (by kernel_rfl)
end Go.Proofs.YtafmgkiddhappaaDoor
