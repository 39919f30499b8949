/- LoanRuns: for whatever deal, acts and day the law returns true, and its arguments read as they did. Conditions: the package-level variables that the card ties hold what the program's text lays; nothing else. -/
import Derived.Test.YtafmgkiddhappaaDoorYWRuns
import Derived.Test.YtafmgkiddhappaaDoorYFrB
import Derived.SevenTiedAt
namespace Go.Proofs.YtafmgkiddhappaaDoor
open Go.Sx Go.RowKit Go.ChangeShapes Go.WideShapes Go.ChangeAt
set_option maxRecDepth 100000

theorem loanRuns_door (os : Os) (args : Array Value) : laidMetH Tryd.prog Rows.loanRunsRow.laid ((World.doorLaid Tryd.prog 600 os).forCall (fun _ _ => 0) ⟨#[], args, []⟩).memory :=
  laidMetH_of_parts3 (fuel := 8) (laidMet_of_run' 8 (by kernel_rfl) (by kernel_rfl)) (by kernel_rfl) (by kernel_rfl)

set_option maxHeartbeats 1600000 in
theorem loanRuns_lifted (os : Os) (started : os.Started) (H : Type) (enc : TypeId × Value → H) :
    ReturnsInHanded {} Tryd.checked os 10 .any (fun w args => (Rows.loanRunsSpec.pre enc Tryd.prog Tryd.f10 [] false w args ∧ laidMetH Tryd.prog Rows.loanRunsRow.laid w) ∧ sizedMet enc Tryd.prog Tryd.f10 (OpenSpec.ofChange Rows.loanRunsSpec) false w args)
      (Rows.loanRunsSpec.post enc Tryd.prog Tryd.f10 false true false false) := by
  refine returnsInHanded_of_change_and (C := Tryd.checked) (X := fun w _ => laidMetH Tryd.prog Rows.loanRunsRow.laid w) (fun _ _ _ hh h => h.of_heap hh) frOwn started (by kernel_rfl) Tryd.func10
    (ChangeSpec.witness_shaped (enc := enc) (C := Tryd.checked) (os := os) (X := fun w _ => laidMetH Tryd.prog Rows.loanRunsRow.laid w) false (World.doorLaid Tryd.prog 600 os)
      #[.agg #[.int .i64 0, .int .i64 0, .int .i64 0, .int .i64 0, .int .i64 0, .int .i64 0, .int .i64 0, .slice none 0 0, .int .i64 0, .int .i64 0], .slice none 0 0, .int .i64 0] 8 rfl (World.shaped_of_RefB (by kernel_rfl) (by kernel_rfl)) (by kernel_rfl) (by kernel_rfl) (by kernel_rfl) (loanRuns_door os _)) ?_
  intro W base args ds gs before hval0 hW _ hsz0 hL _
  have hval : ∀ (j : Nat) t v, Tryd.f10.params[j]? = some t → args[j]? = some v → Value.okWide Tryd.prog W .any base t v := hval0
  have hW' := hW
  obtain ⟨p, q, hA0, hV, rfl, hfz, hnd⟩ := hW
  have hA : DataW.TrodAll enc Tryd.prog W 0 (fun _ => true) true Tryd.f10.params.toList args.toList ds p := hA0
  rw [Tryd.params10] at hA hval
  have hsz : (DataW.weightsEach Tryd.prog (Tryd.f10.params.toList ++ Rows.loanRunsSpec.plain.varTypes Tryd.prog) (ds ++ gs)).all (· ≤ reachBytes) = true := hsz0
  clear hsz0
  rw [Tryd.params10] at hsz
  obtain ⟨v0, v1, v2, d0, d1, d2, p0, p1, p2, rfl, rfl, rfl, h0, h1, h2⟩ := trodAll_three hA
  obtain ⟨w0, rfl, _⟩ := okWide_struct Tryd.underlying44 (hval 0 44 v0 rfl rfl)
  obtain ⟨f0, t0⟩ := h0
  obtain ⟨d0_0, d0_1, d1_0, d1_1, d1_2, d1_3, d1_4, Ad2, cd2, d2, d3, d4, e0, r0_0, r0_1, r0_2, r0_3, r0_4, r0_5, r0_6, r0_7, r0_8, r0_9, r0_10⟩ := of44 t0 (wparam (j := 0) hsz rfl rfl)
  have e0' : w0.toList = _ := e0
  have a0 := Array.toList_inj.1 (e0'.trans (List.toList_toArray).symm)
  subst a0
  obtain ⟨a1, l1, z1, b1⟩ := okWide_slice Tryd.underlying69 (hval 1 69 v1 rfl rfl)
  obtain ⟨f1, t1⟩ := h1
  obtain ⟨Al, cl, l, e1, r1_0, r1_1⟩ := of69 t1 (wparam (j := 1) hsz rfl rfl)
  have s1 : v1 = .slice Al l.length cl := by
    rw [b1] at e1 ⊢
    exact (List.cons.inj e1).1
  clear b1 e1 t1
  subst s1
  obtain ⟨n, rfl, rfl, rfl, r2_0⟩ := open_int Tryd.underlying3 (hval 2 3 v2 rfl rfl) h2
  refine (k_LoanRuns ⟨d0_0, d0_1, d1_0, d1_1, d1_2, d1_3, d1_4, d2, d3, d4⟩ Ad2 cd2 l Al cl n W r0_7 r1_0 (ways_of hL)).mono fun e W' hh => ?_
  obtain ⟨he, hg⟩ := hh
  exact ⟨_, he, law_post hW' rfl (by obtain ⟨rfl, rfl⟩ := trodVars_none hV; rfl) (tb := 4) (by kernel_rfl) Tryd.underlying4 frLaidOut (by rw [Tryd.params10]; intro t ht; obtain h | h | h := (by simpa using ht : t = 44 ∨ t = 69 ∨ t = 3) <;> (subst h; exact ⟨by kernel_rfl, of_decide_eq_true (by kernel_rfl)⟩)) hg⟩

theorem loanRuns_said : Rows.LoanRunsSaid :=
  OpenClaim.holds_of_wide 10 Tryd.f10 rfl rfl rfl rfl rfl rfl rfl ⟨rfl, rfl, rfl, rfl, rfl⟩ rfl rfl rfl rfl rfl (by kernel_rfl) Tryd.func10 (by kernel_rfl)
    (of_decide_eq_true (by kernel_rfl)) (by unfold Func.isWrapper; first | (rw [if_pos (by decide +kernel)]; kernel_rfl) | (rw [if_neg (by decide +kernel)]; exact ⟨rfl, rfl⟩))
    (fun os started H enc _ => loanRuns_lifted os started H enc)

theorem loanRuns_plain (f : FuncId) (fn : Func) (hf : Tryd.pinned.checked.prog.funcNamed "lombard/lombardlaw02.LoanRuns" = some f) (hfn : Tryd.pinned.checked.prog.funcs[f]? = some fn) :
    false = Tryd.pinned.checked.prog.looks [] ∧ ∀ (j : Nat) t, fn.params[j]? = some t → Tryd.pinned.checked.prog.wantsStandIn t = false := by
  obtain rfl : f = 10 := Option.some.inj ((show Tryd.prog.funcNamed "lombard/lombardlaw02.LoanRuns" = some 10 by kernel_rfl).symm.trans hf) |>.symm
  obtain rfl : fn = Tryd.f10 := (Option.some.inj (Tryd.func10.symm.trans hfn)).symm
  refine ⟨by kernel_rfl, fun j t ht => ?_⟩
  rw [Tryd.params10] at ht
  have hm : t ∈ ([44, 69, 3] : List TypeId) := by simpa using Array.mem_of_getElem? ht
  have hall : (([44, 69, 3] : List TypeId).all fun u => !Tryd.prog.wantsStandIn u) = true := by kernel_rfl
  exact (show Tryd.prog.wantsStandIn t = false by simpa using List.all_eq_true.1 hall t hm)

/-- THE CARD. -/
theorem loanRuns_card : Rows.LoanRunsCardSaid :=
  Claim7.holds_tied_plain_at .later [] _ _ _ _ loanRuns_said (fun _ h => by cases h) (by kernel_rfl) (fun _ h => by cases h) loanRuns_row_tie rfl ⟨rfl, rfl⟩ (by kernel_rfl) rfl loanRuns_plain (by kernel_rfl)
end Go.Proofs.YtafmgkiddhappaaDoor
