/- LoanLends: for whatever terms, value, rules, class and wish the law returns true, and its arguments read as they did. Conditions: the package-level variables that the card ties hold what the program's text lays; nothing else. -/
import Derived.Test.YtafmgkiddhappaaDoorYWLend
import Derived.Test.YtafmgkiddhappaaDoorYFrC
import Derived.SevenTiedAt
namespace Go.Proofs.YtafmgkiddhappaaDoor
open Go.Sx Go.RowKit Go.ChangeShapes Go.WideShapes Go.ChangeAt
set_option maxRecDepth 100000

theorem loanLends_door (os : Os) (args : Array Value) : laidMetH Tryd.prog Rows.loanLendsRow.laid ((World.doorLaid Tryd.prog 600 os).forCall (fun _ _ => 0) ⟨#[], args, []⟩).memory :=
  laidMetH_of_parts3 (fuel := 8) (laidMet_of_run' 8 (by kernel_rfl) (by kernel_rfl)) (by kernel_rfl) (by kernel_rfl)

set_option maxHeartbeats 1600000 in
theorem loanLends_lifted (os : Os) (started : os.Started) (H : Type) (enc : TypeId × Value → H) :
    ReturnsInHanded {} Tryd.checked os 13 .any (fun w args => (Rows.loanLendsSpec.pre enc Tryd.prog Tryd.f13 [] false w args ∧ laidMetH Tryd.prog Rows.loanLendsRow.laid w) ∧ sizedMet enc Tryd.prog Tryd.f13 (OpenSpec.ofChange Rows.loanLendsSpec) false w args)
      (Rows.loanLendsSpec.post enc Tryd.prog Tryd.f13 false true false false) := by
  refine returnsInHanded_of_change_and (C := Tryd.checked) (X := fun w _ => laidMetH Tryd.prog Rows.loanLendsRow.laid w) (fun _ _ _ hh h => h.of_heap hh) frOwn started (by kernel_rfl) Tryd.func13
    (ChangeSpec.witness_shaped (enc := enc) (C := Tryd.checked) (os := os) (X := fun w _ => laidMetH Tryd.prog Rows.loanLendsRow.laid w) false (World.doorLaid Tryd.prog 600 os)
      #[.agg #[.int .i64 0, .int .i64 0, .int .i64 0], .agg #[.int .i64 0, .int .i64 0], .agg #[.slice none 0 0, .string ⟨#[]⟩, .int .i64 0]] 8 rfl (World.shaped_of_RefB (by kernel_rfl) (by kernel_rfl)) (by kernel_rfl) (by kernel_rfl) (by kernel_rfl) (loanLends_door os _)) ?_
  intro W base args ds gs before hval0 hW _ hsz0 hL _
  have hval : ∀ (j : Nat) t v, Tryd.f13.params[j]? = some t → args[j]? = some v → Value.okWide Tryd.prog W .any base t v := hval0
  have hW' := hW
  obtain ⟨p, q, hA0, hV, rfl, hfz, hnd⟩ := hW
  have hA : DataW.TrodAll enc Tryd.prog W 0 (fun _ => true) true Tryd.f13.params.toList args.toList ds p := hA0
  rw [Tryd.params13] at hA hval
  have hsz : (DataW.weightsEach Tryd.prog (Tryd.f13.params.toList ++ Rows.loanLendsSpec.plain.varTypes Tryd.prog) (ds ++ gs)).all (· ≤ reachBytes) = true := hsz0
  clear hsz0
  rw [Tryd.params13] at hsz
  obtain ⟨v0, v1, v2, d0, d1, d2, p0, p1, p2, rfl, rfl, rfl, h0, h1, h2⟩ := trodAll_three hA
  obtain ⟨w0, rfl, _⟩ := okWide_struct Tryd.underlying52 (hval 0 52 v0 rfl rfl)
  obtain ⟨f0, t0⟩ := h0
  obtain ⟨tt0, tt1, tt2, e0, r0_0, r0_1, r0_2⟩ := of52 t0
  have e0' : w0.toList = _ := e0
  have a0 := Array.toList_inj.1 (e0'.trans (List.toList_toArray).symm)
  subst a0
  obtain ⟨w1, rfl, _⟩ := okWide_struct Tryd.underlying27 (hval 1 27 v1 rfl rfl)
  obtain ⟨f1, t1⟩ := h1
  obtain ⟨vv0, vv1, e1, r1_0, r1_1⟩ := of27 t1
  have e1' : w1.toList = _ := e1
  have a1 := Array.toList_inj.1 (e1'.trans (List.toList_toArray).symm)
  subst a1
  obtain ⟨w2, rfl, _⟩ := okWide_struct Tryd.underlying86 (hval 2 86 v2 rfl rfl)
  obtain ⟨f2, t2⟩ := h2
  obtain ⟨Ax0, cx0, x0, x1, x2, e2, r2_0, r2_1, r2_2, r2_3⟩ := of86 t2 (wparam (j := 2) hsz rfl rfl)
  have e2' : w2.toList = _ := e2
  have a2 := Array.toList_inj.1 (e2'.trans (List.toList_toArray).symm)
  subst a2
  have hk := k_LoanLends tt0 tt1 tt2 vv0 vv1 (x0.map (·.1)) Ax0 cx0 x1 x2 W (rules_rd r2_0) (rules_sm x0) (ways_of hL)
  rw [List.length_map] at hk
  refine (hk).mono fun e W' hh => ?_
  obtain ⟨he, hg⟩ := hh
  exact ⟨_, he, law_post hW' rfl (by obtain ⟨rfl, rfl⟩ := trodVars_none hV; rfl) (tb := 4) (by kernel_rfl) Tryd.underlying4 frLaidOut (by rw [Tryd.params13]; intro t ht; obtain h | h | h := (by simpa using ht : t = 52 ∨ t = 27 ∨ t = 86) <;> (subst h; exact ⟨by kernel_rfl, of_decide_eq_true (by kernel_rfl)⟩)) hg⟩

theorem loanLends_said : Rows.LoanLendsSaid :=
  OpenClaim.holds_of_wide 13 Tryd.f13 rfl rfl rfl rfl rfl rfl rfl ⟨rfl, rfl, rfl, rfl, rfl⟩ rfl rfl rfl rfl rfl (by kernel_rfl) Tryd.func13 (by kernel_rfl)
    (of_decide_eq_true (by kernel_rfl)) (by unfold Func.isWrapper; first | (rw [if_pos (by decide +kernel)]; kernel_rfl) | (rw [if_neg (by decide +kernel)]; exact ⟨rfl, rfl⟩))
    (fun os started H enc _ => loanLends_lifted os started H enc)

theorem loanLends_plain (f : FuncId) (fn : Func) (hf : Tryd.pinned.checked.prog.funcNamed "lombard/lombardlaw02.LoanLends" = some f) (hfn : Tryd.pinned.checked.prog.funcs[f]? = some fn) :
    false = Tryd.pinned.checked.prog.looks [] ∧ ∀ (j : Nat) t, fn.params[j]? = some t → Tryd.pinned.checked.prog.wantsStandIn t = false := by
  obtain rfl : f = 13 := Option.some.inj ((show Tryd.prog.funcNamed "lombard/lombardlaw02.LoanLends" = some 13 by kernel_rfl).symm.trans hf) |>.symm
  obtain rfl : fn = Tryd.f13 := (Option.some.inj (Tryd.func13.symm.trans hfn)).symm
  refine ⟨by kernel_rfl, fun j t ht => ?_⟩
  rw [Tryd.params13] at ht
  have hm : t ∈ ([52, 27, 86] : List TypeId) := by simpa using Array.mem_of_getElem? ht
  have hall : (([52, 27, 86] : List TypeId).all fun u => !Tryd.prog.wantsStandIn u) = true := by kernel_rfl
  exact (show Tryd.prog.wantsStandIn t = false by simpa using List.all_eq_true.1 hall t hm)

/-- THE CARD. -/
theorem loanLends_card : Rows.LoanLendsCardSaid :=
  Claim7.holds_tied_plain_at .later [] _ _ _ _ loanLends_said (fun _ h => by cases h) (by kernel_rfl) (fun _ h => by cases h) loanLends_row_tie rfl ⟨rfl, rfl⟩ (by kernel_rfl) rfl loanLends_plain (by kernel_rfl)
end Go.Proofs.YtafmgkiddhappaaDoor
