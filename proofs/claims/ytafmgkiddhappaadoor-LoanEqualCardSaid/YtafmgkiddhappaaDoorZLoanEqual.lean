/- LoanEqual: for whatever twins, rules and value the law returns true, and its arguments read as they did. Conditions: the package-level variables that the card ties hold what the program's text lays; nothing else. -/
import Derived.Test.YtafmgkiddhappaaDoorYWEqual
import Derived.Test.YtafmgkiddhappaaDoorYFrD
import Derived.SevenTiedAt
namespace Go.Proofs.YtafmgkiddhappaaDoor
open Go.Sx Go.RowKit Go.ChangeShapes Go.WideShapes Go.ChangeAt
set_option maxRecDepth 100000

theorem loanEqual_door (os : Os) (args : Array Value) : laidMetH Tryd.prog Rows.loanEqualRow.laid ((World.doorLaid Tryd.prog 600 os).forCall (fun _ _ => 0) ⟨#[], args, []⟩).memory :=
  laidMetH_of_parts3 (fuel := 8) (laidMet_of_run' 8 (by kernel_rfl) (by kernel_rfl)) (by kernel_rfl) (by kernel_rfl)

set_option maxHeartbeats 1600000 in
theorem loanEqual_lifted (os : Os) (started : os.Started) (H : Type) (enc : TypeId × Value → H) :
    ReturnsInHanded {} Tryd.checked os 15 .any (fun w args => (Rows.loanEqualSpec.pre enc Tryd.prog Tryd.f15 [] false w args ∧ laidMetH Tryd.prog Rows.loanEqualRow.laid w) ∧ sizedMet enc Tryd.prog Tryd.f15 (OpenSpec.ofChange Rows.loanEqualSpec) false w args)
      (Rows.loanEqualSpec.post enc Tryd.prog Tryd.f15 false true false false) := by
  refine returnsInHanded_of_change_and (C := Tryd.checked) (X := fun w _ => laidMetH Tryd.prog Rows.loanEqualRow.laid w) (fun _ _ _ hh h => h.of_heap hh) frOwn started (by kernel_rfl) Tryd.func15
    (ChangeSpec.witness_shaped (enc := enc) (C := Tryd.checked) (os := os) (X := fun w _ => laidMetH Tryd.prog Rows.loanEqualRow.laid w) false (World.doorLaid Tryd.prog 600 os)
      #[.agg #[.slice none 0 0, .string ⟨#[]⟩, .slice none 0 0, .slice none 0 0, .string ⟨#[]⟩, .slice none 0 0, .slice none 0 0], .slice none 0 0, .agg #[.int .i64 0, .int .i64 0]] 8 rfl (World.shaped_of_RefB (by kernel_rfl) (by kernel_rfl)) (by kernel_rfl) (by kernel_rfl) (by kernel_rfl) (loanEqual_door os _)) ?_
  intro W base args ds gs before hval0 hW _ hsz0 hL _
  have hval : ∀ (j : Nat) t v, Tryd.f15.params[j]? = some t → args[j]? = some v → Value.okWide Tryd.prog W .any base t v := hval0
  have hW' := hW
  obtain ⟨p, q, hA0, hV, rfl, hfz, hnd⟩ := hW
  have hA : DataW.TrodAll enc Tryd.prog W 0 (fun _ => true) true Tryd.f15.params.toList args.toList ds p := hA0
  rw [Tryd.params15] at hA hval
  have hsz : (DataW.weightsEach Tryd.prog (Tryd.f15.params.toList ++ Rows.loanEqualSpec.plain.varTypes Tryd.prog) (ds ++ gs)).all (· ≤ reachBytes) = true := hsz0
  clear hsz0
  rw [Tryd.params15] at hsz
  obtain ⟨v0, v1, v2, d0, d1, d2, p0, p1, p2, rfl, rfl, rfl, h0, h1, h2⟩ := trodAll_three hA
  obtain ⟨w0, rfl, _⟩ := okWide_struct Tryd.underlying105 (hval 0 105 v0 rfl rfl)
  obtain ⟨f0, t0⟩ := h0
  obtain ⟨lc, Ag, cg, a, b, e0, r0_0, r0_1, r0_2, r0_3⟩ := of105 t0 (wparam (j := 0) hsz rfl rfl)
  have e0' : w0.toList = _ := e0
  have a0 := Array.toList_inj.1 (e0'.trans (List.toList_toArray).symm)
  subst a0
  obtain ⟨a1, l1, z1, b1⟩ := okWide_slice Tryd.underlying84 (hval 1 84 v1 rfl rfl)
  obtain ⟨f1, t1⟩ := h1
  obtain ⟨Al, cl, l, e1, r1_0, r1_1⟩ := of84 t1 (wparam (j := 1) hsz rfl rfl)
  have s1 : v1 = .slice Al l.length cl := by
    rw [b1] at e1 ⊢
    exact (List.cons.inj e1).1
  clear b1 e1 t1
  subst s1
  obtain ⟨w2, rfl, _⟩ := okWide_struct Tryd.underlying27 (hval 2 27 v2 rfl rfl)
  obtain ⟨f2, t2⟩ := h2
  obtain ⟨v0, v1, e2, r2_0, r2_1⟩ := of27 t2
  have e2' : w2.toList = _ := e2
  have a2 := Array.toList_inj.1 (e2'.trans (List.toList_toArray).symm)
  subst a2
  have hk := k_LoanEqual lc Ag cg a b (l.map (·.1)) Al cl v0 v1 W r0_0 r0_1 r0_2 r0_3 (rules_rd r1_0) (rules_sm l) (ways_of hL)
  rw [List.length_map] at hk
  refine (hk).mono fun e W' hh => ?_
  obtain ⟨he, hg⟩ := hh
  exact ⟨_, he, law_post hW' rfl (by obtain ⟨rfl, rfl⟩ := trodVars_none hV; rfl) (tb := 4) (by kernel_rfl) Tryd.underlying4 frLaidOut (by rw [Tryd.params15]; intro t ht; obtain h | h | h := (by simpa using ht : t = 105 ∨ t = 84 ∨ t = 27) <;> (subst h; exact ⟨by kernel_rfl, of_decide_eq_true (by kernel_rfl)⟩)) hg⟩

theorem loanEqual_said : Rows.LoanEqualSaid :=
  OpenClaim.holds_of_wide 15 Tryd.f15 rfl rfl rfl rfl rfl rfl rfl ⟨rfl, rfl, rfl, rfl, rfl⟩ rfl rfl rfl rfl rfl (by kernel_rfl) Tryd.func15 (by kernel_rfl)
    (of_decide_eq_true (by kernel_rfl)) (by unfold Func.isWrapper; first | (rw [if_pos (by decide +kernel)]; kernel_rfl) | (rw [if_neg (by decide +kernel)]; exact ⟨rfl, rfl⟩))
    (fun os started H enc _ => loanEqual_lifted os started H enc)

theorem loanEqual_plain (f : FuncId) (fn : Func) (hf : Tryd.pinned.checked.prog.funcNamed "lombard/lombardlaw02.LoanEqual" = some f) (hfn : Tryd.pinned.checked.prog.funcs[f]? = some fn) :
    false = Tryd.pinned.checked.prog.looks [] ∧ ∀ (j : Nat) t, fn.params[j]? = some t → Tryd.pinned.checked.prog.wantsStandIn t = false := by
  obtain rfl : f = 15 := Option.some.inj ((show Tryd.prog.funcNamed "lombard/lombardlaw02.LoanEqual" = some 15 by kernel_rfl).symm.trans hf) |>.symm
  obtain rfl : fn = Tryd.f15 := (Option.some.inj (Tryd.func15.symm.trans hfn)).symm
  refine ⟨by kernel_rfl, fun j t ht => ?_⟩
  rw [Tryd.params15] at ht
  have hm : t ∈ ([105, 84, 27] : List TypeId) := by simpa using Array.mem_of_getElem? ht
  have hall : (([105, 84, 27] : List TypeId).all fun u => !Tryd.prog.wantsStandIn u) = true := by kernel_rfl
  exact (show Tryd.prog.wantsStandIn t = false by simpa using List.all_eq_true.1 hall t hm)

/-- THE CARD. -/
theorem loanEqual_card : Rows.LoanEqualCardSaid :=
  Claim7.holds_tied_plain_at .later [] _ _ _ _ loanEqual_said (fun _ h => by cases h) (by kernel_rfl) (fun _ h => by cases h) loanEqual_row_tie rfl ⟨rfl, rfl⟩ (by kernel_rfl) rfl loanEqual_plain (by kernel_rfl)
end Go.Proofs.YtafmgkiddhappaaDoor
