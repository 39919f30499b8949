/- PledgeKnown: the law, which asks for nothing, returns true. Conditions: the package-level variables that the card ties hold what the program's text lays; nothing else. -/
import Derived.Test.YtlfbghkcfmcnlaaGreatDoorXPledgeKnown4
import Derived.SevenTiedAt
import Derived.Lay
import Derived.MakeChecks
namespace Go.Proofs.YtlfbghkcfmcnlaaGreatDoor
open Go.Sx Go.RowKit Go.ChangeShapes Go.WideShapes Go.ChangeAt
set_option maxRecDepth 100000

set_option maxHeartbeats 1600000 in
theorem pledgeKnown_lifted (os : Os) (started : os.Started) (H : Type) (enc : TypeId × Value → H) :
    ReturnsInHanded {} Tryz.checked os 5 .any (fun w args => (Rows.pledgeKnownSpec.pre enc Tryz.prog Tryz.f5 [] false w args ∧ laidMetH Tryz.prog Rows.pledgeKnownRow.laid w) ∧ sizedMet enc Tryz.prog Tryz.f5 (OpenSpec.ofChange Rows.pledgeKnownSpec) false w args)
      (Rows.pledgeKnownSpec.post enc Tryz.prog Tryz.f5 false true false false) := by
  refine rih_laid (C := Tryz.checked) (X := fun w _ => laidMetH Tryz.prog Rows.pledgeKnownRow.laid w) (fun _ _ _ hh h => h.of_heap hh) frOwn started (by kernel_rfl) Tryz.func5
    (ChangeSpec.witness_shaped (enc := enc) (C := Tryz.checked) (os := os) (X := fun w _ => laidMetH Tryz.prog Rows.pledgeKnownRow.laid w) false (World.laidAll Tryz.prog os Rows.pledgeKnownRow.laid)
      #[] 8 (World.laidAll_os _ _ _) (World.shaped_of_ZipB (by kernel_rfl) (by kernel_rfl)) (by kernel_rfl) (by kernel_rfl) (by kernel_rfl) (by rw [MakeChecks.laidMetH_plain _ _ _ (by kernel_rfl)]; exact laidMet_laidAll _ (by kernel_rfl) (by kernel_rfl))) ?_
  intro W base args ds gs before hval0 hW hsz0 hL hsh
  have hval : ∀ (j : Nat) t v, Tryz.f5.params[j]? = some t → args[j]? = some v → Value.okWide Tryz.prog W .any base t v := hval0
  have hW' := hW
  obtain ⟨p, q, hA0, hV, rfl, hfz, hnd⟩ := hW
  have hA : DataW.TrodAll enc Tryz.prog W 0 (fun _ => true) true Tryz.f5.params.toList args.toList ds p := hA0
  rw [Tryz.params5] at hA hval
  have hsz : (DataW.weightsEach Tryz.prog (Tryz.f5.params.toList ++ Rows.pledgeKnownSpec.plain.varTypes Tryz.prog) (ds ++ gs)).all (· ≤ reachBytes) = true := hsz0
  clear hsz0
  rw [Tryz.params5] at hsz
  obtain ⟨rfl, rfl, rfl⟩ := trodAll_none hA
  obtain ⟨mx, hm0⟩ := mx_of hsh
  refine (k_PledgeKnown mx W hm0).mono fun e W' hh => ?_
  obtain ⟨he, hg⟩ := hh
  exact ⟨_, he, law_post hW' rfl (by obtain ⟨rfl, rfl⟩ := trodVars_none hV; rfl) (tb := 4) (by kernel_rfl) Tryz.underlying4 frLaidOut (by rw [Tryz.params5]; intro t ht; simp at ht) hg⟩

theorem pledgeKnown_said : Rows.PledgeKnownSaid :=
  OpenClaim.holds_of_wide 5 Tryz.f5 rfl rfl rfl rfl rfl rfl rfl ⟨rfl, rfl, rfl, rfl, rfl⟩ rfl rfl rfl rfl rfl (by kernel_rfl) Tryz.func5 (by kernel_rfl)
    (of_decide_eq_true (by kernel_rfl)) (by unfold Func.isWrapper; first | (rw [if_pos (by decide +kernel)]; kernel_rfl) | (rw [if_neg (by decide +kernel)]; exact ⟨rfl, rfl⟩))
    (fun os started H enc _ => pledgeKnown_lifted os started H enc)

theorem pledgeKnown_plain (f : FuncId) (fn : Func) (hf : Tryz.pinned.checked.prog.funcNamed "lombard/lombardlaw01.PledgeKnown" = some f) (hfn : Tryz.pinned.checked.prog.funcs[f]? = some fn) :
    true = Tryz.pinned.checked.prog.looks [] ∧ ∀ (j : Nat) t, fn.params[j]? = some t → Tryz.pinned.checked.prog.wantsStandIn t = false := by
  obtain rfl : f = 5 := Option.some.inj ((show Tryz.prog.funcNamed "lombard/lombardlaw01.PledgeKnown" = some 5 by kernel_rfl).symm.trans hf) |>.symm
  obtain rfl : fn = Tryz.f5 := (Option.some.inj (Tryz.func5.symm.trans hfn)).symm
  refine ⟨by kernel_rfl, fun j t ht => ?_⟩
  rw [Tryz.params5] at ht
  have hm : t ∈ ([] : List TypeId) := by simpa using Array.mem_of_getElem? ht
  have hall : (([] : List TypeId).all fun u => !Tryz.prog.wantsStandIn u) = true := by kernel_rfl
  exact (show Tryz.prog.wantsStandIn t = false by simpa using List.all_eq_true.1 hall t hm)

/-- THE CARD. -/
theorem pledgeKnown_card : Rows.PledgeKnownCardSaid :=
  Claim7.holds_tied_plain_at .later [] _ _ _ _ pledgeKnown_said (fun _ h => by cases h) (by kernel_rfl) (fun _ h => by cases h) pledgeKnown_row_tie rfl ⟨rfl, rfl⟩ (by kernel_rfl) rfl pledgeKnown_plain (by kernel_rfl)
end Go.Proofs.YtlfbghkcfmcnlaaGreatDoor
