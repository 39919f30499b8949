/- LoanValues: for whatever market, number and ware the law's function returns true, and its arguments read as they did. Conditions: the package-level variable lombard/loan.ways holds what the program's text lays (the card ties it); nothing else. -/
import Derived.Test.YtafmgkiddhappaaDoorWO
import Derived.Test.YtafmgkiddhappaaDoorFrA
import Derived.SevenTiedAt
namespace Go.Proofs.YtafmgkiddhappaaDoor
open Go.Sx Go.RowKit Go.ChangeShapes Go.WideShapes Go.ChangeAt
set_option maxRecDepth 100000

theorem lvDoor (os : Os) (args : Array Value) : laidMetH Tryd.prog Rows.loanValuesRow.laid ((World.doorLaid Tryd.prog 600 os).forCall (fun _ _ => 0) ⟨#[], args, []⟩).memory :=
  laidMetH_of_parts3 (fuel := 8) (laidMet_of_run' 8 (by kernel_rfl) (by kernel_rfl)) (by kernel_rfl) (by kernel_rfl)

theorem lvLifted (os : Os) (started : os.Started) (H : Type) (enc : TypeId × Value → H) :
    ReturnsInHanded {} Tryd.checked os 3 .any (fun w args => (Rows.loanValuesSpec.pre enc Tryd.prog Tryd.f3 [] false w args ∧ laidMetH Tryd.prog Rows.loanValuesRow.laid w) ∧ sizedMet enc Tryd.prog Tryd.f3 (OpenSpec.ofChange Rows.loanValuesSpec) false w args)
      (Rows.loanValuesSpec.post enc Tryd.prog Tryd.f3 false true false false) := by
  refine returnsInHanded_of_change_and (C := Tryd.checked) (X := fun w _ => laidMetH Tryd.prog Rows.loanValuesRow.laid w) (fun _ _ _ hh h => h.of_heap hh) frOwn started (by kernel_rfl) Tryd.func3
    (ChangeSpec.witness_shaped (enc := enc) (C := Tryd.checked) (os := os) (X := fun w _ => laidMetH Tryd.prog Rows.loanValuesRow.laid w) false (World.doorLaid Tryd.prog 600 os)
      #[.agg #[.slice none 0 0, .slice none 0 0, .int .i64 0, .int .i64 0, .int .i64 0], .int .i64 0, .agg #[.int .i64 0, .int .i64 0, .int .i64 0]] 8 rfl (World.shaped_of_RefB (by kernel_rfl) (by kernel_rfl)) (by kernel_rfl) (by kernel_rfl) (by kernel_rfl) (lvDoor os _)) ?_
  intro W base args ds gs before hval0 hW _ _ hL _
  have hval : ∀ (j : Nat) t v, Tryd.f3.params[j]? = some t → args[j]? = some v → Value.okWide Tryd.prog W .any base t v := hval0
  have hW' := hW
  obtain ⟨p, q, hA0, hV, rfl, hfz, hnd⟩ := hW
  have hA : DataW.TrodAll enc Tryd.prog W 0 (fun _ => true) true Tryd.f3.params.toList args.toList ds p := hA0
  rw [Tryd.params3] at hA hval
  obtain ⟨v0, v1, v2, d0, d1, d2, p0, p1, p2, rfl, rfl, rfl, h0, h1, h2⟩ := trodAll_three hA
  obtain ⟨cs0, rfl, _⟩ := okWide_struct Tryd.underlying25 (hval 0 25 v0 rfl rfl)
  obtain ⟨f0, t0⟩ := h0
  obtain ⟨sales, fade, metal, day, few, As, Af, cs1, cf, e0, r0, r1⟩ := market_of t0
  have e0' : cs0.toList = _ := e0
  obtain ⟨kind, rfl, rfl, rfl, _⟩ := open_int Tryd.underlying3 (hval 1 3 v1 rfl rfl) h1
  obtain ⟨cs2, rfl, _⟩ := okWide_struct Tryd.underlying29 (hval 2 29 v2 rfl rfl)
  obtain ⟨f2, t2⟩ := h2
  obtain ⟨kind2, wmin, wmax, e2⟩ := ware_of t2
  have e2' : cs2.toList = _ := e2
  have a0 := Array.toList_inj.1 (e0'.trans (List.toList_toArray).symm)
  have a2 := Array.toList_inj.1 (e2'.trans (List.toList_toArray).symm)
  subst a0; subst a2
  refine (k_LoanValues sales fade metal day few As Af cs1 cf kind kind2 wmin wmax W r0 r1 (ways_of hL)).mono fun e W' hh => ?_
  obtain ⟨he, hg⟩ := hh
  exact ⟨_, he, law_post hW' rfl (by obtain ⟨rfl, rfl⟩ := trodVars_none hV; rfl) (tb := 4) (by kernel_rfl) Tryd.underlying4 frLaidOut (by rw [Tryd.params3]; intro t ht; simp at ht; rcases ht with rfl | rfl | rfl <;> exact ⟨by kernel_rfl, of_decide_eq_true (by kernel_rfl)⟩) hg⟩

theorem lvSaid : Rows.LoanValuesSaid :=
  OpenClaim.holds_of_wide 3 Tryd.f3 rfl rfl rfl rfl rfl rfl rfl ⟨rfl, rfl, rfl, rfl, rfl⟩ rfl rfl rfl rfl rfl (by kernel_rfl) Tryd.func3 (by kernel_rfl)
    (of_decide_eq_true (by kernel_rfl)) (by unfold Func.isWrapper; first | (rw [if_pos (by decide +kernel)]; kernel_rfl) | (rw [if_neg (by decide +kernel)]; exact ⟨rfl, rfl⟩))
    (fun os started H enc _ => lvLifted os started H enc)

theorem lvPlain (f : FuncId) (fn : Func) (hf : Tryd.pinned.checked.prog.funcNamed "lombard/lombardlaw02.LoanValues" = some f) (hfn : Tryd.pinned.checked.prog.funcs[f]? = some fn) :
    false = Tryd.pinned.checked.prog.looks [] ∧ ∀ (j : Nat) t, fn.params[j]? = some t → Tryd.pinned.checked.prog.wantsStandIn t = false := by
  obtain rfl : f = 3 := Option.some.inj ((show Tryd.prog.funcNamed "lombard/lombardlaw02.LoanValues" = some 3 by kernel_rfl).symm.trans hf) |>.symm
  obtain rfl : fn = Tryd.f3 := (Option.some.inj (Tryd.func3.symm.trans hfn)).symm
  refine ⟨by kernel_rfl, fun j t ht => ?_⟩
  rw [Tryd.params3] at ht
  have hm : t ∈ [25, 3, 29] := by simpa using Array.mem_of_getElem? ht
  have hall : ([25, 3, 29].all fun u => !Tryd.prog.wantsStandIn u) = true := by kernel_rfl
  exact (show Tryd.prog.wantsStandIn t = false by simpa using List.all_eq_true.1 hall t hm)

/-- THE CARD. -/
theorem loanValues_card : Rows.LoanValuesCardSaid :=
  Claim7.holds_tied_plain_at .later [] _ _ _ _ lvSaid (fun _ h => by cases h) (by kernel_rfl) (fun _ h => by cases h) loanValues_row_tie rfl ⟨rfl, rfl⟩ (by kernel_rfl) rfl lvPlain (by kernel_rfl)
end Go.Proofs.YtafmgkiddhappaaDoor
