/- AuctionFairs: for whatever input the law returns true, and its arguments read as they did. Conditions: none. -/
import Derived.Test.YtehmifpofpifkaaXAuctionFairs0
import Derived.SevenTiedAt
namespace Go.Proofs.Ytehmifpofpifkaa
open Go.Sx Go.RowKit Go.ChangeShapes Go.WideShapes Go.ChangeAt Am
set_option maxRecDepth 100000

set_option maxHeartbeats 1600000 in
theorem auctionFairs_lifted (os : Os) (started : os.Started) (H : Type) (enc : TypeId × Value → H) :
    ReturnsInHanded {} Try.checked os 12 .any (Rows.auctionFairsSpec.pre6 enc Try.prog Try.f12 [] false) (Rows.auctionFairsSpec.post enc Try.prog Try.f12 false true false false) := by
  refine returnsInHanded_of_change_sized (C := Try.checked) frOwn started (by kernel_rfl) Try.func12
    (ChangeSpec.witness6 (enc := enc) (C := Try.checked) false ⟨#[], #[.agg #[.slice none 0 0, .slice none 0 0], .agg #[.slice none 0 0, .slice none 0 0]], []⟩ 8 (by kernel_rfl) (by kernel_rfl) (by kernel_rfl) (by kernel_rfl)) ?_
  intro W base args ds gs before hval0 hW _ hsz0 _
  have hval : ∀ (j : Nat) t v, Try.f12.params[j]? = some t → args[j]? = some v → Value.okWide Try.prog W .any base t v := hval0
  have hW' := hW
  obtain ⟨p, q, hA0, hV, rfl, hfz, hnd⟩ := hW
  have hA : DataW.TrodAll enc Try.prog W 0 (fun _ => true) true Try.f12.params.toList args.toList ds p := hA0
  rw [Try.params12] at hA hval
  have hsz : (DataW.weightsEach Try.prog (Try.f12.params.toList ++ Rows.auctionFairsSpec.plain.varTypes Try.prog) (ds ++ gs)).all (· ≤ reachBytes) = true := hsz0
  clear hsz0
  rw [Try.params12] at hsz
  obtain ⟨v0, v1, d0, d1, p0, p1, rfl, rfl, rfl, h0, h1⟩ := trodAll_two hA
  obtain ⟨w0, rfl, _⟩ := okWide_struct Try.underlying60 (hval 0 60 v0 rfl rfl)
  obtain ⟨f0, t0⟩ := h0
  obtain ⟨Ac, cc, c, Bc, dc, vc, e0, r0_0, r0_1, r0_2⟩ := of60 t0 (wparam (j := 0) hsz rfl rfl)
  have e0' : w0.toList = _ := e0
  have a0 := Array.toList_inj.1 (e0'.trans (List.toList_toArray).symm)
  subst a0
  obtain ⟨w1, rfl, _⟩ := okWide_struct Try.underlying62 (hval 1 62 v1 rfl rfl)
  obtain ⟨f1, t1⟩ := h1
  obtain ⟨Aa, ca, a, Ba, da, va, e1, r1_0, r1_1⟩ := of62 t1 (wparam (j := 1) hsz rfl rfl)
  have e1' : w1.toList = _ := e1
  have a1 := Array.toList_inj.1 (e1'.trans (List.toList_toArray).symm)
  subst a1
  refine (k_AuctionFairs c Ac cc vc Bc dc a Aa ca va Ba da W r0_0 r0_1 r0_2 r1_0 r1_1).mono fun e W' hh => ?_
  obtain ⟨he, hg⟩ := hh
  exact ⟨_, he, law_post hW' rfl (by obtain ⟨rfl, rfl⟩ := trodVars_none hV; rfl) (tb := 4) (by kernel_rfl) Try.underlying4 frLaidOut (by rw [Try.params12]; intro t ht; obtain h | h := (by simpa using ht : t = 60 ∨ t = 62) <;> (subst h; exact ⟨by kernel_rfl, of_decide_eq_true (by kernel_rfl)⟩)) hg⟩

theorem auctionFairs_said : Rows.AuctionFairsSaid :=
  OpenClaim.holds_of_wide 12 Try.f12 rfl rfl rfl rfl rfl rfl rfl ⟨rfl, rfl, rfl, rfl, rfl⟩ rfl rfl rfl rfl rfl (by kernel_rfl) Try.func12 (by kernel_rfl)
    (of_decide_eq_true (by kernel_rfl)) (by unfold Func.isWrapper; first | (rw [if_pos (by decide +kernel)]; kernel_rfl) | (rw [if_neg (by decide +kernel)]; exact ⟨rfl, rfl⟩))
    (fun os started H enc _ => auctionFairs_lifted os started H enc)

end Go.Proofs.Ytehmifpofpifkaa
