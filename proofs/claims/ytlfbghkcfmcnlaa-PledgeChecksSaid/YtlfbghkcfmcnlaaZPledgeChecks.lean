/- PledgeChecks: for whatever input the law returns true, and its arguments read as they did. Conditions: none. -/
import Derived.Test.YtlfbghkcfmcnlaaXPledgeChecks0
import Derived.SevenTiedAt
namespace Go.Proofs.Ytlfbghkcfmcnlaa
open Go.Sx Go.RowKit Go.ChangeShapes Go.WideShapes Go.ChangeAt
set_option maxRecDepth 100000

set_option maxHeartbeats 1600000 in
theorem pledgeChecks_lifted (os : Os) (started : os.Started) (H : Type) (enc : TypeId × Value → H) :
    ReturnsInHanded {} Try.checked os 9 .any (Rows.pledgeChecksSpec.pre6 enc Try.prog Try.f9 [] false) (Rows.pledgeChecksSpec.post enc Try.prog Try.f9 false true false false) := by
  refine returnsInHanded_of_change_sized (C := Try.checked) frOwn started (by kernel_rfl) Try.func9
    (ChangeSpec.witness6 (enc := enc) (C := Try.checked) false ⟨#[], #[.string ⟨#[]⟩, .slice none 0 0, .agg #[.string ⟨#[]⟩, .slice none 0 0, .slice none 0 0]], []⟩ 8 (by kernel_rfl) (by kernel_rfl) (by kernel_rfl) (by kernel_rfl)) ?_
  intro W base args ds gs before hval0 hW _ hsz0 _
  have hval : ∀ (j : Nat) t v, Try.f9.params[j]? = some t → args[j]? = some v → Value.okWide Try.prog W .any base t v := hval0
  have hW' := hW
  obtain ⟨p, q, hA0, hV, rfl, hfz, hnd⟩ := hW
  have hA : DataW.TrodAll enc Try.prog W 0 (fun _ => true) true Try.f9.params.toList args.toList ds p := hA0
  rw [Try.params9] at hA hval
  have hsz : (DataW.weightsEach Try.prog (Try.f9.params.toList ++ Rows.pledgeChecksSpec.plain.varTypes Try.prog) (ds ++ gs)).all (· ≤ reachBytes) = true := hsz0
  clear hsz0
  rw [Try.params9] at hsz
  obtain ⟨v0, v1, v2, d0, d1, d2, p0, p1, p2, rfl, rfl, rfl, h0, h1, h2⟩ := trodAll_three hA
  obtain ⟨s, rfl, r0_0⟩ := strTop Try.underlying9 (hval 0 9 v0 rfl rfl) h0
  obtain ⟨a1, l1, z1, b1⟩ := okWide_slice Try.underlying22 (hval 1 22 v1 rfl rfl)
  obtain ⟨f1, t1⟩ := h1
  obtain ⟨Al, cl, l, e1, r1_0, r1_1⟩ := of22 t1 (wparam (j := 1) hsz rfl rfl)
  have s1 : v1 = .slice Al l.length cl := by
    rw [b1] at e1 ⊢
    exact (List.cons.inj e1).1
  clear b1 e1 t1
  subst s1
  obtain ⟨w2, rfl, _⟩ := okWide_struct Try.underlying26 (hval 2 26 v2 rfl rfl)
  obtain ⟨f2, t2⟩ := h2
  obtain ⟨x, e2, r2_0⟩ := of26 t2 (wparam (j := 2) hsz rfl rfl)
  have e2' : w2.toList = _ := e2
  have a2 := Array.toList_inj.1 (e2'.trans (List.toList_toArray).symm)
  subst a2
  refine (k_PledgeChecks s l Al cl x W (by unfold maxLen at r0_0; exact r0_0) r1_0 r1_1 r2_0).mono fun e W' hh => ?_
  obtain ⟨he, hg⟩ := hh
  exact ⟨_, he, law_post hW' rfl (by obtain ⟨rfl, rfl⟩ := trodVars_none hV; rfl) (tb := 4) (by kernel_rfl) Try.underlying4 frLaidOut (by rw [Try.params9]; intro t ht; obtain h | h | h := (by simpa using ht : t = 9 ∨ t = 22 ∨ t = 26) <;> (subst h; exact ⟨by kernel_rfl, of_decide_eq_true (by kernel_rfl)⟩)) hg⟩

theorem pledgeChecks_said : Rows.PledgeChecksSaid :=
  OpenClaim.holds_of_wide 9 Try.f9 rfl rfl rfl rfl rfl rfl rfl ⟨rfl, rfl, rfl, rfl, rfl⟩ rfl rfl rfl rfl rfl (by kernel_rfl) Try.func9 (by kernel_rfl)
    (of_decide_eq_true (by kernel_rfl)) (by unfold Func.isWrapper; first | (rw [if_pos (by decide +kernel)]; kernel_rfl) | (rw [if_neg (by decide +kernel)]; exact ⟨rfl, rfl⟩))
    (fun os started H enc _ => pledgeChecks_lifted os started H enc)

end Go.Proofs.Ytlfbghkcfmcnlaa
