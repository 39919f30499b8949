/- VaultLeast: for whatever input the law returns true, and its arguments read as they did. Conditions: none. -/
import Derived.Test.YtomidcehahdmbaaXVaultLeast0
import Derived.SevenTiedAt
namespace Go.Proofs.Ytomidcehahdmbaa
open Go.Sx Go.RowKit Go.ChangeShapes Go.WideShapes Go.ChangeAt Vm
set_option maxRecDepth 100000

set_option maxHeartbeats 1600000 in
theorem vaultLeast_lifted (os : Os) (started : os.Started) (H : Type) (enc : TypeId × Value → H) :
    ReturnsInHanded {} Try.checked os 5 .any (Rows.vaultLeastSpec.pre6 enc Try.prog Try.f5 [] false) (Rows.vaultLeastSpec.post enc Try.prog Try.f5 false true false false) := by
  refine returnsInHanded_of_change_sized (C := Try.checked) frOwn started (by kernel_rfl) Try.func5
    (ChangeSpec.witness6 (enc := enc) (C := Try.checked) false ⟨#[], #[.agg #[.slice none 0 0, .slice none 0 0, .slice none 0 0], .int .i64 0, .agg #[.int .i64 0, .int .i64 0, .int .i64 0]], []⟩ 8 (by kernel_rfl) (by kernel_rfl) (by kernel_rfl) (by kernel_rfl)) ?_
  intro W base args ds gs before hval0 hW _ hsz0 _
  have hval : ∀ (j : Nat) t v, Try.f5.params[j]? = some t → args[j]? = some v → Value.okWide Try.prog W .any base t v := hval0
  have hW' := hW
  obtain ⟨p, q, hA0, hV, rfl, hfz, hnd⟩ := hW
  have hA : DataW.TrodAll enc Try.prog W 0 (fun _ => true) true Try.f5.params.toList args.toList ds p := hA0
  rw [Try.params5] at hA hval
  have hsz : (DataW.weightsEach Try.prog (Try.f5.params.toList ++ Rows.vaultLeastSpec.plain.varTypes Try.prog) (ds ++ gs)).all (· ≤ reachBytes) = true := hsz0
  clear hsz0
  rw [Try.params5] at hsz
  obtain ⟨v0, v1, v2, d0, d1, d2, p0, p1, p2, rfl, rfl, rfl, h0, h1, h2⟩ := trodAll_three hA
  obtain ⟨w0, rfl, _⟩ := okWide_struct Try.underlying26 (hval 0 26 v0 rfl rfl)
  obtain ⟨f0, t0⟩ := h0
  obtain ⟨s, e0, r0_0⟩ := of26 t0 (wparam (j := 0) hsz rfl rfl)
  have e0' : w0.toList = _ := e0
  have a0 := Array.toList_inj.1 (e0'.trans (List.toList_toArray).symm)
  subst a0
  obtain ⟨g, rfl, rfl, rfl, r1_0⟩ := open_int Try.underlying3 (hval 1 3 v1 rfl rfl) h1
  obtain ⟨w2, rfl, _⟩ := okWide_array Try.underlying39 (hval 2 39 v2 rfl rfl)
  obtain ⟨f2, t2⟩ := h2
  obtain ⟨n0, n1, n2, e2⟩ := of39 t2
  have e2' : w2.toList = _ := e2
  have a2 := Array.toList_inj.1 (e2'.trans (List.toList_toArray).symm)
  subst a2
  refine (k_VaultLeast s g n0 n1 n2 W r0_0).mono fun e W' hh => ?_
  obtain ⟨he, hg⟩ := hh
  exact ⟨_, he, law_post hW' rfl (by obtain ⟨rfl, rfl⟩ := trodVars_none hV; rfl) (tb := 4) (by kernel_rfl) Try.underlying4 frLaidOut (by rw [Try.params5]; intro t ht; obtain h | h | h := (by simpa using ht : t = 26 ∨ t = 3 ∨ t = 39) <;> (subst h; exact ⟨by kernel_rfl, of_decide_eq_true (by kernel_rfl)⟩)) hg⟩

theorem vaultLeast_said : Rows.VaultLeastSaid :=
  OpenClaim.holds_of_wide 5 Try.f5 rfl rfl rfl rfl rfl rfl rfl ⟨rfl, rfl, rfl, rfl, rfl⟩ rfl rfl rfl rfl rfl (by kernel_rfl) Try.func5 (by kernel_rfl)
    (of_decide_eq_true (by kernel_rfl)) (by unfold Func.isWrapper; first | (rw [if_pos (by decide +kernel)]; kernel_rfl) | (rw [if_neg (by decide +kernel)]; exact ⟨rfl, rfl⟩))
    (fun os started H enc _ => vaultLeast_lifted os started H enc)

end Go.Proofs.Ytomidcehahdmbaa
