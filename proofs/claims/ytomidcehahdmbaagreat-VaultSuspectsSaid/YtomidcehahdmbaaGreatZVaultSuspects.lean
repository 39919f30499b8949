/- VaultSuspects: for whatever input the law returns true, and its arguments read as they did. Conditions: none. -/
import Derived.Test.YtomidcehahdmbaaGreatXVaultSuspects1
import Derived.SevenTiedAt
namespace Go.Proofs.YtomidcehahdmbaaGreat
open Go.Sx Go.RowKit Go.ChangeShapes Go.WideShapes Go.ChangeAt Vm
set_option maxRecDepth 100000

set_option maxHeartbeats 1600000 in
theorem vaultSuspects_lifted (os : Os) (started : os.Started) (H : Type) (enc : TypeId × Value → H) :
    ReturnsInHanded {} Tryz.checked os 4 .any (Rows.vaultSuspectsSpec.pre6 enc Tryz.prog Tryz.f4 [] false) (Rows.vaultSuspectsSpec.post enc Tryz.prog Tryz.f4 false true false false) := by
  refine returnsInHanded_of_change_sized (C := Tryz.checked) frOwn started (by kernel_rfl) Tryz.func4
    (ChangeSpec.witness6 (enc := enc) (C := Tryz.checked) false ⟨#[], #[.agg #[.slice none 0 0, .slice none 0 0, .slice none 0 0], .slice none 0 0, .int .i64 0], []⟩ 8 (by kernel_rfl) (by kernel_rfl) (by kernel_rfl) (by kernel_rfl)) ?_
  intro W base args ds gs before hval0 hW _ hsz0 _
  have hval : ∀ (j : Nat) t v, Tryz.f4.params[j]? = some t → args[j]? = some v → Value.okWide Tryz.prog W .any base t v := hval0
  have hW' := hW
  obtain ⟨p, q, hA0, hV, rfl, hfz, hnd⟩ := hW
  have hA : DataW.TrodAll enc Tryz.prog W 0 (fun _ => true) true Tryz.f4.params.toList args.toList ds p := hA0
  rw [Tryz.params4] at hA hval
  have hsz : (DataW.weightsEach Tryz.prog (Tryz.f4.params.toList ++ Rows.vaultSuspectsSpec.plain.varTypes Tryz.prog) (ds ++ gs)).all (· ≤ reachBytes) = true := hsz0
  clear hsz0
  rw [Tryz.params4] at hsz
  obtain ⟨v0, v1, v2, d0, d1, d2, p0, p1, p2, rfl, rfl, rfl, h0, h1, h2⟩ := trodAll_three hA
  obtain ⟨w0, rfl, _⟩ := okWide_struct Tryz.underlying26 (hval 0 26 v0 rfl rfl)
  obtain ⟨f0, t0⟩ := h0
  obtain ⟨s, e0, r0_0⟩ := of26 t0 (wparam (j := 0) hsz rfl rfl)
  have e0' : w0.toList = _ := e0
  have a0 := Array.toList_inj.1 (e0'.trans (List.toList_toArray).symm)
  subst a0
  obtain ⟨a1, l1, z1, b1⟩ := okWide_slice Tryz.underlying27 (hval 1 27 v1 rfl rfl)
  obtain ⟨f1, t1⟩ := h1
  obtain ⟨Al, cl, l, e1, r1_0, r1_1, r1_2⟩ := of27 t1 (wparam (j := 1) hsz rfl rfl)
  have s1 : v1 = .slice Al l.length cl := by
    rw [b1] at e1 ⊢
    exact (List.cons.inj e1).1
  clear b1 e1 t1
  subst s1
  obtain ⟨b, rfl, rfl, rfl, r2_0⟩ := open_int Tryz.underlying3 (hval 2 3 v2 rfl rfl) h2
  refine (k_VaultSuspects s l Al cl b W r0_0 r1_0 r1_2).mono fun e W' hh => ?_
  obtain ⟨he, hg⟩ := hh
  exact ⟨_, he, law_post hW' rfl (by obtain ⟨rfl, rfl⟩ := trodVars_none hV; rfl) (tb := 4) (by kernel_rfl) Tryz.underlying4 frLaidOut (by rw [Tryz.params4]; intro t ht; obtain h | h | h := (by simpa using ht : t = 26 ∨ t = 27 ∨ t = 3) <;> (subst h; exact ⟨by kernel_rfl, of_decide_eq_true (by kernel_rfl)⟩)) hg⟩

theorem vaultSuspects_said : Rows.VaultSuspectsSaid :=
  OpenClaim.holds_of_wide 4 Tryz.f4 rfl rfl rfl rfl rfl rfl rfl ⟨rfl, rfl, rfl, rfl, rfl⟩ rfl rfl rfl rfl rfl (by kernel_rfl) Tryz.func4 (by kernel_rfl)
    (of_decide_eq_true (by kernel_rfl)) (by unfold Func.isWrapper; first | (rw [if_pos (by decide +kernel)]; kernel_rfl) | (rw [if_neg (by decide +kernel)]; exact ⟨rfl, rfl⟩))
    (fun os started H enc _ => vaultSuspects_lifted os started H enc)

end Go.Proofs.YtomidcehahdmbaaGreat
