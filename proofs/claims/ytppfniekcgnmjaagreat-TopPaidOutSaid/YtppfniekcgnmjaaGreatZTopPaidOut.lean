/- TopPaidOut: for whatever input the law returns true, and its arguments read as they did. Conditions: none. -/
import Derived.Test.YtppfniekcgnmjaaGreatXTopPaidOut3
import Derived.SevenTiedAt
namespace Go.Proofs.YtppfniekcgnmjaaGreat
open Go.Sx Go.RowKit Go.ChangeShapes Go.WideShapes Go.ChangeAt To
set_option maxRecDepth 100000

set_option maxHeartbeats 1600000 in
theorem topPaidOut_lifted (os : Os) (started : os.Started) (H : Type) (enc : TypeId × Value → H) :
    ReturnsInHanded {} Tryz.checked os 3 .any (Rows.topPaidOutSpec.pre6 enc Tryz.prog Tryz.f3 [] false) (Rows.topPaidOutSpec.post enc Tryz.prog Tryz.f3 false true false false) := by
  refine returnsInHanded_of_change_sized (C := Tryz.checked) frOwn started (by kernel_rfl) Tryz.func3
    (ChangeSpec.witness6 (enc := enc) (C := Tryz.checked) false ⟨#[], #[.int .i64 0, .slice none 0 0, .agg #[.slice none 0 0, .slice none 0 0], .int .i64 0], []⟩ 8 (by kernel_rfl) (by kernel_rfl) (by kernel_rfl) (by kernel_rfl)) ?_
  intro W base args ds gs before hval0 hW _ hsz0 _
  have hval : ∀ (j : Nat) t v, Tryz.f3.params[j]? = some t → args[j]? = some v → Value.okWide Tryz.prog W .any base t v := hval0
  have hW' := hW
  obtain ⟨p, q, hA0, hV, rfl, hfz, hnd⟩ := hW
  have hA : DataW.TrodAll enc Tryz.prog W 0 (fun _ => true) true Tryz.f3.params.toList args.toList ds p := hA0
  rw [Tryz.params3] at hA hval
  have hsz : (DataW.weightsEach Tryz.prog (Tryz.f3.params.toList ++ Rows.topPaidOutSpec.plain.varTypes Tryz.prog) (ds ++ gs)).all (· ≤ reachBytes) = true := hsz0
  clear hsz0
  rw [Tryz.params3] at hsz
  obtain ⟨v0, v1, v2, v3, d0, d1, d2, d3, p0, p1, p2, p3, rfl, rfl, rfl, h0, h1, h2, h3⟩ := trodAll_four hA
  obtain ⟨pr, rfl, rfl, rfl, r0_0⟩ := open_int Tryz.underlying3 (hval 0 3 v0 rfl rfl) h0
  obtain ⟨a1, l1, z1, b1⟩ := okWide_slice Tryz.underlying22 (hval 1 22 v1 rfl rfl)
  obtain ⟨f1, t1⟩ := h1
  obtain ⟨Ag, cg, g, e1, r1_0, r1_1, r1_2⟩ := of22 t1 (wparam (j := 1) hsz rfl rfl)
  have s1 : v1 = .slice Ag g.length cg := by
    rw [b1] at e1 ⊢
    exact (List.cons.inj e1).1
  clear b1 e1 t1
  subst s1
  obtain ⟨w2, rfl, _⟩ := okWide_struct Tryz.underlying25 (hval 2 25 v2 rfl rfl)
  obtain ⟨f2, t2⟩ := h2
  obtain ⟨Ad, ad, cd, Bd, bd, hd, e2, r2_0, r2_1⟩ := of25 t2 (wparam (j := 2) hsz rfl rfl)
  have e2' : w2.toList = _ := e2
  have a2 := Array.toList_inj.1 (e2'.trans (List.toList_toArray).symm)
  subst a2
  obtain ⟨n, rfl, rfl, rfl, r3_0⟩ := open_int Tryz.underlying3 (hval 3 3 v3 rfl rfl) h3
  refine (k_TopPaidOut pr g Ag cg cd hd Ad Bd ad bd n W r1_0 r1_2 r1_1 r2_0 r2_1).mono fun e W' hh => ?_
  obtain ⟨he, hg⟩ := hh
  exact ⟨_, he, law_post hW' rfl (by obtain ⟨rfl, rfl⟩ := trodVars_none hV; rfl) (tb := 4) (by kernel_rfl) Tryz.underlying4 frLaidOut (by rw [Tryz.params3]; intro t ht; obtain h | h | h | h := (by simpa using ht : t = 3 ∨ t = 22 ∨ t = 25 ∨ t = 3) <;> (subst h; exact ⟨by kernel_rfl, of_decide_eq_true (by kernel_rfl)⟩)) hg⟩

theorem topPaidOut_said : Rows.TopPaidOutSaid :=
  OpenClaim.holds_of_wide 3 Tryz.f3 rfl rfl rfl rfl rfl rfl rfl ⟨rfl, rfl, rfl, rfl, rfl⟩ rfl rfl rfl rfl rfl (by kernel_rfl) Tryz.func3 (by kernel_rfl)
    (of_decide_eq_true (by kernel_rfl)) (by unfold Func.isWrapper; first | (rw [if_pos (by decide +kernel)]; kernel_rfl) | (rw [if_neg (by decide +kernel)]; exact ⟨rfl, rfl⟩))
    (fun os started H enc _ => topPaidOut_lifted os started H enc)

end Go.Proofs.YtppfniekcgnmjaaGreat
