/- TopFound: for whatever input the law returns true, and its arguments read as they did. Conditions: none. -/
import Derived.Test.YtppfniekcgnmjaaGreatXTopFound5
import Derived.SevenTiedAt
namespace Go.Proofs.YtppfniekcgnmjaaGreat
open Go.Sx Go.RowKit Go.ChangeShapes Go.WideShapes Go.ChangeAt To
set_option maxRecDepth 100000

set_option maxHeartbeats 1600000 in
theorem topFound_lifted (os : Os) (started : os.Started) (H : Type) (enc : TypeId × Value → H) :
    ReturnsInHanded {} Tryz.checked os 4 .any (Rows.topFoundSpec.pre6 enc Tryz.prog Tryz.f4 [] false) (Rows.topFoundSpec.post enc Tryz.prog Tryz.f4 false true false false) := by
  refine returnsInHanded_of_change_sized (C := Tryz.checked) frOwn started (by kernel_rfl) Tryz.func4
    (ChangeSpec.witness6 (enc := enc) (C := Tryz.checked) false ⟨#[], #[.agg #[.slice none 0 0, .slice none 0 0, .slice none 0 0], .agg #[.int .i64 0, .int .i64 0, .int .i64 0], .slice none 0 0], []⟩ 8 (by kernel_rfl) (by kernel_rfl) (by kernel_rfl) (by kernel_rfl)) ?_
  intro W base args ds gs before hval0 hW _ hsz0 _
  have hval : ∀ (j : Nat) t v, Tryz.f4.params[j]? = some t → args[j]? = some v → Value.okWide Tryz.prog W .any base t v := hval0
  have hW' := hW
  obtain ⟨p, q, hA0, hV, rfl, hfz, hnd⟩ := hW
  have hA : DataW.TrodAll enc Tryz.prog W 0 (fun _ => true) true Tryz.f4.params.toList args.toList ds p := hA0
  rw [Tryz.params4] at hA hval
  have hsz : (DataW.weightsEach Tryz.prog (Tryz.f4.params.toList ++ Rows.topFoundSpec.plain.varTypes Tryz.prog) (ds ++ gs)).all (· ≤ reachBytes) = true := hsz0
  clear hsz0
  rw [Tryz.params4] at hsz
  obtain ⟨v0, v1, v2, d0, d1, d2, p0, p1, p2, rfl, rfl, rfl, h0, h1, h2⟩ := trodAll_three hA
  obtain ⟨w0, rfl, _⟩ := okWide_struct Tryz.underlying42 (hval 0 42 v0 rfl rfl)
  obtain ⟨f0, t0⟩ := h0
  obtain ⟨Ax, ax, mx, Bx, bx, tx, Dx, dx, fx, e0, r0_0, r0_1, r0_2, r0_3⟩ := of42 t0 (wparam (j := 0) hsz rfl rfl)
  have e0' : w0.toList = _ := e0
  have a0 := Array.toList_inj.1 (e0'.trans (List.toList_toArray).symm)
  subst a0
  obtain ⟨w1, rfl, _⟩ := okWide_array Tryz.underlying43 (hval 1 43 v1 rfl rfl)
  obtain ⟨f1, t1⟩ := h1
  obtain ⟨n0, n1, n2, e1⟩ := of43 t1
  have e1' : w1.toList = _ := e1
  have a1 := Array.toList_inj.1 (e1'.trans (List.toList_toArray).symm)
  subst a1
  obtain ⟨a2, l2, z2, b2⟩ := okWide_slice Tryz.underlying23 (hval 2 23 v2 rfl rfl)
  obtain ⟨f2, t2⟩ := h2
  obtain ⟨Az, cz, z, e2, r2_0, r2_1⟩ := of23 t2 (wparam (j := 2) hsz rfl rfl)
  have s2 : v2 = .slice Az z.length cz := by
    rw [b2] at e2 ⊢
    exact (List.cons.inj e2).1
  clear b2 e2 t2
  subst s2
  refine (k_TopFound mx Ax ax tx Bx bx fx Dx dx n0 n1 n2 z Az cz W r0_0 r0_1 r0_2 r0_3 r2_0 r2_1).mono fun e W' hh => ?_
  obtain ⟨he, hg⟩ := hh
  exact ⟨_, he, law_post hW' rfl (by obtain ⟨rfl, rfl⟩ := trodVars_none hV; rfl) (tb := 4) (by kernel_rfl) Tryz.underlying4 frLaidOut (by rw [Tryz.params4]; intro t ht; obtain h | h | h := (by simpa using ht : t = 42 ∨ t = 43 ∨ t = 23) <;> (subst h; exact ⟨by kernel_rfl, of_decide_eq_true (by kernel_rfl)⟩)) hg⟩

theorem topFound_said : Rows.TopFoundSaid :=
  OpenClaim.holds_of_wide 4 Tryz.f4 rfl rfl rfl rfl rfl rfl rfl ⟨rfl, rfl, rfl, rfl, rfl⟩ rfl rfl rfl rfl rfl (by kernel_rfl) Tryz.func4 (by kernel_rfl)
    (of_decide_eq_true (by kernel_rfl)) (by unfold Func.isWrapper; first | (rw [if_pos (by decide +kernel)]; kernel_rfl) | (rw [if_neg (by decide +kernel)]; exact ⟨rfl, rfl⟩))
    (fun os started H enc _ => topFound_lifted os started H enc)

end Go.Proofs.YtppfniekcgnmjaaGreat
