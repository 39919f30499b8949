/- Walks of functions of the program. -/
import Derived.Test.YtafmgkiddhappaaDoorWL
import Derived.Test.YtafmgkiddhappaaDoorPM
namespace Go.Proofs.YtafmgkiddhappaaDoor
open Go.Sx Go.RowKit
set_option maxRecDepth 20000
theorem k_market  (w : World)  : Calls Tryd.prog 50 #[] w (fun e w' => ∃ x : Nat × Nat, e = .returned (.agg #[.slice (some ⟨x.1, 0, none⟩) 4 4, .slice (some ⟨x.2, 0, none⟩) 2 2, .int .i64 50, .int .i64 800, .int .i64 2]) ∧ Grow w w' ∧ (∀ g ∈ ([] : List Fact), g.P w' ∧ ∀ b, g.fp b → w.heap.size ≤ b ∧ b < w'.heap.size) ∧ ([] : List Fact).Pairwise (fun f g => ∀ b, f.fp b → ¬ g.fp b) ∧ (∀ g ∈ [litS x.1 5 encSale mSales, litS x.2 1 enInt mFade], g.P w' ∧ ∀ b, g.fp b → w.heap.size ≤ b ∧ b < w'.heap.size ∧ ∀ o ∈ ([] : List Fact), ¬ o.fp b)) := by
  refine enter_pure (args := []) [] Tryd.func50 rfl (by rw [Tryd.ntmps50]; simp) (by simp) ?_
  refine cj_seq (cj_region ?_)
  refine oj_alloc Tryd.zeroValue25 rfl rfl (fun b0 => ?_)
  refine oj_nil ?_
  refine ej_th (cj_seq (cj_region ?_))
  refine oj_step (y_build (cs := [.int .i64 0, .int .i64 800, .int .i64 10, .int .i64 40, .int .i64 1000]) st56 rfl (by kernel_rfl)) rfl rfl rfl ?_
  refine oj_step (y_build (cs := [.int .i64 0, .int .i64 434, .int .i64 20, .int .i64 50, .int .i64 2000]) st56 rfl (by kernel_rfl)) rfl rfl rfl ?_
  refine oj_step (y_build (cs := [.int .i64 0, .int .i64 70, .int .i64 10, .int .i64 30, .int .i64 900]) st56 rfl (by kernel_rfl)) rfl rfl rfl ?_
  refine oj_step (y_build (cs := [.int .i64 1, .int .i64 0, .int .i64 5, .int .i64 10, .int .i64 40]) st56 rfl (by kernel_rfl)) rfl rfl rfl ?_
  refine oj_buildSlice (cs := [.int .i64 0, .int .i64 800, .int .i64 10, .int .i64 40, .int .i64 1000, .int .i64 0, .int .i64 434, .int .i64 20, .int .i64 50, .int .i64 2000, .int .i64 0, .int .i64 70, .int .i64 10, .int .i64 30, .int .i64 900, .int .i64 1, .int .i64 0, .int .i64 5, .int .i64 10, .int .i64 40]) [.int .i64 0, .int .i64 0, .int .i64 0, .int .i64 0, .int .i64 0, .int .i64 0, .int .i64 0, .int .i64 0, .int .i64 0, .int .i64 0, .int .i64 0, .int .i64 0, .int .i64 0, .int .i64 0, .int .i64 0, .int .i64 0, .int .i64 0, .int .i64 0, .int .i64 0, .int .i64 0] Tryd.underlying22 Tryd.sizeOf56 Tryd.zeroValue56 rfl rfl (by kernel_rfl) (by kernel_rfl) rfl (fun b5 => ?_)
  refine oj_buildSlice (cs := [.int .i64 32, .int .i64 64]) [.int .i64 0, .int .i64 0] Tryd.underlying23 Tryd.sizeOf3 Tryd.zeroValue3 rfl rfl (by kernel_rfl) (by kernel_rfl) rfl (fun b6 => ?_)
  refine oj_step (y_build (cs := [.slice (some ⟨b5, 0, none⟩) 4 4, .slice (some ⟨b6, 0, none⟩) 2 2, .int .i64 50, .int .i64 800, .int .i64 2]) st25 rfl (by kernel_rfl)) rfl rfl rfl ?_
  refine oj_store rfl rfl rfl rfl Tryd.sizeOf25 rfl ?_
  refine oj_nil ?_
  refine ej_th (cj_ret ?_)
  exact ej_retC1 rfl Tryd.results50 rfl (y_loadN Tryd.isAgg25 Tryd.sizeOf25 rfl) (fun w' hp => ⟨(b5, b6), rfl, hp.below, by simp, List.Pairwise.nil, fun g hg => by
    simp only [List.mem_cons, List.not_mem_nil, or_false] at hg
    rcases hg with rfl | rfl
    · exact hp.lit mSales (fun _ => rfl) rfl (by unfold maxLen; simp)
    · exact hp.lit mFade (fun _ => rfl) rfl (by unfold maxLen; simp)⟩)

theorem k_terms  (w : World)  : Calls Tryd.prog 51 #[] w (fun e w' => e = .returned (.agg #[.int .i64 40, .int .i64 300, .int .i64 5000]) ∧ Grow w w') := by
  refine enter_pure (args := []) [] Tryd.func51 rfl (by rw [Tryd.ntmps51]; simp) (by simp) ?_
  refine cj_seq (cj_region ?_)
  refine oj_alloc Tryd.zeroValue52 rfl rfl (fun b0 => ?_)
  refine oj_nil ?_
  refine ej_th (cj_seq (cj_region ?_))
  refine oj_step (y_build (cs := [.int .i64 40, .int .i64 300, .int .i64 5000]) st52 rfl (by kernel_rfl)) rfl rfl rfl ?_
  refine oj_store rfl rfl rfl rfl Tryd.sizeOf52 rfl ?_
  refine oj_nil ?_
  refine ej_th (cj_ret ?_)
  exact ej_retC1 rfl Tryd.results51 rfl (y_loadN Tryd.isAgg52 Tryd.sizeOf52 rfl) (fun w' hp => ⟨rfl, hp.below⟩)

theorem k_deal  (w : World)  : Calls Tryd.prog 52 #[] w (fun e w' => ∃ x : Nat, e = .returned (.agg #[.int .i64 1000, .int .i64 16, .int .i64 500, .int .i64 2, .int .i64 50, .int .i64 10, .int .i64 3, .slice (some ⟨x, 0, none⟩) 2 2, .int .i64 100, .int .i64 100000]) ∧ Grow w w' ∧ (∀ g ∈ ([] : List Fact), g.P w' ∧ ∀ b, g.fp b → w.heap.size ≤ b ∧ b < w'.heap.size) ∧ ([] : List Fact).Pairwise (fun f g => ∀ b, f.fp b → ¬ g.fp b) ∧ (∀ g ∈ [litS x 1 enInt [103, 104]], g.P w' ∧ ∀ b, g.fp b → w.heap.size ≤ b ∧ b < w'.heap.size ∧ ∀ o ∈ ([] : List Fact), ¬ o.fp b)) := by
  refine enter_pure (args := []) [] Tryd.func52 rfl (by rw [Tryd.ntmps52]; simp) (by simp) ?_
  refine cj_seq (cj_region ?_)
  refine oj_alloc Tryd.zeroValue44 rfl rfl (fun b0 => ?_)
  refine oj_nil ?_
  refine ej_th (cj_seq (cj_region ?_))
  refine oj_step (y_build (cs := [.int .i64 1000, .int .i64 16]) st40 rfl (by kernel_rfl)) rfl rfl rfl ?_
  refine oj_step (y_build (cs := [.int .i64 500, .int .i64 2, .int .i64 50, .int .i64 10, .int .i64 3]) st42 rfl (by kernel_rfl)) rfl rfl rfl ?_
  refine oj_buildSlice (cs := [.int .i64 103, .int .i64 104]) [.int .i64 0, .int .i64 0] Tryd.underlying23 Tryd.sizeOf3 Tryd.zeroValue3 rfl rfl (by kernel_rfl) (by kernel_rfl) rfl (fun b3 => ?_)
  refine oj_step (y_build (cs := [.int .i64 1000, .int .i64 16, .int .i64 500, .int .i64 2, .int .i64 50, .int .i64 10, .int .i64 3, .slice (some ⟨b3, 0, none⟩) 2 2, .int .i64 100, .int .i64 100000]) st44 rfl (by kernel_rfl)) rfl rfl rfl ?_
  refine oj_store rfl rfl rfl rfl Tryd.sizeOf44 rfl ?_
  refine oj_nil ?_
  refine ej_th (cj_ret ?_)
  exact ej_retC1 rfl Tryd.results52 rfl (y_loadN Tryd.isAgg44 Tryd.sizeOf44 rfl) (fun w' hp => ⟨b3, rfl, hp.below, by simp, List.Pairwise.nil, fun g hg => by
    simp only [List.mem_cons, List.not_mem_nil, or_false] at hg
    subst hg
    exact hp.lit [103, 104] (fun _ => rfl) rfl (by unfold maxLen; simp)⟩)

end Go.Proofs.YtafmgkiddhappaaDoor
