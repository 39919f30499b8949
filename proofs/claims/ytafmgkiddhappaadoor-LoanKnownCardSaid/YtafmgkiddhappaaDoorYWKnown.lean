/- Walks of functions of the program. -/
import Derived.Test.YtafmgkiddhappaaDoorYSx4
import Derived.Test.YtafmgkiddhappaaDoorZSb
import Derived.Test.YtafmgkiddhappaaDoorZWb
import Derived.Test.YtafmgkiddhappaaDoorYWOnce
import Derived.Test.YtafmgkiddhappaaDoorYWLend
import Derived.Test.YtafmgkiddhappaaDoorYWKeep
import Derived.Test.YtafmgkiddhappaaDoorYPKnL
import Derived.Test.YtafmgkiddhappaaDoorYTyEqual
import Derived.Test.YtafmgkiddhappaaDoorYTyKnown
namespace Go.Proofs.YtafmgkiddhappaaDoor
open Go.Sx Go.RowKit
set_option maxRecDepth 20000
theorem takesOf {F : Nat → Prop} {w0 w : World} {O S R : List Fact} (_hp : Hp F w0 O S w) (Os : List Fact) [h : Takes O Os R] : Takes O Os R := h

theorem k_marketO  (w : World)  : Calls Tryd.prog 50 #[] w (fun e w' => ∃ x : Nat × Nat, e = .returned (.agg #[.slice (some ⟨x.1, 0, none⟩) 4 4, .slice (some ⟨x.2, 0, none⟩) 2 2, .int .i64 50, .int .i64 800, .int .i64 2]) ∧ Grow w w' ∧ (∀ g ∈ [ownB x.1 (cellsB 56 [.int .i64 0, .int .i64 800, .int .i64 10, .int .i64 40, .int .i64 1000, .int .i64 0, .int .i64 434, .int .i64 20, .int .i64 50, .int .i64 2000, .int .i64 0, .int .i64 70, .int .i64 10, .int .i64 30, .int .i64 900, .int .i64 1, .int .i64 0, .int .i64 5, .int .i64 10, .int .i64 40]), ownB x.2 (cellsB 3 [.int .i64 32, .int .i64 64])], g.P w' ∧ ∀ b, g.fp b → w.heap.size ≤ b ∧ b < w'.heap.size) ∧ ([ownB x.1 (cellsB 56 [.int .i64 0, .int .i64 800, .int .i64 10, .int .i64 40, .int .i64 1000, .int .i64 0, .int .i64 434, .int .i64 20, .int .i64 50, .int .i64 2000, .int .i64 0, .int .i64 70, .int .i64 10, .int .i64 30, .int .i64 900, .int .i64 1, .int .i64 0, .int .i64 5, .int .i64 10, .int .i64 40]), ownB x.2 (cellsB 3 [.int .i64 32, .int .i64 64])] : List Fact).Pairwise (fun f g => ∀ b, f.fp b → ¬ g.fp b) ∧ (∀ g ∈ ([] : List Fact), g.P w' ∧ ∀ b, g.fp b → w.heap.size ≤ b ∧ b < w'.heap.size ∧ ∀ o ∈ [ownB x.1 (cellsB 56 [.int .i64 0, .int .i64 800, .int .i64 10, .int .i64 40, .int .i64 1000, .int .i64 0, .int .i64 434, .int .i64 20, .int .i64 50, .int .i64 2000, .int .i64 0, .int .i64 70, .int .i64 10, .int .i64 30, .int .i64 900, .int .i64 1, .int .i64 0, .int .i64 5, .int .i64 10, .int .i64 40]), ownB x.2 (cellsB 3 [.int .i64 32, .int .i64 64])], ¬ o.fp b)) := by
  refine enter_pure (args := []) [] Tryd.func50 rfl (by rw [Tryd.ntmps50]; simp) (by simp) ?_
  refine cj_seq (cj_region ?_)
  refine oj_alloc Tryd.zeroValue25 rfl rfl (fun b0 => ?_)
  refine oj_nil ?_
  refine ej_th (cj_seq (cj_region ?_))
  refine oj_step (y_build (cs := [.int .i64 0, .int .i64 800, .int .i64 10, .int .i64 40, .int .i64 1000]) st56 rfl (by kernel_rfl)) rfl rfl rfl ?_
  refine oj_step (y_build (cs := [.int .i64 0, .int .i64 434, .int .i64 20, .int .i64 50, .int .i64 2000]) st56 rfl (by kernel_rfl)) rfl rfl rfl ?_
  refine oj_step (y_build (cs := [.int .i64 0, .int .i64 70, .int .i64 10, .int .i64 30, .int .i64 900]) st56 rfl (by kernel_rfl)) rfl rfl rfl ?_
  refine oj_step (y_build (cs := [.int .i64 1, .int .i64 0, .int .i64 5, .int .i64 10, .int .i64 40]) st56 rfl (by kernel_rfl)) rfl rfl rfl ?_
  refine oj_buildSlice (cs := [.int .i64 0, .int .i64 800, .int .i64 10, .int .i64 40, .int .i64 1000, .int .i64 0, .int .i64 434, .int .i64 20, .int .i64 50, .int .i64 2000, .int .i64 0, .int .i64 70, .int .i64 10, .int .i64 30, .int .i64 900, .int .i64 1, .int .i64 0, .int .i64 5, .int .i64 10, .int .i64 40]) [.int .i64 0, .int .i64 0, .int .i64 0, .int .i64 0, .int .i64 0, .int .i64 0, .int .i64 0, .int .i64 0, .int .i64 0, .int .i64 0, .int .i64 0, .int .i64 0, .int .i64 0, .int .i64 0, .int .i64 0, .int .i64 0, .int .i64 0, .int .i64 0, .int .i64 0, .int .i64 0] Tryd.underlying22 Tryd.sizeOf56 Tryd.zeroValue56 rfl rfl (by kernel_rfl) (by kernel_rfl) rfl (fun b5 => ?_)
  refine oj_buildSlice (cs := [.int .i64 32, .int .i64 64]) [.int .i64 0, .int .i64 0] Tryd.underlying23 Tryd.sizeOf3 Tryd.zeroValue3 rfl rfl (by kernel_rfl) (by kernel_rfl) rfl (fun b6 => ?_)
  refine oj_step (y_build (cs := [.slice (some ⟨b5, 0, none⟩) 4 4, .slice (some ⟨b6, 0, none⟩) 2 2, .int .i64 50, .int .i64 800, .int .i64 2]) st25 rfl (by kernel_rfl)) rfl rfl rfl ?_
  refine oj_store rfl rfl rfl rfl Tryd.sizeOf25 rfl ?_
  refine oj_nil ?_
  refine ej_th (cj_ret ?_)
  exact ej_retC1 rfl Tryd.results50 rfl (y_loadN Tryd.isAgg25 Tryd.sizeOf25 rfl) (fun w' hp => by
    have hT := takesOf hp [ownB b5 (cellsB 56 [.int .i64 0, .int .i64 800, .int .i64 10, .int .i64 40, .int .i64 1000, .int .i64 0, .int .i64 434, .int .i64 20, .int .i64 50, .int .i64 2000, .int .i64 0, .int .i64 70, .int .i64 10, .int .i64 30, .int .i64 900, .int .i64 1, .int .i64 0, .int .i64 5, .int .i64 10, .int .i64 40]), ownB b6 (cellsB 3 [.int .i64 32, .int .i64 64])]
    obtain ⟨q1, q2, _⟩ := hp.ownL hT
    exact ⟨(b5, b6), rfl, hp.below, fun g hg => ⟨(q1 g hg).1, fun b hb => ⟨Nat.le_of_not_lt ((hp.permO hT.perm).own g (List.mem_append_left _ hg) |>.2 b hb).2, (q1 g hg).2 b hb⟩⟩, q2, fun g hg => by cases hg⟩)

theorem k_dealO  (w : World)  : Calls Tryd.prog 52 #[] w (fun e w' => ∃ x : Nat, e = .returned (.agg #[.int .i64 1000, .int .i64 16, .int .i64 500, .int .i64 2, .int .i64 50, .int .i64 10, .int .i64 3, .slice (some ⟨x, 0, none⟩) 2 2, .int .i64 100, .int .i64 100000]) ∧ Grow w w' ∧ (∀ g ∈ [ownB x (cellsB 3 [.int .i64 103, .int .i64 104])], g.P w' ∧ ∀ b, g.fp b → w.heap.size ≤ b ∧ b < w'.heap.size) ∧ ([ownB x (cellsB 3 [.int .i64 103, .int .i64 104])] : List Fact).Pairwise (fun f g => ∀ b, f.fp b → ¬ g.fp b) ∧ (∀ g ∈ ([] : List Fact), g.P w' ∧ ∀ b, g.fp b → w.heap.size ≤ b ∧ b < w'.heap.size ∧ ∀ o ∈ [ownB x (cellsB 3 [.int .i64 103, .int .i64 104])], ¬ o.fp b)) := by
  refine enter_pure (args := []) [] Tryd.func52 rfl (by rw [Tryd.ntmps52]; simp) (by simp) ?_
  refine cj_seq (cj_region ?_)
  refine oj_alloc Tryd.zeroValue44 rfl rfl (fun b0 => ?_)
  refine oj_nil ?_
  refine ej_th (cj_seq (cj_region ?_))
  refine oj_step (y_build (cs := [.int .i64 1000, .int .i64 16]) st40 rfl (by kernel_rfl)) rfl rfl rfl ?_
  refine oj_step (y_build (cs := [.int .i64 500, .int .i64 2, .int .i64 50, .int .i64 10, .int .i64 3]) st42 rfl (by kernel_rfl)) rfl rfl rfl ?_
  refine oj_buildSlice (cs := [.int .i64 103, .int .i64 104]) [.int .i64 0, .int .i64 0] Tryd.underlying23 Tryd.sizeOf3 Tryd.zeroValue3 rfl rfl (by kernel_rfl) (by kernel_rfl) rfl (fun b3 => ?_)
  refine oj_step (y_build (cs := [.int .i64 1000, .int .i64 16, .int .i64 500, .int .i64 2, .int .i64 50, .int .i64 10, .int .i64 3, .slice (some ⟨b3, 0, none⟩) 2 2, .int .i64 100, .int .i64 100000]) st44 rfl (by kernel_rfl)) rfl rfl rfl ?_
  refine oj_store rfl rfl rfl rfl Tryd.sizeOf44 rfl ?_
  refine oj_nil ?_
  refine ej_th (cj_ret ?_)
  exact ej_retC1 rfl Tryd.results52 rfl (y_loadN Tryd.isAgg44 Tryd.sizeOf44 rfl) (fun w' hp => by
    have hT := takesOf hp [ownB b3 (cellsB 3 [.int .i64 103, .int .i64 104])]
    obtain ⟨q1, q2, _⟩ := hp.ownL hT
    exact ⟨b3, rfl, hp.below, fun g hg => ⟨(q1 g hg).1, fun b hb => ⟨Nat.le_of_not_lt ((hp.permO hT.perm).own g (List.mem_append_left _ hg) |>.2 b hb).2, (q1 g hg).2 b hb⟩⟩, q2, fun g hg => by cases hg⟩)

theorem e_cr (a b : Nat) (w : World) (hs : Rd w 5 encSale (some ⟨a, 0, none⟩) mSales) (hf : Rd w 1 enInt (some ⟨b, 0, none⟩) mFade) : Calls Tryd.prog 16 #[.agg #[.slice (some ⟨a, 0, none⟩) 4 4, .slice (some ⟨b, 0, none⟩) 2 2, .int .i64 50, .int .i64 800, .int .i64 2], .int .i64 2] w (fun e w' => ∃ A c, e = .returned (.tuple #[.slice A ([] : List Int).length c, .int .i64 7]) ∧ Grow w w' ∧ Res w w' 1 enInt A ([] : List Int)) := by
  have h := k_Crafts mSales mFade 50 800 2 (some ⟨a, 0, none⟩) (some ⟨b, 0, none⟩) 4 2 2 w hs hf
  rw [kl1, kl1e] at h
  exact h
theorem e_v1 (a b : Nat) (w : World) (hs : Rd w 5 encSale (some ⟨a, 0, none⟩) mSales) (hf : Rd w 1 enInt (some ⟨b, 0, none⟩) mFade) : Calls Tryd.prog 21 #[.agg #[.slice (some ⟨a, 0, none⟩) 4 4, .slice (some ⟨b, 0, none⟩) 2 2, .int .i64 50, .int .i64 800, .int .i64 2], .agg #[.int .i64 1, .int .i64 0, .int .i64 0]] w (fun e w' => e = .returned (.tuple #[.agg #[.int .i64 0, .int .i64 0], .int .i64 4]) ∧ Grow w w') := by
  have h := k_Value mSales mFade 50 800 2 (some ⟨a, 0, none⟩) (some ⟨b, 0, none⟩) 4 2 1 0 0 w hs hf
  rw [kl2.1, kl2.2.1, kl2.2.2] at h
  exact h
theorem e_v2 (a b : Nat) (w : World) (hs : Rd w 5 encSale (some ⟨a, 0, none⟩) mSales) (hf : Rd w 1 enInt (some ⟨b, 0, none⟩) mFade) : Calls Tryd.prog 21 #[.agg #[.slice (some ⟨a, 0, none⟩) 4 4, .slice (some ⟨b, 0, none⟩) 2 2, .int .i64 50, .int .i64 800, .int .i64 2], .agg #[.int .i64 0, .int .i64 2, .int .i64 1]] w (fun e w' => e = .returned (.tuple #[.agg #[.int .i64 0, .int .i64 0], .int .i64 21]) ∧ Grow w w') := by
  have h := k_Value mSales mFade 50 800 2 (some ⟨a, 0, none⟩) (some ⟨b, 0, none⟩) 4 2 0 2 1 w hs hf
  rw [kl3.1, kl3.2.1, kl3.2.2] at h
  exact h
theorem e_m1 (w : World) : Calls Tryd.prog 28 #[.agg #[.int .i64 40, .int .i64 300, .int .i64 5000], .agg #[.int .i64 0, .int .i64 2147483649]] w (fun e w' => e = .returned (.tuple #[.int .i64 0, .int .i64 7]) ∧ Grow w w') := by
  have h := k_Most 40 300 5000 0 2147483649 w
  rw [kl4.1, kl4.2] at h
  exact h
theorem e_l1 (w : World) : Calls Tryd.prog 30 #[.agg #[.int .i64 40, .int .i64 300, .int .i64 5000], .agg #[.int .i64 5, .int .i64 5], .int .i64 0] w (fun e w' => e = .returned (.tuple #[.int .i64 0, .int .i64 7]) ∧ Grow w w') := by
  have h := k_Lend 40 300 5000 5 5 0 w
  rw [kl5.1, kl5.2] at h
  exact h
theorem e_l2 (w : World) : Calls Tryd.prog 30 #[.agg #[.int .i64 64, .int .i64 0, .int .i64 9], .agg #[.int .i64 0, .int .i64 0], .int .i64 1] w (fun e w' => e = .returned (.tuple #[.int .i64 0, .int .i64 4]) ∧ Grow w w') := by
  have h := k_Lend 64 0 9 0 0 1 w
  rw [kl6.1, kl6.2] at h
  exact h
theorem e_m2 (w : World) : Calls Tryd.prog 28 #[.agg #[.int .i64 64, .int .i64 0, .int .i64 9], .agg #[.int .i64 20, .int .i64 20]] w (fun e w' => e = .returned (.tuple #[.int .i64 9, .int .i64 0]) ∧ Grow w w') := by
  have h := k_Most 64 0 9 20 20 w
  rw [kl7.1, kl7.2] at h
  exact h
theorem e_ct (w : World) : Calls Tryd.prog 45 #[.agg #[.int .i64 0, .int .i64 1, .int .i64 0]] w (fun e w' => e = .returned (.int .i64 22) ∧ Grow w w') := by
  have h := k_CheckTerms 0 1 0 w
  rw [kl8] at h
  exact h
theorem e_f1 (a : Nat) (w : World) (hr : Rd w 4 encRule (some ⟨a, 0, none⟩) ru1) : Calls Tryd.prog 48 #[.slice (some ⟨a, 0, none⟩) 2 2, .string sRing] w (fun e w' => e = .returned (.tuple #[.agg #[.int .i64 40, .int .i64 300, .int .i64 5000], .int .i64 0]) ∧ Grow w w') := by
  have h := k_For ru1 (some ⟨a, 0, none⟩) 2 sRing w hr (by intro r hr2; simp only [List.mem_cons, List.mem_nil_iff, or_false] at hr2; rcases hr2 with rfl | rfl <;> decide)
  rw [fo1, fo1e] at h
  exact h
theorem e_f2 (a : Nat) (w : World) (hr : Rd w 4 encRule (some ⟨a, 0, none⟩) ru1) : Calls Tryd.prog 48 #[.slice (some ⟨a, 0, none⟩) 2 2, .string sWatch] w (fun e w' => e = .returned (.tuple #[.agg #[.int .i64 0, .int .i64 0, .int .i64 0], .int .i64 4]) ∧ Grow w w') := by
  have h := k_For ru1 (some ⟨a, 0, none⟩) 2 sWatch w hr (by intro r hr2; simp only [List.mem_cons, List.mem_nil_iff, or_false] at hr2; rcases hr2 with rfl | rfl <;> decide)
  rw [fo2, fo2e] at h
  exact h
theorem e_f3 (a : Nat) (w : World) (hr : Rd w 4 encRule (some ⟨a, 0, none⟩) ru2) : Calls Tryd.prog 48 #[.slice (some ⟨a, 0, none⟩) 2 2, .string sRing] w (fun e w' => e = .returned (.tuple #[.agg #[.int .i64 0, .int .i64 0, .int .i64 0], .int .i64 22]) ∧ Grow w w') := by
  have h := k_For ru2 (some ⟨a, 0, none⟩) 2 sRing w hr (by intro r hr2; simp only [List.mem_cons, List.mem_nil_iff, or_false] at hr2; rcases hr2 with rfl | rfl <;> decide)
  rw [fo3, fo3e] at h
  exact h
theorem e_f4 (a : Nat) (w : World) (hr : Rd w 4 encRule (some ⟨a, 0, none⟩) ru3) : Calls Tryd.prog 48 #[.slice (some ⟨a, 0, none⟩) 1 1, .string sRing] w (fun e w' => e = .returned (.tuple #[.agg #[.int .i64 0, .int .i64 0, .int .i64 0], .int .i64 22]) ∧ Grow w w') := by
  have h := k_For ru3 (some ⟨a, 0, none⟩) 1 sRing w hr (by intro r hr2; rw [List.mem_singleton.1 hr2]; decide)
  rw [fo4, fo4e] at h
  exact h
theorem e_r1 (b : Nat) (w : World) (hc : Rd w 1 enInt (some ⟨b, 0, none⟩) [103, 104]) (hG : Gl w 0 WAYS) (a : Nat) (hl : Rd w 3 encAct (some ⟨a, 0, none⟩) ac1) : Calls Tryd.prog 34 #[.agg #[.int .i64 1000, .int .i64 16, .int .i64 500, .int .i64 2, .int .i64 50, .int .i64 10, .int .i64 3, .slice (some ⟨b, 0, none⟩) 2 2, .int .i64 100, .int .i64 100000], .slice (some ⟨a, 0, none⟩) 2 2] w (fun e w' => ∃ A c, e = .returned (.tuple #[.slice A ([] : List Acc).length c, .int .i64 1, .int .i64 25]) ∧ Grow w w' ∧ Res w w' 5 encAcc A ([] : List Acc)) := by
  have h := k_Run dealD (some ⟨b, 0, none⟩) 2 ac1 (some ⟨a, 0, none⟩) 2 w hc hl hG
  rw [rn1.1, rn1.2.1, rn1.2.2] at h
  exact h
theorem e_r2 (b : Nat) (w : World) (hc : Rd w 1 enInt (some ⟨b, 0, none⟩) [103, 104]) (hG : Gl w 0 WAYS) (a : Nat) (hl : Rd w 3 encAct (some ⟨a, 0, none⟩) ac2) : Calls Tryd.prog 34 #[.agg #[.int .i64 1000, .int .i64 16, .int .i64 500, .int .i64 2, .int .i64 50, .int .i64 10, .int .i64 3, .slice (some ⟨b, 0, none⟩) 2 2, .int .i64 100, .int .i64 100000], .slice (some ⟨a, 0, none⟩) 2 2] w (fun e w' => ∃ A c, e = .returned (.tuple #[.slice A ([] : List Acc).length c, .int .i64 1, .int .i64 26]) ∧ Grow w w' ∧ Res w w' 5 encAcc A ([] : List Acc)) := by
  have h := k_Run dealD (some ⟨b, 0, none⟩) 2 ac2 (some ⟨a, 0, none⟩) 2 w hc hl hG
  rw [rn2.1, rn2.2.1, rn2.2.2] at h
  exact h
theorem e_r3 (b : Nat) (w : World) (hc : Rd w 1 enInt (some ⟨b, 0, none⟩) [103, 104]) (hG : Gl w 0 WAYS) (a : Nat) (hl : Rd w 3 encAct (some ⟨a, 0, none⟩) ac3) : Calls Tryd.prog 34 #[.agg #[.int .i64 1000, .int .i64 16, .int .i64 500, .int .i64 2, .int .i64 50, .int .i64 10, .int .i64 3, .slice (some ⟨b, 0, none⟩) 2 2, .int .i64 100, .int .i64 100000], .slice (some ⟨a, 0, none⟩) 1 1] w (fun e w' => ∃ A c, e = .returned (.tuple #[.slice A ([] : List Acc).length c, .int .i64 0, .int .i64 6]) ∧ Grow w w' ∧ Res w w' 5 encAcc A ([] : List Acc)) := by
  have h := k_Run dealD (some ⟨b, 0, none⟩) 2 ac3 (some ⟨a, 0, none⟩) 1 w hc hl hG
  rw [rn3.1, rn3.2.1, rn3.2.2] at h
  exact h
theorem e_r4 (b : Nat) (w : World) (hc : Rd w 1 enInt (some ⟨b, 0, none⟩) [103, 104]) (hG : Gl w 0 WAYS) (a : Nat) (hl : Rd w 3 encAct (some ⟨a, 0, none⟩) ac4) : Calls Tryd.prog 34 #[.agg #[.int .i64 1000, .int .i64 16, .int .i64 500, .int .i64 2, .int .i64 50, .int .i64 10, .int .i64 3, .slice (some ⟨b, 0, none⟩) 2 2, .int .i64 100, .int .i64 100000], .slice (some ⟨a, 0, none⟩) 3 3] w (fun e w' => ∃ A c, e = .returned (.tuple #[.slice A (rn4 : List Acc).length c, .int .i64 3, .int .i64 0]) ∧ Grow w w' ∧ Res w w' 5 encAcc A (rn4 : List Acc)) := by
  have h := k_Run dealD (some ⟨b, 0, none⟩) 2 ac4 (some ⟨a, 0, none⟩) 3 w hc hl hG
  rw [rn4e.1, rn4e.2.1, rn4e.2.2] at h
  exact h
theorem e_o1 (b : Nat) (w : World) (hc : Rd w 1 enInt (some ⟨b, 0, none⟩) [103, 104]) (hG : Gl w 0 WAYS) : Calls Tryd.prog 32 #[.agg #[.int .i64 1000, .int .i64 16, .int .i64 500, .int .i64 2, .int .i64 50, .int .i64 10, .int .i64 3, .slice (some ⟨b, 0, none⟩) 2 2, .int .i64 100, .int .i64 100000], .slice none 0 0, .int .i64 300] w (fun e w' => e = .returned (.tuple #[.agg #[.int .i64 100000, .int .i64 9800, .int .i64 0, .int .i64 198, .bool true], .int .i64 0]) ∧ Grow w w') := by
  have h := k_Owe dealD (some ⟨b, 0, none⟩) 2 [] none 0 300 w hc Rd.nil hG
  rw [ow1.1, ow1.2] at h
  exact h
theorem e_o2 (b : Nat) (w : World) (hc : Rd w 1 enInt (some ⟨b, 0, none⟩) [103, 104]) (hG : Gl w 0 WAYS) : Calls Tryd.prog 32 #[.agg #[.int .i64 1000, .int .i64 16, .int .i64 500, .int .i64 2, .int .i64 50, .int .i64 10, .int .i64 3, .slice (some ⟨b, 0, none⟩) 2 2, .int .i64 100, .int .i64 100000], .slice none 0 0, .int .i64 99] w (fun e w' => e = .returned (.tuple #[.agg #[.int .i64 0, .int .i64 0, .int .i64 0, .int .i64 0, .bool false], .int .i64 7]) ∧ Grow w w') := by
  have h := k_Owe dealD (some ⟨b, 0, none⟩) 2 [] none 0 99 w hc Rd.nil hG
  rw [ow2.1, ow2.2] at h
  exact h
theorem e_o3 (b : Nat) (w : World) (hc : Rd w 1 enInt (some ⟨b, 0, none⟩) [103, 104]) (hG : Gl w 0 WAYS) (a : Nat) (hl : Rd w 3 encAct (some ⟨a, 0, none⟩) ac5) : Calls Tryd.prog 32 #[.agg #[.int .i64 1000, .int .i64 16, .int .i64 500, .int .i64 2, .int .i64 50, .int .i64 10, .int .i64 3, .slice (some ⟨b, 0, none⟩) 2 2, .int .i64 100, .int .i64 100000], .slice (some ⟨a, 0, none⟩) 1 1, .int .i64 109] w (fun e w' => e = .returned (.tuple #[.agg #[.int .i64 0, .int .i64 0, .int .i64 0, .int .i64 0, .bool false], .int .i64 7]) ∧ Grow w w') := by
  have h := k_Owe dealD (some ⟨b, 0, none⟩) 2 ac5 (some ⟨a, 0, none⟩) 1 109 w hc hl hG
  rw [ow3.1, ow3.2] at h
  exact h
theorem e_o4 (b : Nat) (w : World) (hc : Rd w 1 enInt (some ⟨b, 0, none⟩) [103, 104]) (hG : Gl w 0 WAYS) (a : Nat) (hl : Rd w 3 encAct (some ⟨a, 0, none⟩) ac6) : Calls Tryd.prog 32 #[.agg #[.int .i64 100, .int .i64 16, .int .i64 500, .int .i64 2, .int .i64 50, .int .i64 10, .int .i64 3, .slice (some ⟨b, 0, none⟩) 2 2, .int .i64 100, .int .i64 100000], .slice (some ⟨a, 0, none⟩) 1 1, .int .i64 105] w (fun e w' => e = .returned (.tuple #[.agg #[.int .i64 100000, .int .i64 30, .int .i64 30, .int .i64 0, .bool true], .int .i64 0]) ∧ Grow w w') := by
  have h := k_Owe deal1 (some ⟨b, 0, none⟩) 2 ac6 (some ⟨a, 0, none⟩) 1 105 w hc hl hG
  rw [ow4.1, ow4.2] at h
  exact h
theorem e_o5 (b : Nat) (w : World) (hc : Rd w 1 enInt (some ⟨b, 0, none⟩) [103, 104]) (hG : Gl w 0 WAYS) : Calls Tryd.prog 32 #[.agg #[.int .i64 100, .int .i64 0, .int .i64 500, .int .i64 2, .int .i64 50, .int .i64 10, .int .i64 3, .slice (some ⟨b, 0, none⟩) 2 2, .int .i64 100, .int .i64 100000], .slice none 0 0, .int .i64 112] w (fun e w' => e = .returned (.tuple #[.agg #[.int .i64 100000, .int .i64 0, .int .i64 0, .int .i64 10, .bool true], .int .i64 0]) ∧ Grow w w') := by
  have h := k_Owe deal2 (some ⟨b, 0, none⟩) 2 [] none 0 112 w hc Rd.nil hG
  rw [ow5.1, ow5.2] at h
  exact h
theorem e_k1 (b : Nat) (w : World) (hc : Rd w 1 enInt (some ⟨b, 0, none⟩) [103, 104]) : Calls Tryd.prog 24 #[.agg #[.int .i64 1000, .int .i64 16, .int .i64 500, .int .i64 2, .int .i64 50, .int .i64 10, .int .i64 3, .slice (some ⟨b, 0, none⟩) 2 2, .int .i64 100, .int .i64 100000], .int .i64 100] w (fun e w' => ∃ A c, e = .returned (.tuple #[.slice A ([] : List Int).length c, .int .i64 0]) ∧ Grow w w' ∧ Res w w' 1 enInt A ([] : List Int)) := by
  have h := k_Keep dealD (some ⟨b, 0, none⟩) 2 100 w hc
  rw [ke1.1, ke1.2] at h
  exact h
theorem e_k2 (b : Nat) (w : World) (hc : Rd w 1 enInt (some ⟨b, 0, none⟩) [103, 104]) : Calls Tryd.prog 24 #[.agg #[.int .i64 1000, .int .i64 16, .int .i64 500, .int .i64 2, .int .i64 50, .int .i64 10, .int .i64 3, .slice (some ⟨b, 0, none⟩) 2 2, .int .i64 100, .int .i64 100000], .int .i64 36500] w (fun e w' => ∃ A c, e = .returned (.tuple #[.slice A (KeepN dealD 36500).length c, .int .i64 3]) ∧ Grow w w' ∧ Res w w' 1 enInt A (KeepN dealD 36500)) := by
  have h := k_Keep dealD (some ⟨b, 0, none⟩) 2 36500 w hc
  rw [ke2] at h
  exact h

set_option maxHeartbeats 16000000 in
theorem k_LoanKnown  (w : World) (hG : Gl w 0 WAYS) : Calls Tryd.prog 14 #[] w (fun e w' => e = .returned (.bool true) ∧ Grow w w') := by
  refine enter_pure (args := []) [gl 0 WAYS] Tryd.func14 rfl (by rw [Tryd.ntmps14]; simp) (fun g hg => by simp at hg; subst hg; exact ⟨hG.1, fun b hb => by have : b = 0 := hb; rw [this]; exact hG.2⟩) ?_
  refine cj_seq ?_
  refine cj_regionG (gj_step (y_assign rfl) rfl rfl rfl (gj_nil ?_))
  refine ej_th (cj_seq (cj_region ?_))
  refine oj_step (y_build st25 rfl rfl) rfl rfl rfl ?_
  refine oj_call (X := Nat × Nat) (fun x => .agg #[.slice (some ⟨x.1, 0, none⟩) 4 4, .slice (some ⟨x.2, 0, none⟩) 2 2, .int .i64 50, .int .i64 800, .int .i64 2]) (fun x => [ownB x.1 (cellsB 56 [.int .i64 0, .int .i64 800, .int .i64 10, .int .i64 40, .int .i64 1000, .int .i64 0, .int .i64 434, .int .i64 20, .int .i64 50, .int .i64 2000, .int .i64 0, .int .i64 70, .int .i64 10, .int .i64 30, .int .i64 900, .int .i64 1, .int .i64 0, .int .i64 5, .int .i64 10, .int .i64 40]), ownB x.2 (cellsB 3 [.int .i64 32, .int .i64 64])]) (fun _ => ([] : List Fact)) Tryd.call50 rfl (fun w hp => k_marketO w) rfl (fun ⟨m40, f40⟩ => ?_)
  dsimp only [List.nil_append, List.cons_append]
  refine oj_call (X := Nat × Nat) (fun x => .agg #[.slice (some ⟨x.1, 0, none⟩) 4 4, .slice (some ⟨x.2, 0, none⟩) 2 2, .int .i64 50, .int .i64 800, .int .i64 2]) (fun x => [ownB x.1 (cellsB 56 [.int .i64 0, .int .i64 800, .int .i64 10, .int .i64 40, .int .i64 1000, .int .i64 0, .int .i64 434, .int .i64 20, .int .i64 50, .int .i64 2000, .int .i64 0, .int .i64 70, .int .i64 10, .int .i64 30, .int .i64 900, .int .i64 1, .int .i64 0, .int .i64 5, .int .i64 10, .int .i64 40]), ownB x.2 (cellsB 3 [.int .i64 32, .int .i64 64])]) (fun _ => ([] : List Fact)) Tryd.call50 rfl (fun w hp => k_marketO w) rfl (fun ⟨m41, f41⟩ => ?_)
  dsimp only [List.nil_append, List.cons_append]
  refine oj_call (X := Nat × Nat) (fun x => .agg #[.slice (some ⟨x.1, 0, none⟩) 4 4, .slice (some ⟨x.2, 0, none⟩) 2 2, .int .i64 50, .int .i64 800, .int .i64 2]) (fun x => [ownB x.1 (cellsB 56 [.int .i64 0, .int .i64 800, .int .i64 10, .int .i64 40, .int .i64 1000, .int .i64 0, .int .i64 434, .int .i64 20, .int .i64 50, .int .i64 2000, .int .i64 0, .int .i64 70, .int .i64 10, .int .i64 30, .int .i64 900, .int .i64 1, .int .i64 0, .int .i64 5, .int .i64 10, .int .i64 40]), ownB x.2 (cellsB 3 [.int .i64 32, .int .i64 64])]) (fun _ => ([] : List Fact)) Tryd.call50 rfl (fun w hp => k_marketO w) rfl (fun ⟨m42, f42⟩ => ?_)
  dsimp only [List.nil_append, List.cons_append]
  refine oj_call (X := Nat × Nat) (fun x => .agg #[.slice (some ⟨x.1, 0, none⟩) 4 4, .slice (some ⟨x.2, 0, none⟩) 2 2, .int .i64 50, .int .i64 800, .int .i64 2]) (fun x => [ownB x.1 (cellsB 56 [.int .i64 0, .int .i64 800, .int .i64 10, .int .i64 40, .int .i64 1000, .int .i64 0, .int .i64 434, .int .i64 20, .int .i64 50, .int .i64 2000, .int .i64 0, .int .i64 70, .int .i64 10, .int .i64 30, .int .i64 900, .int .i64 1, .int .i64 0, .int .i64 5, .int .i64 10, .int .i64 40]), ownB x.2 (cellsB 3 [.int .i64 32, .int .i64 64])]) (fun _ => ([] : List Fact)) Tryd.call50 rfl (fun w hp => k_marketO w) rfl (fun ⟨m43, f43⟩ => ?_)
  dsimp only [List.nil_append, List.cons_append]
  refine oj_buildSlice (cs := [.slice none 0 0, .slice none 0 0, .int .i64 0, .int .i64 0, .int .i64 0, .slice (some ⟨m40, 0, none⟩) 4 4, .slice (some ⟨f40, 0, none⟩) 2 2, .int .i64 50, .int .i64 800, .int .i64 2, .slice (some ⟨m41, 0, none⟩) 4 4, .slice (some ⟨f41, 0, none⟩) 2 2, .int .i64 50, .int .i64 800, .int .i64 2, .slice (some ⟨m42, 0, none⟩) 4 4, .slice (some ⟨f42, 0, none⟩) 2 2, .int .i64 50, .int .i64 800, .int .i64 2, .slice (some ⟨m43, 0, none⟩) 4 4, .slice (some ⟨f43, 0, none⟩) 2 2, .int .i64 50, .int .i64 800, .int .i64 2]) [.slice none 0 0, .slice none 0 0, .int .i64 0, .int .i64 0, .int .i64 0, .slice none 0 0, .slice none 0 0, .int .i64 0, .int .i64 0, .int .i64 0, .slice none 0 0, .slice none 0 0, .int .i64 0, .int .i64 0, .int .i64 0, .slice none 0 0, .slice none 0 0, .int .i64 0, .int .i64 0, .int .i64 0, .slice none 0 0, .slice none 0 0, .int .i64 0, .int .i64 0, .int .i64 0] Tryd.underlying92 Tryd.sizeOf25 Tryd.zeroValue25 rfl rfl (by kernel_rfl) (by kernel_rfl) rfl (fun b44 => ?_)
  refine oj_step (y_assign rfl) rfl rfl rfl ?_
  refine oj_nil ?_
  refine ej_th (cj_seq (cj_region ?_))
  refine oj_step (y_move rfl) rfl rfl rfl ?_
  refine oj_step (y_ixL 5 Tryd.underlying92 Tryd.sizeOf25 rfl rfl ⟨by decide, by decide⟩ (by decide)) rfl rfl rfl ?_
  refine oj_step (y_fa0 fa25_0 rfl) rfl rfl rfl ?_
  refine oj_step (y_load1 Tryd.isAgg22 rfl rfl) rfl rfl rfl ?_
  refine oj_step (y_ixL 0 Tryd.underlying22 Tryd.sizeOf56 rfl rfl ⟨by decide, by decide⟩ (by decide)) rfl rfl rfl ?_
  refine oj_step (y_fa fa56_1 rfl) rfl rfl rfl ?_
  refine oj_store rfl rfl rfl rfl Tryd.sizeOf3 rfl ?_
  refine oj_nil ?_
  refine ej_th (cj_seq (cj_region ?_))
  refine oj_step (y_move rfl) rfl rfl rfl ?_
  refine oj_step (y_ixL 10 Tryd.underlying92 Tryd.sizeOf25 rfl rfl ⟨by decide, by decide⟩ (by decide)) rfl rfl rfl ?_
  refine oj_step (y_fa0 fa25_0 rfl) rfl rfl rfl ?_
  refine oj_step (y_load1 Tryd.isAgg22 rfl rfl) rfl rfl rfl ?_
  refine oj_step (y_ixL 0 Tryd.underlying22 Tryd.sizeOf56 rfl rfl ⟨by decide, by decide⟩ (by decide)) rfl rfl rfl ?_
  refine oj_step (y_fa0 fa56_0 rfl) rfl rfl rfl ?_
  refine oj_store rfl rfl rfl rfl Tryd.sizeOf3 rfl ?_
  refine oj_nil ?_
  refine ej_th (cj_seq (cj_region ?_))
  refine oj_step (y_move rfl) rfl rfl rfl ?_
  refine oj_step (y_ixL 15 Tryd.underlying92 Tryd.sizeOf25 rfl rfl ⟨by decide, by decide⟩ (by decide)) rfl rfl rfl ?_
  refine oj_step (y_fa fa25_1 rfl) rfl rfl rfl ?_
  refine oj_step (y_load1 Tryd.isAgg23 rfl rfl) rfl rfl rfl ?_
  refine oj_step (y_ixL 0 Tryd.underlying23 Tryd.sizeOf3 rfl rfl ⟨by decide, by decide⟩ (by decide)) rfl rfl rfl ?_
  refine oj_store rfl rfl rfl rfl Tryd.sizeOf3 rfl ?_
  refine oj_nil ?_
  refine ej_th (cj_seq (cj_region ?_))
  refine oj_step (y_move rfl) rfl rfl rfl ?_
  refine oj_step (y_ixL 20 Tryd.underlying92 Tryd.sizeOf25 rfl rfl ⟨by decide, by decide⟩ (by decide)) rfl rfl rfl ?_
  refine oj_step (y_fa fa25_4 rfl) rfl rfl rfl ?_
  refine oj_store rfl rfl rfl rfl Tryd.sizeOf3 rfl ?_
  refine oj_nil ?_
  refine ej_th ?_
  refine cj_cuti (X := Unit) [] trivial (fun _ => True) (fun _ => []) (fun _ => []) (fun _ => [gl 0 WAYS]) ?_ ?_
  · refine cj_seq ?_
    refine cj_regionG (gj_step (y_assign rfl) rfl rfl rfl (gj_nil ?_))
    refine ej_th (cj_block ?_)
    refine cj_lpic (X := Nat) [(1, _)] (fun i => i ≤ 5) (fun i => [(2, .int .i64 (i : Nat))]) (fun i => 5 - i) 0 (Nat.zero_le _) ⟨rfl, rfl, trivial⟩ ?_
    rintro i hi
    dsimp only [List.cons_append, List.nil_append]
    refine cj_seq (cj_seq ?_)
    refine cj_regionG (gj_step (y_move rfl) rfl rfl rfl (gj_step (y_move rfl) rfl rfl rfl (gj_step (y_lenA Tryd.underlying92 rfl) rfl rfl rfl (gj_step (y_lss rfl rfl) rfl rfl rfl (gj_nil ?_)))))
    refine ej_th ?_
    refine cj_cond rfl (fun h68 => ?_) (fun h68 => ?_)
    · have h68b := h68
      try simp only [sxb] at h68
      have hi5 : i < 5 := by omega
      refine cj_skip (ej_th (cj_seq (cj_block (cj_seq ?_))))
      refine cj_regionG ?_
      refine gj_step (y_move rfl) rfl rfl rfl (gj_step (y_move rfl) rfl rfl rfl (gj_step (y_ixL (i * 5) Tryd.underlying92 Tryd.sizeOf25 rfl rfl ⟨by omega, by omega⟩ (by omega)) rfl rfl rfl (gj_step (y_loadN (hv := tkM m40 m41 m42 m43 f40 f41 f42 f43 hi5) Tryd.isAgg25 Tryd.sizeOf25 rfl) rfl rfl rfl (?_))))
      refine gj_step (y_call Tryd.call19 rfl (fun w hp => by
        have h1 : Rd w 5 encSale (mkA m40 m41 m42 m43 i) (mkS i) := by
          rcases lt5 hi5 with rfl | rfl | rfl | rfl | rfl
          · exact Rd.nil
          · exact (hp.rdLit (b := m40) (sz := 5) (enc := encSale) mS1 (fun _ => rfl) rfl (by unfold maxLen; simp))
          · exact (hp.rdLit (b := m41) (sz := 5) (enc := encSale) mS2 (fun _ => rfl) rfl (by unfold maxLen; simp))
          · exact (hp.rdLit (b := m42) (sz := 5) (enc := encSale) mSales (fun _ => rfl) rfl (by unfold maxLen; simp))
          · exact (hp.rdLit (b := m43) (sz := 5) (enc := encSale) mSales (fun _ => rfl) rfl (by unfold maxLen; simp))
        have h2 : Rd w 1 enInt (mkA f40 f41 f42 f43 i) (mkF i) := by
          rcases lt5 hi5 with rfl | rfl | rfl | rfl | rfl
          · exact Rd.nil
          · exact (hp.rdLit (b := f40) (sz := 1) (enc := enInt) mFade (fun _ => rfl) rfl (by unfold maxLen; simp))
          · exact (hp.rdLit (b := f41) (sz := 1) (enc := enInt) mFade (fun _ => rfl) rfl (by unfold maxLen; simp))
          · exact (hp.rdLit (b := f42) (sz := 1) (enc := enInt) mF3 (fun _ => rfl) rfl (by unfold maxLen; simp))
          · exact (hp.rdLit (b := f43) (sz := 1) (enc := enInt) mFade (fun _ => rfl) rfl (by unfold maxLen; simp))
        have h8 := k_CheckMarket (mkS i) (mkF i) (mk1 i) (mk2 i) (mk3 i) (mkA m40 m41 m42 m43 i) (mkA f40 f41 f42 f43 i) (mkC i) (mkD i) w h1 h2
        rw [badMk hi5] at h8
        exact h8)) rfl rfl rfl ?_
      refine gj_step (y_neq rfl rfl) rfl rfl rfl (?_)
      refine gj_nil ?_
      refine ej_th ?_
      refine cj_condF rfl (by decide) ?_
      refine cj_skip (ej_blk (ej_th ?_))
      refine cj_regionG (gj_step (y_move rfl) rfl rfl rfl (gj_step (y_add rfl rfl (by omega)) rfl rfl rfl (gj_step (y_assign rfl) rfl rfl rfl (gj_nil ?_))))
      exact ej_nx (i + 1) (by omega) (by omega) ⟨rfl, rfl, trivial⟩
    · have h68b := h68
      try simp only [sxb] at h68
      refine cj_exit (ej_then_exit (ej_then_exit (ej_blk_hit ?_)))
      exact ej_ct () trivial trivial
  · rintro - -
    dsimp only [List.cons_append, List.nil_append]
    refine cj_seq (cj_region ?_)
    refine oj_call (X := Nat × Nat) (fun x => .agg #[.slice (some ⟨x.1, 0, none⟩) 4 4, .slice (some ⟨x.2, 0, none⟩) 2 2, .int .i64 50, .int .i64 800, .int .i64 2]) (fun _ => []) (fun x => [litS x.1 5 encSale mSales, litS x.2 1 enInt mFade]) Tryd.call50 rfl (fun w hp => k_market w) rfl (fun ⟨m78, f78⟩ => ?_)
    dsimp only [List.nil_append, List.cons_append]
    refine oj_callS (fun A c => .tuple #[.slice A ([] : List Int).length c, .int .i64 7]) 1 enInt ([] : List Int) Tryd.call16 rfl (fun w hp => e_cr m78 f78 w hp.rd hp.rd) rfl (fun A79 c79 fp79 hfp79 => ?_)
    refine oj_step (y_move rfl) rfl rfl rfl ?_
    refine oj_step (y_extract rfl rfl) rfl rfl rfl ?_
    refine oj_step (y_extract rfl rfl) rfl rfl rfl ?_
    refine oj_step (y_assign rfl) rfl rfl rfl ?_
    refine oj_step (y_assign rfl) rfl rfl rfl ?_
    refine oj_nil ?_
    refine ej_th (cj_seq (cj_region ?_))
    refine oj_call (X := Nat × Nat) (fun x => .agg #[.slice (some ⟨x.1, 0, none⟩) 4 4, .slice (some ⟨x.2, 0, none⟩) 2 2, .int .i64 50, .int .i64 800, .int .i64 2]) (fun _ => []) (fun x => [litS x.1 5 encSale mSales, litS x.2 1 enInt mFade]) Tryd.call50 rfl (fun w hp => k_market w) rfl (fun ⟨m83, f83⟩ => ?_)
    dsimp only [List.nil_append, List.cons_append]
    refine oj_step (y_build (cs := [.int .i64 1, .int .i64 0, .int .i64 0]) st29 rfl (by kernel_rfl)) rfl rfl rfl ?_
    refine oj_step (y_call Tryd.call21 rfl (fun w hp => e_v1 m83 f83 w hp.rd hp.rd)) rfl rfl rfl ?_
    refine oj_step (y_move rfl) rfl rfl rfl ?_
    refine oj_step (y_extract rfl rfl) rfl rfl rfl ?_
    refine oj_step (y_extract rfl rfl) rfl rfl rfl ?_
    refine oj_alloc Tryd.zeroValue27 rfl rfl (fun b5 => ?_)
    refine oj_store rfl rfl rfl rfl Tryd.sizeOf27 rfl ?_
    refine oj_step (y_assign rfl) rfl rfl rfl ?_
    refine oj_nil ?_
    refine ej_th (cj_seq (cj_region ?_))
    refine oj_call (X := Nat × Nat) (fun x => .agg #[.slice (some ⟨x.1, 0, none⟩) 4 4, .slice (some ⟨x.2, 0, none⟩) 2 2, .int .i64 50, .int .i64 800, .int .i64 2]) (fun _ => []) (fun x => [litS x.1 5 encSale mSales, litS x.2 1 enInt mFade]) Tryd.call50 rfl (fun w hp => k_market w) rfl (fun ⟨m89, f89⟩ => ?_)
    dsimp only [List.nil_append, List.cons_append]
    refine oj_step (y_build (cs := [.int .i64 2, .int .i64 1]) st27 rfl (by kernel_rfl)) rfl rfl rfl ?_
    refine oj_step (y_build (cs := [.int .i64 0, .int .i64 2, .int .i64 1]) st29 rfl (by kernel_rfl)) rfl rfl rfl ?_
    refine oj_step (y_call Tryd.call21 rfl (fun w hp => e_v2 m89 f89 w hp.rd hp.rd)) rfl rfl rfl ?_
    refine oj_step (y_move rfl) rfl rfl rfl ?_
    refine oj_step (y_extract rfl rfl) rfl rfl rfl ?_
    refine oj_step (y_extract rfl rfl) rfl rfl rfl ?_
    refine oj_alloc Tryd.zeroValue27 rfl rfl (fun b7 => ?_)
    refine oj_store rfl rfl rfl rfl Tryd.sizeOf27 rfl ?_
    refine oj_step (y_assign rfl) rfl rfl rfl ?_
    refine oj_nil ?_
    refine ej_th (cj_seq ?_)
    refine cj_regionG ?_
    refine gj_step (y_call Tryd.call51 rfl (fun w hp => k_terms w)) rfl rfl rfl ?_
    refine gj_step (y_build (cs := [.int .i64 0, .int .i64 2147483649]) st27 rfl (by kernel_rfl)) rfl rfl rfl (?_)
    refine gj_step (y_call Tryd.call28 rfl (fun w hp => e_m1 w)) rfl rfl rfl ?_
    refine gj_step (y_move rfl) rfl rfl rfl (gj_step (y_extract rfl rfl) rfl rfl rfl (gj_step (y_extract rfl rfl) rfl rfl rfl (gj_step (y_assign rfl) rfl rfl rfl (gj_step (y_assign rfl) rfl rfl rfl (?_)))))
    refine gj_nil ?_
    refine ej_th (cj_seq ?_)
    refine cj_regionG ?_
    refine gj_step (y_call Tryd.call51 rfl (fun w hp => k_terms w)) rfl rfl rfl ?_
    refine gj_step (y_build (cs := [.int .i64 5, .int .i64 5]) st27 rfl (by kernel_rfl)) rfl rfl rfl (?_)
    refine gj_step (y_call Tryd.call30 rfl (fun w hp => e_l1 w)) rfl rfl rfl ?_
    refine gj_step (y_move rfl) rfl rfl rfl (gj_step (y_extract rfl rfl) rfl rfl rfl (gj_step (y_extract rfl rfl) rfl rfl rfl (gj_step (y_assign rfl) rfl rfl rfl (gj_step (y_assign rfl) rfl rfl rfl (?_)))))
    refine gj_nil ?_
    refine ej_th (cj_seq ?_)
    refine cj_regionG ?_
    refine gj_step (y_build (cs := [.int .i64 64, .int .i64 0, .int .i64 9]) st52 rfl (by kernel_rfl)) rfl rfl rfl (gj_step (y_build st27 rfl rfl) rfl rfl rfl (?_))
    refine gj_step (y_call Tryd.call30 rfl (fun w hp => e_l2 w)) rfl rfl rfl ?_
    refine gj_step (y_move rfl) rfl rfl rfl (gj_step (y_extract rfl rfl) rfl rfl rfl (gj_step (y_extract rfl rfl) rfl rfl rfl (gj_step (y_assign rfl) rfl rfl rfl (gj_step (y_assign rfl) rfl rfl rfl (?_)))))
    refine gj_nil ?_
    refine ej_th (cj_seq ?_)
    refine cj_regionG ?_
    refine gj_step (y_build (cs := [.int .i64 64, .int .i64 0, .int .i64 9]) st52 rfl (by kernel_rfl)) rfl rfl rfl (gj_step (y_build (cs := [.int .i64 20, .int .i64 20]) st27 rfl (by kernel_rfl)) rfl rfl rfl (?_))
    refine gj_step (y_call Tryd.call28 rfl (fun w hp => e_m2 w)) rfl rfl rfl ?_
    refine gj_step (y_move rfl) rfl rfl rfl (gj_step (y_extract rfl rfl) rfl rfl rfl (gj_step (y_extract rfl rfl) rfl rfl rfl (gj_step (y_assign rfl) rfl rfl rfl (gj_step (y_assign rfl) rfl rfl rfl (?_)))))
    refine gj_nil ?_
    refine ej_th ?_
    refine cj_cuti (X := Unit) [(4, _), (6, _), (8, _), (10, _), (12, _), (14, _), (16, _)] ⟨rfl, rfl, rfl, rfl, rfl, rfl, rfl, trivial⟩ (fun _ => True) (fun _ => []) (fun _ => []) (fun _ => [gl 0 WAYS]) ?_ ?_
    · refine cj_seq (cj_region ?_)
      refine oj_step (y_move rfl) rfl rfl rfl ?_
      refine oj_step (y_neq rfl rfl) rfl rfl rfl ?_
      refine oj_step (y_move rfl) rfl rfl rfl ?_
      refine oj_yes rfl rfl rfl ?_
      refine oj_step (y_move rfl) rfl rfl rfl ?_
      refine oj_yes rfl rfl rfl ?_
      refine oj_step (y_neq rfl rfl) rfl rfl rfl ?_
      refine oj_step (y_pick rfl rfl rfl) rfl rfl rfl ?_
      refine oj_step (y_move rfl) rfl rfl rfl ?_
      refine oj_yes rfl rfl rfl ?_
      refine oj_step (y_move rfl) rfl rfl rfl ?_
      refine oj_yes rfl rfl rfl ?_
      refine oj_step (y_neq rfl rfl) rfl rfl rfl ?_
      refine oj_step (y_pick rfl rfl rfl) rfl rfl rfl ?_
      refine oj_step (y_move rfl) rfl rfl rfl ?_
      refine oj_yes rfl rfl rfl ?_
      refine oj_step (y_move rfl) rfl rfl rfl ?_
      refine oj_yes rfl rfl rfl ?_
      refine oj_step (y_neq rfl rfl) rfl rfl rfl ?_
      refine oj_step (y_pick rfl rfl rfl) rfl rfl rfl ?_
      refine oj_step (y_move rfl) rfl rfl rfl ?_
      refine oj_yes rfl rfl rfl ?_
      refine oj_step (y_move rfl) rfl rfl rfl ?_
      refine oj_yes rfl rfl rfl ?_
      refine oj_step (y_neq rfl rfl) rfl rfl rfl ?_
      refine oj_step (y_pick rfl rfl rfl) rfl rfl rfl ?_
      refine oj_step (y_move rfl) rfl rfl rfl ?_
      refine oj_yes rfl rfl rfl ?_
      refine oj_step (y_move rfl) rfl rfl rfl ?_
      refine oj_yes rfl rfl rfl ?_
      refine oj_step (y_neq rfl rfl) rfl rfl rfl ?_
      refine oj_step (y_pick rfl rfl rfl) rfl rfl rfl ?_
      refine oj_step (y_move rfl) rfl rfl rfl ?_
      refine oj_yes rfl rfl rfl ?_
      refine oj_step (y_move rfl) rfl rfl rfl ?_
      refine oj_yes rfl rfl rfl ?_
      refine oj_step (y_neq rfl rfl) rfl rfl rfl ?_
      refine oj_step (y_pick rfl rfl rfl) rfl rfl rfl ?_
      refine oj_step (y_move rfl) rfl rfl rfl ?_
      refine oj_yes rfl rfl rfl ?_
      refine oj_step (y_move rfl) rfl rfl rfl ?_
      refine oj_yes rfl rfl rfl ?_
      refine oj_step (y_neq rfl rfl) rfl rfl rfl ?_
      refine oj_step (y_pick rfl rfl rfl) rfl rfl rfl ?_
      refine oj_step (y_move rfl) rfl rfl rfl ?_
      refine oj_yes rfl rfl rfl ?_
      refine oj_step (y_build (cs := [.int .i64 0, .int .i64 1, .int .i64 0]) st52 rfl (by kernel_rfl)) rfl rfl rfl ?_
      refine oj_yes rfl rfl rfl ?_
      refine oj_step (y_call Tryd.call45 rfl (fun w hp => e_ct w)) rfl rfl rfl ?_
      refine oj_yes rfl rfl rfl ?_
      refine oj_step (y_neq rfl rfl) rfl rfl rfl ?_
      refine oj_step (y_pick rfl rfl rfl) rfl rfl rfl ?_
      refine oj_nil ?_
      refine ej_th ?_
      refine cj_condF rfl (by decide) ?_
      refine cj_skip ?_
      exact ej_ct () trivial ⟨rfl, rfl, rfl, rfl, rfl, rfl, rfl, trivial⟩
    · rintro - -
      dsimp only [List.cons_append, List.nil_append]
      refine cj_seq (cj_region ?_)
      refine oj_step (y_call Tryd.call51 rfl (fun w hp => k_terms w)) rfl rfl rfl ?_
      refine oj_step (y_build (cs := [.string ⟨#[114, 105, 110, 103]⟩, .int .i64 40, .int .i64 300, .int .i64 5000]) st95 rfl (by kernel_rfl)) rfl rfl rfl ?_
      refine oj_step (y_build (cs := [.string ⟨#[102, 117, 114]⟩, .int .i64 0, .int .i64 0, .int .i64 0]) st95 rfl (by kernel_rfl)) rfl rfl rfl ?_
      refine oj_buildSlice (cs := [.string ⟨#[114, 105, 110, 103]⟩, .int .i64 40, .int .i64 300, .int .i64 5000, .string ⟨#[102, 117, 114]⟩, .int .i64 0, .int .i64 0, .int .i64 0]) [.string ⟨#[]⟩, .int .i64 0, .int .i64 0, .int .i64 0, .string ⟨#[]⟩, .int .i64 0, .int .i64 0, .int .i64 0] Tryd.underlying84 Tryd.sizeOf95 Tryd.zeroValue95 rfl rfl (by kernel_rfl) (by kernel_rfl) rfl (fun b157 => ?_)
      refine oj_step (y_assign rfl) rfl rfl rfl ?_
      refine oj_nil ?_
      refine ej_th (cj_seq (cj_region ?_))
      refine oj_step (y_move rfl) rfl rfl rfl ?_
      refine oj_step (y_call Tryd.call48 rfl (fun w hp => e_f1 b157 w (hp.rdLit (b := b157) (sz := 4) (enc := encRule) ru1 (fun _ => rfl) rfl (by unfold maxLen; simp)))) rfl rfl rfl ?_
      refine oj_step (y_move rfl) rfl rfl rfl ?_
      refine oj_step (y_extract rfl rfl) rfl rfl rfl ?_
      refine oj_step (y_extract rfl rfl) rfl rfl rfl ?_
      refine oj_alloc Tryd.zeroValue52 rfl rfl (fun b18 => ?_)
      refine oj_store rfl rfl rfl rfl Tryd.sizeOf52 rfl ?_
      refine oj_step (y_assign rfl) rfl rfl rfl ?_
      refine oj_nil ?_
      refine ej_th (cj_seq ?_)
      refine cj_regionG ?_
      refine gj_step (y_move rfl) rfl rfl rfl (?_)
      refine gj_step (y_call Tryd.call48 rfl (fun w hp => e_f2 b157 w (hp.rdLit (b := b157) (sz := 4) (enc := encRule) ru1 (fun _ => rfl) rfl (by unfold maxLen; simp)))) rfl rfl rfl ?_
      refine gj_step (y_move rfl) rfl rfl rfl (gj_step (y_extract rfl rfl) rfl rfl rfl (gj_step (y_extract rfl rfl) rfl rfl rfl (gj_step (y_assign rfl) rfl rfl rfl (?_))))
      refine gj_nil ?_
      refine ej_th (cj_seq (cj_region ?_))
      refine oj_step (y_build (cs := [.string ⟨#[114, 105, 110, 103]⟩, .int .i64 0, .int .i64 0, .int .i64 0]) st95 rfl (by kernel_rfl)) rfl rfl rfl ?_
      refine oj_step (y_build (cs := [.string ⟨#[114, 105, 110, 103]⟩, .int .i64 0, .int .i64 0, .int .i64 0]) st95 rfl (by kernel_rfl)) rfl rfl rfl ?_
      refine oj_buildSlice (cs := [.string ⟨#[114, 105, 110, 103]⟩, .int .i64 0, .int .i64 0, .int .i64 0, .string ⟨#[114, 105, 110, 103]⟩, .int .i64 0, .int .i64 0, .int .i64 0]) [.string ⟨#[]⟩, .int .i64 0, .int .i64 0, .int .i64 0, .string ⟨#[]⟩, .int .i64 0, .int .i64 0, .int .i64 0] Tryd.underlying84 Tryd.sizeOf95 Tryd.zeroValue95 rfl rfl (by kernel_rfl) (by kernel_rfl) rfl (fun b171 => ?_)
      refine oj_step (y_call Tryd.call48 rfl (fun w hp => e_f3 b171 w (hp.rdLit (b := b171) (sz := 4) (enc := encRule) ru2 (fun _ => rfl) rfl (by unfold maxLen; simp)))) rfl rfl rfl ?_
      refine oj_step (y_move rfl) rfl rfl rfl ?_
      refine oj_step (y_extract rfl rfl) rfl rfl rfl ?_
      refine oj_step (y_extract rfl rfl) rfl rfl rfl ?_
      refine oj_step (y_assign rfl) rfl rfl rfl ?_
      refine oj_nil ?_
      refine ej_th (cj_seq (cj_region ?_))
      refine oj_step (y_build (cs := [.string ⟨#[82, 105, 110, 103]⟩, .int .i64 0, .int .i64 0, .int .i64 0]) st95 rfl (by kernel_rfl)) rfl rfl rfl ?_
      refine oj_buildSlice (cs := [.string ⟨#[82, 105, 110, 103]⟩, .int .i64 0, .int .i64 0, .int .i64 0]) [.string ⟨#[]⟩, .int .i64 0, .int .i64 0, .int .i64 0] Tryd.underlying84 Tryd.sizeOf95 Tryd.zeroValue95 rfl rfl (by kernel_rfl) (by kernel_rfl) rfl (fun b177 => ?_)
      refine oj_step (y_call Tryd.call48 rfl (fun w hp => e_f4 b177 w (hp.rdLit (b := b177) (sz := 4) (enc := encRule) ru3 (fun _ => rfl) rfl (by unfold maxLen; simp)))) rfl rfl rfl ?_
      refine oj_step (y_move rfl) rfl rfl rfl ?_
      refine oj_step (y_extract rfl rfl) rfl rfl rfl ?_
      refine oj_step (y_extract rfl rfl) rfl rfl rfl ?_
      refine oj_step (y_assign rfl) rfl rfl rfl ?_
      refine oj_nil ?_
      refine ej_th ?_
      refine cj_cuti (X := Unit) [(4, _), (6, _), (8, _), (10, _), (12, _), (14, _), (16, _)] ⟨rfl, rfl, rfl, rfl, rfl, rfl, rfl, trivial⟩ (fun _ => True) (fun _ => []) (fun _ => []) (fun _ => [gl 0 WAYS]) ?_ ?_
      · refine cj_seq ?_
        refine cj_draw (by kernel_rfl) (by kernel_rfl) ?_
        refine gj_step (y_move rfl) rfl rfl rfl (gj_step (y_neq rfl rfl) rfl rfl rfl (gj_step (y_move rfl) rfl rfl rfl (?_)))
        refine gj_g 3 183 186 rfl rfl rfl rfl (fun hg183 => gj_yes rfl rfl rfl (y_loadN Tryd.isAgg52 Tryd.sizeOf52 rfl) rfl rfl (gj_yes rfl rfl rfl (y_call Tryd.call51 rfl (fun w hp => k_terms w)) rfl rfl (gj_yes rfl rfl rfl (y_bin rfl rfl (fun x y w => ne52 _ _ _ _ _ _ x y w)) rfl rfl (gj_nil rfl)))) ?_
        refine gj_step (y_or rfl rfl rfl) rfl rfl rfl (gj_step (y_move rfl) rfl rfl rfl (?_))
        refine gj_g 2 188 190 rfl rfl rfl rfl (fun hg188 => gj_yes rfl rfl rfl (y_move rfl) rfl rfl (gj_yes rfl rfl rfl (y_neq rfl rfl) rfl rfl (gj_nil rfl))) ?_
        refine gj_step (y_or rfl rfl rfl) rfl rfl rfl (gj_step (y_move rfl) rfl rfl rfl (?_))
        refine gj_g 2 192 194 rfl rfl rfl rfl (fun hg192 => gj_yes rfl rfl rfl (y_move rfl) rfl rfl (gj_yes rfl rfl rfl (y_neq rfl rfl) rfl rfl (gj_nil rfl))) ?_
        refine gj_step (y_or rfl rfl rfl) rfl rfl rfl (gj_step (y_move rfl) rfl rfl rfl (?_))
        refine gj_g 2 196 198 rfl rfl rfl rfl (fun hg196 => gj_yes rfl rfl rfl (y_move rfl) rfl rfl (gj_yes rfl rfl rfl (y_neq rfl rfl) rfl rfl (gj_nil rfl))) ?_
        refine gj_step (y_or rfl rfl rfl) rfl rfl rfl (?_)
        refine gj_nil ?_
        refine ej_th ?_
        refine cj_condF rfl (by decide) ?_
        refine cj_skip ?_
        exact ej_ct () trivial ⟨rfl, rfl, rfl, rfl, rfl, rfl, rfl, trivial⟩
      · rintro - -
        dsimp only [List.cons_append, List.nil_append]
        refine cj_seq (cj_region ?_)
        refine oj_step (y_build st44 rfl rfl) rfl rfl rfl ?_
        refine oj_call (X := Nat) (fun x => .agg #[.int .i64 1000, .int .i64 16, .int .i64 500, .int .i64 2, .int .i64 50, .int .i64 10, .int .i64 3, .slice (some ⟨x, 0, none⟩) 2 2, .int .i64 100, .int .i64 100000]) (fun x => [ownB x (cellsB 3 [.int .i64 103, .int .i64 104])]) (fun _ => ([] : List Fact)) Tryd.call52 rfl (fun w hp => k_dealO w) rfl (fun m201 => ?_)
        dsimp only [List.nil_append, List.cons_append]
        refine oj_call (X := Nat) (fun x => .agg #[.int .i64 1000, .int .i64 16, .int .i64 500, .int .i64 2, .int .i64 50, .int .i64 10, .int .i64 3, .slice (some ⟨x, 0, none⟩) 2 2, .int .i64 100, .int .i64 100000]) (fun x => [ownB x (cellsB 3 [.int .i64 103, .int .i64 104])]) (fun _ => ([] : List Fact)) Tryd.call52 rfl (fun w hp => k_dealO w) rfl (fun m202 => ?_)
        dsimp only [List.nil_append, List.cons_append]
        refine oj_call (X := Nat) (fun x => .agg #[.int .i64 1000, .int .i64 16, .int .i64 500, .int .i64 2, .int .i64 50, .int .i64 10, .int .i64 3, .slice (some ⟨x, 0, none⟩) 2 2, .int .i64 100, .int .i64 100000]) (fun x => [ownB x (cellsB 3 [.int .i64 103, .int .i64 104])]) (fun _ => ([] : List Fact)) Tryd.call52 rfl (fun w hp => k_dealO w) rfl (fun m203 => ?_)
        dsimp only [List.nil_append, List.cons_append]
        refine oj_call (X := Nat) (fun x => .agg #[.int .i64 1000, .int .i64 16, .int .i64 500, .int .i64 2, .int .i64 50, .int .i64 10, .int .i64 3, .slice (some ⟨x, 0, none⟩) 2 2, .int .i64 100, .int .i64 100000]) (fun x => [ownB x (cellsB 3 [.int .i64 103, .int .i64 104])]) (fun _ => ([] : List Fact)) Tryd.call52 rfl (fun w hp => k_dealO w) rfl (fun m204 => ?_)
        dsimp only [List.nil_append, List.cons_append]
        refine oj_buildSlice (cs := [.int .i64 0, .int .i64 0, .int .i64 0, .int .i64 0, .int .i64 0, .int .i64 0, .int .i64 0, .slice none 0 0, .int .i64 0, .int .i64 0, .int .i64 1000, .int .i64 16, .int .i64 500, .int .i64 2, .int .i64 50, .int .i64 10, .int .i64 3, .slice (some ⟨m201, 0, none⟩) 2 2, .int .i64 100, .int .i64 100000, .int .i64 1000, .int .i64 16, .int .i64 500, .int .i64 2, .int .i64 50, .int .i64 10, .int .i64 3, .slice (some ⟨m202, 0, none⟩) 2 2, .int .i64 100, .int .i64 100000, .int .i64 1000, .int .i64 16, .int .i64 500, .int .i64 2, .int .i64 50, .int .i64 10, .int .i64 3, .slice (some ⟨m203, 0, none⟩) 2 2, .int .i64 100, .int .i64 100000, .int .i64 1000, .int .i64 16, .int .i64 500, .int .i64 2, .int .i64 50, .int .i64 10, .int .i64 3, .slice (some ⟨m204, 0, none⟩) 2 2, .int .i64 100, .int .i64 100000]) [.int .i64 0, .int .i64 0, .int .i64 0, .int .i64 0, .int .i64 0, .int .i64 0, .int .i64 0, .slice none 0 0, .int .i64 0, .int .i64 0, .int .i64 0, .int .i64 0, .int .i64 0, .int .i64 0, .int .i64 0, .int .i64 0, .int .i64 0, .slice none 0 0, .int .i64 0, .int .i64 0, .int .i64 0, .int .i64 0, .int .i64 0, .int .i64 0, .int .i64 0, .int .i64 0, .int .i64 0, .slice none 0 0, .int .i64 0, .int .i64 0, .int .i64 0, .int .i64 0, .int .i64 0, .int .i64 0, .int .i64 0, .int .i64 0, .int .i64 0, .slice none 0 0, .int .i64 0, .int .i64 0, .int .i64 0, .int .i64 0, .int .i64 0, .int .i64 0, .int .i64 0, .int .i64 0, .int .i64 0, .slice none 0 0, .int .i64 0, .int .i64 0] Tryd.underlying97 Tryd.sizeOf44 Tryd.zeroValue44 rfl rfl (by kernel_rfl) (by kernel_rfl) rfl (fun b205 => ?_)
        refine oj_step (y_assign rfl) rfl rfl rfl ?_
        refine oj_nil ?_
        refine ej_th (cj_seq (cj_region ?_))
        refine oj_step (y_move rfl) rfl rfl rfl ?_
        refine oj_step (y_ixL 10 Tryd.underlying97 Tryd.sizeOf44 rfl rfl ⟨by decide, by decide⟩ (by decide)) rfl rfl rfl ?_
        refine oj_step (y_fa0 fa44_0 rfl) rfl rfl rfl ?_
        refine oj_step (y_fa fa40_1 rfl) rfl rfl rfl ?_
        refine oj_store rfl rfl rfl rfl Tryd.sizeOf3 rfl ?_
        refine oj_nil ?_
        refine ej_th (cj_seq (cj_region ?_))
        refine oj_step (y_move rfl) rfl rfl rfl ?_
        refine oj_step (y_ixL 20 Tryd.underlying97 Tryd.sizeOf44 rfl rfl ⟨by decide, by decide⟩ (by decide)) rfl rfl rfl ?_
        refine oj_step (y_fa fa44_1 rfl) rfl rfl rfl ?_
        refine oj_step (y_fa fa42_3 rfl) rfl rfl rfl ?_
        refine oj_store rfl rfl rfl rfl Tryd.sizeOf3 rfl ?_
        refine oj_nil ?_
        refine ej_th (cj_seq (cj_region ?_))
        refine oj_step (y_move rfl) rfl rfl rfl ?_
        refine oj_step (y_ixL 30 Tryd.underlying97 Tryd.sizeOf44 rfl rfl ⟨by decide, by decide⟩ (by decide)) rfl rfl rfl ?_
        refine oj_step (y_fa fa44_2 rfl) rfl rfl rfl ?_
        refine oj_step (y_load1 Tryd.isAgg23 rfl rfl) rfl rfl rfl ?_
        refine oj_step (y_ixL 1 Tryd.underlying23 Tryd.sizeOf3 rfl rfl ⟨by decide, by decide⟩ (by decide)) rfl rfl rfl ?_
        refine oj_store rfl rfl rfl rfl Tryd.sizeOf3 rfl ?_
        refine oj_nil ?_
        refine ej_th (cj_seq (cj_region ?_))
        refine oj_step (y_move rfl) rfl rfl rfl ?_
        refine oj_step (y_ixL 40 Tryd.underlying97 Tryd.sizeOf44 rfl rfl ⟨by decide, by decide⟩ (by decide)) rfl rfl rfl ?_
        refine oj_step (y_fa fa44_4 rfl) rfl rfl rfl ?_
        refine oj_store rfl rfl rfl rfl Tryd.sizeOf3 rfl ?_
        refine oj_nil ?_
        refine ej_th ?_
        refine cj_cuti (X := Unit) [(4, _), (6, _), (8, _), (10, _), (12, _), (14, _), (16, _)] ⟨rfl, rfl, rfl, rfl, rfl, rfl, rfl, trivial⟩ (fun _ => True) (fun _ => []) (fun _ => []) (fun _ => [gl 0 WAYS]) ?_ ?_
        · refine cj_seq ?_
          refine cj_regionG (gj_step (y_assign rfl) rfl rfl rfl (gj_nil ?_))
          refine ej_th (cj_block ?_)
          refine cj_lpic (X := Nat) [(4, _), (6, _), (8, _), (10, _), (12, _), (14, _), (16, _), (19, _)] (fun i => i ≤ 5) (fun i => [(20, .int .i64 (i : Nat))]) (fun i => 5 - i) 0 (Nat.zero_le _) ⟨rfl, rfl, rfl, rfl, rfl, rfl, rfl, rfl, rfl, trivial⟩ ?_
          rintro i hi
          dsimp only [List.cons_append, List.nil_append]
          refine cj_seq (cj_seq ?_)
          refine cj_regionG (gj_step (y_move rfl) rfl rfl rfl (gj_step (y_move rfl) rfl rfl rfl (gj_step (y_lenA Tryd.underlying97 rfl) rfl rfl rfl (gj_step (y_lss rfl rfl) rfl rfl rfl (gj_nil ?_)))))
          refine ej_th ?_
          refine cj_cond rfl (fun h225 => ?_) (fun h225 => ?_)
          · have h225b := h225
            try simp only [sxb] at h225
            have hi5 : i < 5 := by omega
            refine cj_skip (ej_th (cj_seq (cj_block (cj_seq ?_))))
            refine cj_regionG ?_
            refine gj_step (y_move rfl) rfl rfl rfl (gj_step (y_move rfl) rfl rfl rfl (gj_step (y_ixL (i * 10) Tryd.underlying97 Tryd.sizeOf44 rfl rfl ⟨by omega, by omega⟩ (by omega)) rfl rfl rfl (gj_step (y_loadN (hv := tkD m201 m202 m203 m204 hi5) Tryd.isAgg44 Tryd.sizeOf44 rfl) rfl rfl rfl (?_))))
            refine gj_step (y_call Tryd.call31 rfl (fun w hp => by
              have h1 : Rd w 1 enInt (mkA m201 m202 m203 m204 i) (dlK i).closed := by
                rcases lt5 hi5 with rfl | rfl | rfl | rfl | rfl
                · exact Rd.nil
                · exact (hp.rdLit (b := m201) (sz := 1) (enc := enInt) [103, 104] (fun _ => rfl) rfl (by unfold maxLen; simp))
                · exact (hp.rdLit (b := m202) (sz := 1) (enc := enInt) [103, 104] (fun _ => rfl) rfl (by unfold maxLen; simp))
                · exact (hp.rdLit (b := m203) (sz := 1) (enc := enInt) [103, 103] (fun _ => rfl) rfl (by unfold maxLen; simp))
                · exact (hp.rdLit (b := m204) (sz := 1) (enc := enInt) [103, 104] (fun _ => rfl) rfl (by unfold maxLen; simp))
              have h8 := k_Check (dlK i) (mkA m201 m202 m203 m204 i) (mkD i) w h1
              rw [badDk hi5] at h8
              exact h8)) rfl rfl rfl ?_
            refine gj_step (y_neq rfl rfl) rfl rfl rfl (?_)
            refine gj_nil ?_
            refine ej_th ?_
            refine cj_condF rfl (by decide) ?_
            refine cj_skip (ej_blk (ej_th ?_))
            refine cj_regionG (gj_step (y_move rfl) rfl rfl rfl (gj_step (y_add rfl rfl (by omega)) rfl rfl rfl (gj_step (y_assign rfl) rfl rfl rfl (gj_nil ?_))))
            exact ej_nx (i + 1) (by omega) (by omega) ⟨rfl, rfl, rfl, rfl, rfl, rfl, rfl, rfl, rfl, trivial⟩
          · have h225b := h225
            try simp only [sxb] at h225
            refine cj_exit (ej_then_exit (ej_then_exit (ej_blk_hit ?_)))
            exact ej_ct () trivial ⟨rfl, rfl, rfl, rfl, rfl, rfl, rfl, trivial⟩
        · rintro - -
          dsimp only [List.cons_append, List.nil_append]
          refine cj_seq (cj_region ?_)
          refine oj_step (y_build (cs := [.int .i64 99, .int .i64 2, .int .i64 0]) st68 rfl (by kernel_rfl)) rfl rfl rfl ?_
          refine oj_buildSlice (cs := [.int .i64 99, .int .i64 2, .int .i64 0]) [.int .i64 0, .int .i64 0, .int .i64 0] Tryd.underlying69 Tryd.sizeOf68 Tryd.zeroValue68 rfl rfl (by kernel_rfl) (by kernel_rfl) rfl (fun b235 => ?_)
          refine oj_step (y_build (cs := [.int .i64 101, .int .i64 0, .int .i64 0]) st68 rfl (by kernel_rfl)) rfl rfl rfl ?_
          refine oj_buildSlice (cs := [.int .i64 101, .int .i64 0, .int .i64 0]) [.int .i64 0, .int .i64 0, .int .i64 0] Tryd.underlying69 Tryd.sizeOf68 Tryd.zeroValue68 rfl rfl (by kernel_rfl) (by kernel_rfl) rfl (fun b237 => ?_)
          refine oj_step (y_build (cs := [.int .i64 101, .int .i64 1, .int .i64 0]) st68 rfl (by kernel_rfl)) rfl rfl rfl ?_
          refine oj_buildSlice (cs := [.int .i64 101, .int .i64 1, .int .i64 0]) [.int .i64 0, .int .i64 0, .int .i64 0] Tryd.underlying69 Tryd.sizeOf68 Tryd.zeroValue68 rfl rfl (by kernel_rfl) (by kernel_rfl) rfl (fun b239 => ?_)
          refine oj_step (y_build (cs := [.int .i64 101, .int .i64 2, .int .i64 1]) st68 rfl (by kernel_rfl)) rfl rfl rfl ?_
          refine oj_buildSlice (cs := [.int .i64 101, .int .i64 2, .int .i64 1]) [.int .i64 0, .int .i64 0, .int .i64 0] Tryd.underlying69 Tryd.sizeOf68 Tryd.zeroValue68 rfl rfl (by kernel_rfl) (by kernel_rfl) rfl (fun b241 => ?_)
          refine oj_step (y_build (cs := [.int .i64 101, .int .i64 3, .int .i64 367]) st68 rfl (by kernel_rfl)) rfl rfl rfl ?_
          refine oj_buildSlice (cs := [.int .i64 101, .int .i64 3, .int .i64 367]) [.int .i64 0, .int .i64 0, .int .i64 0] Tryd.underlying69 Tryd.sizeOf68 Tryd.zeroValue68 rfl rfl (by kernel_rfl) (by kernel_rfl) rfl (fun b243 => ?_)
          refine oj_step (y_build (cs := [.int .i64 102, .int .i64 2, .int .i64 0]) st68 rfl (by kernel_rfl)) rfl rfl rfl ?_
          refine oj_step (y_build (cs := [.int .i64 101, .int .i64 2, .int .i64 0]) st68 rfl (by kernel_rfl)) rfl rfl rfl ?_
          refine oj_buildSlice (cs := [.int .i64 102, .int .i64 2, .int .i64 0, .int .i64 101, .int .i64 2, .int .i64 0]) [.int .i64 0, .int .i64 0, .int .i64 0, .int .i64 0, .int .i64 0, .int .i64 0] Tryd.underlying69 Tryd.sizeOf68 Tryd.zeroValue68 rfl rfl (by kernel_rfl) (by kernel_rfl) rfl (fun b246 => ?_)
          refine oj_step (y_build (cs := [.int .i64 101, .int .i64 4, .int .i64 0]) st68 rfl (by kernel_rfl)) rfl rfl rfl ?_
          refine oj_step (y_build (cs := [.int .i64 101, .int .i64 2, .int .i64 0]) st68 rfl (by kernel_rfl)) rfl rfl rfl ?_
          refine oj_buildSlice (cs := [.int .i64 101, .int .i64 4, .int .i64 0, .int .i64 101, .int .i64 2, .int .i64 0]) [.int .i64 0, .int .i64 0, .int .i64 0, .int .i64 0, .int .i64 0, .int .i64 0] Tryd.underlying69 Tryd.sizeOf68 Tryd.zeroValue68 rfl rfl (by kernel_rfl) (by kernel_rfl) rfl (fun b249 => ?_)
          refine oj_makeSliceC (z := .agg #[.int .i64 0, .int .i64 0, .int .i64 0]) (List.replicate 99 (.int .i64 0)) Tryd.underlying69 Tryd.type68 (by kernel_rfl) (by kernel_rfl) rfl rfl (by decide) (by decide) (by kernel_rfl) rfl (fun b250 => ?_)
          refine oj_buildSlice [.slice none 0 0, .slice none 0 0, .slice none 0 0, .slice none 0 0, .slice none 0 0, .slice none 0 0, .slice none 0 0, .slice none 0 0] Tryd.underlying98 Tryd.sizeOf69 Tryd.zeroValue69 rfl rfl (by kernel_rfl) rfl rfl (fun b251 => ?_)
          refine oj_step (y_assign rfl) rfl rfl rfl ?_
          refine oj_nil ?_
          refine ej_th ?_
          refine cj_cuti (X := Unit) [(4, _), (6, _), (8, _), (10, _), (12, _), (14, _), (16, _)] ⟨rfl, rfl, rfl, rfl, rfl, rfl, rfl, trivial⟩ (fun _ => True) (fun _ => []) (fun _ => []) (fun _ => [gl 0 WAYS]) ?_ ?_
          · refine cj_seq ?_
            refine cj_regionG (gj_step (y_assign rfl) rfl rfl rfl (gj_nil ?_))
            refine ej_th (cj_block ?_)
            refine cj_lpic (X := Nat) [(4, _), (6, _), (8, _), (10, _), (12, _), (14, _), (16, _), (21, _)] (fun i => i ≤ 8) (fun i => [(22, .int .i64 (i : Nat))]) (fun i => 8 - i) 0 (Nat.zero_le _) ⟨rfl, rfl, rfl, rfl, rfl, rfl, rfl, rfl, rfl, trivial⟩ ?_
            rintro i hi
            dsimp only [List.cons_append, List.nil_append]
            refine cj_seq (cj_seq ?_)
            refine cj_regionG (gj_step (y_move rfl) rfl rfl rfl (gj_step (y_move rfl) rfl rfl rfl (gj_step (y_lenA Tryd.underlying98 rfl) rfl rfl rfl (gj_step (y_lss rfl rfl) rfl rfl rfl (gj_nil ?_)))))
            refine ej_th ?_
            refine cj_cond rfl (fun h255 => ?_) (fun h255 => ?_)
            · have h255b := h255
              try simp only [sxb] at h255
              have hi8 : i < 8 := by omega
              refine cj_skip (ej_th (cj_seq (cj_block (cj_seq ?_))))
              refine cj_plan 13 (by kernel_rfl) (by kernel_rfl) ?_
              refine pl_y 1 rfl (y_move rfl) rfl rfl rfl rfl (by kernel_rfl) ?_
              refine pl_y 2 rfl (y_move rfl) rfl rfl rfl rfl (by kernel_rfl) ?_
              refine pl_y 3 rfl (y_ixL i Tryd.underlying98 Tryd.sizeOf69 rfl rfl ⟨by omega, by omega⟩ (by omega)) rfl rfl rfl rfl (by kernel_rfl) ?_
              refine pl_y 4 rfl (y_load1 Tryd.isAgg69 rfl (tkO b235 b237 b239 b241 b243 b246 b249 b250 hi8)) rfl rfl rfl rfl (by kernel_rfl) ?_
              refine pl_w1 0 (by kernel_rfl) rfl rfl (pl_fire rfl rfl rfl (by kernel_rfl) ?_)
              refine oj_call (X := Nat) (fun x => .agg #[.int .i64 1000, .int .i64 16, .int .i64 500, .int .i64 2, .int .i64 50, .int .i64 10, .int .i64 3, .slice (some ⟨x, 0, none⟩) 2 2, .int .i64 100, .int .i64 100000]) (fun _ => []) (fun x => [litS x 1 enInt [103, 104]]) Tryd.call52 rfl (fun w hp => k_deal w) rfl (fun m259 => ?_)
              dsimp only [List.nil_append, List.cons_append]
              refine oj_nil ?_
              refine ej_pl (lt_y (y_load1 Tryd.isAgg69 rfl (tkO b235 b237 b239 b241 b243 b246 b249 b250 hi8)) rfl (lt_y (y_ixL i Tryd.underlying98 Tryd.sizeOf69 rfl rfl ⟨by omega, by omega⟩ (by omega)) rfl (lt_y (y_move rfl) rfl (lt_y (y_move rfl) rfl (lt_nil))))) ?_
              refine pl_w1 5 (by kernel_rfl) rfl rfl (pl_fire rfl rfl rfl (by kernel_rfl) ?_)
              refine oj_callS (fun A c => .tuple #[.slice A ([] : List Acc).length c, .int .i64 0, .int .i64 24]) 5 encAcc ([] : List Acc) Tryd.call34 rfl (fun w hp => by
                have h1 : Rd w 3 encAct (odA b235 b237 b239 b241 b243 b246 b249 b250 i) (odK i) := by
                  rcases lt8 hi8 with rfl | rfl | rfl | rfl | rfl | rfl | rfl | rfl
                  · exact (hp.rdLit (b := b235) (sz := 3) (enc := encAct) od0 (fun _ => rfl) rfl (by unfold maxLen; simp))
                  · exact (hp.rdLit (b := b237) (sz := 3) (enc := encAct) od1 (fun _ => rfl) rfl (by unfold maxLen; simp))
                  · exact (hp.rdLit (b := b239) (sz := 3) (enc := encAct) od2 (fun _ => rfl) rfl (by unfold maxLen; simp))
                  · exact (hp.rdLit (b := b241) (sz := 3) (enc := encAct) od3 (fun _ => rfl) rfl (by unfold maxLen; simp))
                  · exact (hp.rdLit (b := b243) (sz := 3) (enc := encAct) od4 (fun _ => rfl) rfl (by unfold maxLen; simp))
                  · exact (hp.rdLit (b := b246) (sz := 3) (enc := encAct) od5 (fun _ => rfl) rfl (by unfold maxLen; simp))
                  · exact (hp.rdLit (b := b249) (sz := 3) (enc := encAct) od6 (fun _ => rfl) rfl (by unfold maxLen; simp))
                  · exact (hp.rdLit (b := b250) (sz := 3) (enc := encAct) od7 (fun _ => rfl) (by kernel_rfl) (by unfold maxLen; simp))
                have h8 := k_Run dealD (some ⟨m259, 0, none⟩) 2 (odK i) (odA b235 b237 b239 b241 b243 b246 b249 b250 i) (odC i) w hp.rd h1 hp.glo
                rw [(badO hi8).1, (badO hi8).2.1, (badO hi8).2.2] at h8
                exact h8) rfl (fun A264 c264 fp264 hfp264 => ?_)
              refine oj_nil ?_
              refine ej_pl (lt_w (by kernel_rfl) (lt_y (y_ixL i Tryd.underlying98 Tryd.sizeOf69 rfl rfl ⟨by omega, by omega⟩ (by omega)) rfl (lt_y (y_move rfl) rfl (lt_y (y_move rfl) rfl (lt_nil))))) ?_
              refine pl_y 6 rfl (y_move rfl) rfl rfl rfl rfl (by kernel_rfl) ?_
              refine pl_y 7 rfl (y_extract rfl rfl) rfl rfl rfl rfl (by kernel_rfl) ?_
              refine pl_y 8 rfl (y_extract rfl rfl) rfl rfl rfl rfl (by kernel_rfl) ?_
              refine pl_y 9 rfl (y_extract rfl rfl) rfl rfl rfl rfl (by kernel_rfl) ?_
              refine pl_y 10 rfl (y_assign rfl) rfl rfl rfl rfl (by kernel_rfl) ?_
              refine pl_y 11 rfl (y_assign rfl) rfl rfl rfl rfl (by kernel_rfl) ?_
              refine pl_y 12 rfl (y_assign rfl) rfl rfl rfl rfl (by kernel_rfl) ?_
              refine pl_end (by kernel_rfl) ?_
              refine ej_th (cj_seq ?_)
              refine cj_regionG (gj_step (y_move rfl) rfl rfl rfl (gj_step (y_lenA Tryd.underlying74 rfl) rfl rfl rfl (gj_step (y_neq rfl rfl) rfl rfl rfl (gj_step (y_move rfl) rfl rfl rfl (gj_g 2 271 273 rfl rfl rfl rfl (fun hg271 => gj_yes rfl rfl rfl (y_move rfl) rfl rfl (gj_yes rfl rfl rfl (y_neq rfl rfl) rfl rfl (gj_nil rfl))) (gj_step (y_or rfl rfl rfl) rfl rfl rfl (gj_step (y_move rfl) rfl rfl rfl (gj_g 2 275 277 rfl rfl rfl rfl (fun hg275 => gj_yes rfl rfl rfl (y_move rfl) rfl rfl (gj_yes rfl rfl rfl (y_neq rfl rfl) rfl rfl (gj_nil rfl))) (gj_step (y_or rfl rfl rfl) rfl rfl rfl (gj_nil ?_))))))))))
              refine ej_th ?_
              refine cj_condF rfl (by decide) ?_
              refine cj_skip (ej_blk (ej_th ?_))
              refine cj_regionG (gj_step (y_move rfl) rfl rfl rfl (gj_step (y_add rfl rfl (by omega)) rfl rfl rfl (gj_step (y_assign rfl) rfl rfl rfl (gj_nil ?_))))
              exact ej_nx (i + 1) (by omega) (by omega) ⟨rfl, rfl, rfl, rfl, rfl, rfl, rfl, rfl, rfl, trivial⟩
            · have h255b := h255
              try simp only [sxb] at h255
              refine cj_exit (ej_then_exit (ej_then_exit (ej_blk_hit ?_)))
              exact ej_ct () trivial ⟨rfl, rfl, rfl, rfl, rfl, rfl, rfl, trivial⟩
          · rintro - -
            dsimp only [List.cons_append, List.nil_append]
            refine cj_seq (cj_region ?_)
            refine oj_call (X := Nat) (fun x => .agg #[.int .i64 1000, .int .i64 16, .int .i64 500, .int .i64 2, .int .i64 50, .int .i64 10, .int .i64 3, .slice (some ⟨x, 0, none⟩) 2 2, .int .i64 100, .int .i64 100000]) (fun _ => []) (fun x => [litS x 1 enInt [103, 104]]) Tryd.call52 rfl (fun w hp => k_deal w) rfl (fun m280 => ?_)
            dsimp only [List.nil_append, List.cons_append]
            refine oj_step (y_build (cs := [.int .i64 101, .int .i64 2, .int .i64 0]) st68 rfl (by kernel_rfl)) rfl rfl rfl ?_
            refine oj_step (y_build (cs := [.int .i64 117, .int .i64 2, .int .i64 0]) st68 rfl (by kernel_rfl)) rfl rfl rfl ?_
            refine oj_buildSlice (cs := [.int .i64 101, .int .i64 2, .int .i64 0, .int .i64 117, .int .i64 2, .int .i64 0]) [.int .i64 0, .int .i64 0, .int .i64 0, .int .i64 0, .int .i64 0, .int .i64 0] Tryd.underlying69 Tryd.sizeOf68 Tryd.zeroValue68 rfl rfl (by kernel_rfl) (by kernel_rfl) rfl (fun b283 => ?_)
            refine oj_callS (fun A c => .tuple #[.slice A ([] : List Acc).length c, .int .i64 1, .int .i64 25]) 5 encAcc ([] : List Acc) Tryd.call34 rfl (fun w hp => e_r1 m280 w hp.rd hp.glo b283 (hp.rdLit (b := b283) (sz := 3) (enc := encAct) ac1 (fun _ => rfl) rfl (by unfold maxLen; simp))) rfl (fun A284 c284 fp284 hfp284 => ?_)
            refine oj_step (y_move rfl) rfl rfl rfl ?_
            refine oj_step (y_extract rfl rfl) rfl rfl rfl ?_
            refine oj_step (y_extract rfl rfl) rfl rfl rfl ?_
            refine oj_step (y_extract rfl rfl) rfl rfl rfl ?_
            refine oj_step (y_assign rfl) rfl rfl rfl ?_
            refine oj_step (y_assign rfl) rfl rfl rfl ?_
            refine oj_step (y_assign rfl) rfl rfl rfl ?_
            refine oj_nil ?_
            refine ej_th (cj_seq (cj_region ?_))
            refine oj_call (X := Nat) (fun x => .agg #[.int .i64 1000, .int .i64 16, .int .i64 500, .int .i64 2, .int .i64 50, .int .i64 10, .int .i64 3, .slice (some ⟨x, 0, none⟩) 2 2, .int .i64 100, .int .i64 100000]) (fun _ => []) (fun x => [litS x 1 enInt [103, 104]]) Tryd.call52 rfl (fun w hp => k_deal w) rfl (fun m289 => ?_)
            dsimp only [List.nil_append, List.cons_append]
            refine oj_step (y_build (cs := [.int .i64 101, .int .i64 3, .int .i64 3]) st68 rfl (by kernel_rfl)) rfl rfl rfl ?_
            refine oj_step (y_build (cs := [.int .i64 103, .int .i64 3, .int .i64 1]) st68 rfl (by kernel_rfl)) rfl rfl rfl ?_
            refine oj_buildSlice (cs := [.int .i64 101, .int .i64 3, .int .i64 3, .int .i64 103, .int .i64 3, .int .i64 1]) [.int .i64 0, .int .i64 0, .int .i64 0, .int .i64 0, .int .i64 0, .int .i64 0] Tryd.underlying69 Tryd.sizeOf68 Tryd.zeroValue68 rfl rfl (by kernel_rfl) (by kernel_rfl) rfl (fun b292 => ?_)
            refine oj_callS (fun A c => .tuple #[.slice A ([] : List Acc).length c, .int .i64 1, .int .i64 26]) 5 encAcc ([] : List Acc) Tryd.call34 rfl (fun w hp => e_r2 m289 w hp.rd hp.glo b292 (hp.rdLit (b := b292) (sz := 3) (enc := encAct) ac2 (fun _ => rfl) rfl (by unfold maxLen; simp))) rfl (fun A293 c293 fp293 hfp293 => ?_)
            refine oj_step (y_move rfl) rfl rfl rfl ?_
            refine oj_step (y_extract rfl rfl) rfl rfl rfl ?_
            refine oj_step (y_extract rfl rfl) rfl rfl rfl ?_
            refine oj_step (y_extract rfl rfl) rfl rfl rfl ?_
            refine oj_step (y_assign rfl) rfl rfl rfl ?_
            refine oj_step (y_assign rfl) rfl rfl rfl ?_
            refine oj_step (y_assign rfl) rfl rfl rfl ?_
            refine oj_nil ?_
            refine ej_th (cj_seq (cj_region ?_))
            refine oj_call (X := Nat) (fun x => .agg #[.int .i64 1000, .int .i64 16, .int .i64 500, .int .i64 2, .int .i64 50, .int .i64 10, .int .i64 3, .slice (some ⟨x, 0, none⟩) 2 2, .int .i64 100, .int .i64 100000]) (fun _ => []) (fun x => [litS x 1 enInt [103, 104]]) Tryd.call52 rfl (fun w hp => k_deal w) rfl (fun m298 => ?_)
            dsimp only [List.nil_append, List.cons_append]
            refine oj_step (y_build (cs := [.int .i64 101, .int .i64 1, .int .i64 100000]) st68 rfl (by kernel_rfl)) rfl rfl rfl ?_
            refine oj_buildSlice (cs := [.int .i64 101, .int .i64 1, .int .i64 100000]) [.int .i64 0, .int .i64 0, .int .i64 0] Tryd.underlying69 Tryd.sizeOf68 Tryd.zeroValue68 rfl rfl (by kernel_rfl) (by kernel_rfl) rfl (fun b300 => ?_)
            refine oj_callS (fun A c => .tuple #[.slice A ([] : List Acc).length c, .int .i64 0, .int .i64 6]) 5 encAcc ([] : List Acc) Tryd.call34 rfl (fun w hp => e_r3 m298 w hp.rd hp.glo b300 (hp.rdLit (b := b300) (sz := 3) (enc := encAct) ac3 (fun _ => rfl) rfl (by unfold maxLen; simp))) rfl (fun A301 c301 fp301 hfp301 => ?_)
            refine oj_step (y_move rfl) rfl rfl rfl ?_
            refine oj_step (y_extract rfl rfl) rfl rfl rfl ?_
            refine oj_step (y_extract rfl rfl) rfl rfl rfl ?_
            refine oj_step (y_extract rfl rfl) rfl rfl rfl ?_
            refine oj_step (y_assign rfl) rfl rfl rfl ?_
            refine oj_step (y_assign rfl) rfl rfl rfl ?_
            refine oj_step (y_assign rfl) rfl rfl rfl ?_
            refine oj_nil ?_
            refine ej_th (cj_seq (cj_region ?_))
            refine oj_call (X := Nat) (fun x => .agg #[.int .i64 1000, .int .i64 16, .int .i64 500, .int .i64 2, .int .i64 50, .int .i64 10, .int .i64 3, .slice (some ⟨x, 0, none⟩) 2 2, .int .i64 100, .int .i64 100000]) (fun _ => []) (fun x => [litS x 1 enInt [103, 104]]) Tryd.call52 rfl (fun w hp => k_deal w) rfl (fun m306 => ?_)
            dsimp only [List.nil_append, List.cons_append]
            refine oj_step (y_build (cs := [.int .i64 101, .int .i64 3, .int .i64 3]) st68 rfl (by kernel_rfl)) rfl rfl rfl ?_
            refine oj_step (y_build (cs := [.int .i64 104, .int .i64 3, .int .i64 1]) st68 rfl (by kernel_rfl)) rfl rfl rfl ?_
            refine oj_step (y_build (cs := [.int .i64 107, .int .i64 4, .int .i64 0]) st68 rfl (by kernel_rfl)) rfl rfl rfl ?_
            refine oj_buildSlice (cs := [.int .i64 101, .int .i64 3, .int .i64 3, .int .i64 104, .int .i64 3, .int .i64 1, .int .i64 107, .int .i64 4, .int .i64 0]) [.int .i64 0, .int .i64 0, .int .i64 0, .int .i64 0, .int .i64 0, .int .i64 0, .int .i64 0, .int .i64 0, .int .i64 0] Tryd.underlying69 Tryd.sizeOf68 Tryd.zeroValue68 rfl rfl (by kernel_rfl) (by kernel_rfl) rfl (fun b310 => ?_)
            refine oj_callS (fun A c => .tuple #[.slice A (rn4 : List Acc).length c, .int .i64 3, .int .i64 0]) 5 encAcc (rn4 : List Acc) Tryd.call34 rfl (fun w hp => e_r4 m306 w hp.rd hp.glo b310 (hp.rdLit (b := b310) (sz := 3) (enc := encAct) ac4 (fun _ => rfl) rfl (by unfold maxLen; simp))) rfl (fun A311 c311 fp311 hfp311 => ?_)
            refine oj_step (y_move rfl) rfl rfl rfl ?_
            refine oj_step (y_extract rfl rfl) rfl rfl rfl ?_
            refine oj_step (y_extract rfl rfl) rfl rfl rfl ?_
            refine oj_step (y_extract rfl rfl) rfl rfl rfl ?_
            refine oj_step (y_assign rfl) rfl rfl rfl ?_
            refine oj_step (y_assign rfl) rfl rfl rfl ?_
            refine oj_step (y_assign rfl) rfl rfl rfl ?_
            refine oj_nil ?_
            refine ej_th ?_
            refine cj_cuti (X := Unit) [(4, _), (6, _), (8, _), (10, _), (12, _), (14, _), (16, _)] ⟨rfl, rfl, rfl, rfl, rfl, rfl, rfl, trivial⟩ (fun _ => True) (fun _ => []) (fun _ => []) (fun _ => [gl 0 WAYS]) ?_ ?_
            · refine cj_seq (cj_region ?_)
              refine oj_step (y_move rfl) rfl rfl rfl ?_
              refine oj_step (y_neq rfl rfl) rfl rfl rfl ?_
              refine oj_step (y_move rfl) rfl rfl rfl ?_
              refine oj_yes rfl rfl rfl ?_
              refine oj_step (y_move rfl) rfl rfl rfl ?_
              refine oj_yes rfl rfl rfl ?_
              refine oj_step (y_neq rfl rfl) rfl rfl rfl ?_
              refine oj_step (y_pick rfl rfl rfl) rfl rfl rfl ?_
              refine oj_step (y_move rfl) rfl rfl rfl ?_
              refine oj_yes rfl rfl rfl ?_
              refine oj_step (y_move rfl) rfl rfl rfl ?_
              refine oj_yes rfl rfl rfl ?_
              refine oj_step (y_neq rfl rfl) rfl rfl rfl ?_
              refine oj_step (y_pick rfl rfl rfl) rfl rfl rfl ?_
              refine oj_step (y_move rfl) rfl rfl rfl ?_
              refine oj_yes rfl rfl rfl ?_
              refine oj_step (y_move rfl) rfl rfl rfl ?_
              refine oj_yes rfl rfl rfl ?_
              refine oj_step (y_neq rfl rfl) rfl rfl rfl ?_
              refine oj_step (y_pick rfl rfl rfl) rfl rfl rfl ?_
              refine oj_step (y_move rfl) rfl rfl rfl ?_
              refine oj_yes rfl rfl rfl ?_
              refine oj_step (y_move rfl) rfl rfl rfl ?_
              refine oj_yes rfl rfl rfl ?_
              refine oj_step (y_neq rfl rfl) rfl rfl rfl ?_
              refine oj_step (y_pick rfl rfl rfl) rfl rfl rfl ?_
              refine oj_step (y_move rfl) rfl rfl rfl ?_
              refine oj_yes rfl rfl rfl ?_
              refine oj_step (y_move rfl) rfl rfl rfl ?_
              refine oj_yes rfl rfl rfl ?_
              refine oj_step (y_neq rfl rfl) rfl rfl rfl ?_
              refine oj_step (y_pick rfl rfl rfl) rfl rfl rfl ?_
              refine oj_step (y_move rfl) rfl rfl rfl ?_
              refine oj_yes rfl rfl rfl ?_
              refine oj_step (y_move rfl) rfl rfl rfl ?_
              refine oj_yes rfl rfl rfl ?_
              refine oj_step (y_neq rfl rfl) rfl rfl rfl ?_
              refine oj_step (y_pick rfl rfl rfl) rfl rfl rfl ?_
              refine oj_step (y_move rfl) rfl rfl rfl ?_
              refine oj_yes rfl rfl rfl ?_
              refine oj_step (y_move rfl) rfl rfl rfl ?_
              refine oj_yes rfl rfl rfl ?_
              refine oj_step (y_neq rfl rfl) rfl rfl rfl ?_
              refine oj_step (y_pick rfl rfl rfl) rfl rfl rfl ?_
              refine oj_step (y_move rfl) rfl rfl rfl ?_
              refine oj_yes rfl rfl rfl ?_
              refine oj_step (y_move rfl) rfl rfl rfl ?_
              refine oj_yes rfl rfl rfl ?_
              refine oj_step (y_lenA Tryd.underlying74 rfl) rfl rfl rfl ?_
              refine oj_yes rfl rfl rfl ?_
              refine oj_step (y_neq rfl rfl) rfl rfl rfl ?_
              refine oj_step (y_pick rfl rfl rfl) rfl rfl rfl ?_
              refine oj_step (y_move rfl) rfl rfl rfl ?_
              refine oj_yes rfl rfl rfl ?_
              refine oj_step (y_move rfl) rfl rfl rfl ?_
              refine oj_yes rfl rfl rfl ?_
              refine oj_step (y_ixR (i := 2) (reads_sl (xs := rn4) (enc := encAcc) (sz := 5)) Tryd.underlying74 Tryd.sizeOf64 rfl rfl ⟨by decide, by decide⟩) rfl rfl rfl ?_
              refine oj_yes rfl rfl rfl ?_
              refine oj_step (y_ldW (reads_sl (xs := rn4) (enc := encAcc) (sz := 5)) Tryd.isAgg64 Tryd.sizeOf64 rfl (show rn4[2]? = some ⟨0, 50, 50, 3, false⟩ from rfl) (fun _ => rfl)) rfl rfl rfl ?_
              refine oj_yes rfl rfl rfl ?_
              refine oj_step (y_build (cs := [.int .i64 0, .int .i64 50, .int .i64 50, .int .i64 3, .bool false]) st64 rfl (by kernel_rfl)) rfl rfl rfl ?_
              refine oj_yes rfl rfl rfl ?_
              refine oj_step (y_bin rfl rfl (fun x y w => ne64 _ _ _ _ _ _ _ _ _ _ x y w)) rfl rfl rfl ?_
              refine oj_step (y_pick rfl rfl rfl) rfl rfl rfl ?_
              refine oj_nil ?_
              refine ej_th ?_
              refine cj_condF rfl (by decide) ?_
              refine cj_skip ?_
              exact ej_ct () trivial ⟨rfl, rfl, rfl, rfl, rfl, rfl, rfl, trivial⟩
            · rintro - -
              dsimp only [List.cons_append, List.nil_append]
              refine cj_seq (cj_region ?_)
              refine oj_call (X := Nat) (fun x => .agg #[.int .i64 1000, .int .i64 16, .int .i64 500, .int .i64 2, .int .i64 50, .int .i64 10, .int .i64 3, .slice (some ⟨x, 0, none⟩) 2 2, .int .i64 100, .int .i64 100000]) (fun _ => []) (fun x => [litS x 1 enInt [103, 104]]) Tryd.call52 rfl (fun w hp => k_deal w) rfl (fun m358 => ?_)
              dsimp only [List.nil_append, List.cons_append]
              refine oj_step (y_call Tryd.call32 rfl (fun w hp => e_o1 m358 w hp.rd hp.glo)) rfl rfl rfl ?_
              refine oj_step (y_move rfl) rfl rfl rfl ?_
              refine oj_step (y_extract rfl rfl) rfl rfl rfl ?_
              refine oj_step (y_extract rfl rfl) rfl rfl rfl ?_
              refine oj_alloc Tryd.zeroValue64 rfl rfl (fun b34 => ?_)
              refine oj_store rfl rfl rfl rfl Tryd.sizeOf64 rfl ?_
              refine oj_step (y_assign rfl) rfl rfl rfl ?_
              refine oj_nil ?_
              refine ej_th (cj_seq (cj_region ?_))
              refine oj_call (X := Nat) (fun x => .agg #[.int .i64 1000, .int .i64 16, .int .i64 500, .int .i64 2, .int .i64 50, .int .i64 10, .int .i64 3, .slice (some ⟨x, 0, none⟩) 2 2, .int .i64 100, .int .i64 100000]) (fun _ => []) (fun x => [litS x 1 enInt [103, 104]]) Tryd.call52 rfl (fun w hp => k_deal w) rfl (fun m363 => ?_)
              dsimp only [List.nil_append, List.cons_append]
              refine oj_step (y_call Tryd.call32 rfl (fun w hp => e_o2 m363 w hp.rd hp.glo)) rfl rfl rfl ?_
              refine oj_step (y_move rfl) rfl rfl rfl ?_
              refine oj_step (y_extract rfl rfl) rfl rfl rfl ?_
              refine oj_step (y_extract rfl rfl) rfl rfl rfl ?_
              refine oj_step (y_assign rfl) rfl rfl rfl ?_
              refine oj_nil ?_
              refine ej_th (cj_seq (cj_region ?_))
              refine oj_call (X := Nat) (fun x => .agg #[.int .i64 1000, .int .i64 16, .int .i64 500, .int .i64 2, .int .i64 50, .int .i64 10, .int .i64 3, .slice (some ⟨x, 0, none⟩) 2 2, .int .i64 100, .int .i64 100000]) (fun _ => []) (fun x => [litS x 1 enInt [103, 104]]) Tryd.call52 rfl (fun w hp => k_deal w) rfl (fun m368 => ?_)
              dsimp only [List.nil_append, List.cons_append]
              refine oj_step (y_build (cs := [.int .i64 110, .int .i64 2, .int .i64 0]) st68 rfl (by kernel_rfl)) rfl rfl rfl ?_
              refine oj_buildSlice (cs := [.int .i64 110, .int .i64 2, .int .i64 0]) [.int .i64 0, .int .i64 0, .int .i64 0] Tryd.underlying69 Tryd.sizeOf68 Tryd.zeroValue68 rfl rfl (by kernel_rfl) (by kernel_rfl) rfl (fun b370 => ?_)
              refine oj_step (y_call Tryd.call32 rfl (fun w hp => e_o3 m368 w hp.rd hp.glo b370 (hp.rdLit (b := b370) (sz := 3) (enc := encAct) ac5 (fun _ => rfl) rfl (by unfold maxLen; simp)))) rfl rfl rfl ?_
              refine oj_step (y_move rfl) rfl rfl rfl ?_
              refine oj_step (y_extract rfl rfl) rfl rfl rfl ?_
              refine oj_step (y_extract rfl rfl) rfl rfl rfl ?_
              refine oj_step (y_assign rfl) rfl rfl rfl ?_
              refine oj_nil ?_
              refine ej_th (cj_seq (cj_region ?_))
              refine oj_call (X := Nat) (fun x => .agg #[.int .i64 1000, .int .i64 16, .int .i64 500, .int .i64 2, .int .i64 50, .int .i64 10, .int .i64 3, .slice (some ⟨x, 0, none⟩) 2 2, .int .i64 100, .int .i64 100000]) (fun _ => []) (fun x => [litS x 1 enInt [103, 104]]) Tryd.call52 rfl (fun w hp => k_deal w) rfl (fun m374 => ?_)
              dsimp only [List.nil_append, List.cons_append]
              refine oj_alloc Tryd.zeroValue44 rfl rfl (fun b35 => ?_)
              refine oj_store rfl rfl rfl rfl Tryd.sizeOf44 rfl ?_
              refine oj_nil ?_
              refine ej_th (cj_seq (cj_region ?_))
              refine oj_step (y_build (cs := [.int .i64 100, .int .i64 16]) st40 rfl (by kernel_rfl)) rfl rfl rfl ?_
              refine oj_step (y_fa0 fa44_0 rfl) rfl rfl rfl ?_
              refine oj_store rfl rfl rfl rfl Tryd.sizeOf40 rfl ?_
              refine oj_nil ?_
              refine ej_th (cj_seq (cj_region ?_))
              refine oj_step (y_loadN Tryd.isAgg44 Tryd.sizeOf44 rfl) rfl rfl rfl ?_
              refine oj_step (y_build (cs := [.int .i64 105, .int .i64 2, .int .i64 0]) st68 rfl (by kernel_rfl)) rfl rfl rfl ?_
              refine oj_buildSlice (cs := [.int .i64 105, .int .i64 2, .int .i64 0]) [.int .i64 0, .int .i64 0, .int .i64 0] Tryd.underlying69 Tryd.sizeOf68 Tryd.zeroValue68 rfl rfl (by kernel_rfl) (by kernel_rfl) rfl (fun b380 => ?_)
              refine oj_step (y_call Tryd.call32 rfl (fun w hp => e_o4 m374 w hp.rd hp.glo b380 (hp.rdLit (b := b380) (sz := 3) (enc := encAct) ac6 (fun _ => rfl) rfl (by unfold maxLen; simp)))) rfl rfl rfl ?_
              refine oj_step (y_move rfl) rfl rfl rfl ?_
              refine oj_step (y_extract rfl rfl) rfl rfl rfl ?_
              refine oj_step (y_extract rfl rfl) rfl rfl rfl ?_
              refine oj_alloc Tryd.zeroValue64 rfl rfl (fun b36 => ?_)
              refine oj_store rfl rfl rfl rfl Tryd.sizeOf64 rfl ?_
              refine oj_step (y_assign rfl) rfl rfl rfl ?_
              refine oj_nil ?_
              refine ej_th (cj_seq (cj_region ?_))
              refine oj_step (y_fa0 fa44_0 rfl) rfl rfl rfl ?_
              refine oj_step (y_fa fa40_1 rfl) rfl rfl rfl ?_
              refine oj_store rfl rfl rfl rfl Tryd.sizeOf3 rfl ?_
              refine oj_nil ?_
              refine ej_th (cj_seq (cj_region ?_))
              refine oj_step (y_loadN Tryd.isAgg44 Tryd.sizeOf44 rfl) rfl rfl rfl ?_
              refine oj_step (y_call Tryd.call32 rfl (fun w hp => e_o5 m374 w hp.rd hp.glo)) rfl rfl rfl ?_
              refine oj_step (y_move rfl) rfl rfl rfl ?_
              refine oj_step (y_extract rfl rfl) rfl rfl rfl ?_
              refine oj_step (y_extract rfl rfl) rfl rfl rfl ?_
              refine oj_alloc Tryd.zeroValue64 rfl rfl (fun b37 => ?_)
              refine oj_store rfl rfl rfl rfl Tryd.sizeOf64 rfl ?_
              refine oj_step (y_assign rfl) rfl rfl rfl ?_
              refine oj_nil ?_
              refine ej_th (cj_seq (cj_region ?_))
              refine oj_call (X := Nat) (fun x => .agg #[.int .i64 1000, .int .i64 16, .int .i64 500, .int .i64 2, .int .i64 50, .int .i64 10, .int .i64 3, .slice (some ⟨x, 0, none⟩) 2 2, .int .i64 100, .int .i64 100000]) (fun _ => []) (fun x => [litS x 1 enInt [103, 104]]) Tryd.call52 rfl (fun w hp => k_deal w) rfl (fun m392 => ?_)
              dsimp only [List.nil_append, List.cons_append]
              refine oj_callS (fun A c => .tuple #[.slice A ([] : List Int).length c, .int .i64 0]) 1 enInt ([] : List Int) Tryd.call24 rfl (fun w hp => e_k1 m392 w hp.rd) rfl (fun A393 c393 fp393 hfp393 => ?_)
              refine oj_step (y_move rfl) rfl rfl rfl ?_
              refine oj_step (y_extract rfl rfl) rfl rfl rfl ?_
              refine oj_step (y_extract rfl rfl) rfl rfl rfl ?_
              refine oj_step (y_assign rfl) rfl rfl rfl ?_
              refine oj_step (y_assign rfl) rfl rfl rfl ?_
              refine oj_nil ?_
              refine ej_th (cj_seq (cj_region ?_))
              refine oj_call (X := Nat) (fun x => .agg #[.int .i64 1000, .int .i64 16, .int .i64 500, .int .i64 2, .int .i64 50, .int .i64 10, .int .i64 3, .slice (some ⟨x, 0, none⟩) 2 2, .int .i64 100, .int .i64 100000]) (fun _ => []) (fun x => [litS x 1 enInt [103, 104]]) Tryd.call52 rfl (fun w hp => k_deal w) rfl (fun m397 => ?_)
              dsimp only [List.nil_append, List.cons_append]
              refine oj_callS (fun A c => .tuple #[.slice A (KeepN dealD 36500).length c, .int .i64 3]) 1 enInt (KeepN dealD 36500) Tryd.call24 rfl (fun w hp => e_k2 m397 w hp.rd) rfl (fun A398 c398 fp398 hfp398 => ?_)
              refine oj_step (y_move rfl) rfl rfl rfl ?_
              refine oj_step (y_extract rfl rfl) rfl rfl rfl ?_
              refine oj_step (y_extract rfl rfl) rfl rfl rfl ?_
              refine oj_step (y_assign rfl) rfl rfl rfl ?_
              refine oj_nil ?_
              refine ej_th (cj_seq (cj_region ?_))
              refine oj_step (y_move rfl) rfl rfl rfl ?_
              refine oj_step (y_eql rfl rfl) rfl rfl rfl ?_
              refine oj_step (y_move rfl) rfl rfl rfl ?_
              refine oj_yes rfl rfl rfl ?_
              refine oj_step (y_loadN Tryd.isAgg64 Tryd.sizeOf64 rfl) rfl rfl rfl ?_
              refine oj_yes rfl rfl rfl ?_
              refine oj_step (y_build (cs := [.int .i64 100000, .int .i64 9800, .int .i64 0, .int .i64 198, .bool true]) st64 rfl (by kernel_rfl)) rfl rfl rfl ?_
              refine oj_yes rfl rfl rfl ?_
              refine oj_step (y_bin rfl rfl (fun x y w => eq64 _ _ _ _ _ _ _ _ _ _ x y w)) rfl rfl rfl ?_
              refine oj_step (y_pick rfl rfl rfl) rfl rfl rfl ?_
              refine oj_step (y_move rfl) rfl rfl rfl ?_
              refine oj_yes rfl rfl rfl ?_
              refine oj_step (y_move rfl) rfl rfl rfl ?_
              refine oj_yes rfl rfl rfl ?_
              refine oj_step (y_eql rfl rfl) rfl rfl rfl ?_
              refine oj_step (y_pick rfl rfl rfl) rfl rfl rfl ?_
              refine oj_step (y_move rfl) rfl rfl rfl ?_
              refine oj_yes rfl rfl rfl ?_
              refine oj_step (y_move rfl) rfl rfl rfl ?_
              refine oj_yes rfl rfl rfl ?_
              refine oj_step (y_eql rfl rfl) rfl rfl rfl ?_
              refine oj_step (y_pick rfl rfl rfl) rfl rfl rfl ?_
              refine oj_step (y_move rfl) rfl rfl rfl ?_
              refine oj_yes rfl rfl rfl ?_
              refine oj_step (y_move rfl) rfl rfl rfl ?_
              refine oj_yes rfl rfl rfl ?_
              refine oj_step (y_eql rfl rfl) rfl rfl rfl ?_
              refine oj_step (y_pick rfl rfl rfl) rfl rfl rfl ?_
              refine oj_step (y_move rfl) rfl rfl rfl ?_
              refine oj_yes rfl rfl rfl ?_
              refine oj_step (y_fa fa64_1 rfl) rfl rfl rfl ?_
              refine oj_yes rfl rfl rfl ?_
              refine oj_step (y_load1 Tryd.isAgg3 rfl rfl) rfl rfl rfl ?_
              refine oj_yes rfl rfl rfl ?_
              refine oj_step (y_eql rfl rfl) rfl rfl rfl ?_
              refine oj_step (y_pick rfl rfl rfl) rfl rfl rfl ?_
              refine oj_step (y_move rfl) rfl rfl rfl ?_
              refine oj_yes rfl rfl rfl ?_
              refine oj_step (y_move rfl) rfl rfl rfl ?_
              refine oj_yes rfl rfl rfl ?_
              refine oj_step (y_eql rfl rfl) rfl rfl rfl ?_
              refine oj_step (y_pick rfl rfl rfl) rfl rfl rfl ?_
              refine oj_step (y_move rfl) rfl rfl rfl ?_
              refine oj_yes rfl rfl rfl ?_
              refine oj_step (y_fa fa64_1 rfl) rfl rfl rfl ?_
              refine oj_yes rfl rfl rfl ?_
              refine oj_step (y_load1 Tryd.isAgg3 rfl rfl) rfl rfl rfl ?_
              refine oj_yes rfl rfl rfl ?_
              refine oj_step (y_eql rfl rfl) rfl rfl rfl ?_
              refine oj_step (y_pick rfl rfl rfl) rfl rfl rfl ?_
              refine oj_step (y_move rfl) rfl rfl rfl ?_
              refine oj_yes rfl rfl rfl ?_
              refine oj_step (y_move rfl) rfl rfl rfl ?_
              refine oj_yes rfl rfl rfl ?_
              refine oj_step (y_eql rfl rfl) rfl rfl rfl ?_
              refine oj_step (y_pick rfl rfl rfl) rfl rfl rfl ?_
              refine oj_step (y_move rfl) rfl rfl rfl ?_
              refine oj_yes rfl rfl rfl ?_
              refine oj_step (y_move rfl) rfl rfl rfl ?_
              refine oj_yes rfl rfl rfl ?_
              refine oj_step (y_lenA Tryd.underlying23 rfl) rfl rfl rfl ?_
              refine oj_yes rfl rfl rfl ?_
              refine oj_step (y_eql rfl rfl) rfl rfl rfl ?_
              refine oj_step (y_pick rfl rfl rfl) rfl rfl rfl ?_
              refine oj_step (y_move rfl) rfl rfl rfl ?_
              refine oj_yes rfl rfl rfl ?_
              refine oj_step (y_move rfl) rfl rfl rfl ?_
              refine oj_yes rfl rfl rfl ?_
              refine oj_step (y_eql rfl rfl) rfl rfl rfl ?_
              refine oj_step (y_pick rfl rfl rfl) rfl rfl rfl ?_
              refine oj_step (y_move rfl) rfl rfl rfl ?_
              refine oj_step (y_pick rfl rfl rfl) rfl rfl rfl ?_
              refine oj_step (y_move rfl) rfl rfl rfl ?_
              refine oj_yes rfl rfl rfl ?_
              refine oj_step (y_call Tryd.call23 rfl (fun w hp => k_works w hp.glo)) rfl rfl rfl ?_
              refine oj_step (y_pick rfl rfl rfl) rfl rfl rfl ?_
              refine oj_step (y_assign rfl) rfl rfl rfl ?_
              refine oj_nil ?_
              refine ej_th (cj_ret ?_)
              exact ej_ret1 rfl Tryd.results14 rfl (fun w' hp => ⟨rfl, hp.below⟩)

end Go.Proofs.YtafmgkiddhappaaDoor
