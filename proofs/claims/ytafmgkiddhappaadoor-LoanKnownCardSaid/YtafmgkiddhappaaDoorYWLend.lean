/- Walks of functions of the program. -/
import Derived.Test.YtafmgkiddhappaaDoorZWb
import Derived.Test.YtafmgkiddhappaaDoorYPLend
import Derived.Test.YtafmgkiddhappaaDoorZSb
import Derived.Test.YtafmgkiddhappaaDoorYTyKeep
import Derived.Test.YtafmgkiddhappaaDoorYTyFair
import Derived.Test.YtafmgkiddhappaaDoorYTyEarly
import Derived.Test.YtafmgkiddhappaaDoorYTyOnce
import Derived.Test.YtafmgkiddhappaaDoorYTyLaw
import Derived.Test.YtafmgkiddhappaaDoorYTyStand
import Derived.Test.YtafmgkiddhappaaDoorYTyRuns
import Derived.Test.YtafmgkiddhappaaDoorYTyLend
namespace Go.Proofs.YtafmgkiddhappaaDoor
open Go.Sx Go.RowKit
set_option maxRecDepth 20000
theorem k_IsWord (s : ByteArray) (w : World) (hs : s.size ≤ 9223372036854775807) : Calls Tryd.prog 75 #[.string s] w (fun e w' => e = .returned (.bool (isW s)) ∧ Grow w w') := by
  refine enter_pure (args := [.string s]) [] Tryd.func75 rfl (by rw [Tryd.ntmps75]; simp) (by simp) ?_
  refine cj_seq ?_
  refine cj_regionG (gj_step (y_assign rfl) rfl rfl rfl (gj_nil ?_))
  refine ej_th (cj_seq (cj_seq ?_))
  refine cj_regionG (gj_step (y_move rfl) rfl rfl rfl (gj_step (y_lenS Tryd.underlying9 rfl) rfl rfl rfl (gj_step (y_eql rfl rfl) rfl rfl rfl (gj_step (y_move rfl) rfl rfl rfl (gj_g 3 8 11 rfl rfl rfl rfl (fun hg8 => gj_yes rfl rfl rfl (y_move rfl) rfl rfl (gj_yes rfl rfl rfl (y_lenS Tryd.underlying9 rfl) rfl rfl (gj_yes rfl rfl rfl (y_gtr rfl rfl) rfl rfl (gj_nil rfl)))) (gj_step (y_or rfl rfl rfl) rfl rfl rfl (gj_step (y_move rfl) rfl rfl rfl (gj_g 3 13 16 rfl rfl rfl rfl (fun hg13 => gj_yes rfl rfl rfl (y_move rfl) rfl rfl (gj_yes rfl rfl rfl (y_indexS Tryd.underlying9 rfl rfl (by omega) (bs_first (by have := hg13; simp only [sxb] at this; omega))) rfl rfl (gj_yes rfl rfl rfl (y_lss rfl rfl) rfl rfl (gj_nil rfl)))) (gj_step (y_or rfl rfl rfl) rfl rfl rfl (gj_step (y_move rfl) rfl rfl rfl (gj_g 3 18 21 rfl rfl rfl rfl (fun hg18 => gj_yes rfl rfl rfl (y_move rfl) rfl rfl (gj_yes rfl rfl rfl (y_indexS Tryd.underlying9 rfl rfl (by omega) (bs_first (by have := hg18; simp only [sxb] at this; omega))) rfl rfl (gj_yes rfl rfl rfl (y_gtr rfl rfl) rfl rfl (gj_nil rfl)))) (gj_step (y_or rfl rfl rfl) rfl rfl rfl (gj_nil ?_)))))))))))))
  refine ej_th ?_
  refine cj_cond rfl (fun h22 => ?_) (fun h22 => ?_)
  · have h22b := h22
    try simp only [sxb] at h22
    refine cj_seq ?_
    refine cj_regionG (gj_step (y_assign rfl) rfl rfl rfl (gj_nil ?_))
    refine ej_th (cj_ret (ej_then_ret ?_))
    refine ej_ret1 rfl Tryd.results75 rfl (fun w' hp => ⟨?_, hp.below⟩)
    have : isW s = false := by
      unfold isW letB
      simp only [Bool.and_eq_false_iff, decide_eq_false_iff_not]
      omega
    rw [this]
  · have h22b := h22
    try simp only [sxb] at h22
    simp only [Bool.or_eq_false_iff, decide_eq_false_iff_not] at h22b
    refine cj_skip (ej_th (cj_seq (cj_seq ?_)))
    refine cj_regionG (gj_step (y_move rfl) rfl rfl rfl (gj_step (y_lenS Tryd.underlying9 rfl) rfl rfl rfl (gj_step (y_move rfl) rfl rfl rfl (gj_nil ?_))))
    refine ej_th (cj_block ?_)
    refine cj_lpic (X := Nat) [(0, _), (24, _)] (fun k => k ≤ s.size ∧ ((bsOf s).drop k).all okBs = (bsOf s).all okBs) (fun k => [(25, .int .i64 k)]) (fun k => s.size - k) 0 (⟨Nat.zero_le _, rfl⟩) ⟨rfl, rfl, rfl, trivial⟩ ?_
    rintro k ⟨hk, hl⟩
    dsimp only [List.cons_append, List.nil_append]
    refine cj_seq ?_
    refine cj_regionG (gj_step (y_lss rfl rfl) rfl rfl rfl (gj_nil ?_))
    refine ej_th (cj_seq ?_)
    refine cj_cond rfl (fun h26 => ?_) (fun h26 => ?_)
    · have h26b := h26
      try simp only [sxb] at h26
      have hbl := bs_len s
      obtain ⟨b, hx⟩ : ∃ b, (bsOf s)[k]? = some b := ⟨_, List.getElem?_eq_getElem (by omega)⟩
      rw [all_drop okBs (bsOf s) k b hx] at hl
      refine cj_skip (ej_th (cj_seq (cj_block (cj_seq ?_))))
      refine cj_regionG (gj_step (y_move rfl) rfl rfl rfl (gj_step (y_assign rfl) rfl rfl rfl (gj_nil ?_)))
      refine ej_th (cj_seq ?_)
      refine cj_regionG (gj_step (y_move rfl) rfl rfl rfl (gj_step (y_move rfl) rfl rfl rfl (gj_step (y_indexS Tryd.underlying9 rfl rfl (by omega) (bs_get hx)) rfl rfl rfl (gj_step (y_assign rfl) rfl rfl rfl (gj_nil ?_)))))
      refine ej_th (cj_seq ?_)
      refine cj_regionG (gj_step (y_move rfl) rfl rfl rfl (gj_step (y_lss rfl rfl) rfl rfl rfl (gj_step (y_move rfl) rfl rfl rfl (gj_g 2 33 35 rfl rfl rfl rfl (fun hg33 => gj_yes rfl rfl rfl (y_move rfl) rfl rfl (gj_yes rfl rfl rfl (y_gtr rfl rfl) rfl rfl (gj_nil rfl))) (gj_step (y_or rfl rfl rfl) rfl rfl rfl (gj_step (y_move rfl) rfl rfl rfl (gj_g 6 37 43 rfl rfl rfl rfl (fun hg37 => gj_yes rfl rfl rfl (y_move rfl) rfl rfl (gj_yes rfl rfl rfl (y_lss rfl rfl) rfl rfl (gj_yes rfl rfl rfl (y_move rfl) rfl rfl (gj_g 2 40 42 rfl rfl rfl rfl (fun hg40 => gj_yes rfl rfl rfl (y_move rfl) rfl rfl (gj_yes rfl rfl rfl (y_gtr rfl rfl) rfl rfl (gj_nil rfl))) (gj_yes rfl rfl rfl (y_or rfl rfl rfl) rfl rfl (gj_nil rfl)))))) (gj_step (y_and rfl rfl rfl) rfl rfl rfl (gj_step (y_move rfl) rfl rfl rfl (gj_g 2 45 47 rfl rfl rfl rfl (fun hg45 => gj_yes rfl rfl rfl (y_move rfl) rfl rfl (gj_yes rfl rfl rfl (y_neq rfl rfl) rfl rfl (gj_nil rfl))) (gj_step (y_and rfl rfl rfl) rfl rfl rfl (gj_nil ?_))))))))))))
      refine ej_th ?_
      refine cj_cond rfl (fun h48 => ?_) (fun h48 => ?_)
      · have h48b := h48
        try simp only [sxb] at h48
        refine cj_seq ?_
        refine cj_regionG (gj_step (y_assign rfl) rfl rfl rfl (gj_nil ?_))
        refine ej_th (cj_ret (ej_blk_ret (ej_then_ret (ej_then_ret (ej_blk_ret (ej_then_ret ?_))))))
        exact ej_ret1 rfl Tryd.results75 rfl (fun w' hp => ⟨by rw [isW, ← hl, show okBs b = false from not_t ((okB_V b.toNat).symm.trans h48b)]; simp, hp.below⟩)
      · have h48b := h48
        try simp only [sxb] at h48
        refine cj_skip (ej_blk (ej_th ?_))
        refine cj_regionG (gj_step (y_add rfl rfl (by omega)) rfl rfl rfl (gj_step (y_move rfl) rfl rfl rfl (gj_nil ?_)))
        refine ej_nx (k + 1) (by omega) ⟨by omega, ?_⟩ ⟨rfl, rfl, rfl, trivial⟩
        rw [← hl, show okBs b = true from not_f ((okB_V b.toNat).symm.trans h48b), Bool.true_and]
    · have h26b := h26
      try simp only [sxb] at h26
      refine cj_exit (ej_then_exit (ej_then_exit (ej_blk_hit (ej_th (cj_seq ?_)))))
      refine cj_regionG (gj_step (y_assign rfl) rfl rfl rfl (gj_nil ?_))
      refine ej_th (cj_ret ?_)
      refine ej_ret1 rfl Tryd.results75 rfl (fun w' hp => ⟨?_, hp.below⟩)
      have hbl := bs_len s
      rw [List.drop_of_length_le (by omega)] at hl
      rw [isW, ← hl, decide_eq_true (by omega), decide_eq_true (by omega)]
      unfold letB
      rw [decide_eq_true (by omega), decide_eq_true (by omega)]; rfl

theorem k_rIsWord (s : ByteArray) (w : World) (hs : s.size ≤ 9223372036854775807) : Calls Tryd.prog 76 #[.string s] w (fun e w' => e = .returned (.bool (isW s)) ∧ Grow w w') := by
  refine enter_pure (args := [.string s]) [] Tryd.func76 rfl (by rw [Tryd.ntmps76]; simp) (by simp) ?_
  refine cj_seq ?_
  refine cj_regionG (gj_step (y_assign rfl) rfl rfl rfl (gj_nil ?_))
  refine ej_th (cj_seq (cj_seq ?_))
  refine cj_regionG (gj_step (y_assign rfl) rfl rfl rfl (gj_nil ?_))
  refine ej_th (cj_block ?_)
  refine cj_lpic (X := Nat) [(0, _)] (fun k => k ≤ s.size ∧ (0 < k → letB ((bsOf s).getD 0 0).toNat = true) ∧ ((bsOf s).drop k).all okBs = (bsOf s).all okBs) (fun k => [(3, .int .i64 k)]) (fun k => s.size - k) 0 (⟨Nat.zero_le _, by simp, rfl⟩) ⟨rfl, rfl, trivial⟩ ?_
  rintro k ⟨hk, hfi, hl⟩
  dsimp only [List.cons_append, List.nil_append]
  refine cj_seq (cj_seq ?_)
  refine cj_regionG (gj_step (y_move rfl) rfl rfl rfl (gj_step (y_move rfl) rfl rfl rfl (gj_step (y_lenS Tryd.underlying9 rfl) rfl rfl rfl (gj_step (y_lss rfl rfl) rfl rfl rfl (gj_nil ?_)))))
  refine ej_th ?_
  refine cj_cond rfl (fun h9 => ?_) (fun h9 => ?_)
  · have h9b := h9
    try simp only [sxb] at h9
    have hbl := bs_len s
    obtain ⟨b, hx⟩ : ∃ b, (bsOf s)[k]? = some b := ⟨_, List.getElem?_eq_getElem (by omega)⟩
    rw [all_drop okBs (bsOf s) k b hx] at hl
    refine cj_skip (ej_th (cj_seq (cj_block (cj_seq ?_))))
    refine cj_regionG (gj_step (y_move rfl) rfl rfl rfl (gj_step (y_move rfl) rfl rfl rfl (gj_step (y_indexS Tryd.underlying9 rfl rfl (by omega) (bs_get hx)) rfl rfl rfl (gj_step (y_assign rfl) rfl rfl rfl (gj_nil ?_)))))
    refine ej_th (cj_seq ?_)
    refine cj_regionG (gj_step (y_move rfl) rfl rfl rfl (gj_step (y_leq rfl rfl) rfl rfl rfl (gj_step (y_move rfl) rfl rfl rfl (gj_g 2 17 19 rfl rfl rfl rfl (fun hg17 => gj_yes rfl rfl rfl (y_move rfl) rfl rfl (gj_yes rfl rfl rfl (y_leq rfl rfl) rfl rfl (gj_nil rfl))) (gj_step (y_and rfl rfl rfl) rfl rfl rfl (gj_step (y_assign rfl) rfl rfl rfl (gj_nil ?_)))))))
    refine ej_th (cj_seq ?_)
    refine cj_regionG (gj_step (y_move rfl) rfl rfl rfl (gj_step (y_not rfl) rfl rfl rfl (gj_step (y_move rfl) rfl rfl rfl (gj_g 15 23 38 rfl rfl rfl rfl (fun hg23 => gj_yes rfl rfl rfl (y_move rfl) rfl rfl (gj_yes rfl rfl rfl (y_eql rfl rfl) rfl rfl (gj_yes rfl rfl rfl (y_move rfl) rfl rfl (gj_g 11 26 37 rfl rfl rfl rfl (fun hg26 => gj_yes rfl rfl rfl (y_move rfl) rfl rfl (gj_yes rfl rfl rfl (y_neq rfl rfl) rfl rfl (gj_yes rfl rfl rfl (y_move rfl) rfl rfl (gj_g 7 29 36 rfl rfl rfl rfl (fun hg29 => gj_yes rfl rfl rfl (y_move rfl) rfl rfl (gj_yes rfl rfl rfl (y_leq rfl rfl) rfl rfl (gj_yes rfl rfl rfl (y_move rfl) rfl rfl (gj_g 2 32 34 rfl rfl rfl rfl (fun hg32 => gj_yes rfl rfl rfl (y_move rfl) rfl rfl (gj_yes rfl rfl rfl (y_leq rfl rfl) rfl rfl (gj_nil rfl))) (gj_yes rfl rfl rfl (y_and rfl rfl rfl) rfl rfl (gj_yes rfl rfl rfl (y_not rfl) rfl rfl (gj_nil rfl))))))) (gj_yes rfl rfl rfl (y_and rfl rfl rfl) rfl rfl (gj_nil rfl)))))) (gj_yes rfl rfl rfl (y_or rfl rfl rfl) rfl rfl (gj_nil rfl)))))) (gj_step (y_and rfl rfl rfl) rfl rfl rfl (gj_nil ?_))))))
    refine ej_th ?_
    refine cj_cond rfl (fun h39 => ?_) (fun h39 => ?_)
    · have h39b := h39
      try simp only [sxb] at h39
      refine cj_seq ?_
      refine cj_regionG (gj_step (y_assign rfl) rfl rfl rfl (gj_nil ?_))
      refine ej_th (cj_ret (ej_blk_ret (ej_then_ret (ej_then_ret (ej_blk_ret (ej_then_ret ?_))))))
      refine ej_ret1 rfl Tryd.results76 rfl (fun w' hp => ⟨?_, hp.below⟩)
      have hst := not_t ((okB_R b.toNat k).symm.trans h39b)
      rw [isW, ← hl]
      cases ho : okBs b
      · simp
      · have h1 : okB b.toNat = true := ho
        rw [h1, Bool.true_and, Bool.or_eq_false_iff] at hst
        have h0 : k = 0 := by simpa using hst.2
        subst h0
        have h2 : (bsOf s).getD 0 0 = b := by rw [List.getD_eq_getElem?_getD, hx]; rfl
        rw [h2, hst.1]; simp
    · have h39b := h39
      try simp only [sxb] at h39
      refine cj_skip (ej_blk (ej_th ?_))
      refine cj_regionG (gj_step (y_move rfl) rfl rfl rfl (gj_step (y_add rfl rfl (by omega)) rfl rfl rfl (gj_step (y_assign rfl) rfl rfl rfl (gj_nil ?_))))
      have hst := not_f ((okB_R b.toNat k).symm.trans h39b)
      rw [Bool.and_eq_true] at hst
      refine ej_nx (k + 1) (by omega) ⟨by omega, fun _ => ?_, ?_⟩ ⟨rfl, rfl, trivial⟩
      · by_cases h0 : k = 0
        · subst h0
          have h2 := hst.2
          simp only [Int.natCast_zero, beq_self_eq_true, Bool.not_true, Bool.or_false] at h2
          rw [List.getD_eq_getElem?_getD, hx]; exact h2
        · exact hfi (by omega)
      · rw [← hl, show okBs b = true from hst.1, Bool.true_and]
  · have h9b := h9
    try simp only [sxb] at h9
    refine cj_exit (ej_then_exit (ej_then_exit (ej_blk_hit (ej_th (cj_seq ?_)))))
    refine cj_regionG ?_
    refine gj_step (y_move rfl) rfl rfl rfl (gj_step (y_lenS Tryd.underlying9 rfl) rfl rfl rfl (?_))
    refine gj_step (y_call Tryd.call26 rfl (fun w hp => k_From _ _ _ w)) rfl rfl rfl ?_
    refine gj_step (y_assign rfl) rfl rfl rfl (?_)
    refine gj_nil ?_
    refine ej_th (cj_ret ?_)
    refine ej_ret1 rfl Tryd.results76 rfl (fun w' hp => ⟨?_, hp.below⟩)
    have hbl := bs_len s
    rw [List.drop_of_length_le (by omega)] at hl
    rw [isW, ← hl]
    by_cases h0 : 1 ≤ (s.size : Int)
    · rw [hfi (by omega)]; simp
    · rw [decide_eq_false h0]; simp

theorem k_rCheckTerms (fr fl cap : Int) (w : World)  : Calls Tryd.prog 46 #[.agg #[.int .i64 fr, .int .i64 fl, .int .i64 cap]] w (fun e w' => e = .returned (.int .i64 (errT (badTerms fr fl cap))) ∧ Grow w w') := by
  refine enter_pure (args := [.agg #[.int .i64 fr, .int .i64 fl, .int .i64 cap]]) [] Tryd.func46 rfl (by rw [Tryd.ntmps46]; simp) (by simp) ?_
  refine cj_seq (cj_region ?_)
  refine oj_box rfl rfl rfl (fun b1 => ?_)
  refine oj_step (y_assign rfl) rfl rfl rfl ?_
  refine oj_nil ?_
  refine ej_th (cj_seq (cj_seq ?_))
  refine cj_regionG ?_
  refine gj_step (y_fa0 fa52_0 rfl) rfl rfl rfl (gj_step (y_load1 Tryd.isAgg3 rfl rfl) rfl rfl rfl (?_))
  refine gj_step (y_call Tryd.call26 rfl (fun w hp => k_From _ _ _ w)) rfl rfl rfl ?_
  refine gj_step (y_not rfl) rfl rfl rfl (gj_step (y_move rfl) rfl rfl rfl (?_))
  refine gj_g 4 7 11 rfl rfl rfl rfl (fun hg7 => gj_yes rfl rfl rfl (y_fa fa52_2 rfl) rfl rfl (gj_yes rfl rfl rfl (y_load1 Tryd.isAgg3 rfl rfl) rfl rfl (gj_yes rfl rfl rfl (y_call Tryd.call26 rfl (fun w hp => k_From _ _ _ w)) rfl rfl (gj_yes rfl rfl rfl (y_not rfl) rfl rfl (gj_nil rfl))))) ?_
  refine gj_step (y_or rfl rfl rfl) rfl rfl rfl (gj_step (y_move rfl) rfl rfl rfl (?_))
  refine gj_g 6 13 19 rfl rfl rfl rfl (fun hg13 => gj_yes rfl rfl rfl (y_fa fa52_1 rfl) rfl rfl (gj_yes rfl rfl rfl (y_load1 Tryd.isAgg3 rfl rfl) rfl rfl (gj_yes rfl rfl rfl (y_fa fa52_2 rfl) rfl rfl (gj_yes rfl rfl rfl (y_load1 Tryd.isAgg3 rfl rfl) rfl rfl (gj_yes rfl rfl rfl (y_call Tryd.call26 rfl (fun w hp => k_From _ _ _ w)) rfl rfl (gj_yes rfl rfl rfl (y_not rfl) rfl rfl (gj_nil rfl))))))) ?_
  refine gj_step (y_or rfl rfl rfl) rfl rfl rfl (?_)
  refine gj_nil ?_
  refine ej_th ?_
  refine cj_cond rfl (fun h20 => ?_) (fun h20 => ?_)
  · have h20b := h20
    try simp only [sxb] at h20
    refine cj_seq ?_
    refine cj_regionG (gj_step (y_assign rfl) rfl rfl rfl (gj_nil ?_))
    refine ej_th (cj_ret (ej_then_ret ?_))
    refine ej_ret1 rfl Tryd.results46 rfl (fun w' hp => ⟨?_, hp.below⟩)
    rw [show badTerms fr fl cap = true from h20b]; rfl
  · have h20b := h20
    try simp only [sxb] at h20
    refine cj_skip (ej_th (cj_seq ?_))
    refine cj_regionG (gj_step (y_assign rfl) rfl rfl rfl (gj_nil ?_))
    refine ej_th (cj_ret ?_)
    refine ej_ret1 rfl Tryd.results46 rfl (fun w' hp => ⟨?_, hp.below⟩)
    rw [show badTerms fr fl cap = false from h20b]; rfl

theorem k_rMost (fr fl cap lo hi : Int) (w : World)  : Calls Tryd.prog 44 #[.agg #[.int .i64 fr, .int .i64 fl, .int .i64 cap], .agg #[.int .i64 lo, .int .i64 hi]] w (fun e w' => e = .returned (.tuple #[.int .i64 (MostN fr fl cap lo hi), .int .i64 (MostE fr fl cap lo hi)]) ∧ Grow w w') := by
  refine enter_pure (args := [.agg #[.int .i64 fr, .int .i64 fl, .int .i64 cap], .agg #[.int .i64 lo, .int .i64 hi]]) [] Tryd.func44 rfl (by rw [Tryd.ntmps44]; simp) (by simp) ?_
  refine cj_seq (cj_region ?_)
  refine oj_box rfl rfl rfl (fun b2 => ?_)
  refine oj_box rfl rfl rfl (fun b3 => ?_)
  refine oj_step (y_assign rfl) rfl rfl rfl ?_
  refine oj_step (y_assign rfl) rfl rfl rfl ?_
  refine oj_nil ?_
  refine ej_th (cj_seq (cj_seq ?_))
  refine cj_regionG ?_
  refine gj_step (y_loadN Tryd.isAgg52 Tryd.sizeOf52 rfl) rfl rfl rfl (?_)
  refine gj_step (y_call Tryd.call46 rfl (fun w hp => k_rCheckTerms _ _ _ w)) rfl rfl rfl ?_
  refine gj_step (y_assign rfl) rfl rfl rfl (?_)
  refine gj_nil ?_
  refine ej_th (cj_seq ?_)
  refine cj_regionG (gj_step (y_move rfl) rfl rfl rfl (gj_step (y_neq rfl rfl) rfl rfl rfl (gj_nil ?_)))
  refine ej_th ?_
  refine cj_cond rfl (fun h11 => ?_) (fun h11 => ?_)
  · have h11b := h11
    try simp only [sxb] at h11
    rw [errT_ne] at h11
    refine cj_seq ?_
    refine cj_regionG (gj_step (y_move rfl) rfl rfl rfl (gj_step (y_assign rfl) rfl rfl rfl (gj_step (y_assign rfl) rfl rfl rfl (gj_nil ?_))))
    refine ej_th (cj_ret (ej_then_ret ?_))
    have h1 : MostN fr fl cap lo hi = 0 := by simp [MostN, h11]
    have h2 : MostE fr fl cap lo hi = 22 := by simp [MostE, h11]
    rw [h1, h2]
    exact ej_ret2 rfl Tryd.results44 rfl rfl (fun w' hp => ⟨by rw [h11]; rfl, hp.below⟩)
  · have h11b := h11
    try simp only [sxb] at h11
    rw [errT_eq] at h11
    obtain ⟨hfr, hcap, hfl⟩ := badTerms_no h11
    refine cj_skip (ej_th (cj_seq (cj_seq ?_)))
    refine cj_regionG ?_
    refine gj_step (y_loadN Tryd.isAgg27 Tryd.sizeOf27 rfl) rfl rfl rfl (?_)
    refine gj_step (y_call Tryd.call62 rfl (fun w hp => k_rspan _ _ _ _ w)) rfl rfl rfl ?_
    refine gj_step (y_not rfl) rfl rfl rfl (?_)
    refine gj_nil ?_
    refine ej_th ?_
    refine cj_cond rfl (fun h15 => ?_) (fun h15 => ?_)
    · have h15b := h15
      try simp only [sxb] at h15
      have hs : spanOk lo hi 2147483648 = false := not_t h15b
      refine cj_seq ?_
      refine cj_regionG (gj_step (y_assign rfl) rfl rfl rfl (gj_step (y_assign rfl) rfl rfl rfl (gj_nil ?_)))
      refine ej_th (cj_ret (ej_then_ret ?_))
      have h1 : MostN fr fl cap lo hi = 0 := by simp [MostN, h11, hs]
      have h2 : MostE fr fl cap lo hi = 7 := by simp [MostE, h11, hs]
      rw [h1, h2]
      exact ej_ret2 rfl Tryd.results44 rfl rfl (fun w' hp => ⟨rfl, hp.below⟩)
    · have h15b := h15
      try simp only [sxb] at h15
      have hs : spanOk lo hi 2147483648 = true := not_f h15b
      have hs2 := hs
      simp only [spanOk, Bool.and_eq_true, decide_eq_true_eq] at hs2
      have hq := frac_bd hfr (show 0 ≤ lo ∧ lo ≤ 2147483648 by omega)
      refine cj_skip (ej_th (cj_seq ?_))
      refine cj_regionG ?_
      refine gj_step (y_fa0 fa27_0 rfl) rfl rfl rfl (gj_step (y_load1 Tryd.isAgg3 rfl rfl) rfl rfl rfl (gj_step (y_fa0 fa52_0 rfl) rfl rfl rfl (gj_step (y_load1 Tryd.isAgg3 rfl rfl) rfl rfl rfl (gj_step (y_mul rfl rfl (by omega)) rfl rfl rfl (?_)))))
      refine gj_step (y_call Tryd.call29 rfl (fun w hp => k_Down _ _ w (by omega) (by omega))) rfl rfl rfl ?_
      refine gj_step (y_assign rfl) rfl rfl rfl (?_)
      refine gj_nil ?_
      refine ej_th (cj_seq (cj_seq ?_))
      refine cj_regionG (gj_step (y_move rfl) rfl rfl rfl (gj_step (y_fa fa52_1 rfl) rfl rfl rfl (gj_step (y_load1 Tryd.isAgg3 rfl rfl) rfl rfl rfl (gj_step (y_lss rfl rfl) rfl rfl rfl (gj_nil ?_)))))
      refine ej_th ?_
      refine cj_cond rfl (fun h25 => ?_) (fun h25 => ?_)
      · have h25b := h25
        try simp only [sxb] at h25
        refine cj_regionG (gj_step (y_fa fa52_1 rfl) rfl rfl rfl (gj_step (y_load1 Tryd.isAgg3 rfl rfl) rfl rfl rfl (gj_step (y_fa0 fa27_0 rfl) rfl rfl rfl (gj_step (y_load1 Tryd.isAgg3 rfl rfl) rfl rfl rfl (gj_step (y_min rfl rfl) rfl rfl rfl (gj_step (y_assign rfl) rfl rfl rfl (gj_nil ?_)))))))
        refine ej_th (cj_seq ?_)
        refine cj_regionG (gj_step (y_move rfl) rfl rfl rfl (gj_step (y_fa fa52_2 rfl) rfl rfl rfl (gj_step (y_load1 Tryd.isAgg3 rfl rfl) rfl rfl rfl (gj_step (y_min rfl rfl) rfl rfl rfl (gj_step (y_assign rfl) rfl rfl rfl (gj_step (y_assign rfl) rfl rfl rfl (gj_nil ?_)))))))
        refine ej_th (cj_ret ?_)
        have h1 : MostN fr fl cap lo hi = min (min fl lo) cap := by simp only [MostN, h11, hs, Bool.false_eq_true, if_false, if_true, mostOf]; rw [if_pos h25]
        have h2 : MostE fr fl cap lo hi = 0 := by simp [MostE, h11, hs]
        rw [h1, h2]
        exact ej_ret2 rfl Tryd.results44 rfl rfl (fun w' hp => ⟨rfl, hp.below⟩)
      · have h25b := h25
        try simp only [sxb] at h25
        refine cj_skip (ej_th (cj_seq ?_))
        refine cj_regionG (gj_step (y_move rfl) rfl rfl rfl (gj_step (y_fa fa52_2 rfl) rfl rfl rfl (gj_step (y_load1 Tryd.isAgg3 rfl rfl) rfl rfl rfl (gj_step (y_min rfl rfl) rfl rfl rfl (gj_step (y_assign rfl) rfl rfl rfl (gj_step (y_assign rfl) rfl rfl rfl (gj_nil ?_)))))))
        refine ej_th (cj_ret ?_)
        have h1 : MostN fr fl cap lo hi = min (lo * fr / 64) cap := by simp only [MostN, h11, hs, Bool.false_eq_true, if_false, if_true, mostOf]; rw [if_neg (by omega)]
        have h2 : MostE fr fl cap lo hi = 0 := by simp [MostE, h11, hs]
        rw [h1, h2]
        exact ej_ret2 rfl Tryd.results44 rfl rfl (fun w' hp => ⟨rfl, hp.below⟩)

theorem k_rLend (fr fl cap lo hi wish : Int) (w : World)  : Calls Tryd.prog 47 #[.agg #[.int .i64 fr, .int .i64 fl, .int .i64 cap], .agg #[.int .i64 lo, .int .i64 hi], .int .i64 wish] w (fun e w' => e = .returned (.tuple #[.int .i64 (LendN fr fl cap lo hi wish), .int .i64 (LendE fr fl cap lo hi wish)]) ∧ Grow w w') := by
  refine enter_pure (args := [.agg #[.int .i64 fr, .int .i64 fl, .int .i64 cap], .agg #[.int .i64 lo, .int .i64 hi], .int .i64 wish]) [] Tryd.func47 rfl (by rw [Tryd.ntmps47]; simp) (by simp) ?_
  refine cj_seq (cj_region ?_)
  refine oj_box rfl rfl rfl (fun b3 => ?_)
  refine oj_box rfl rfl rfl (fun b4 => ?_)
  refine oj_step (y_assign rfl) rfl rfl rfl ?_
  refine oj_step (y_assign rfl) rfl rfl rfl ?_
  refine oj_nil ?_
  refine ej_th (cj_seq ?_)
  refine cj_regionG ?_
  refine gj_step (y_loadN Tryd.isAgg52 Tryd.sizeOf52 rfl) rfl rfl rfl (gj_step (y_loadN Tryd.isAgg27 Tryd.sizeOf27 rfl) rfl rfl rfl (?_))
  refine gj_step (y_call Tryd.call44 rfl (fun w hp => k_rMost _ _ _ _ _ w)) rfl rfl rfl ?_
  refine gj_step (y_move rfl) rfl rfl rfl (gj_step (y_extract rfl rfl) rfl rfl rfl (gj_step (y_extract rfl rfl) rfl rfl rfl (gj_step (y_assign rfl) rfl rfl rfl (gj_step (y_assign rfl) rfl rfl rfl (?_)))))
  refine gj_nil ?_
  refine ej_th (cj_seq (cj_seq ?_))
  refine cj_regionG (gj_step (y_move rfl) rfl rfl rfl (gj_step (y_neq rfl rfl) rfl rfl rfl (gj_nil ?_)))
  refine ej_th ?_
  refine cj_cond rfl (fun h17 => ?_) (fun h17 => ?_)
  · have h17b := h17
    try simp only [sxb] at h17
    refine cj_seq ?_
    refine cj_regionG (gj_step (y_move rfl) rfl rfl rfl (gj_step (y_assign rfl) rfl rfl rfl (gj_step (y_assign rfl) rfl rfl rfl (gj_nil ?_))))
    refine ej_th (cj_ret (ej_then_ret ?_))
    have h1 : LendN fr fl cap lo hi wish = 0 := by simp [LendN, h17]
    have h2 : LendE fr fl cap lo hi wish = MostE fr fl cap lo hi := by simp [LendE, h17]
    rw [h1, h2]
    exact ej_ret2 rfl Tryd.results47 rfl rfl (fun w' hp => ⟨rfl, hp.below⟩)
  · have h17b := h17
    try simp only [sxb] at h17
    refine cj_skip (ej_th (cj_seq (cj_seq ?_)))
    refine cj_regionG ?_
    refine gj_step (y_move rfl) rfl rfl rfl (?_)
    refine gj_step (y_call Tryd.call26 rfl (fun w hp => k_From _ _ _ w)) rfl rfl rfl ?_
    refine gj_step (y_not rfl) rfl rfl rfl (?_)
    refine gj_nil ?_
    refine ej_th ?_
    refine cj_cond rfl (fun h21 => ?_) (fun h21 => ?_)
    · have h21b := h21
      try simp only [sxb] at h21
      have hb : btw 1 wish 1073741824 = false := not_t h21b
      refine cj_seq ?_
      refine cj_regionG (gj_step (y_assign rfl) rfl rfl rfl (gj_step (y_assign rfl) rfl rfl rfl (gj_nil ?_)))
      refine ej_th (cj_ret (ej_then_ret ?_))
      have h1 : LendN fr fl cap lo hi wish = 0 := by simp [LendN, h17, hb]
      have h2 : LendE fr fl cap lo hi wish = 7 := by simp [LendE, h17, hb]
      rw [h1, h2]
      exact ej_ret2 rfl Tryd.results47 rfl rfl (fun w' hp => ⟨rfl, hp.below⟩)
    · have h21b := h21
      try simp only [sxb] at h21
      have hb : btw 1 wish 1073741824 = true := not_f h21b
      refine cj_skip (ej_th (cj_seq (cj_seq ?_)))
      refine cj_regionG (gj_step (y_move rfl) rfl rfl rfl (gj_step (y_eql rfl rfl) rfl rfl rfl (gj_nil ?_)))
      refine ej_th ?_
      refine cj_cond rfl (fun h23 => ?_) (fun h23 => ?_)
      · have h23b := h23
        try simp only [sxb] at h23
        refine cj_seq ?_
        refine cj_regionG (gj_step (y_assign rfl) rfl rfl rfl (gj_step (y_assign rfl) rfl rfl rfl (gj_nil ?_)))
        refine ej_th (cj_ret (ej_then_ret ?_))
        have h1 : LendN fr fl cap lo hi wish = 0 := by simp [LendN, h17, hb, h23]
        have h2 : LendE fr fl cap lo hi wish = 4 := by simp [LendE, h17, hb, h23]
        rw [h1, h2]
        exact ej_ret2 rfl Tryd.results47 rfl rfl (fun w' hp => ⟨rfl, hp.below⟩)
      · have h23b := h23
        try simp only [sxb] at h23
        refine cj_skip (ej_th (cj_seq ?_))
        refine cj_regionG (gj_step (y_move rfl) rfl rfl rfl (gj_step (y_move rfl) rfl rfl rfl (gj_step (y_min rfl rfl) rfl rfl rfl (gj_step (y_assign rfl) rfl rfl rfl (gj_step (y_assign rfl) rfl rfl rfl (gj_nil ?_))))))
        refine ej_th (cj_ret ?_)
        have h1 : LendN fr fl cap lo hi wish = min (MostN fr fl cap lo hi) wish := by simp [LendN, h17, hb, h23]
        have h2 : LendE fr fl cap lo hi wish = 0 := by simp [LendE, h17, hb, h23]
        rw [h1, h2]
        exact ej_ret2 rfl Tryd.results47 rfl rfl (fun w' hp => ⟨rfl, hp.below⟩)

theorem k_For (rs : List RuleR) (Ar : Option Addr) (cr : Nat) (c : ByteArray) (w : World) (hr0 : Rd w 4 encRule Ar rs) (hsm : ∀ r ∈ rs, r.cls.size ≤ 9223372036854775807) : Calls Tryd.prog 48 #[.slice Ar rs.length cr, .string c] w (fun e w' => e = .returned (.tuple #[evT (ForT rs c), .int .i64 (ForE rs c)]) ∧ Grow w w') := by
  have hlen := hr0.len
  refine enter_pure (args := [.slice Ar rs.length cr, .string c]) [sl (fun b => b < w.heap.size) 4 encRule Ar rs] Tryd.func48 rfl (by rw [Tryd.ntmps48]; simp) (fun g hg => by simp at hg; subst hg; exact ⟨hr0, fun _ h => h⟩) ?_
  refine cj_seq (cj_region ?_)
  refine oj_alloc Tryd.zeroValue52 rfl rfl (fun b4 => ?_)
  refine oj_step (y_assign rfl) rfl rfl rfl ?_
  refine oj_nil ?_
  refine ej_th (cj_seq (cj_seq ?_))
  refine cj_regionG (gj_step (y_move rfl) rfl rfl rfl (gj_step (y_lenA Tryd.underlying84 rfl) rfl rfl rfl (gj_step (y_gtr rfl rfl) rfl rfl rfl (gj_nil ?_))))
  refine ej_th ?_
  refine cj_cond rfl (fun h15 => ?_) (fun h15 => ?_)
  · have h15b := h15
    try simp only [sxb] at h15
    refine cj_seq (cj_region ?_)
    refine oj_step (y_build st52 rfl rfl) rfl rfl rfl ?_
    refine oj_store rfl rfl rfl rfl Tryd.sizeOf52 rfl ?_
    refine oj_step (y_assign rfl) rfl rfl rfl ?_
    refine oj_nil ?_
    refine ej_th (cj_ret (ej_then_ret ?_))
    have hok : okFor rs = false := by rw [okFor, decide_eq_false (by omega)]; rfl
    have e1 : ForE rs c = 22 := by simp [ForE, hok]
    have e2 : ForT rs c = zR := by simp [ForT, hok]
    rw [e1, e2]
    exact ej_retC2 rfl Tryd.results48 rfl (y_loadN Tryd.isAgg52 Tryd.sizeOf52 rfl) rfl (fun w' hp => ⟨rfl, hp.below⟩)
  · have h15b := h15
    try simp only [sxb] at h15
    refine cj_skip (ej_th (cj_seq (cj_region ?_)))
    refine oj_makeMap ekS evT rfl (fun b17 => ?_)
    refine oj_step (y_assign rfl) rfl rfl rfl ?_
    refine oj_nil ?_
    refine ej_th (cj_seq (cj_seq ?_))
    refine cj_regionG (gj_step (y_move rfl) rfl rfl rfl (gj_step (y_lenA Tryd.underlying84 rfl) rfl rfl rfl (gj_step (y_move rfl) rfl rfl rfl (gj_nil ?_))))
    refine ej_th (cj_block ?_)
    refine cj_eqO [mp ekS evT b17 (mapR (rs.take 0)), ownB b4 (cellsB 52 [.int .i64 0, .int .i64 0, .int .i64 0])] rfl ?_
    refine cj_lpi (X := Nat) [(1, _), (4, _), (6, _), (18, _), (19, _)] (fun k => k ≤ rs.length ∧ goodL (rs.take k) (rs.drop k) = goodL [] rs) (fun k => [(20, .int .i64 k)]) (fun k => [mp ekS evT b17 (mapR (rs.take k)), ownB b4 (cellsB 52 [.int .i64 0, .int .i64 0, .int .i64 0])]) (fun k => [sl (fun b => b < w.heap.size) 4 encRule Ar rs]) (fun k => rs.length - k) 0 (⟨Nat.zero_le _, rfl⟩) ⟨rfl, rfl, rfl, rfl, rfl, rfl, trivial⟩ ?_
    rintro k ⟨hk, hl⟩
    dsimp only [List.cons_append, List.nil_append]
    refine cj_seq ?_
    refine cj_regionG (gj_step (y_lss rfl rfl) rfl rfl rfl (gj_nil ?_))
    refine ej_th (cj_seq ?_)
    refine cj_cond rfl (fun h21 => ?_) (fun h21 => ?_)
    · have h21b := h21
      try simp only [sxb] at h21
      obtain ⟨r, hx⟩ : ∃ r, rs[k]? = some r := ⟨_, List.getElem?_eq_getElem (by omega)⟩
      rw [goodL_drop rs k r hx] at hl
      have hgl := getL_mapR (rs.take k) r.cls
      have hgs := findR_some (rs.take k) r.cls
      have htk : rs.take (k + 1) = rs.take k ++ [r] := by rw [List.take_add_one, hx]; rfl
      refine cj_skip (ej_th (cj_seq (cj_block (cj_seq (cj_region ?_)))))
      refine oj_step (y_ixR (reads_sl) Tryd.underlying84 Tryd.sizeOf95 rfl rfl (⟨by omega, by omega⟩)) rfl rfl rfl ?_
      refine oj_step (y_ldW (reads_sl) Tryd.isAgg95 Tryd.sizeOf95 rfl (hx) (fun _ => rfl)) rfl rfl rfl ?_
      refine oj_alloc Tryd.zeroValue95 rfl rfl (fun b8 => ?_)
      refine oj_store rfl rfl rfl rfl Tryd.sizeOf95 rfl ?_
      refine oj_nil ?_
      refine ej_th (cj_seq (cj_seq (cj_region ?_)))
      refine oj_step (y_move rfl) rfl rfl rfl ?_
      refine oj_step (y_fa0 fa95_0 rfl) rfl rfl rfl ?_
      refine oj_step (y_load1 Tryd.isAgg9 rfl rfl) rfl rfl rfl ?_
      refine oj_step (y_lookup (ek := ekS) (ev := evT) zR Tryd.underlying137 Tryd.underlying9 Tryd.zeroValue52 rfl rfl) rfl rfl rfl ?_
      refine oj_step (y_move rfl) rfl rfl rfl ?_
      refine oj_step (y_extract rfl rfl) rfl rfl rfl ?_
      refine oj_step (y_extract rfl rfl) rfl rfl rfl ?_
      refine oj_alloc Tryd.zeroValue52 rfl rfl (fun b9 => ?_)
      refine oj_store rfl rfl rfl rfl Tryd.sizeOf52 rfl ?_
      refine oj_step (y_assign rfl) rfl rfl rfl ?_
      refine oj_nil ?_
      refine ej_th (cj_seq ?_)
      refine cj_regionG ?_
      refine gj_step (y_move rfl) rfl rfl rfl (gj_step (y_move rfl) rfl rfl rfl (?_))
      refine gj_g 4 32 36 rfl rfl rfl rfl (fun hg32 => gj_yes rfl rfl rfl (y_fa0 fa95_0 rfl) rfl rfl (gj_yes rfl rfl rfl (y_load1 Tryd.isAgg9 rfl rfl) rfl rfl (gj_yes rfl rfl rfl (y_call Tryd.call75 rfl (fun w hp => k_IsWord _ w (hsm r (List.mem_of_getElem? hx)))) rfl rfl (gj_yes rfl rfl rfl (y_not rfl) rfl rfl (gj_nil rfl))))) ?_
      refine gj_step (y_or rfl rfl rfl) rfl rfl rfl (gj_step (y_move rfl) rfl rfl rfl (?_))
      refine gj_g 4 38 42 rfl rfl rfl rfl (fun hg38 => gj_yes rfl rfl rfl (y_fa fa95_1 rfl) rfl rfl (gj_yes rfl rfl rfl (y_loadN Tryd.isAgg52 Tryd.sizeOf52 rfl) rfl rfl (gj_yes rfl rfl rfl (y_call Tryd.call45 rfl (fun w hp => k_CheckTerms _ _ _ w)) rfl rfl (gj_yes rfl rfl rfl (y_neq rfl rfl) rfl rfl (gj_nil rfl))))) ?_
      refine gj_step (y_or rfl rfl rfl) rfl rfl rfl (?_)
      refine gj_nil ?_
      refine ej_th ?_
      refine cj_cond rfl (fun h43 => ?_) (fun h43 => ?_)
      · have h43b := h43
        try simp only [sxb] at h43
        rw [hgl, hgs] at h43b
        have hgo : goodOne (rs.take k) r = false := not_t ((goodOne_V (rs.take k) r).symm.trans h43b)
        refine cj_seq (cj_region ?_)
        refine oj_step (y_build st52 rfl rfl) rfl rfl rfl ?_
        refine oj_store rfl rfl rfl rfl Tryd.sizeOf52 rfl ?_
        refine oj_step (y_assign rfl) rfl rfl rfl ?_
        refine oj_nil ?_
        refine ej_th (cj_ret (ej_then_ret (ej_blk_ret (ej_then_ret (ej_then_ret (ej_blk_ret (ej_then_ret ?_)))))))
        have hok : okFor rs = false := by rw [okFor, ← hl, hgo]; simp
        have e1 : ForE rs c = 22 := by simp [ForE, hok]
        have e2 : ForT rs c = zR := by simp [ForT, hok]
        rw [e1, e2]
        exact ej_retC2 rfl Tryd.results48 rfl (y_loadN Tryd.isAgg52 Tryd.sizeOf52 rfl) rfl (fun w' hp => ⟨rfl, hp.below⟩)
      · have h43b := h43
        try simp only [sxb] at h43
        rw [hgl, hgs] at h43b
        have hgo : goodOne (rs.take k) r = true := not_f ((goodOne_V (rs.take k) r).symm.trans h43b)
        have hnh : hasC (rs.take k) r.cls = false := by have := hgo; simp only [goodOne, Bool.and_eq_true] at this; exact not_t this.1.1
        refine cj_skip (ej_th (cj_region ?_))
        refine oj_step (y_move rfl) rfl rfl rfl ?_
        refine oj_step (y_fa0 fa95_0 rfl) rfl rfl rfl ?_
        refine oj_step (y_load1 Tryd.isAgg9 rfl rfl) rfl rfl rfl ?_
        refine oj_step (y_fa fa95_1 rfl) rfl rfl rfl ?_
        refine oj_step (y_loadN Tryd.isAgg52 Tryd.sizeOf52 rfl) rfl rfl rfl ?_
        refine oj_mapUpdate (ek := ekS) (ev := evT) (v := r) Tryd.underlying137 Tryd.underlying9 rfl rfl rfl ?_
        rw [putL_new _ _ hnh, ← htk]
        refine oj_nil ?_
        refine ej_blk (ej_th ?_)
        refine cj_regionG (gj_step (y_add rfl rfl (by omega)) rfl rfl rfl (gj_step (y_move rfl) rfl rfl rfl (gj_nil ?_)))
        exact ej_nx (k + 1) (by omega) ⟨by omega, by rw [← hl, hgo, Bool.true_and]⟩ ⟨rfl, rfl, rfl, rfl, rfl, rfl, trivial⟩
    · have h21b := h21
      try simp only [sxb] at h21
      rw [List.drop_of_length_le (by omega)] at hl
      have hok : okFor rs = true := by rw [okFor, ← hl, decide_eq_true (by omega)]; rfl
      rw [List.take_of_length_le (by omega)]
      have hgl := getL_mapR rs c
      refine cj_exit (ej_then_exit (ej_then_exit (ej_blk_hit (ej_th (cj_seq (cj_region ?_))))))
      refine oj_step (y_move rfl) rfl rfl rfl ?_
      refine oj_step (y_move rfl) rfl rfl rfl ?_
      refine oj_step (y_lookup (ek := ekS) (ev := evT) zR Tryd.underlying137 Tryd.underlying9 Tryd.zeroValue52 rfl rfl) rfl rfl rfl ?_
      refine oj_step (y_move rfl) rfl rfl rfl ?_
      refine oj_step (y_extract rfl rfl) rfl rfl rfl ?_
      refine oj_step (y_extract rfl rfl) rfl rfl rfl ?_
      refine oj_alloc Tryd.zeroValue52 rfl rfl (fun b11 => ?_)
      refine oj_store rfl rfl rfl rfl Tryd.sizeOf52 rfl ?_
      refine oj_step (y_assign rfl) rfl rfl rfl ?_
      refine oj_nil ?_
      refine ej_th (cj_seq (cj_seq ?_))
      refine cj_regionG (gj_step (y_move rfl) rfl rfl rfl (gj_step (y_not rfl) rfl rfl rfl (gj_nil ?_)))
      refine ej_th ?_
      refine cj_cond rfl (fun h58 => ?_) (fun h58 => ?_)
      · have h58b := h58
        try simp only [sxb] at h58
        refine cj_seq (cj_region ?_)
        refine oj_step (y_build st52 rfl rfl) rfl rfl rfl ?_
        refine oj_store rfl rfl rfl rfl Tryd.sizeOf52 rfl ?_
        refine oj_step (y_assign rfl) rfl rfl rfl ?_
        refine oj_nil ?_
        refine ej_th (cj_ret (ej_then_ret ?_))
        have hno : findR rs c = none := by rw [hgl] at h58; simpa using h58
        have e1 : ForE rs c = 4 := by simp [ForE, hok, hno]
        have e2 : ForT rs c = zR := by simp [ForT, hok, hno]
        rw [e1, e2]
        exact ej_retC2 rfl Tryd.results48 rfl (y_loadN Tryd.isAgg52 Tryd.sizeOf52 rfl) rfl (fun w' hp => ⟨rfl, hp.below⟩)
      · have h58b := h58
        try simp only [sxb] at h58
        refine cj_skip (ej_th (cj_seq (cj_region ?_)))
        refine oj_step (y_loadN Tryd.isAgg52 Tryd.sizeOf52 rfl) rfl rfl rfl ?_
        refine oj_store rfl rfl rfl rfl Tryd.sizeOf52 rfl ?_
        refine oj_step (y_assign rfl) rfl rfl rfl ?_
        refine oj_nil ?_
        refine ej_th (cj_ret ?_)
        rw [hgl] at h58 ⊢
        have e1 : ForE rs c = 0 := by simp [ForE, hok, h58]
        have e2 : ForT rs c = (findR rs c).getD zR := by simp [ForT, hok]
        rw [e1, e2]
        exact ej_retC2 rfl Tryd.results48 rfl (y_loadN Tryd.isAgg52 Tryd.sizeOf52 rfl) rfl (fun w' hp => ⟨rfl, hp.below⟩)

theorem k_rFor (rs : List RuleR) (Ar : Option Addr) (cr : Nat) (c : ByteArray) (w : World) (hr0 : Rd w 4 encRule Ar rs) (hsm : ∀ r ∈ rs, r.cls.size ≤ 9223372036854775807) : Calls Tryd.prog 49 #[.slice Ar rs.length cr, .string c] w (fun e w' => e = .returned (.tuple #[evT (ForT rs c), .int .i64 (ForE rs c)]) ∧ Grow w w') := by
  have hlen := hr0.len
  refine enter_pure (args := [.slice Ar rs.length cr, .string c]) [sl (fun b => b < w.heap.size) 4 encRule Ar rs] Tryd.func49 rfl (by rw [Tryd.ntmps49]; simp) (fun g hg => by simp at hg; subst hg; exact ⟨hr0, fun _ h => h⟩) ?_
  refine cj_seq (cj_region ?_)
  refine oj_alloc Tryd.zeroValue52 rfl rfl (fun b4 => ?_)
  refine oj_step (y_assign rfl) rfl rfl rfl ?_
  refine oj_nil ?_
  refine ej_th (cj_seq ?_)
  refine cj_regionG (gj_step (y_move rfl) rfl rfl rfl (gj_step (y_lenA Tryd.underlying84 rfl) rfl rfl rfl (gj_step (y_leq rfl rfl) rfl rfl rfl (gj_step (y_assign rfl) rfl rfl rfl (gj_nil ?_)))))
  refine ej_th (cj_seq (cj_seq ?_))
  refine cj_regionG (gj_step (y_assign rfl) rfl rfl rfl (gj_nil ?_))
  refine ej_th (cj_block ?_)
  refine cj_lpic (X := Nat × Bool) [(0, _), (1, _), (4, _), (5, _)] (fun ⟨k, ok⟩ => k ≤ rs.length ∧ (ok && goodL (rs.take k) (rs.drop k)) = okFor rs) (fun ⟨k, ok⟩ => [(6, .bool ok), (7, .int .i64 k)]) (fun ⟨k, ok⟩ => rs.length - k) (0, decide ((rs.length : Int) ≤ 16)) (⟨Nat.zero_le _, rfl⟩) ⟨rfl, rfl, rfl, rfl, rfl, rfl, trivial⟩ ?_
  rintro ⟨k, ok⟩ ⟨hk, hl⟩
  dsimp only [List.cons_append, List.nil_append]
  refine cj_seq (cj_seq ?_)
  refine cj_regionG (gj_step (y_move rfl) rfl rfl rfl (gj_step (y_move rfl) rfl rfl rfl (gj_step (y_lenA Tryd.underlying84 rfl) rfl rfl rfl (gj_step (y_lss rfl rfl) rfl rfl rfl (gj_nil ?_)))))
  refine ej_th ?_
  refine cj_cond rfl (fun h16 => ?_) (fun h16 => ?_)
  · have h16b := h16
    try simp only [sxb] at h16
    obtain ⟨r, hx⟩ : ∃ r, rs[k]? = some r := ⟨_, List.getElem?_eq_getElem (by omega)⟩
    rw [goodL_drop rs k r hx] at hl
    refine cj_skip (ej_th (cj_seq (cj_block (cj_seq ?_))))
    refine cj_regionG ?_
    refine gj_step (y_move rfl) rfl rfl rfl (gj_step (y_move rfl) rfl rfl rfl (?_))
    refine gj_g 6 20 26 rfl rfl rfl rfl (fun hg20 => gj_yes rfl rfl rfl (y_move rfl) rfl rfl (gj_yes rfl rfl rfl (y_move rfl) rfl rfl (gj_yes rfl rfl rfl (y_ixR (reads_sl) Tryd.underlying84 Tryd.sizeOf95 rfl rfl (⟨by omega, by omega⟩)) rfl rfl (gj_yes rfl rfl rfl (y_faE fa95_0 rfl) rfl rfl (gj_yes rfl rfl rfl (y_ld1 (reads_sl) Tryd.isAgg9 rfl (hx) rfl) rfl rfl (gj_yes rfl rfl rfl (y_call Tryd.call76 rfl (fun w hp => k_rIsWord _ w (hsm r (List.mem_of_getElem? hx)))) rfl rfl (gj_nil rfl))))))) ?_
    refine gj_step (y_and rfl rfl rfl) rfl rfl rfl (gj_step (y_move rfl) rfl rfl rfl (?_))
    refine gj_g 7 28 35 rfl rfl rfl rfl (fun hg28 => gj_yes rfl rfl rfl (y_move rfl) rfl rfl (gj_yes rfl rfl rfl (y_move rfl) rfl rfl (gj_yes rfl rfl rfl (y_ixR (reads_sl) Tryd.underlying84 Tryd.sizeOf95 rfl rfl (⟨by omega, by omega⟩)) rfl rfl (gj_yes rfl rfl rfl (y_faE fa95_1 rfl) rfl rfl (gj_yes rfl rfl rfl (y_ldN (reads_sl) Tryd.isAgg52 Tryd.sizeOf52 rfl (hx) inferInstance) rfl rfl (gj_yes rfl rfl rfl (y_call Tryd.call46 rfl (fun w hp => k_rCheckTerms _ _ _ w)) rfl rfl (gj_yes rfl rfl rfl (y_eql rfl rfl) rfl rfl (gj_nil rfl)))))))) ?_
    refine gj_step (y_and rfl rfl rfl) rfl rfl rfl (gj_step (y_assign rfl) rfl rfl rfl (?_))
    refine gj_nil ?_
    refine ej_th (cj_seq ?_)
    refine cj_regionG (gj_step (y_assign rfl) rfl rfl rfl (gj_nil ?_))
    refine ej_th (cj_block ?_)
    refine cj_lpic (X := Nat × Bool) [(7, _), (0, _), (1, _), (4, _), (5, _)] (fun ⟨j, o2⟩ => j ≤ k ∧ (o2 && ((rs.take k).drop j).all (fun q => !(decide (q.cls = r.cls)))) = (ok && isW r.cls && (errT (badR r) == 0) && !(hasC (rs.take k) r.cls))) (fun ⟨j, o2⟩ => [(6, .bool o2), (8, .int .i64 j)]) (fun ⟨j, o2⟩ => k - j) (0, ok && isW r.cls && (errT (badR r) == 0)) (⟨Nat.zero_le _, by rw [List.drop_zero, all_ne_any]⟩) ⟨rfl, rfl, rfl, rfl, rfl, rfl, rfl, trivial⟩ ?_
    rintro ⟨j, o2⟩ ⟨hj, hjl⟩
    dsimp only [List.cons_append, List.nil_append]
    refine cj_seq (cj_seq ?_)
    refine cj_regionG (gj_step (y_move rfl) rfl rfl rfl (gj_step (y_move rfl) rfl rfl rfl (gj_step (y_lss rfl rfl) rfl rfl rfl (gj_nil ?_))))
    refine ej_th ?_
    refine cj_cond rfl (fun h39 => ?_) (fun h39 => ?_)
    · have h39b := h39
      try simp only [sxb] at h39
      obtain ⟨q, hy⟩ : ∃ q, rs[j]? = some q := ⟨_, List.getElem?_eq_getElem (by omega)⟩
      have hyt : (rs.take k)[j]? = some q := by rw [List.getElem?_take_of_lt (by omega)]; exact hy
      rw [all_drop _ _ j q hyt] at hjl
      refine cj_skip (ej_th (cj_seq (cj_block ?_)))
      refine cj_draw (by kernel_rfl) (by kernel_rfl) (gj_step (y_move rfl) rfl rfl rfl (gj_step (y_move rfl) rfl rfl rfl (gj_g 11 43 54 rfl rfl rfl rfl (fun hg43 => gj_yes rfl rfl rfl (y_move rfl) rfl rfl (gj_yes rfl rfl rfl (y_move rfl) rfl rfl (gj_yes rfl rfl rfl (y_ixR (reads_sl) Tryd.underlying84 Tryd.sizeOf95 rfl rfl (⟨by omega, by omega⟩)) rfl rfl (gj_yes rfl rfl rfl (y_faE fa95_0 rfl) rfl rfl (gj_yes rfl rfl rfl (y_ld1 (reads_sl) Tryd.isAgg9 rfl (hy) rfl) rfl rfl (gj_yes rfl rfl rfl (y_move rfl) rfl rfl (gj_yes rfl rfl rfl (y_move rfl) rfl rfl (gj_yes rfl rfl rfl (y_ixR (reads_sl) Tryd.underlying84 Tryd.sizeOf95 rfl rfl (⟨by omega, by omega⟩)) rfl rfl (gj_yes rfl rfl rfl (y_faE fa95_0 rfl) rfl rfl (gj_yes rfl rfl rfl (y_ld1 (reads_sl) Tryd.isAgg9 rfl (hx) rfl) rfl rfl (gj_yes rfl rfl rfl (y_neqS rfl rfl) rfl rfl (gj_nil rfl)))))))))))) (gj_step (y_and rfl rfl rfl) rfl rfl rfl (gj_step (y_assign rfl) rfl rfl rfl (gj_nil ?_))))))
      refine ej_blk (ej_th ?_)
      refine cj_regionG (gj_step (y_move rfl) rfl rfl rfl (gj_step (y_add rfl rfl (by omega)) rfl rfl rfl (gj_step (y_assign rfl) rfl rfl rfl (gj_nil ?_))))
      refine ej_nx (j + 1, o2 && !(decide (q.cls = r.cls))) (by simp only; omega) ⟨by first | omega | (simp only; omega), ?_⟩ ⟨by simp only [bytes_bne]; rfl, rfl, rfl, rfl, rfl, rfl, rfl, trivial⟩
      rw [← hjl, Bool.and_assoc]
    · have h39b := h39
      try simp only [sxb] at h39
      have htl : (rs.take k).length ≤ j := by simp; omega
      rw [List.drop_of_length_le htl, List.all_nil, Bool.and_true] at hjl
      have hfin : (o2 && goodL (rs.take (k + 1)) (rs.drop (k + 1))) = (ok && (goodOne (rs.take k) r && goodL (rs.take (k + 1)) (rs.drop (k + 1)))) := by
        rw [hjl]; unfold goodOne; cases ok <;> cases isW r.cls <;> cases badR r <;> cases hasC (rs.take k) r.cls <;> simp [errT]
      refine cj_exit (ej_then_exit (ej_then_exit (ej_blk_hit (ej_blk (ej_th ?_)))))
      refine cj_regionG (gj_step (y_move rfl) rfl rfl rfl (gj_step (y_add rfl rfl (by omega)) rfl rfl rfl (gj_step (y_assign rfl) rfl rfl rfl (gj_nil ?_))))
      exact ej_nx (k + 1, o2) (by simp only; omega) ⟨by first | omega | (simp only; omega), by rw [← hl]; exact hfin⟩ ⟨rfl, rfl, rfl, rfl, rfl, rfl, trivial⟩
  · have h16b := h16
    try simp only [sxb] at h16
    rw [List.drop_of_length_le (by omega), goodL, Bool.and_true] at hl
    subst hl
    refine cj_exit (ej_then_exit (ej_then_exit (ej_blk_hit (ej_th (cj_seq (cj_seq ?_))))))
    refine cj_regionG (gj_step (y_move rfl) rfl rfl rfl (gj_step (y_not rfl) rfl rfl rfl (gj_nil ?_)))
    refine ej_th ?_
    refine cj_cond rfl (fun h57 => ?_) (fun h57 => ?_)
    · have h57b := h57
      try simp only [sxb] at h57
      have hok : okFor rs = false := not_t h57b
      refine cj_seq (cj_region ?_)
      refine oj_step (y_build st52 rfl rfl) rfl rfl rfl ?_
      refine oj_store rfl rfl rfl rfl Tryd.sizeOf52 rfl ?_
      refine oj_step (y_assign rfl) rfl rfl rfl ?_
      refine oj_nil ?_
      refine ej_th (cj_ret (ej_then_ret ?_))
      skip
      have e1 : ForE rs c = 22 := by simp [ForE, hok]
      have e2 : ForT rs c = zR := by simp [ForT, hok]
      rw [e1, e2]
      exact ej_retC2 rfl Tryd.results49 rfl (y_loadN Tryd.isAgg52 Tryd.sizeOf52 rfl) rfl (fun w' hp => ⟨rfl, hp.below⟩)
    · have h57b := h57
      try simp only [sxb] at h57
      have hok : okFor rs = true := not_f h57b
      refine cj_skip (ej_th (cj_seq (cj_seq ?_)))
      refine cj_regionG (gj_step (y_assign rfl) rfl rfl rfl (gj_nil ?_))
      refine ej_th (cj_block ?_)
      refine cj_lpic (X := Nat) [(0, _), (1, _), (4, _)] (fun m => m ≤ rs.length ∧ findR (rs.drop m) c = findR rs c) (fun m => [(9, .int .i64 m)]) (fun m => rs.length - m) 0 (⟨Nat.zero_le _, rfl⟩) ⟨rfl, rfl, rfl, rfl, trivial⟩ ?_
      rintro m ⟨hm, hf⟩
      dsimp only [List.cons_append, List.nil_append]
      refine cj_seq (cj_seq ?_)
      refine cj_regionG (gj_step (y_move rfl) rfl rfl rfl (gj_step (y_move rfl) rfl rfl rfl (gj_step (y_lenA Tryd.underlying84 rfl) rfl rfl rfl (gj_step (y_lss rfl rfl) rfl rfl rfl (gj_nil ?_)))))
      refine ej_th ?_
      refine cj_cond rfl (fun h62 => ?_) (fun h62 => ?_)
      · have h62b := h62
        try simp only [sxb] at h62
        obtain ⟨r, hx⟩ : ∃ r, rs[m]? = some r := ⟨_, List.getElem?_eq_getElem (by omega)⟩
        rw [find_dropR rs c m r hx] at hf
        refine cj_skip (ej_th (cj_seq (cj_block (cj_seq ?_))))
        refine cj_regionG (gj_step (y_move rfl) rfl rfl rfl (gj_step (y_move rfl) rfl rfl rfl (gj_step (y_ixR (reads_sl) Tryd.underlying84 Tryd.sizeOf95 rfl rfl (⟨by omega, by omega⟩)) rfl rfl rfl (gj_step (y_faE fa95_0 rfl) rfl rfl rfl (gj_step (y_ld1 (reads_sl) Tryd.isAgg9 rfl (hx) rfl) rfl rfl rfl (gj_step (y_move rfl) rfl rfl rfl (gj_step (y_eqlS rfl rfl) rfl rfl rfl (gj_nil ?_))))))))
        refine ej_th ?_
        refine cj_cond rfl (fun h71 => ?_) (fun h71 => ?_)
        · have h71b := h71
          try simp only [sxb] at h71
          refine cj_seq (cj_region ?_)
          refine oj_step (y_move rfl) rfl rfl rfl ?_
          refine oj_step (y_move rfl) rfl rfl rfl ?_
          refine oj_step (y_ixR (reads_sl) Tryd.underlying84 Tryd.sizeOf95 rfl rfl (⟨by omega, by omega⟩)) rfl rfl rfl ?_
          refine oj_step (y_faE fa95_1 rfl) rfl rfl rfl ?_
          refine oj_step (y_ldN (reads_sl) Tryd.isAgg52 Tryd.sizeOf52 rfl (hx) inferInstance) rfl rfl rfl ?_
          refine oj_store rfl rfl rfl rfl Tryd.sizeOf52 rfl ?_
          refine oj_step (y_assign rfl) rfl rfl rfl ?_
          refine oj_nil ?_
          refine ej_th (cj_ret (ej_blk_ret (ej_then_ret (ej_then_ret (ej_blk_ret (ej_then_ret ?_))))))
          have hfr : findR rs c = some r := by rw [← hf, if_pos (bytes_eq h71b)]
          have e1 : ForE rs c = 0 := by simp [ForE, hok, hfr]
          have e2 : ForT rs c = r := by simp [ForT, hok, hfr]
          rw [e1, e2]
          exact ej_retC2 rfl Tryd.results49 rfl (y_loadN Tryd.isAgg52 Tryd.sizeOf52 rfl) rfl (fun w' hp => ⟨rfl, hp.below⟩)
        · have h71b := h71
          try simp only [sxb] at h71
          refine cj_skip (ej_blk (ej_th ?_))
          refine cj_regionG (gj_step (y_move rfl) rfl rfl rfl (gj_step (y_add rfl rfl (by omega)) rfl rfl rfl (gj_step (y_assign rfl) rfl rfl rfl (gj_nil ?_))))
          exact ej_nx (m + 1) (by omega) ⟨by omega, by rw [← hf, if_neg (bytes_ne h71b)]⟩ ⟨rfl, rfl, rfl, rfl, trivial⟩
      · have h62b := h62
        try simp only [sxb] at h62
        refine cj_exit (ej_then_exit (ej_then_exit (ej_blk_hit (ej_th (cj_seq (cj_region ?_))))))
        refine oj_step (y_build st52 rfl rfl) rfl rfl rfl ?_
        refine oj_store rfl rfl rfl rfl Tryd.sizeOf52 rfl ?_
        refine oj_step (y_assign rfl) rfl rfl rfl ?_
        refine oj_nil ?_
        refine ej_th (cj_ret ?_)
        have hfr : findR rs c = none := by rw [← hf, List.drop_of_length_le (by omega)]; rfl
        have e1 : ForE rs c = 4 := by simp [ForE, hok, hfr]
        have e2 : ForT rs c = zR := by simp [ForT, hok, hfr]
        rw [e1, e2]
        exact ej_retC2 rfl Tryd.results49 rfl (y_loadN Tryd.isAgg52 Tryd.sizeOf52 rfl) rfl (fun w' hp => ⟨rfl, hp.below⟩)

theorem k_LoanLends (fr fl cap lo hi : Int) (rs : List RuleR) (Ar : Option Addr) (cr : Nat) (c : ByteArray) (wish : Int) (w : World) (hr0 : Rd w 4 encRule Ar rs) (hsm : ∀ r ∈ rs, r.cls.size ≤ 9223372036854775807) (hG : Gl w 0 WAYS) : Calls Tryd.prog 13 #[.agg #[.int .i64 fr, .int .i64 fl, .int .i64 cap], .agg #[.int .i64 lo, .int .i64 hi], .agg #[.slice Ar rs.length cr, .string c, .int .i64 wish]] w (fun e w' => e = .returned (.bool true) ∧ Grow w w') := by
  refine enter_pure (args := [.agg #[.int .i64 fr, .int .i64 fl, .int .i64 cap], .agg #[.int .i64 lo, .int .i64 hi], .agg #[.slice Ar rs.length cr, .string c, .int .i64 wish]]) [sl (fun b => b < w.heap.size) 4 encRule Ar rs, gl 0 WAYS] Tryd.func13 rfl (by rw [Tryd.ntmps13]; simp) (fun g hg => by simp at hg; rcases hg with rfl | rfl; exact ⟨hr0, fun _ h => h⟩; exact ⟨hG.1, fun b hb => by have : b = 0 := hb; rw [this]; exact hG.2⟩) ?_
  refine cj_seq (cj_region ?_)
  refine oj_box rfl rfl rfl (fun b3 => ?_)
  refine oj_box rfl rfl rfl (fun b4 => ?_)
  refine oj_box rfl rfl rfl (fun b5 => ?_)
  refine oj_step (y_assign rfl) rfl rfl rfl ?_
  refine oj_nil ?_
  refine ej_th (cj_seq ?_)
  refine cj_regionG ?_
  refine gj_step (y_loadN Tryd.isAgg52 Tryd.sizeOf52 rfl) rfl rfl rfl (gj_step (y_loadN Tryd.isAgg27 Tryd.sizeOf27 rfl) rfl rfl rfl (?_))
  refine gj_step (y_call Tryd.call28 rfl (fun w hp => k_Most fr fl cap lo hi w)) rfl rfl rfl ?_
  refine gj_step (y_move rfl) rfl rfl rfl (gj_step (y_extract rfl rfl) rfl rfl rfl (gj_step (y_extract rfl rfl) rfl rfl rfl (gj_step (y_assign rfl) rfl rfl rfl (gj_step (y_assign rfl) rfl rfl rfl (?_)))))
  refine gj_nil ?_
  refine ej_th (cj_seq ?_)
  refine cj_regionG ?_
  refine gj_step (y_loadN Tryd.isAgg52 Tryd.sizeOf52 rfl) rfl rfl rfl (gj_step (y_loadN Tryd.isAgg27 Tryd.sizeOf27 rfl) rfl rfl rfl (?_))
  refine gj_step (y_call Tryd.call44 rfl (fun w hp => k_rMost fr fl cap lo hi w)) rfl rfl rfl ?_
  refine gj_step (y_move rfl) rfl rfl rfl (gj_step (y_extract rfl rfl) rfl rfl rfl (gj_step (y_extract rfl rfl) rfl rfl rfl (gj_step (y_assign rfl) rfl rfl rfl (gj_step (y_assign rfl) rfl rfl rfl (?_)))))
  refine gj_nil ?_
  refine ej_th (cj_seq (cj_seq ?_))
  refine cj_draw (by kernel_rfl) (by kernel_rfl) ?_
  refine gj_step (y_move rfl) rfl rfl rfl (gj_step (y_move rfl) rfl rfl rfl (gj_step (y_neq rfl rfl) rfl rfl rfl (gj_step (y_move rfl) rfl rfl rfl (?_))))
  refine gj_g 3 28 31 rfl rfl rfl rfl (fun hg28 => gj_yes rfl rfl rfl (y_move rfl) rfl rfl (gj_yes rfl rfl rfl (y_move rfl) rfl rfl (gj_yes rfl rfl rfl (y_neq rfl rfl) rfl rfl (gj_nil rfl)))) ?_
  refine gj_step (y_or rfl rfl rfl) rfl rfl rfl (gj_step (y_move rfl) rfl rfl rfl (?_))
  refine gj_g 5 33 38 rfl rfl rfl rfl (fun hg33 => gj_yes rfl rfl rfl (y_loadN Tryd.isAgg52 Tryd.sizeOf52 rfl) rfl rfl (gj_yes rfl rfl rfl (y_call Tryd.call45 rfl (fun w hp => k_CheckTerms _ _ _ w)) rfl rfl (gj_yes rfl rfl rfl (y_loadN Tryd.isAgg52 Tryd.sizeOf52 rfl) rfl rfl (gj_yes rfl rfl rfl (y_call Tryd.call46 rfl (fun w hp => k_rCheckTerms _ _ _ w)) rfl rfl (gj_yes rfl rfl rfl (y_neq rfl rfl) rfl rfl (gj_nil rfl)))))) ?_
  refine gj_step (y_or rfl rfl rfl) rfl rfl rfl (?_)
  refine gj_nil ?_
  refine ej_th ?_
  refine cj_cond rfl (fun h39 => ?_) (fun h39 => ?_)
  · exact absurd h39 (by simp)
  · have h39b := h39
    try simp only [sxb] at h39
    refine cj_skip (ej_th (cj_seq ?_))
    refine cj_regionG ?_
    refine gj_step (y_loadN Tryd.isAgg52 Tryd.sizeOf52 rfl) rfl rfl rfl (gj_step (y_loadN Tryd.isAgg27 Tryd.sizeOf27 rfl) rfl rfl rfl (gj_step (y_fa fa86_2 rfl) rfl rfl rfl (gj_step (y_load1 Tryd.isAgg3 rfl rfl) rfl rfl rfl (?_))))
    refine gj_step (y_call Tryd.call30 rfl (fun w hp => k_Lend fr fl cap lo hi wish w)) rfl rfl rfl ?_
    refine gj_step (y_move rfl) rfl rfl rfl (gj_step (y_extract rfl rfl) rfl rfl rfl (gj_step (y_extract rfl rfl) rfl rfl rfl (gj_step (y_assign rfl) rfl rfl rfl (gj_step (y_assign rfl) rfl rfl rfl (?_)))))
    refine gj_nil ?_
    refine ej_th (cj_seq ?_)
    refine cj_regionG ?_
    refine gj_step (y_loadN Tryd.isAgg52 Tryd.sizeOf52 rfl) rfl rfl rfl (gj_step (y_loadN Tryd.isAgg27 Tryd.sizeOf27 rfl) rfl rfl rfl (gj_step (y_fa fa86_2 rfl) rfl rfl rfl (gj_step (y_load1 Tryd.isAgg3 rfl rfl) rfl rfl rfl (?_))))
    refine gj_step (y_call Tryd.call47 rfl (fun w hp => k_rLend fr fl cap lo hi wish w)) rfl rfl rfl ?_
    refine gj_step (y_move rfl) rfl rfl rfl (gj_step (y_extract rfl rfl) rfl rfl rfl (gj_step (y_extract rfl rfl) rfl rfl rfl (gj_step (y_assign rfl) rfl rfl rfl (gj_step (y_assign rfl) rfl rfl rfl (?_)))))
    refine gj_nil ?_
    refine ej_th (cj_seq (cj_seq ?_))
    refine cj_regionG (gj_step (y_move rfl) rfl rfl rfl (gj_step (y_move rfl) rfl rfl rfl (gj_step (y_neq rfl rfl) rfl rfl rfl (gj_step (y_move rfl) rfl rfl rfl (gj_g 3 59 62 rfl rfl rfl rfl (fun hg59 => gj_yes rfl rfl rfl (y_move rfl) rfl rfl (gj_yes rfl rfl rfl (y_move rfl) rfl rfl (gj_yes rfl rfl rfl (y_neq rfl rfl) rfl rfl (gj_nil rfl)))) (gj_step (y_or rfl rfl rfl) rfl rfl rfl (gj_nil ?_)))))))
    refine ej_th ?_
    refine cj_cond rfl (fun h63 => ?_) (fun h63 => ?_)
    · exact absurd h63 (by simp)
    · have h63b := h63
      try simp only [sxb] at h63
      refine cj_skip (ej_th (cj_seq (cj_region ?_)))
      refine oj_step (y_fa0 fa86_0 rfl) rfl rfl rfl ?_
      refine oj_step (y_load1 Tryd.isAgg84 rfl rfl) rfl rfl rfl ?_
      refine oj_step (y_fa fa86_1 rfl) rfl rfl rfl ?_
      refine oj_step (y_load1 Tryd.isAgg9 rfl rfl) rfl rfl rfl ?_
      refine oj_step (y_call Tryd.call48 rfl (fun w hp => k_For rs Ar cr c w hp.rd hsm)) rfl rfl rfl ?_
      refine oj_step (y_move rfl) rfl rfl rfl ?_
      refine oj_step (y_extract rfl rfl) rfl rfl rfl ?_
      refine oj_step (y_extract rfl rfl) rfl rfl rfl ?_
      refine oj_alloc Tryd.zeroValue52 rfl rfl (fun b11 => ?_)
      refine oj_store rfl rfl rfl rfl Tryd.sizeOf52 rfl ?_
      refine oj_step (y_assign rfl) rfl rfl rfl ?_
      refine oj_nil ?_
      refine ej_th (cj_seq (cj_region ?_))
      refine oj_step (y_fa0 fa86_0 rfl) rfl rfl rfl ?_
      refine oj_step (y_load1 Tryd.isAgg84 rfl rfl) rfl rfl rfl ?_
      refine oj_step (y_fa fa86_1 rfl) rfl rfl rfl ?_
      refine oj_step (y_load1 Tryd.isAgg9 rfl rfl) rfl rfl rfl ?_
      refine oj_step (y_call Tryd.call49 rfl (fun w hp => k_rFor rs Ar cr c w hp.rd hsm)) rfl rfl rfl ?_
      refine oj_step (y_move rfl) rfl rfl rfl ?_
      refine oj_step (y_extract rfl rfl) rfl rfl rfl ?_
      refine oj_step (y_extract rfl rfl) rfl rfl rfl ?_
      refine oj_alloc Tryd.zeroValue52 rfl rfl (fun b12 => ?_)
      refine oj_store rfl rfl rfl rfl Tryd.sizeOf52 rfl ?_
      refine oj_step (y_assign rfl) rfl rfl rfl ?_
      refine oj_nil ?_
      refine ej_th (cj_seq ?_)
      refine cj_regionG ?_
      refine gj_step (y_loadN Tryd.isAgg52 Tryd.sizeOf52 rfl) rfl rfl rfl (gj_step (y_loadN Tryd.isAgg52 Tryd.sizeOf52 rfl) rfl rfl rfl (gj_step (y_bin rfl rfl (fun x y w => eq52 _ _ _ _ _ _ x y w)) rfl rfl rfl (gj_step (y_move rfl) rfl rfl rfl (?_))))
      refine gj_g 3 83 86 rfl rfl rfl rfl (fun hg83 => gj_yes rfl rfl rfl (y_move rfl) rfl rfl (gj_yes rfl rfl rfl (y_move rfl) rfl rfl (gj_yes rfl rfl rfl (y_eql rfl rfl) rfl rfl (gj_nil rfl)))) ?_
      refine gj_step (y_and rfl rfl rfl) rfl rfl rfl (gj_step (y_move rfl) rfl rfl rfl (?_))
      refine gj_g 1 88 89 rfl rfl rfl rfl (fun hg88 => gj_yes rfl rfl rfl (y_call Tryd.call23 rfl (fun w hp => k_works w hp.glo)) rfl rfl (gj_nil rfl)) ?_
      refine gj_step (y_and rfl rfl rfl) rfl rfl rfl (gj_step (y_assign rfl) rfl rfl rfl (?_))
      refine gj_nil ?_
      refine ej_th (cj_ret ?_)
      exact ej_ret1 rfl Tryd.results13 rfl (fun w' hp => ⟨by simp, hp.below⟩)

end Go.Proofs.YtafmgkiddhappaaDoor
