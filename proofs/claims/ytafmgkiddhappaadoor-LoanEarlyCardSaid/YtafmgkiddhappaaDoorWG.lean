/- Walks of functions of the program. -/
import Derived.Test.YtafmgkiddhappaaDoorWF
import Derived.Test.YtafmgkiddhappaaDoorPG
namespace Go.Proofs.YtafmgkiddhappaaDoor
open Go.Sx Go.RowKit
set_option maxRecDepth 20000
theorem k_Index (l : List Int) (n : Int) (A : Option Addr) (c : Nat) (w : World) (hl : Rd w 1 enInt A l) : Calls Tryd.prog 117 #[.slice A l.length c, .int .i64 n] w (fun e w' => e = .returned (.int .i64 (seek l n 0)) ∧ Grow w w') := by
  have hlen := hl.len
  refine enter_pure (args := [.slice A l.length c, .int .i64 n]) [sl (fun b => b < w.heap.size) 1 enInt A l] Tryd.func117 rfl (by rw [Tryd.ntmps117]; simp) (fun g hg => by simp at hg; subst hg; exact ⟨hl, fun _ h => h⟩) ?_
  refine cj_seq ?_
  refine cj_regionG (gj_step (y_assign rfl) rfl rfl rfl (gj_nil ?_))
  refine ej_th (cj_seq (cj_seq ?_))
  refine cj_regionG (gj_step (y_move rfl) rfl rfl rfl (gj_step (y_lenA Tryd.underlying23 rfl) rfl rfl rfl (gj_step (y_move rfl) rfl rfl rfl (gj_nil ?_))))
  refine ej_th (cj_block ?_)
  refine cj_lpc (X := Nat) (fun k => k ≤ l.length ∧ seek (l.drop k) n k = seek l n 0) (fun k => [(0, .slice A l.length c), (1, .int .i64 n), (7, .int .i64 l.length), (8, .int .i64 k)]) (fun k => l.length - k) 0 (⟨Nat.zero_le _, rfl⟩) ⟨rfl, rfl, rfl, rfl, trivial⟩ ?_
  rintro k ⟨hk, hs⟩
  refine cj_seq ?_
  refine cj_regionG (gj_step (y_lss rfl rfl) rfl rfl rfl (gj_nil ?_))
  refine ej_th (cj_seq ?_)
  refine cj_cond rfl (fun h9 => ?_) (fun h9 => ?_)
  · have h9b := h9
    try simp only [sxb] at h9
    obtain ⟨x, hx⟩ : ∃ x, l[k]? = some x := ⟨_, List.getElem?_eq_getElem (by omega)⟩
    rw [seek_drop l n k x hx] at hs
    refine cj_skip (ej_th (cj_seq (cj_block (cj_seq ?_))))
    refine cj_regionG (gj_step (y_move rfl) rfl rfl rfl (gj_step (y_assign rfl) rfl rfl rfl (gj_nil ?_)))
    refine ej_th (cj_seq ?_)
    refine cj_regionG (gj_step (y_move rfl) rfl rfl rfl (gj_step (y_move rfl) rfl rfl rfl (gj_step (y_move rfl) rfl rfl rfl (gj_step (y_ixR (reads_sl) Tryd.underlying23 Tryd.sizeOf3 rfl rfl (⟨by omega, by omega⟩)) rfl rfl rfl (gj_step (y_ld0 (reads_sl) Tryd.isAgg3 rfl (hx) rfl) rfl rfl rfl (gj_step (y_eql rfl rfl) rfl rfl rfl (gj_nil ?_)))))))
    refine ej_th ?_
    refine cj_cond rfl (fun h16 => ?_) (fun h16 => ?_)
    · have h16b := h16
      try simp only [sxb] at h16
      refine cj_seq ?_
      refine cj_regionG (gj_step (y_move rfl) rfl rfl rfl (gj_step (y_assign rfl) rfl rfl rfl (gj_nil ?_)))
      refine ej_th (cj_ret (ej_blk_ret (ej_then_ret (ej_then_ret (ej_blk_ret (ej_then_ret ?_))))))
      refine ej_ret1 rfl Tryd.results117 rfl (fun w' hp => ⟨?_, hp.below⟩)
      rw [← hs, if_pos (by omega)]
    · have h16b := h16
      try simp only [sxb] at h16
      refine cj_skip (ej_blk (ej_th ?_))
      refine cj_regionG (gj_step (y_add rfl rfl (by omega)) rfl rfl rfl (gj_step (y_move rfl) rfl rfl rfl (gj_nil ?_)))
      refine ej_nx (k + 1) (by omega) ⟨by omega, ?_⟩ ⟨rfl, rfl, rfl, rfl, trivial⟩
      rw [← hs, if_neg (by omega)]
  · have h9b := h9
    try simp only [sxb] at h9
    refine cj_exit (ej_then_exit (ej_then_exit (ej_blk_hit (ej_th (cj_seq ?_)))))
    refine cj_regionG (gj_step (y_assign rfl) rfl rfl rfl (gj_nil ?_))
    refine ej_th (cj_ret ?_)
    refine ej_ret1 rfl Tryd.results117 rfl (fun w' hp => ⟨?_, hp.below⟩)
    rw [← hs, List.drop_of_length_le (by omega)]; rfl

theorem k_Contains (l : List Int) (n : Int) (A : Option Addr) (c : Nat) (w : World) (hl : Rd w 1 enInt A l) : Calls Tryd.prog 100 #[.slice A l.length c, .int .i64 n] w (fun e w' => e = .returned (.bool (decide (0 ≤ seek l n 0))) ∧ Grow w w') := by
  refine enter_pure (args := [.slice A l.length c, .int .i64 n]) [sl (fun b => b < w.heap.size) 1 enInt A l] Tryd.func100 rfl (by rw [Tryd.ntmps100]; simp) (fun g hg => by simp at hg; subst hg; exact ⟨hl, fun _ h => h⟩) ?_
  refine cj_seq ?_
  refine cj_regionG (gj_step (y_assign rfl) rfl rfl rfl (gj_nil ?_))
  refine ej_th (cj_seq ?_)
  refine cj_regionG ?_
  refine gj_step (y_move rfl) rfl rfl rfl (gj_step (y_move rfl) rfl rfl rfl (?_))
  refine gj_step (y_call Tryd.call117 rfl (fun w hp => k_Index _ _ _ _ w hp.rd)) rfl rfl rfl ?_
  refine gj_step (y_geq rfl rfl) rfl rfl rfl (gj_step (y_assign rfl) rfl rfl rfl (?_))
  refine gj_nil ?_
  refine ej_th (cj_ret ?_)
  exact ej_ret1 rfl Tryd.results100 rfl (fun w' hp => ⟨rfl, hp.below⟩)

theorem k_Check (d : Deal) (Ac : Option Addr) (cc : Nat) (w : World) (hc : Rd w 1 enInt Ac d.closed) : Calls Tryd.prog 31 #[.agg #[.int .i64 d.lr, .int .i64 d.lc, .int .i64 d.tr, .int .i64 d.tf, .int .i64 d.te, .int .i64 d.tt, .int .i64 d.tg, .slice Ac d.closed.length cc, .int .i64 d.start, .int .i64 d.sum]] w (fun e w' => e = .returned (.int .i64 (errD (badDeal d))) ∧ Grow w w') := by
  have hlen := hc.len
  refine enter_pure (args := [.agg #[.int .i64 d.lr, .int .i64 d.lc, .int .i64 d.tr, .int .i64 d.tf, .int .i64 d.te, .int .i64 d.tt, .int .i64 d.tg, .slice Ac d.closed.length cc, .int .i64 d.start, .int .i64 d.sum]]) [sl (fun b => b < w.heap.size) 1 enInt Ac d.closed] Tryd.func31 rfl (by rw [Tryd.ntmps31]; simp) (fun g hg => by simp at hg; subst hg; exact ⟨hc, fun _ h => h⟩) ?_
  refine cj_seq (cj_region ?_)
  refine oj_box rfl rfl rfl (fun b1 => ?_)
  refine oj_step (y_assign rfl) rfl rfl rfl ?_
  refine oj_nil ?_
  refine ej_th (cj_seq (cj_region ?_))
  refine oj_step (y_fa fa44_1 rfl) rfl rfl rfl ?_
  refine oj_step (y_loadN Tryd.isAgg42 Tryd.sizeOf42 rfl) rfl rfl rfl ?_
  refine oj_alloc Tryd.zeroValue42 rfl rfl (fun b3 => ?_)
  refine oj_store rfl rfl rfl rfl Tryd.sizeOf42 rfl ?_
  refine oj_nil ?_
  refine ej_th (cj_seq (cj_seq ?_))
  refine cj_regionG ?_
  refine gj_step (y_fa0 fa44_0 rfl) rfl rfl rfl (gj_step (y_fa0 fa40_0 rfl) rfl rfl rfl (gj_step (y_load1 Tryd.isAgg3 rfl rfl) rfl rfl rfl (?_)))
  refine gj_step (y_call Tryd.call54 rfl (fun w hp => k_within _ _ _ w)) rfl rfl rfl ?_
  refine gj_step (y_not rfl) rfl rfl rfl (gj_step (y_move rfl) rfl rfl rfl (?_))
  refine gj_g 5 13 18 rfl rfl rfl rfl (fun hg13 => gj_yes rfl rfl rfl (y_fa0 fa44_0 rfl) rfl rfl (gj_yes rfl rfl rfl (y_fa fa40_1 rfl) rfl rfl (gj_yes rfl rfl rfl (y_load1 Tryd.isAgg3 rfl rfl) rfl rfl (gj_yes rfl rfl rfl (y_call Tryd.call54 rfl (fun w hp => k_within _ _ _ w)) rfl rfl (gj_yes rfl rfl rfl (y_not rfl) rfl rfl (gj_nil rfl)))))) ?_
  refine gj_step (y_or rfl rfl rfl) rfl rfl rfl (gj_step (y_move rfl) rfl rfl rfl (?_))
  refine gj_g 4 20 24 rfl rfl rfl rfl (fun hg20 => gj_yes rfl rfl rfl (y_fa0 fa42_0 rfl) rfl rfl (gj_yes rfl rfl rfl (y_load1 Tryd.isAgg3 rfl rfl) rfl rfl (gj_yes rfl rfl rfl (y_call Tryd.call54 rfl (fun w hp => k_within _ _ _ w)) rfl rfl (gj_yes rfl rfl rfl (y_not rfl) rfl rfl (gj_nil rfl))))) ?_
  refine gj_step (y_or rfl rfl rfl) rfl rfl rfl (gj_step (y_move rfl) rfl rfl rfl (?_))
  refine gj_g 4 26 30 rfl rfl rfl rfl (fun hg26 => gj_yes rfl rfl rfl (y_fa fa42_1 rfl) rfl rfl (gj_yes rfl rfl rfl (y_load1 Tryd.isAgg3 rfl rfl) rfl rfl (gj_yes rfl rfl rfl (y_call Tryd.call54 rfl (fun w hp => k_within _ _ _ w)) rfl rfl (gj_yes rfl rfl rfl (y_not rfl) rfl rfl (gj_nil rfl))))) ?_
  refine gj_step (y_or rfl rfl rfl) rfl rfl rfl (gj_step (y_move rfl) rfl rfl rfl (?_))
  refine gj_g 4 32 36 rfl rfl rfl rfl (fun hg32 => gj_yes rfl rfl rfl (y_fa fa42_2 rfl) rfl rfl (gj_yes rfl rfl rfl (y_load1 Tryd.isAgg3 rfl rfl) rfl rfl (gj_yes rfl rfl rfl (y_call Tryd.call54 rfl (fun w hp => k_within _ _ _ w)) rfl rfl (gj_yes rfl rfl rfl (y_not rfl) rfl rfl (gj_nil rfl))))) ?_
  refine gj_step (y_or rfl rfl rfl) rfl rfl rfl (gj_step (y_move rfl) rfl rfl rfl (?_))
  refine gj_g 4 38 42 rfl rfl rfl rfl (fun hg38 => gj_yes rfl rfl rfl (y_fa fa42_3 rfl) rfl rfl (gj_yes rfl rfl rfl (y_load1 Tryd.isAgg3 rfl rfl) rfl rfl (gj_yes rfl rfl rfl (y_call Tryd.call54 rfl (fun w hp => k_within _ _ _ w)) rfl rfl (gj_yes rfl rfl rfl (y_not rfl) rfl rfl (gj_nil rfl))))) ?_
  refine gj_step (y_or rfl rfl rfl) rfl rfl rfl (gj_step (y_move rfl) rfl rfl rfl (?_))
  refine gj_g 4 44 48 rfl rfl rfl rfl (fun hg44 => gj_yes rfl rfl rfl (y_fa fa42_4 rfl) rfl rfl (gj_yes rfl rfl rfl (y_load1 Tryd.isAgg3 rfl rfl) rfl rfl (gj_yes rfl rfl rfl (y_call Tryd.call54 rfl (fun w hp => k_within _ _ _ w)) rfl rfl (gj_yes rfl rfl rfl (y_not rfl) rfl rfl (gj_nil rfl))))) ?_
  refine gj_step (y_or rfl rfl rfl) rfl rfl rfl (?_)
  refine gj_nil ?_
  refine ej_th ?_
  refine cj_cond rfl (fun h49 => ?_) (fun h49 => ?_)
  · have h49b := h49
    try simp only [sxb] at h49
    refine cj_seq ?_
    refine cj_regionG (gj_step (y_assign rfl) rfl rfl rfl (gj_nil ?_))
    refine ej_th (cj_ret (ej_then_ret ?_))
    refine ej_ret1 rfl Tryd.results31 rfl (fun w' hp => ⟨?_, hp.below⟩)
    rw [badDeal, show badDeal1 d = true from h49b]; rfl
  · have h49b := h49
    try simp only [sxb] at h49
    refine cj_skip (ej_th (cj_seq (cj_seq ?_)))
    refine cj_regionG ?_
    refine gj_step (y_fa fa44_2 rfl) rfl rfl rfl (gj_step (y_load1 Tryd.isAgg23 rfl rfl) rfl rfl rfl (gj_step (y_lenA Tryd.underlying23 rfl) rfl rfl rfl (gj_step (y_gtr rfl rfl) rfl rfl rfl (gj_step (y_move rfl) rfl rfl rfl (?_)))))
    refine gj_g 4 54 58 rfl rfl rfl rfl (fun hg54 => gj_yes rfl rfl rfl (y_fa fa44_3 rfl) rfl rfl (gj_yes rfl rfl rfl (y_load1 Tryd.isAgg3 rfl rfl) rfl rfl (gj_yes rfl rfl rfl (y_call Tryd.call59 rfl (fun w hp => k_day _ w)) rfl rfl (gj_yes rfl rfl rfl (y_not rfl) rfl rfl (gj_nil rfl))))) ?_
    refine gj_step (y_or rfl rfl rfl) rfl rfl rfl (gj_step (y_move rfl) rfl rfl rfl (?_))
    refine gj_g 4 60 64 rfl rfl rfl rfl (fun hg60 => gj_yes rfl rfl rfl (y_fa fa44_4 rfl) rfl rfl (gj_yes rfl rfl rfl (y_load1 Tryd.isAgg3 rfl rfl) rfl rfl (gj_yes rfl rfl rfl (y_call Tryd.call54 rfl (fun w hp => k_within _ _ _ w)) rfl rfl (gj_yes rfl rfl rfl (y_not rfl) rfl rfl (gj_nil rfl))))) ?_
    refine gj_step (y_or rfl rfl rfl) rfl rfl rfl (?_)
    refine gj_nil ?_
    refine ej_th ?_
    refine cj_cond rfl (fun h65 => ?_) (fun h65 => ?_)
    · have h65b := h65
      try simp only [sxb] at h65
      refine cj_seq ?_
      refine cj_regionG (gj_step (y_assign rfl) rfl rfl rfl (gj_nil ?_))
      refine ej_th (cj_ret (ej_then_ret ?_))
      refine ej_ret1 rfl Tryd.results31 rfl (fun w' hp => ⟨?_, hp.below⟩)
      rw [badDeal, show badDeal2 d = true from h65b]; simp [errD]
    · have h65b := h65
      try simp only [sxb] at h65
      refine cj_skip (ej_th (cj_seq (cj_seq ?_)))
      refine cj_regionG (gj_step (y_fa fa44_2 rfl) rfl rfl rfl (gj_step (y_load1 Tryd.isAgg23 rfl rfl) rfl rfl rfl (gj_step (y_lenA Tryd.underlying23 rfl) rfl rfl rfl (gj_step (y_move rfl) rfl rfl rfl (gj_nil ?_)))))
      refine ej_th (cj_block ?_)
      refine cj_lpc (X := Nat) (fun k => k ≤ d.closed.length ∧ ascOk (prevOf d.closed k) (d.closed.drop k) = ascOk (-1) d.closed) (fun k => [(1, .pointer (some ⟨b1, 0, none⟩)), (67, .slice Ac d.closed.length cc), (68, .int .i64 d.closed.length), (69, .int .i64 k)]) (fun k => d.closed.length - k) 0 (⟨Nat.zero_le _, rfl⟩) ⟨rfl, rfl, rfl, rfl, trivial⟩ ?_
      rintro k ⟨hk, hl⟩
      refine cj_seq ?_
      refine cj_regionG (gj_step (y_lss rfl rfl) rfl rfl rfl (gj_nil ?_))
      refine ej_th (cj_seq ?_)
      refine cj_cond rfl (fun h70 => ?_) (fun h70 => ?_)
      · have h70b := h70
        try simp only [sxb] at h70
        obtain ⟨n, hx⟩ : ∃ n, d.closed[k]? = some n := ⟨_, List.getElem?_eq_getElem (by omega)⟩
        rw [ascOk_drop _ k n hx] at hl
        refine cj_skip (ej_th (cj_seq (cj_block (cj_seq ?_))))
        refine cj_regionG (gj_step (y_move rfl) rfl rfl rfl (gj_step (y_ixR (reads_sl) Tryd.underlying23 Tryd.sizeOf3 rfl rfl (⟨by omega, by omega⟩)) rfl rfl rfl (gj_step (y_ld0 (reads_sl) Tryd.isAgg3 rfl (hx) rfl) rfl rfl rfl (gj_step (y_assign rfl) rfl rfl rfl (gj_step (y_assign rfl) rfl rfl rfl (gj_nil ?_))))))
        refine ej_th (cj_seq ?_)
        refine cj_regionG ?_
        refine gj_step (y_move rfl) rfl rfl rfl (?_)
        refine gj_step (y_call Tryd.call59 rfl (fun w hp => k_day _ w)) rfl rfl rfl ?_
        refine gj_step (y_not rfl) rfl rfl rfl (gj_step (y_move rfl) rfl rfl rfl (?_))
        refine gj_g 12 77 89 rfl rfl rfl rfl (fun hg77 => gj_yes rfl rfl rfl (y_move rfl) rfl rfl (gj_yes rfl rfl rfl (y_gtr rfl rfl) rfl rfl (gj_yes rfl rfl rfl (y_move rfl) rfl rfl (gj_g 8 80 88 rfl rfl rfl rfl (fun hg80 => gj_yes rfl rfl rfl (y_fa fa44_2 rfl) rfl rfl (gj_yes rfl rfl rfl (y_load1 Tryd.isAgg23 rfl rfl) rfl rfl (gj_yes rfl rfl rfl (y_move rfl) rfl rfl (gj_yes rfl rfl rfl (y_sub rfl rfl (by have := of_decide_eq_true hg80; omega)) rfl rfl (gj_yes rfl rfl rfl (y_ixR (reads_sl) Tryd.underlying23 Tryd.sizeOf3 rfl rfl (⟨by have := of_decide_eq_true hg80; omega, by have := of_decide_eq_true hg80; omega⟩)) rfl rfl (gj_yes rfl rfl rfl (y_ld0 (reads_sl) Tryd.isAgg3 rfl (geq 0 (by have := of_decide_eq_true hg80; omega)) rfl) rfl rfl (gj_yes rfl rfl rfl (y_move rfl) rfl rfl (gj_yes rfl rfl rfl (y_geq rfl rfl) rfl rfl (gj_nil rfl))))))))) (gj_yes rfl rfl rfl (y_and rfl rfl rfl) rfl rfl (gj_nil rfl)))))) ?_
        refine gj_step (y_or rfl rfl rfl) rfl rfl rfl (?_)
        refine gj_nil ?_
        refine ej_th ?_
        refine cj_cond rfl (fun h90 => ?_) (fun h90 => ?_)
        · have h90b := h90
          try simp only [sxb] at h90
          have hstep : (btw 0 n 36500 && decide (prevOf d.closed k < n)) = false := not_t ((asc_V d.closed k n).symm.trans h90b)
          refine cj_seq ?_
          refine cj_regionG (gj_step (y_assign rfl) rfl rfl rfl (gj_nil ?_))
          refine ej_th (cj_ret (ej_blk_ret (ej_then_ret (ej_then_ret (ej_blk_ret (ej_then_ret ?_))))))
          refine ej_ret1 rfl Tryd.results31 rfl (fun w' hp => ⟨?_, hp.below⟩)
          rw [badDeal, ← hl, hstep]; simp [errD]
        · have h90b := h90
          try simp only [sxb] at h90
          have hstep : (btw 0 n 36500 && decide (prevOf d.closed k < n)) = true := not_f ((asc_V d.closed k n).symm.trans h90b)
          refine cj_skip (ej_blk (ej_th ?_))
          refine cj_regionG (gj_step (y_add rfl rfl (by omega)) rfl rfl rfl (gj_step (y_move rfl) rfl rfl rfl (gj_nil ?_)))
          refine ej_nx (k + 1) (by omega) ⟨by omega, ?_⟩ ⟨rfl, rfl, rfl, rfl, trivial⟩
          rw [← hl, hstep, Bool.true_and]
      · have h70b := h70
        try simp only [sxb] at h70
        refine cj_exit (ej_then_exit (ej_then_exit (ej_blk_hit (ej_th (cj_seq ?_)))))
        refine cj_regionG (gj_step (y_assign rfl) rfl rfl rfl (gj_nil ?_))
        refine ej_th (cj_ret ?_)
        refine ej_ret1 rfl Tryd.results31 rfl (fun w' hp => ⟨?_, hp.below⟩)
        rw [List.drop_of_length_le (by omega)] at hl
        rw [badDeal, show badDeal1 d = false from h49b, show badDeal2 d = false from h65b, ← hl]; rfl

end Go.Proofs.YtafmgkiddhappaaDoor
