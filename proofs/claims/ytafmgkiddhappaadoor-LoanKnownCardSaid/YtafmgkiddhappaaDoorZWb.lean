/- Texts of ours, joined: 8 of them. Conditions: none. -/
import Derived.Test.YtafmgkiddhappaaDoorZWa
import Derived.Test.YtafmgkiddhappaaDoorZP
namespace Go.Proofs.YtafmgkiddhappaaDoor
open Go.Sx Go.RowKit
set_option maxRecDepth 20000
theorem k_Index (l : List Int) (n : Int) (A : Option Addr) (c : Nat) (w : World) (hl : Rd w 1 enInt A l) : Calls Tryd.prog 117 #[.slice A l.length c, .int .i64 n] w (fun e w' => e = .returned (.int .i64 (seek l n 0)) ∧ Grow w w') := by
  have hlen := hl.len
  refine enter_pure (args := [.slice A l.length c, .int .i64 n]) [sl (fun b => b < w.heap.size) 1 enInt A l] Tryd.func117 rfl (by rw [Tryd.ntmps117]; simp) (fun g hg => by simp at hg; subst hg; exact ⟨hl, fun _ h => h⟩) ?_
  refine cj_seq ?_
  refine cj_regionG (gj_step (y_assign rfl) rfl rfl rfl (gj_nil ?_))
  refine ej_th (cj_seq (cj_seq ?_))
  refine cj_regionG (gj_step (y_move rfl) rfl rfl rfl (gj_step (y_lenA Tryd.underlying23 rfl) rfl rfl rfl (gj_step (y_move rfl) rfl rfl rfl (gj_nil ?_))))
  refine ej_th (cj_block ?_)
  refine cj_lpc (X := Nat) (fun k => k ≤ l.length ∧ seek (l.drop k) n k = seek l n 0) (fun k => [(0, .slice A l.length c), (1, .int .i64 n), (7, .int .i64 l.length), (8, .int .i64 k)]) (fun k => l.length - k) 0 (⟨Nat.zero_le _, rfl⟩) ⟨rfl, rfl, rfl, rfl, trivial⟩ ?_
  rintro k ⟨hk, hs⟩
  refine cj_seq ?_
  refine cj_regionG (gj_step (y_lss rfl rfl) rfl rfl rfl (gj_nil ?_))
  refine ej_th (cj_seq ?_)
  refine cj_cond rfl (fun h9 => ?_) (fun h9 => ?_)
  · have h9b := h9
    try simp only [sxb] at h9
    obtain ⟨x, hx⟩ : ∃ x, l[k]? = some x := ⟨_, List.getElem?_eq_getElem (by omega)⟩
    rw [seek_drop l n k x hx] at hs
    refine cj_skip (ej_th (cj_seq (cj_block (cj_seq ?_))))
    refine cj_regionG (gj_step (y_move rfl) rfl rfl rfl (gj_step (y_assign rfl) rfl rfl rfl (gj_nil ?_)))
    refine ej_th (cj_seq ?_)
    refine cj_regionG (gj_step (y_move rfl) rfl rfl rfl (gj_step (y_move rfl) rfl rfl rfl (gj_step (y_move rfl) rfl rfl rfl (gj_step (y_ixR (reads_sl) Tryd.underlying23 Tryd.sizeOf3 rfl rfl (⟨by omega, by omega⟩)) rfl rfl rfl (gj_step (y_ld0 (reads_sl) Tryd.isAgg3 rfl (hx) rfl) rfl rfl rfl (gj_step (y_eql rfl rfl) rfl rfl rfl (gj_nil ?_)))))))
    refine ej_th ?_
    refine cj_cond rfl (fun h16 => ?_) (fun h16 => ?_)
    · have h16b := h16
      try simp only [sxb] at h16
      refine cj_seq ?_
      refine cj_regionG (gj_step (y_move rfl) rfl rfl rfl (gj_step (y_assign rfl) rfl rfl rfl (gj_nil ?_)))
      refine ej_th (cj_ret (ej_blk_ret (ej_then_ret (ej_then_ret (ej_blk_ret (ej_then_ret ?_))))))
      refine ej_ret1 rfl Tryd.results117 rfl (fun w' hp => ⟨?_, hp.below⟩)
      rw [← hs, if_pos (by omega)]
    · have h16b := h16
      try simp only [sxb] at h16
      refine cj_skip (ej_blk (ej_th ?_))
      refine cj_regionG (gj_step (y_add rfl rfl (by omega)) rfl rfl rfl (gj_step (y_move rfl) rfl rfl rfl (gj_nil ?_)))
      refine ej_nx (k + 1) (by omega) ⟨by omega, ?_⟩ ⟨rfl, rfl, rfl, rfl, trivial⟩
      rw [← hs, if_neg (by omega)]
  · have h9b := h9
    try simp only [sxb] at h9
    refine cj_exit (ej_then_exit (ej_then_exit (ej_blk_hit (ej_th (cj_seq ?_)))))
    refine cj_regionG (gj_step (y_assign rfl) rfl rfl rfl (gj_nil ?_))
    refine ej_th (cj_ret ?_)
    refine ej_ret1 rfl Tryd.results117 rfl (fun w' hp => ⟨?_, hp.below⟩)
    rw [← hs, List.drop_of_length_le (by omega)]; rfl

theorem k_Contains (l : List Int) (n : Int) (A : Option Addr) (c : Nat) (w : World) (hl : Rd w 1 enInt A l) : Calls Tryd.prog 100 #[.slice A l.length c, .int .i64 n] w (fun e w' => e = .returned (.bool (decide (0 ≤ seek l n 0))) ∧ Grow w w') := by
  refine enter_pure (args := [.slice A l.length c, .int .i64 n]) [sl (fun b => b < w.heap.size) 1 enInt A l] Tryd.func100 rfl (by rw [Tryd.ntmps100]; simp) (fun g hg => by simp at hg; subst hg; exact ⟨hl, fun _ h => h⟩) ?_
  refine cj_seq ?_
  refine cj_regionG (gj_step (y_assign rfl) rfl rfl rfl (gj_nil ?_))
  refine ej_th (cj_seq ?_)
  refine cj_regionG ?_
  refine gj_step (y_move rfl) rfl rfl rfl (gj_step (y_move rfl) rfl rfl rfl (?_))
  refine gj_step (y_call Tryd.call117 rfl (fun w hp => k_Index _ _ _ _ w hp.rd)) rfl rfl rfl ?_
  refine gj_step (y_geq rfl rfl) rfl rfl rfl (gj_step (y_assign rfl) rfl rfl rfl (?_))
  refine gj_nil ?_
  refine ej_th (cj_ret ?_)
  exact ej_ret1 rfl Tryd.results100 rfl (fun w' hp => ⟨rfl, hp.below⟩)

theorem k_Check (d : Deal) (Ac : Option Addr) (cc : Nat) (w : World) (hc : Rd w 1 enInt Ac d.closed) : Calls Tryd.prog 31 #[.agg #[.int .i64 d.lr, .int .i64 d.lc, .int .i64 d.tr, .int .i64 d.tf, .int .i64 d.te, .int .i64 d.tt, .int .i64 d.tg, .slice Ac d.closed.length cc, .int .i64 d.start, .int .i64 d.sum]] w (fun e w' => e = .returned (.int .i64 (errD (badDeal d))) ∧ Grow w w') := by
  have hlen := hc.len
  refine enter_pure (args := [.agg #[.int .i64 d.lr, .int .i64 d.lc, .int .i64 d.tr, .int .i64 d.tf, .int .i64 d.te, .int .i64 d.tt, .int .i64 d.tg, .slice Ac d.closed.length cc, .int .i64 d.start, .int .i64 d.sum]]) [sl (fun b => b < w.heap.size) 1 enInt Ac d.closed] Tryd.func31 rfl (by rw [Tryd.ntmps31]; simp) (fun g hg => by simp at hg; subst hg; exact ⟨hc, fun _ h => h⟩) ?_
  refine cj_seq (cj_region ?_)
  refine oj_box rfl rfl rfl (fun b1 => ?_)
  refine oj_step (y_assign rfl) rfl rfl rfl ?_
  refine oj_nil ?_
  refine ej_th (cj_seq (cj_region ?_))
  refine oj_step (y_fa fa44_1 rfl) rfl rfl rfl ?_
  refine oj_step (y_loadN Tryd.isAgg42 Tryd.sizeOf42 rfl) rfl rfl rfl ?_
  refine oj_alloc Tryd.zeroValue42 rfl rfl (fun b3 => ?_)
  refine oj_store rfl rfl rfl rfl Tryd.sizeOf42 rfl ?_
  refine oj_nil ?_
  refine ej_th (cj_seq (cj_seq ?_))
  refine cj_regionG ?_
  refine gj_step (y_fa0 fa44_0 rfl) rfl rfl rfl (gj_step (y_fa0 fa40_0 rfl) rfl rfl rfl (gj_step (y_load1 Tryd.isAgg3 rfl rfl) rfl rfl rfl (?_)))
  refine gj_step (y_call Tryd.call54 rfl (fun w hp => k_within _ _ _ w)) rfl rfl rfl ?_
  refine gj_step (y_not rfl) rfl rfl rfl (gj_step (y_move rfl) rfl rfl rfl (?_))
  refine gj_g 5 13 18 rfl rfl rfl rfl (fun hg13 => gj_yes rfl rfl rfl (y_fa0 fa44_0 rfl) rfl rfl (gj_yes rfl rfl rfl (y_fa fa40_1 rfl) rfl rfl (gj_yes rfl rfl rfl (y_load1 Tryd.isAgg3 rfl rfl) rfl rfl (gj_yes rfl rfl rfl (y_call Tryd.call54 rfl (fun w hp => k_within _ _ _ w)) rfl rfl (gj_yes rfl rfl rfl (y_not rfl) rfl rfl (gj_nil rfl)))))) ?_
  refine gj_step (y_or rfl rfl rfl) rfl rfl rfl (gj_step (y_move rfl) rfl rfl rfl (?_))
  refine gj_g 4 20 24 rfl rfl rfl rfl (fun hg20 => gj_yes rfl rfl rfl (y_fa0 fa42_0 rfl) rfl rfl (gj_yes rfl rfl rfl (y_load1 Tryd.isAgg3 rfl rfl) rfl rfl (gj_yes rfl rfl rfl (y_call Tryd.call54 rfl (fun w hp => k_within _ _ _ w)) rfl rfl (gj_yes rfl rfl rfl (y_not rfl) rfl rfl (gj_nil rfl))))) ?_
  refine gj_step (y_or rfl rfl rfl) rfl rfl rfl (gj_step (y_move rfl) rfl rfl rfl (?_))
  refine gj_g 4 26 30 rfl rfl rfl rfl (fun hg26 => gj_yes rfl rfl rfl (y_fa fa42_1 rfl) rfl rfl (gj_yes rfl rfl rfl (y_load1 Tryd.isAgg3 rfl rfl) rfl rfl (gj_yes rfl rfl rfl (y_call Tryd.call54 rfl (fun w hp => k_within _ _ _ w)) rfl rfl (gj_yes rfl rfl rfl (y_not rfl) rfl rfl (gj_nil rfl))))) ?_
  refine gj_step (y_or rfl rfl rfl) rfl rfl rfl (gj_step (y_move rfl) rfl rfl rfl (?_))
  refine gj_g 4 32 36 rfl rfl rfl rfl (fun hg32 => gj_yes rfl rfl rfl (y_fa fa42_2 rfl) rfl rfl (gj_yes rfl rfl rfl (y_load1 Tryd.isAgg3 rfl rfl) rfl rfl (gj_yes rfl rfl rfl (y_call Tryd.call54 rfl (fun w hp => k_within _ _ _ w)) rfl rfl (gj_yes rfl rfl rfl (y_not rfl) rfl rfl (gj_nil rfl))))) ?_
  refine gj_step (y_or rfl rfl rfl) rfl rfl rfl (gj_step (y_move rfl) rfl rfl rfl (?_))
  refine gj_g 4 38 42 rfl rfl rfl rfl (fun hg38 => gj_yes rfl rfl rfl (y_fa fa42_3 rfl) rfl rfl (gj_yes rfl rfl rfl (y_load1 Tryd.isAgg3 rfl rfl) rfl rfl (gj_yes rfl rfl rfl (y_call Tryd.call54 rfl (fun w hp => k_within _ _ _ w)) rfl rfl (gj_yes rfl rfl rfl (y_not rfl) rfl rfl (gj_nil rfl))))) ?_
  refine gj_step (y_or rfl rfl rfl) rfl rfl rfl (gj_step (y_move rfl) rfl rfl rfl (?_))
  refine gj_g 4 44 48 rfl rfl rfl rfl (fun hg44 => gj_yes rfl rfl rfl (y_fa fa42_4 rfl) rfl rfl (gj_yes rfl rfl rfl (y_load1 Tryd.isAgg3 rfl rfl) rfl rfl (gj_yes rfl rfl rfl (y_call Tryd.call54 rfl (fun w hp => k_within _ _ _ w)) rfl rfl (gj_yes rfl rfl rfl (y_not rfl) rfl rfl (gj_nil rfl))))) ?_
  refine gj_step (y_or rfl rfl rfl) rfl rfl rfl (?_)
  refine gj_nil ?_
  refine ej_th ?_
  refine cj_cond rfl (fun h49 => ?_) (fun h49 => ?_)
  · have h49b := h49
    try simp only [sxb] at h49
    refine cj_seq ?_
    refine cj_regionG (gj_step (y_assign rfl) rfl rfl rfl (gj_nil ?_))
    refine ej_th (cj_ret (ej_then_ret ?_))
    refine ej_ret1 rfl Tryd.results31 rfl (fun w' hp => ⟨?_, hp.below⟩)
    rw [badDeal, show badDeal1 d = true from h49b]; rfl
  · have h49b := h49
    try simp only [sxb] at h49
    refine cj_skip (ej_th (cj_seq (cj_seq ?_)))
    refine cj_regionG ?_
    refine gj_step (y_fa fa44_2 rfl) rfl rfl rfl (gj_step (y_load1 Tryd.isAgg23 rfl rfl) rfl rfl rfl (gj_step (y_lenA Tryd.underlying23 rfl) rfl rfl rfl (gj_step (y_gtr rfl rfl) rfl rfl rfl (gj_step (y_move rfl) rfl rfl rfl (?_)))))
    refine gj_g 4 54 58 rfl rfl rfl rfl (fun hg54 => gj_yes rfl rfl rfl (y_fa fa44_3 rfl) rfl rfl (gj_yes rfl rfl rfl (y_load1 Tryd.isAgg3 rfl rfl) rfl rfl (gj_yes rfl rfl rfl (y_call Tryd.call59 rfl (fun w hp => k_day _ w)) rfl rfl (gj_yes rfl rfl rfl (y_not rfl) rfl rfl (gj_nil rfl))))) ?_
    refine gj_step (y_or rfl rfl rfl) rfl rfl rfl (gj_step (y_move rfl) rfl rfl rfl (?_))
    refine gj_g 4 60 64 rfl rfl rfl rfl (fun hg60 => gj_yes rfl rfl rfl (y_fa fa44_4 rfl) rfl rfl (gj_yes rfl rfl rfl (y_load1 Tryd.isAgg3 rfl rfl) rfl rfl (gj_yes rfl rfl rfl (y_call Tryd.call54 rfl (fun w hp => k_within _ _ _ w)) rfl rfl (gj_yes rfl rfl rfl (y_not rfl) rfl rfl (gj_nil rfl))))) ?_
    refine gj_step (y_or rfl rfl rfl) rfl rfl rfl (?_)
    refine gj_nil ?_
    refine ej_th ?_
    refine cj_cond rfl (fun h65 => ?_) (fun h65 => ?_)
    · have h65b := h65
      try simp only [sxb] at h65
      refine cj_seq ?_
      refine cj_regionG (gj_step (y_assign rfl) rfl rfl rfl (gj_nil ?_))
      refine ej_th (cj_ret (ej_then_ret ?_))
      refine ej_ret1 rfl Tryd.results31 rfl (fun w' hp => ⟨?_, hp.below⟩)
      rw [badDeal, show badDeal2 d = true from h65b]; simp [errD]
    · have h65b := h65
      try simp only [sxb] at h65
      refine cj_skip (ej_th (cj_seq (cj_seq ?_)))
      refine cj_regionG (gj_step (y_fa fa44_2 rfl) rfl rfl rfl (gj_step (y_load1 Tryd.isAgg23 rfl rfl) rfl rfl rfl (gj_step (y_lenA Tryd.underlying23 rfl) rfl rfl rfl (gj_step (y_move rfl) rfl rfl rfl (gj_nil ?_)))))
      refine ej_th (cj_block ?_)
      refine cj_lpc (X := Nat) (fun k => k ≤ d.closed.length ∧ ascOk (prevOf d.closed k) (d.closed.drop k) = ascOk (-1) d.closed) (fun k => [(1, .pointer (some ⟨b1, 0, none⟩)), (67, .slice Ac d.closed.length cc), (68, .int .i64 d.closed.length), (69, .int .i64 k)]) (fun k => d.closed.length - k) 0 (⟨Nat.zero_le _, rfl⟩) ⟨rfl, rfl, rfl, rfl, trivial⟩ ?_
      rintro k ⟨hk, hl⟩
      refine cj_seq ?_
      refine cj_regionG (gj_step (y_lss rfl rfl) rfl rfl rfl (gj_nil ?_))
      refine ej_th (cj_seq ?_)
      refine cj_cond rfl (fun h70 => ?_) (fun h70 => ?_)
      · have h70b := h70
        try simp only [sxb] at h70
        obtain ⟨n, hx⟩ : ∃ n, d.closed[k]? = some n := ⟨_, List.getElem?_eq_getElem (by omega)⟩
        rw [ascOk_drop _ k n hx] at hl
        refine cj_skip (ej_th (cj_seq (cj_block (cj_seq ?_))))
        refine cj_regionG (gj_step (y_move rfl) rfl rfl rfl (gj_step (y_ixR (reads_sl) Tryd.underlying23 Tryd.sizeOf3 rfl rfl (⟨by omega, by omega⟩)) rfl rfl rfl (gj_step (y_ld0 (reads_sl) Tryd.isAgg3 rfl (hx) rfl) rfl rfl rfl (gj_step (y_assign rfl) rfl rfl rfl (gj_step (y_assign rfl) rfl rfl rfl (gj_nil ?_))))))
        refine ej_th (cj_seq ?_)
        refine cj_regionG ?_
        refine gj_step (y_move rfl) rfl rfl rfl (?_)
        refine gj_step (y_call Tryd.call59 rfl (fun w hp => k_day _ w)) rfl rfl rfl ?_
        refine gj_step (y_not rfl) rfl rfl rfl (gj_step (y_move rfl) rfl rfl rfl (?_))
        refine gj_g 12 77 89 rfl rfl rfl rfl (fun hg77 => gj_yes rfl rfl rfl (y_move rfl) rfl rfl (gj_yes rfl rfl rfl (y_gtr rfl rfl) rfl rfl (gj_yes rfl rfl rfl (y_move rfl) rfl rfl (gj_g 8 80 88 rfl rfl rfl rfl (fun hg80 => gj_yes rfl rfl rfl (y_fa fa44_2 rfl) rfl rfl (gj_yes rfl rfl rfl (y_load1 Tryd.isAgg23 rfl rfl) rfl rfl (gj_yes rfl rfl rfl (y_move rfl) rfl rfl (gj_yes rfl rfl rfl (y_sub rfl rfl (by have := of_decide_eq_true hg80; omega)) rfl rfl (gj_yes rfl rfl rfl (y_ixR (reads_sl) Tryd.underlying23 Tryd.sizeOf3 rfl rfl (⟨by have := of_decide_eq_true hg80; omega, by have := of_decide_eq_true hg80; omega⟩)) rfl rfl (gj_yes rfl rfl rfl (y_ld0 (reads_sl) Tryd.isAgg3 rfl (geq 0 (by have := of_decide_eq_true hg80; omega)) rfl) rfl rfl (gj_yes rfl rfl rfl (y_move rfl) rfl rfl (gj_yes rfl rfl rfl (y_geq rfl rfl) rfl rfl (gj_nil rfl))))))))) (gj_yes rfl rfl rfl (y_and rfl rfl rfl) rfl rfl (gj_nil rfl)))))) ?_
        refine gj_step (y_or rfl rfl rfl) rfl rfl rfl (?_)
        refine gj_nil ?_
        refine ej_th ?_
        refine cj_cond rfl (fun h90 => ?_) (fun h90 => ?_)
        · have h90b := h90
          try simp only [sxb] at h90
          have hstep : (btw 0 n 36500 && decide (prevOf d.closed k < n)) = false := not_t ((asc_V d.closed k n).symm.trans h90b)
          refine cj_seq ?_
          refine cj_regionG (gj_step (y_assign rfl) rfl rfl rfl (gj_nil ?_))
          refine ej_th (cj_ret (ej_blk_ret (ej_then_ret (ej_then_ret (ej_blk_ret (ej_then_ret ?_))))))
          refine ej_ret1 rfl Tryd.results31 rfl (fun w' hp => ⟨?_, hp.below⟩)
          rw [badDeal, ← hl, hstep]; simp [errD]
        · have h90b := h90
          try simp only [sxb] at h90
          have hstep : (btw 0 n 36500 && decide (prevOf d.closed k < n)) = true := not_f ((asc_V d.closed k n).symm.trans h90b)
          refine cj_skip (ej_blk (ej_th ?_))
          refine cj_regionG (gj_step (y_add rfl rfl (by omega)) rfl rfl rfl (gj_step (y_move rfl) rfl rfl rfl (gj_nil ?_)))
          refine ej_nx (k + 1) (by omega) ⟨by omega, ?_⟩ ⟨rfl, rfl, rfl, rfl, trivial⟩
          rw [← hl, hstep, Bool.true_and]
      · have h70b := h70
        try simp only [sxb] at h70
        refine cj_exit (ej_then_exit (ej_then_exit (ej_blk_hit (ej_th (cj_seq ?_)))))
        refine cj_regionG (gj_step (y_assign rfl) rfl rfl rfl (gj_nil ?_))
        refine ej_th (cj_ret ?_)
        refine ej_ret1 rfl Tryd.results31 rfl (fun w' hp => ⟨?_, hp.below⟩)
        rw [List.drop_of_length_le (by omega)] at hl
        rw [badDeal, show badDeal1 d = false from h49b, show badDeal2 d = false from h65b, ← hl]; rfl

end Go.Proofs.YtafmgkiddhappaaDoor
namespace Go.Proofs.YtafmgkiddhappaaDoor
open Go.Sx Go.RowKit
set_option maxRecDepth 20000
theorem k_open (d : Deal) (Ac : Option Addr) (cc : Nat) (w : World)  : Calls Tryd.prog 63 #[.agg #[.int .i64 d.lr, .int .i64 d.lc, .int .i64 d.tr, .int .i64 d.tf, .int .i64 d.te, .int .i64 d.tt, .int .i64 d.tg, .slice Ac d.closed.length cc, .int .i64 d.start, .int .i64 d.sum]] w (fun e w' => e = .returned (.agg (encLn d Ac cc (openL d)).toArray) ∧ Grow w w') := by
  refine enter_pure (args := [.agg #[.int .i64 d.lr, .int .i64 d.lc, .int .i64 d.tr, .int .i64 d.tf, .int .i64 d.te, .int .i64 d.tt, .int .i64 d.tg, .slice Ac d.closed.length cc, .int .i64 d.start, .int .i64 d.sum]]) [] Tryd.func63 rfl (by rw [Tryd.ntmps63]; simp) (by simp) ?_
  refine cj_seq (cj_region ?_)
  refine oj_box rfl rfl rfl (fun b1 => ?_)
  refine oj_alloc Tryd.zeroValue121 rfl rfl (fun b2 => ?_)
  refine oj_nil ?_
  refine ej_th (cj_seq (cj_region ?_))
  refine oj_step (y_fa fa44_4 rfl) rfl rfl rfl ?_
  refine oj_step (y_load1 Tryd.isAgg3 rfl rfl) rfl rfl rfl ?_
  refine oj_step (y_build (cs := [.int .i64 d.sum, .int .i64 0, .int .i64 0, .int .i64 0, .bool true]) st64 rfl (by kernel_rfl)) rfl rfl rfl ?_
  refine oj_step (y_loadN Tryd.isAgg44 Tryd.sizeOf44 rfl) rfl rfl rfl ?_
  refine oj_step (y_fa fa44_3 rfl) rfl rfl rfl ?_
  refine oj_step (y_load1 Tryd.isAgg3 rfl rfl) rfl rfl rfl ?_
  refine oj_step (y_fa fa44_3 rfl) rfl rfl rfl ?_
  refine oj_step (y_load1 Tryd.isAgg3 rfl rfl) rfl rfl rfl ?_
  refine oj_step (y_build (cs := [.int .i64 d.sum, .int .i64 0, .int .i64 0, .int .i64 0, .bool true, .int .i64 0, .int .i64 0, .int .i64 0, .int .i64 0, .int .i64 d.lr, .int .i64 d.lc, .int .i64 d.tr, .int .i64 d.tf, .int .i64 d.te, .int .i64 d.tt, .int .i64 d.tg, .slice Ac d.closed.length cc, .int .i64 d.start, .int .i64 d.sum, .int .i64 d.start, .int .i64 d.start]) st121 rfl (by kernel_rfl)) rfl rfl rfl ?_
  refine oj_store rfl rfl rfl rfl Tryd.sizeOf121 rfl ?_
  refine oj_nil ?_
  refine ej_th (cj_ret ?_)
  exact ej_retC1 rfl Tryd.results63 rfl (y_loadN Tryd.isAgg121 Tryd.sizeOf121 rfl) (fun w' hp => ⟨rfl, hp.below⟩)

theorem k_limit (d : Deal) (Ac : Option Addr) (cc : Nat) (x : Ln) (w : World) (hd : DealOk d) (hx : LOk x) : Calls Tryd.prog 73 #[.agg #[.int .i64 x.pr, .int .i64 x.ch, .int .i64 x.pd, .int .i64 x.ag, .bool x.op, .int .i64 x.all, .int .i64 x.dear, .int .i64 x.days, .int .i64 x.fees, .int .i64 d.lr, .int .i64 d.lc, .int .i64 d.tr, .int .i64 d.tf, .int .i64 d.te, .int .i64 d.tt, .int .i64 d.tg, .slice Ac d.closed.length cc, .int .i64 d.start, .int .i64 d.sum, .int .i64 x.day, .int .i64 x.held]] w (fun e w' => e = .returned (.int .i64 (limitOf d x)) ∧ Grow w w') := by
  obtain ⟨h1, h2, h3⟩ := hx.lim hd
  refine enter_pure (args := [.agg #[.int .i64 x.pr, .int .i64 x.ch, .int .i64 x.pd, .int .i64 x.ag, .bool x.op, .int .i64 x.all, .int .i64 x.dear, .int .i64 x.days, .int .i64 x.fees, .int .i64 d.lr, .int .i64 d.lc, .int .i64 d.tr, .int .i64 d.tf, .int .i64 d.te, .int .i64 d.tt, .int .i64 d.tg, .slice Ac d.closed.length cc, .int .i64 d.start, .int .i64 d.sum, .int .i64 x.day, .int .i64 x.held]]) [] Tryd.func73 rfl (by rw [Tryd.ntmps73]; simp) (by simp) ?_
  refine cj_seq (cj_region ?_)
  refine oj_box rfl rfl rfl (fun b1 => ?_)
  refine oj_step (y_assign rfl) rfl rfl rfl ?_
  refine oj_nil ?_
  refine ej_th (cj_seq ?_)
  refine cj_regionG (gj_step (y_fa fa121_1 rfl) rfl rfl rfl (gj_step (y_fa0 fa119_0 rfl) rfl rfl rfl (gj_step (y_load1 Tryd.isAgg3 rfl rfl) rfl rfl rfl (gj_step (y_fa fa121_2 rfl) rfl rfl rfl (gj_step (y_fa0 fa44_0 rfl) rfl rfl rfl (gj_step (y_fa0 fa40_0 rfl) rfl rfl rfl (gj_step (y_load1 Tryd.isAgg3 rfl rfl) rfl rfl rfl (gj_step (y_mul rfl rfl (by omega)) rfl rfl rfl (gj_step (y_quo rfl rfl (⟨by omega, by omega, by omega⟩)) rfl rfl rfl (gj_step (y_fa fa121_2 rfl) rfl rfl rfl (gj_step (y_fa fa44_4 rfl) rfl rfl rfl (gj_step (y_load1 Tryd.isAgg3 rfl rfl) rfl rfl rfl (gj_step (y_fa fa121_2 rfl) rfl rfl rfl (gj_step (y_fa0 fa44_0 rfl) rfl rfl rfl (gj_step (y_fa fa40_1 rfl) rfl rfl rfl (gj_step (y_load1 Tryd.isAgg3 rfl rfl) rfl rfl rfl (gj_step (y_mul rfl rfl (by omega)) rfl rfl rfl (gj_step (y_quo rfl rfl (⟨by omega, by omega, by omega⟩)) rfl rfl rfl (gj_step (y_min rfl rfl) rfl rfl rfl (gj_step (y_assign rfl) rfl rfl rfl (gj_nil ?_)))))))))))))))))))))
  refine ej_th (cj_ret ?_)
  exact ej_ret1 rfl Tryd.results73 rfl (fun w' hp => ⟨rfl, hp.below⟩)

theorem k_charge (d : Deal) (Ac : Option Addr) (cc : Nat) (x : Ln) (w : World) (hd : DealOk d) (hx : LOk x) : Calls Tryd.prog 86 #[.agg #[.int .i64 x.pr, .int .i64 x.ch, .int .i64 x.pd, .int .i64 x.ag, .bool x.op, .int .i64 x.all, .int .i64 x.dear, .int .i64 x.days, .int .i64 x.fees, .int .i64 d.lr, .int .i64 d.lc, .int .i64 d.tr, .int .i64 d.tf, .int .i64 d.te, .int .i64 d.tt, .int .i64 d.tg, .slice Ac d.closed.length cc, .int .i64 d.start, .int .i64 d.sum, .int .i64 x.day, .int .i64 x.held]] w (fun e w' => e = .returned (.int .i64 (chargeOf d x)) ∧ Grow w w') := by
  obtain ⟨h1, h2, h3⟩ := hx.lim hd
  have h4 := hx.fees
  refine enter_pure (args := [.agg #[.int .i64 x.pr, .int .i64 x.ch, .int .i64 x.pd, .int .i64 x.ag, .bool x.op, .int .i64 x.all, .int .i64 x.dear, .int .i64 x.days, .int .i64 x.fees, .int .i64 d.lr, .int .i64 d.lc, .int .i64 d.tr, .int .i64 d.tf, .int .i64 d.te, .int .i64 d.tt, .int .i64 d.tg, .slice Ac d.closed.length cc, .int .i64 d.start, .int .i64 d.sum, .int .i64 x.day, .int .i64 x.held]]) [] Tryd.func86 rfl (by rw [Tryd.ntmps86]; simp) (by simp) ?_
  refine cj_seq (cj_region ?_)
  refine oj_box rfl rfl rfl (fun b1 => ?_)
  refine oj_step (y_assign rfl) rfl rfl rfl ?_
  refine oj_nil ?_
  refine ej_th (cj_seq ?_)
  refine cj_draw (by kernel_rfl) (by kernel_rfl) ?_
  refine gj_step (y_fa fa121_1 rfl) rfl rfl rfl (gj_step (y_fa fa119_1 rfl) rfl rfl rfl (gj_step (y_load1 Tryd.isAgg3 rfl rfl) rfl rfl rfl (gj_step (y_fa fa121_2 rfl) rfl rfl rfl (gj_step (y_fa fa44_1 rfl) rfl rfl rfl (gj_step (y_fa0 fa42_0 rfl) rfl rfl rfl (gj_step (y_load1 Tryd.isAgg3 rfl rfl) rfl rfl rfl (gj_step (y_mul rfl rfl (by omega)) rfl rfl rfl (gj_step (y_quo rfl rfl (⟨by omega, by omega, by omega⟩)) rfl rfl rfl (gj_step (y_fa fa121_1 rfl) rfl rfl rfl (gj_step (y_fa fa119_3 rfl) rfl rfl rfl (gj_step (y_load1 Tryd.isAgg3 rfl rfl) rfl rfl rfl (gj_step (y_add rfl rfl (by omega)) rfl rfl rfl (gj_step (y_loadN Tryd.isAgg121 Tryd.sizeOf121 rfl) rfl rfl rfl (?_))))))))))))))
  refine gj_step (y_call Tryd.call73 rfl (fun w hp => k_limit d Ac cc x w hd hx)) rfl rfl rfl ?_
  refine gj_step (y_min rfl rfl) rfl rfl rfl (gj_step (y_assign rfl) rfl rfl rfl (?_))
  refine gj_nil ?_
  refine ej_th (cj_ret ?_)
  exact ej_ret1 rfl Tryd.results86 rfl (fun w' hp => ⟨rfl, hp.below⟩)

theorem k_counts (d : Deal) (Ac : Option Addr) (cc : Nat) (x : Ln) (day : Int) (w : World) (hc : Rd w 1 enInt Ac d.closed) : Calls Tryd.prog 85 #[.agg #[.int .i64 x.pr, .int .i64 x.ch, .int .i64 x.pd, .int .i64 x.ag, .bool x.op, .int .i64 x.all, .int .i64 x.dear, .int .i64 x.days, .int .i64 x.fees, .int .i64 d.lr, .int .i64 d.lc, .int .i64 d.tr, .int .i64 d.tf, .int .i64 d.te, .int .i64 d.tt, .int .i64 d.tg, .slice Ac d.closed.length cc, .int .i64 d.start, .int .i64 d.sum, .int .i64 x.day, .int .i64 x.held], .int .i64 day] w (fun e w' => e = .returned (.bool (countsB d x day)) ∧ Grow w w') := by
  refine enter_pure (args := [.agg #[.int .i64 x.pr, .int .i64 x.ch, .int .i64 x.pd, .int .i64 x.ag, .bool x.op, .int .i64 x.all, .int .i64 x.dear, .int .i64 x.days, .int .i64 x.fees, .int .i64 d.lr, .int .i64 d.lc, .int .i64 d.tr, .int .i64 d.tf, .int .i64 d.te, .int .i64 d.tt, .int .i64 d.tg, .slice Ac d.closed.length cc, .int .i64 d.start, .int .i64 d.sum, .int .i64 x.day, .int .i64 x.held], .int .i64 day]) [sl (fun b => b < w.heap.size) 1 enInt Ac d.closed] Tryd.func85 rfl (by rw [Tryd.ntmps85]; simp) (fun g hg => by simp at hg; subst hg; exact ⟨hc, fun _ h => h⟩) ?_
  refine cj_seq (cj_region ?_)
  refine oj_box rfl rfl rfl (fun b2 => ?_)
  refine oj_step (y_assign rfl) rfl rfl rfl ?_
  refine oj_nil ?_
  refine ej_th (cj_seq ?_)
  refine cj_regionG ?_
  refine gj_step (y_fa0 fa121_0 rfl) rfl rfl rfl (gj_step (y_fa fa64_4 rfl) rfl rfl rfl (gj_step (y_load1 Tryd.isAgg4 rfl rfl) rfl rfl rfl (gj_step (y_move rfl) rfl rfl rfl (?_))))
  refine gj_g 4 8 12 rfl rfl rfl rfl (fun hg8 => gj_yes rfl rfl rfl (y_move rfl) rfl rfl (gj_yes rfl rfl rfl (y_fa fa121_4 rfl) rfl rfl (gj_yes rfl rfl rfl (y_load1 Tryd.isAgg3 rfl rfl) rfl rfl (gj_yes rfl rfl rfl (y_gtr rfl rfl) rfl rfl (gj_nil rfl))))) ?_
  refine gj_step (y_and rfl rfl rfl) rfl rfl rfl (gj_step (y_move rfl) rfl rfl rfl (?_))
  refine gj_g 6 14 20 rfl rfl rfl rfl (fun hg14 => gj_yes rfl rfl rfl (y_fa fa121_2 rfl) rfl rfl (gj_yes rfl rfl rfl (y_fa fa44_2 rfl) rfl rfl (gj_yes rfl rfl rfl (y_load1 Tryd.isAgg23 rfl rfl) rfl rfl (gj_yes rfl rfl rfl (y_move rfl) rfl rfl (gj_yes rfl rfl rfl (y_call Tryd.call100 rfl (fun w hp => k_Contains _ _ _ _ w hp.rd)) rfl rfl (gj_yes rfl rfl rfl (y_not rfl) rfl rfl (gj_nil rfl))))))) ?_
  refine gj_step (y_and rfl rfl rfl) rfl rfl rfl (gj_step (y_assign rfl) rfl rfl rfl (?_))
  refine gj_nil ?_
  refine ej_th (cj_ret ?_)
  exact ej_ret1 rfl Tryd.results85 rfl (fun w' hp => ⟨rfl, hp.below⟩)

theorem k_over (d : Deal) (Ac : Option Addr) (cc : Nat) (x : Ln) (w : World) (hd : DealOk d) : Calls Tryd.prog 65 #[.agg #[.int .i64 x.pr, .int .i64 x.ch, .int .i64 x.pd, .int .i64 x.ag, .bool x.op, .int .i64 x.all, .int .i64 x.dear, .int .i64 x.days, .int .i64 x.fees, .int .i64 d.lr, .int .i64 d.lc, .int .i64 d.tr, .int .i64 d.tf, .int .i64 d.te, .int .i64 d.tt, .int .i64 d.tg, .slice Ac d.closed.length cc, .int .i64 d.start, .int .i64 d.sum, .int .i64 x.day, .int .i64 x.held]] w (fun e w' => e = .returned (.bool (overB d x)) ∧ Grow w w') := by
  have h1 := hd.tt
  have h2 := hd.tg
  refine enter_pure (args := [.agg #[.int .i64 x.pr, .int .i64 x.ch, .int .i64 x.pd, .int .i64 x.ag, .bool x.op, .int .i64 x.all, .int .i64 x.dear, .int .i64 x.days, .int .i64 x.fees, .int .i64 d.lr, .int .i64 d.lc, .int .i64 d.tr, .int .i64 d.tf, .int .i64 d.te, .int .i64 d.tt, .int .i64 d.tg, .slice Ac d.closed.length cc, .int .i64 d.start, .int .i64 d.sum, .int .i64 x.day, .int .i64 x.held]]) [] Tryd.func65 rfl (by rw [Tryd.ntmps65]; simp) (by simp) ?_
  refine cj_seq (cj_region ?_)
  refine oj_box rfl rfl rfl (fun b1 => ?_)
  refine oj_step (y_assign rfl) rfl rfl rfl ?_
  refine oj_nil ?_
  refine ej_th (cj_seq ?_)
  refine cj_regionG (gj_step (y_fa0 fa121_0 rfl) rfl rfl rfl (gj_step (y_fa fa64_3 rfl) rfl rfl rfl (gj_step (y_load1 Tryd.isAgg3 rfl rfl) rfl rfl rfl (gj_step (y_fa fa121_2 rfl) rfl rfl rfl (gj_step (y_fa fa44_1 rfl) rfl rfl rfl (gj_step (y_fa fa42_3 rfl) rfl rfl rfl (gj_step (y_load1 Tryd.isAgg3 rfl rfl) rfl rfl rfl (gj_step (y_fa fa121_2 rfl) rfl rfl rfl (gj_step (y_fa fa44_1 rfl) rfl rfl rfl (gj_step (y_fa fa42_4 rfl) rfl rfl rfl (gj_step (y_load1 Tryd.isAgg3 rfl rfl) rfl rfl rfl (gj_step (y_add rfl rfl (by omega)) rfl rfl rfl (gj_step (y_gtr rfl rfl) rfl rfl rfl (gj_step (y_assign rfl) rfl rfl rfl (gj_nil ?_)))))))))))))))
  refine ej_th (cj_ret ?_)
  exact ej_ret1 rfl Tryd.results65 rfl (fun w' hp => ⟨rfl, hp.below⟩)

theorem k_to (d : Deal) (Ac : Option Addr) (cc : Nat) (x : Ln) (b : Nat) (day : Int) (w : World) (hob : w.heap[b]? = some (cellsB 121 (encLn d Ac cc x))) (hc : RdX w b 1 enInt Ac d.closed) (hd : DealOk d) (hx : LOk x) (hday : day ≤ 36500) : Calls Tryd.prog 64 #[.pointer (some ⟨b, 0, none⟩), .int .i64 day] w (fun e w' => e = .returned (.tuple #[]) ∧ Mut (ownB b (cellsB 121 (encLn d Ac cc x))) w w' ∧ w'.heap[b]? = some (cellsB 121 (encLn d Ac cc (toL d x day)))) := by
  refine enter_own (args := [.pointer (some ⟨b, 0, none⟩), .int .i64 day]) b (cellsB 121 (encLn d Ac cc x)) [sl (fun i => i < w.heap.size ∧ i ≠ b) 1 enInt Ac d.closed] Tryd.func64 rfl (by rw [Tryd.ntmps64]; simp) hob (fun g hg => by simp at hg; subst hg; exact ⟨hc, fun _ h => h⟩) ?_
  refine cj_seq (cj_region ?_)
  refine oj_step (y_move rfl) rfl rfl rfl ?_
  refine oj_step (y_nil rfl) rfl rfl rfl ?_
  refine oj_step (y_fa fa121_1 rfl) rfl rfl rfl ?_
  refine oj_step (y_loadN Tryd.isAgg119 Tryd.sizeOf119 rfl) rfl rfl rfl ?_
  refine oj_alloc Tryd.zeroValue119 rfl rfl (fun b4 => ?_)
  refine oj_store rfl rfl rfl rfl Tryd.sizeOf119 rfl ?_
  refine oj_nil ?_
  refine ej_th (cj_seq (cj_block ?_))
  refine cj_lp (X := Ln) (fun y => LOk y ∧ goN d (day - y.day).toNat y = goN d (day - x.day).toNat x) (fun y => [(0, .pointer (some ⟨b, 0, none⟩)), (1, .int .i64 day), (4, .pointer (some ⟨b4, 0, none⟩))]) (fun y => [ownB b4 (cellsB 119 [.int .i64 x.all, .int .i64 x.dear, .int .i64 x.days, .int .i64 x.fees]), ownB b (cellsB 121 (encLn d Ac cc y))]) (fun y => [sl (fun i => i < w.heap.size ∧ i ≠ b) 1 enInt Ac d.closed]) (fun y => (day - y.day).toNat) x (⟨hx, rfl⟩) ⟨rfl, rfl, rfl, trivial⟩ ?_
  rintro y ⟨hy, hl⟩
  have hy0 := hy
  refine cj_seq (cj_seq ?_)
  refine cj_regionG (gj_step (y_move rfl) rfl rfl rfl (gj_step (y_nil rfl) rfl rfl rfl (gj_step (y_fa fa121_3 rfl) rfl rfl rfl (gj_step (y_load1 Tryd.isAgg3 rfl rfl) rfl rfl rfl (gj_step (y_move rfl) rfl rfl rfl (gj_step (y_lss rfl rfl) rfl rfl rfl (gj_nil ?_)))))))
  refine ej_th ?_
  refine cj_cond rfl (fun h14 => ?_) (fun h14 => ?_)
  · have h14b := h14
    try simp only [sxb] at h14
    have hs := hy.step (d := d) (by omega)
    obtain ⟨g1, g2, g3, g4, g5, g6, g7, g8, g9⟩ := hy
    rw [show (day - y.day).toNat = (day - (y.day + 1)).toNat + 1 by omega, goN] at hl
    refine cj_skip (ej_th (cj_seq (cj_block (cj_seq (cj_seq ?_)))))
    refine cj_draw (by kernel_rfl) (by kernel_rfl) ?_
    refine gj_step (y_move rfl) rfl rfl rfl (gj_step (y_nil rfl) rfl rfl rfl (gj_step (y_loadN Tryd.isAgg121 Tryd.sizeOf121 rfl) rfl rfl rfl (gj_step (y_move rfl) rfl rfl rfl (gj_step (y_nil rfl) rfl rfl rfl (gj_step (y_fa fa121_3 rfl) rfl rfl rfl (gj_step (y_load1 Tryd.isAgg3 rfl rfl) rfl rfl rfl (gj_step (y_add rfl rfl (by omega)) rfl rfl rfl (?_))))))))
    refine gj_step (y_call Tryd.call85 rfl (fun w hp => k_counts d Ac cc y (y.day + 1) w hp.rd)) rfl rfl rfl ?_
    refine gj_step (y_not rfl) rfl rfl rfl (?_)
    refine gj_nil ?_
    refine ej_th ?_
    refine cj_cond rfl (fun h31 => ?_) (fun h31 => ?_)
    · have h31b := h31
      try simp only [sxb] at h31
      have hcb : countsB d y (y.day + 1) = false := not_t h31b
      refine cj_exit (ej_then_exit (ej_blk_hit (ej_th (cj_region ?_))))
      refine oj_step (y_move rfl) rfl rfl rfl ?_
      refine oj_step (y_nil rfl) rfl rfl rfl ?_
      refine oj_step (y_fa fa121_3 rfl) rfl rfl rfl ?_
      refine oj_step (y_load1 Tryd.isAgg3 rfl rfl) rfl rfl rfl ?_
      refine oj_step (y_add rfl rfl (by omega)) rfl rfl rfl ?_
      refine oj_step (y_nil rfl) rfl rfl rfl ?_
      refine oj_step (y_fa fa121_3 rfl) rfl rfl rfl ?_
      refine oj_store rfl rfl rfl rfl Tryd.sizeOf3 rfl ?_
      refine oj_nil ?_
      have he : stepDay d y = { y with day := y.day + 1 } := by simp [stepDay, hcb]
      rw [he] at hs hl
      exact ej_nx { y with day := y.day + 1 } (by simp only; omega) ⟨hs, hl⟩ ⟨rfl, rfl, rfl, trivial⟩
    · have h31b := h31
      try simp only [sxb] at h31
      have hcb : countsB d y (y.day + 1) = true := not_f h31b
      refine cj_skip (ej_th (cj_seq (cj_region ?_)))
      refine oj_step (y_move rfl) rfl rfl rfl ?_
      refine oj_step (y_nil rfl) rfl rfl rfl ?_
      refine oj_step (y_fa fa121_1 rfl) rfl rfl rfl ?_
      refine oj_step (y_fa fa119_2 rfl) rfl rfl rfl ?_
      refine oj_step (y_load1 Tryd.isAgg3 rfl rfl) rfl rfl rfl ?_
      refine oj_step (y_add rfl rfl (by omega)) rfl rfl rfl ?_
      refine oj_step (y_nil rfl) rfl rfl rfl ?_
      refine oj_step (y_fa fa121_1 rfl) rfl rfl rfl ?_
      refine oj_step (y_fa fa119_2 rfl) rfl rfl rfl ?_
      refine oj_store rfl rfl rfl rfl Tryd.sizeOf3 rfl ?_
      refine oj_nil ?_
      refine ej_th (cj_seq (cj_region ?_))
      refine oj_step (y_move rfl) rfl rfl rfl ?_
      refine oj_step (y_nil rfl) rfl rfl rfl ?_
      refine oj_step (y_fa0 fa121_0 rfl) rfl rfl rfl ?_
      refine oj_step (y_fa fa64_3 rfl) rfl rfl rfl ?_
      refine oj_step (y_load1 Tryd.isAgg3 rfl rfl) rfl rfl rfl ?_
      refine oj_step (y_add rfl rfl (by omega)) rfl rfl rfl ?_
      refine oj_step (y_nil rfl) rfl rfl rfl ?_
      refine oj_step (y_fa0 fa121_0 rfl) rfl rfl rfl ?_
      refine oj_step (y_fa fa64_3 rfl) rfl rfl rfl ?_
      refine oj_store rfl rfl rfl rfl Tryd.sizeOf3 rfl ?_
      refine oj_nil ?_
      refine ej_th (cj_seq ?_)
      refine cj_plan 15 (by kernel_rfl) (by kernel_rfl) ?_
      refine pl_y 0 rfl (y_move rfl) rfl rfl rfl rfl (by kernel_rfl) ?_
      refine pl_y 1 rfl (y_nil rfl) rfl rfl rfl rfl (by kernel_rfl) ?_
      refine pl_y 2 rfl (y_fa fa121_1 rfl) rfl rfl rfl rfl (by kernel_rfl) ?_
      refine pl_y 3 rfl (y_fa0 fa119_0 rfl) rfl rfl rfl rfl (by kernel_rfl) ?_
      refine pl_y 4 rfl (y_load1 Tryd.isAgg3 rfl rfl) rfl rfl rfl rfl (by kernel_rfl) ?_
      refine pl_y 5 rfl (y_move rfl) rfl rfl rfl rfl (by kernel_rfl) ?_
      refine pl_y 6 rfl (y_nil rfl) rfl rfl rfl rfl (by kernel_rfl) ?_
      refine pl_y 7 rfl (y_fa0 fa121_0 rfl) rfl rfl rfl rfl (by kernel_rfl) ?_
      refine pl_y 8 rfl (y_fa0 fa64_0 rfl) rfl rfl rfl rfl (by kernel_rfl) ?_
      refine pl_y 9 rfl (y_load1 Tryd.isAgg3 rfl rfl) rfl rfl rfl rfl (by kernel_rfl) ?_
      refine pl_y 10 rfl (y_add rfl rfl (by omega)) rfl rfl rfl rfl (by kernel_rfl) ?_
      refine pl_y 11 rfl (y_nil rfl) rfl rfl rfl rfl (by kernel_rfl) ?_
      refine pl_y 12 rfl (y_fa fa121_1 rfl) rfl rfl rfl rfl (by kernel_rfl) ?_
      refine pl_y 13 rfl (y_fa0 fa119_0 rfl) rfl rfl rfl rfl (by kernel_rfl) ?_
      refine pl_w1 14 (by kernel_rfl) rfl rfl (pl_fire rfl rfl rfl (by kernel_rfl) ?_)
      refine oj_store rfl rfl rfl rfl Tryd.sizeOf3 rfl ?_
      refine oj_nil ?_
      refine ej_pl (lt_w (by kernel_rfl) (lt_y (y_fa fa121_1 rfl) rfl (lt_y (y_nil rfl) rfl (lt_w (by kernel_rfl) (lt_w (by kernel_rfl) (lt_w (by kernel_rfl) (lt_w (by kernel_rfl) (lt_w (by kernel_rfl) (lt_w (by kernel_rfl) (lt_w (by kernel_rfl) (lt_w (by kernel_rfl) (lt_w (by kernel_rfl) (lt_w (by kernel_rfl) (lt_w (by kernel_rfl) (lt_nil))))))))))))))) ?_
      refine pl_end (by kernel_rfl) ?_
      refine ej_th (cj_seq ?_)
      refine cj_draw (by kernel_rfl) (by kernel_rfl) (gj_step (y_move rfl) rfl rfl rfl (gj_step (y_nil rfl) rfl rfl rfl (gj_step (y_fa fa121_1 rfl) rfl rfl rfl (gj_step (y_fa fa119_2 rfl) rfl rfl rfl (gj_step (y_load1 Tryd.isAgg3 rfl rfl) rfl rfl rfl (gj_step (y_move rfl) rfl rfl rfl (gj_step (y_nil rfl) rfl rfl rfl (gj_step (y_fa fa121_2 rfl) rfl rfl rfl (gj_step (y_fa fa44_1 rfl) rfl rfl rfl (gj_step (y_fa fa42_1 rfl) rfl rfl rfl (gj_step (y_load1 Tryd.isAgg3 rfl rfl) rfl rfl rfl (gj_step (y_gtr rfl rfl) rfl rfl rfl (gj_nil ?_)))))))))))))
      refine ej_th ?_
      refine cj_cond rfl (fun h75 => ?_) (fun h75 => ?_)
      · have h75b := h75
        try simp only [sxb] at h75
        refine cj_plan 15 (by kernel_rfl) (by kernel_rfl) ?_
        refine pl_y 0 rfl (y_move rfl) rfl rfl rfl rfl (by kernel_rfl) ?_
        refine pl_y 1 rfl (y_nil rfl) rfl rfl rfl rfl (by kernel_rfl) ?_
        refine pl_y 2 rfl (y_fa fa121_1 rfl) rfl rfl rfl rfl (by kernel_rfl) ?_
        refine pl_y 3 rfl (y_fa fa119_1 rfl) rfl rfl rfl rfl (by kernel_rfl) ?_
        refine pl_y 4 rfl (y_load1 Tryd.isAgg3 rfl rfl) rfl rfl rfl rfl (by kernel_rfl) ?_
        refine pl_y 5 rfl (y_move rfl) rfl rfl rfl rfl (by kernel_rfl) ?_
        refine pl_y 6 rfl (y_nil rfl) rfl rfl rfl rfl (by kernel_rfl) ?_
        refine pl_y 7 rfl (y_fa0 fa121_0 rfl) rfl rfl rfl rfl (by kernel_rfl) ?_
        refine pl_y 8 rfl (y_fa0 fa64_0 rfl) rfl rfl rfl rfl (by kernel_rfl) ?_
        refine pl_y 9 rfl (y_load1 Tryd.isAgg3 rfl rfl) rfl rfl rfl rfl (by kernel_rfl) ?_
        refine pl_y 10 rfl (y_add rfl rfl (by omega)) rfl rfl rfl rfl (by kernel_rfl) ?_
        refine pl_y 11 rfl (y_nil rfl) rfl rfl rfl rfl (by kernel_rfl) ?_
        refine pl_y 12 rfl (y_fa fa121_1 rfl) rfl rfl rfl rfl (by kernel_rfl) ?_
        refine pl_y 13 rfl (y_fa fa119_1 rfl) rfl rfl rfl rfl (by kernel_rfl) ?_
        refine pl_w1 14 (by kernel_rfl) rfl rfl (pl_fire rfl rfl rfl (by kernel_rfl) ?_)
        refine oj_store rfl rfl rfl rfl Tryd.sizeOf3 rfl ?_
        refine oj_nil ?_
        refine ej_pl (lt_w (by kernel_rfl) (lt_y (y_fa fa121_1 rfl) rfl (lt_y (y_nil rfl) rfl (lt_w (by kernel_rfl) (lt_w (by kernel_rfl) (lt_w (by kernel_rfl) (lt_w (by kernel_rfl) (lt_w (by kernel_rfl) (lt_w (by kernel_rfl) (lt_w (by kernel_rfl) (lt_w (by kernel_rfl) (lt_w (by kernel_rfl) (lt_w (by kernel_rfl) (lt_w (by kernel_rfl) (lt_nil))))))))))))))) ?_
        refine pl_end (by kernel_rfl) ?_
        refine ej_blk (ej_th (cj_region ?_))
        refine oj_step (y_move rfl) rfl rfl rfl ?_
        refine oj_step (y_nil rfl) rfl rfl rfl ?_
        refine oj_step (y_fa fa121_3 rfl) rfl rfl rfl ?_
        refine oj_step (y_load1 Tryd.isAgg3 rfl rfl) rfl rfl rfl ?_
        refine oj_step (y_add rfl rfl (by omega)) rfl rfl rfl ?_
        refine oj_step (y_nil rfl) rfl rfl rfl ?_
        refine oj_step (y_fa fa121_3 rfl) rfl rfl rfl ?_
        refine oj_store rfl rfl rfl rfl Tryd.sizeOf3 rfl ?_
        refine oj_nil ?_
        have he : stepDay d y = { y with days := y.days + 1, ag := y.ag + 1, all := y.all + y.pr, dear := y.dear + y.pr, day := y.day + 1 } := by simp [stepDay, counted, hcb, show d.tf < y.days + 1 by omega]
        rw [he] at hs hl
        exact ej_nx { y with days := y.days + 1, ag := y.ag + 1, all := y.all + y.pr, dear := y.dear + y.pr, day := y.day + 1 } (by simp only; omega) ⟨hs, hl⟩ ⟨rfl, rfl, rfl, trivial⟩
      · have h75b := h75
        try simp only [sxb] at h75
        refine cj_skip (ej_blk (ej_th (cj_region ?_)))
        refine oj_step (y_move rfl) rfl rfl rfl ?_
        refine oj_step (y_nil rfl) rfl rfl rfl ?_
        refine oj_step (y_fa fa121_3 rfl) rfl rfl rfl ?_
        refine oj_step (y_load1 Tryd.isAgg3 rfl rfl) rfl rfl rfl ?_
        refine oj_step (y_add rfl rfl (by omega)) rfl rfl rfl ?_
        refine oj_step (y_nil rfl) rfl rfl rfl ?_
        refine oj_step (y_fa fa121_3 rfl) rfl rfl rfl ?_
        refine oj_store rfl rfl rfl rfl Tryd.sizeOf3 rfl ?_
        refine oj_nil ?_
        have he : stepDay d y = { y with days := y.days + 1, ag := y.ag + 1, all := y.all + y.pr, day := y.day + 1 } := by simp [stepDay, counted, hcb, show ¬ d.tf < y.days + 1 by omega]
        rw [he] at hs hl
        exact ej_nx { y with days := y.days + 1, ag := y.ag + 1, all := y.all + y.pr, day := y.day + 1 } (by simp only; omega) ⟨hs, hl⟩ ⟨rfl, rfl, rfl, trivial⟩
  · have h14b := h14
    try simp only [sxb] at h14
    rw [show (day - y.day).toNat = 0 by omega, goN] at hl
    refine cj_exit (ej_then_exit (ej_then_exit (ej_blk_hit (ej_th (cj_seq ?_)))))
    refine cj_draw (by kernel_rfl) (by kernel_rfl) (gj_step (y_move rfl) rfl rfl rfl (gj_step (y_nil rfl) rfl rfl rfl (gj_step (y_fa fa121_1 rfl) rfl rfl rfl (gj_step (y_loadN Tryd.isAgg119 Tryd.sizeOf119 rfl) rfl rfl rfl (gj_step (y_loadN Tryd.isAgg119 Tryd.sizeOf119 rfl) rfl rfl rfl (gj_step (y_bin rfl rfl (fun x y w => ne119 _ _ _ _ _ _ _ _ x y w)) rfl rfl rfl (gj_nil ?_)))))))
    refine ej_th ?_
    refine cj_cond rfl (fun h95 => ?_) (fun h95 => ?_)
    · have h95b := h95
      try simp only [sxb] at h95
      refine cj_region ?_
      refine oj_step (y_move rfl) rfl rfl rfl ?_
      refine oj_step (y_move rfl) rfl rfl rfl ?_
      refine oj_step (y_nil rfl) rfl rfl rfl ?_
      refine oj_step (y_loadN Tryd.isAgg121 Tryd.sizeOf121 rfl) rfl rfl rfl ?_
      refine oj_step (y_call Tryd.call86 rfl (fun w hp => k_charge d Ac cc y w hd hy0)) rfl rfl rfl ?_
      refine oj_step (y_nil rfl) rfl rfl rfl ?_
      refine oj_step (y_fa0 fa121_0 rfl) rfl rfl rfl ?_
      refine oj_step (y_fa fa64_1 rfl) rfl rfl rfl ?_
      refine oj_store rfl rfl rfl rfl Tryd.sizeOf3 rfl ?_
      refine oj_nil ?_
      have ht : toL d x day = { y with ch := chargeOf d y } := by unfold toL; rw [← hl, if_pos (show sumsNe y x = true from h95b)]
      rw [ht]
      exact ej_end0 rfl Tryd.results64 (fun w' hp => ⟨rfl, hp.mut, hp.own1⟩)
    · have h95b := h95
      try simp only [sxb] at h95
      refine cj_skip ?_
      have ht : toL d x day = y := by unfold toL; rw [← hl, if_neg (by rw [show sumsNe y x = false from h95b]; simp)]
      rw [ht]
      exact ej_end0 rfl Tryd.results64 (fun w' hp => ⟨rfl, hp.mut, hp.own1⟩)

end Go.Proofs.YtafmgkiddhappaaDoor
namespace Go.Proofs.YtafmgkiddhappaaDoor
open Go.Sx Go.RowKit
set_option maxRecDepth 20000
theorem k_renew (d : Deal) (Ac : Option Addr) (cc : Nat) (x : Ln) (b : Nat) (n : Int) (w : World) (hob : w.heap[b]? = some (cellsB 121 (encLn d Ac cc x))) (hd : DealOk d) (hx : LOk x) (hf : x.fees ≤ 999990000) : Calls Tryd.prog 66 #[.pointer (some ⟨b, 0, none⟩), .int .i64 n] w (fun e w' => e = .returned (.int .i64 0) ∧ Mut (ownB b (cellsB 121 (encLn d Ac cc x))) w w' ∧ w'.heap[b]? = some (cellsB 121 (encLn d Ac cc (renewL d x)))) := by
  have h1 := hx.fees
  have h2 := hd.te
  have hx2 := feeL_ok hd hx hf
  refine enter_own (args := [.pointer (some ⟨b, 0, none⟩), .int .i64 n]) b (cellsB 121 (encLn d Ac cc x)) [] Tryd.func66 rfl (by rw [Tryd.ntmps66]; simp) hob (by simp) ?_
  refine cj_seq ?_
  refine cj_regionG (gj_step (y_assign rfl) rfl rfl rfl (gj_nil ?_))
  refine ej_th (cj_seq ?_)
  refine cj_plan 16 (by kernel_rfl) (by kernel_rfl) ?_
  refine pl_y 0 rfl (y_move rfl) rfl rfl rfl rfl (by kernel_rfl) ?_
  refine pl_y 1 rfl (y_nil rfl) rfl rfl rfl rfl (by kernel_rfl) ?_
  refine pl_y 2 rfl (y_fa fa121_1 rfl) rfl rfl rfl rfl (by kernel_rfl) ?_
  refine pl_y 3 rfl (y_fa fa119_3 rfl) rfl rfl rfl rfl (by kernel_rfl) ?_
  refine pl_y 4 rfl (y_load1 Tryd.isAgg3 rfl rfl) rfl rfl rfl rfl (by kernel_rfl) ?_
  refine pl_y 5 rfl (y_move rfl) rfl rfl rfl rfl (by kernel_rfl) ?_
  refine pl_y 6 rfl (y_nil rfl) rfl rfl rfl rfl (by kernel_rfl) ?_
  refine pl_y 7 rfl (y_fa fa121_2 rfl) rfl rfl rfl rfl (by kernel_rfl) ?_
  refine pl_y 8 rfl (y_fa fa44_1 rfl) rfl rfl rfl rfl (by kernel_rfl) ?_
  refine pl_y 9 rfl (y_fa fa42_2 rfl) rfl rfl rfl rfl (by kernel_rfl) ?_
  refine pl_y 10 rfl (y_load1 Tryd.isAgg3 rfl rfl) rfl rfl rfl rfl (by kernel_rfl) ?_
  refine pl_y 11 rfl (y_add rfl rfl (by omega)) rfl rfl rfl rfl (by kernel_rfl) ?_
  refine pl_y 12 rfl (y_nil rfl) rfl rfl rfl rfl (by kernel_rfl) ?_
  refine pl_y 13 rfl (y_fa fa121_1 rfl) rfl rfl rfl rfl (by kernel_rfl) ?_
  refine pl_y 14 rfl (y_fa fa119_3 rfl) rfl rfl rfl rfl (by kernel_rfl) ?_
  refine pl_w1 15 (by kernel_rfl) rfl rfl (pl_fire rfl rfl rfl (by kernel_rfl) ?_)
  refine oj_store rfl rfl rfl rfl Tryd.sizeOf3 rfl ?_
  refine oj_nil ?_
  refine ej_pl (lt_w (by kernel_rfl) (lt_y (y_fa fa121_1 rfl) rfl (lt_y (y_nil rfl) rfl (lt_w (by kernel_rfl) (lt_w (by kernel_rfl) (lt_w (by kernel_rfl) (lt_w (by kernel_rfl) (lt_w (by kernel_rfl) (lt_w (by kernel_rfl) (lt_w (by kernel_rfl) (lt_w (by kernel_rfl) (lt_w (by kernel_rfl) (lt_w (by kernel_rfl) (lt_w (by kernel_rfl) (lt_w (by kernel_rfl) (lt_nil)))))))))))))))) ?_
  refine pl_end (by kernel_rfl) ?_
  refine ej_th (cj_seq (cj_region ?_))
  refine oj_step (y_move rfl) rfl rfl rfl ?_
  refine oj_step (y_move rfl) rfl rfl rfl ?_
  refine oj_step (y_nil rfl) rfl rfl rfl ?_
  refine oj_step (y_loadN Tryd.isAgg121 Tryd.sizeOf121 rfl) rfl rfl rfl ?_
  refine oj_step (y_call Tryd.call86 rfl (fun w hp => k_charge d Ac cc (feeL d x) w hd hx2)) rfl rfl rfl ?_
  refine oj_step (y_nil rfl) rfl rfl rfl ?_
  refine oj_step (y_fa0 fa121_0 rfl) rfl rfl rfl ?_
  refine oj_step (y_fa fa64_1 rfl) rfl rfl rfl ?_
  refine oj_store rfl rfl rfl rfl Tryd.sizeOf3 rfl ?_
  refine oj_nil ?_
  refine ej_th (cj_seq (cj_region ?_))
  refine oj_step (y_move rfl) rfl rfl rfl ?_
  refine oj_step (y_move rfl) rfl rfl rfl ?_
  refine oj_step (y_move rfl) rfl rfl rfl ?_
  refine oj_step (y_nil rfl) rfl rfl rfl ?_
  refine oj_step (y_fa0 fa121_0 rfl) rfl rfl rfl ?_
  refine oj_step (y_fa fa64_1 rfl) rfl rfl rfl ?_
  refine oj_step (y_load1 Tryd.isAgg3 rfl rfl) rfl rfl rfl ?_
  refine oj_step (y_nil rfl) rfl rfl rfl ?_
  refine oj_step (y_fa0 fa121_0 rfl) rfl rfl rfl ?_
  refine oj_step (y_fa fa64_2 rfl) rfl rfl rfl ?_
  refine oj_store rfl rfl rfl rfl Tryd.sizeOf3 rfl ?_
  refine oj_step (y_nil rfl) rfl rfl rfl ?_
  refine oj_step (y_fa0 fa121_0 rfl) rfl rfl rfl ?_
  refine oj_step (y_fa fa64_3 rfl) rfl rfl rfl ?_
  refine oj_store rfl rfl rfl rfl Tryd.sizeOf3 rfl ?_
  refine oj_nil ?_
  refine ej_th (cj_seq ?_)
  refine cj_regionG (gj_step (y_assign rfl) rfl rfl rfl (gj_nil ?_))
  refine ej_th (cj_ret ?_)
  exact ej_ret1 rfl Tryd.results66 rfl (fun w' hp => ⟨rfl, hp.mut, hp.own1⟩)

theorem k_pay (d : Deal) (Ac : Option Addr) (cc : Nat) (x : Ln) (b : Nat) (n : Int) (w : World) (hob : w.heap[b]? = some (cellsB 121 (encLn d Ac cc x))) (hx : LOk x) (hn : 1 ≤ n ∧ n ≤ 1073741824) : Calls Tryd.prog 147 #[.pointer (some ⟨b, 0, none⟩), .int .i64 n] w (fun e w' => e = .returned (.int .i64 (payE x n)) ∧ Mut (ownB b (cellsB 121 (encLn d Ac cc x))) w w' ∧ w'.heap[b]? = some (cellsB 121 (encLn d Ac cc (payL x n)))) := by
  obtain ⟨g1, g2, g3, g4, g5, g6, g7, g8, g9⟩ := hx
  refine enter_own (args := [.pointer (some ⟨b, 0, none⟩), .int .i64 n]) b (cellsB 121 (encLn d Ac cc x)) [] Tryd.func147 rfl (by rw [Tryd.ntmps147]; simp) hob (by simp) ?_
  refine cj_seq ?_
  refine cj_regionG (gj_step (y_assign rfl) rfl rfl rfl (gj_nil ?_))
  refine ej_th (cj_seq ?_)
  refine cj_draw (by kernel_rfl) (by kernel_rfl) (gj_step (y_move rfl) rfl rfl rfl (gj_step (y_nil rfl) rfl rfl rfl (gj_step (y_fa0 fa121_0 rfl) rfl rfl rfl (gj_step (y_fa fa64_1 rfl) rfl rfl rfl (gj_step (y_load1 Tryd.isAgg3 rfl rfl) rfl rfl rfl (gj_step (y_move rfl) rfl rfl rfl (gj_step (y_nil rfl) rfl rfl rfl (gj_step (y_fa0 fa121_0 rfl) rfl rfl rfl (gj_step (y_fa fa64_2 rfl) rfl rfl rfl (gj_step (y_load1 Tryd.isAgg3 rfl rfl) rfl rfl rfl (gj_step (y_sub rfl rfl (by omega)) rfl rfl rfl (gj_step (y_assign rfl) rfl rfl rfl (gj_nil ?_)))))))))))))
  refine ej_th (cj_seq (cj_seq ?_))
  refine cj_regionG (gj_step (y_move rfl) rfl rfl rfl (gj_step (y_move rfl) rfl rfl rfl (gj_step (y_move rfl) rfl rfl rfl (gj_step (y_nil rfl) rfl rfl rfl (gj_step (y_fa0 fa121_0 rfl) rfl rfl rfl (gj_step (y_fa0 fa64_0 rfl) rfl rfl rfl (gj_step (y_load1 Tryd.isAgg3 rfl rfl) rfl rfl rfl (gj_step (y_add rfl rfl (by omega)) rfl rfl rfl (gj_step (y_geq rfl rfl) rfl rfl rfl (gj_nil ?_))))))))))
  refine ej_th ?_
  refine cj_cond rfl (fun h25 => ?_) (fun h25 => ?_)
  · have h25b := h25
    try simp only [sxb] at h25
    refine cj_seq ?_
    refine cj_regionG (gj_step (y_assign rfl) rfl rfl rfl (gj_nil ?_))
    refine ej_th (cj_ret (ej_then_ret ?_))
    rw [payE, payL, if_pos h25, if_pos h25]
    exact ej_ret1 rfl Tryd.results147 rfl (fun w' hp => ⟨rfl, hp.mut, hp.own1⟩)
  · have h25b := h25
    try simp only [sxb] at h25
    refine cj_skip (ej_th (cj_seq (cj_region ?_)))
    refine oj_step (y_move rfl) rfl rfl rfl ?_
    refine oj_step (y_nil rfl) rfl rfl rfl ?_
    refine oj_step (y_fa0 fa121_0 rfl) rfl rfl rfl ?_
    refine oj_step (y_fa fa64_2 rfl) rfl rfl rfl ?_
    refine oj_step (y_load1 Tryd.isAgg3 rfl rfl) rfl rfl rfl ?_
    refine oj_step (y_move rfl) rfl rfl rfl ?_
    refine oj_step (y_move rfl) rfl rfl rfl ?_
    refine oj_step (y_min rfl rfl) rfl rfl rfl ?_
    refine oj_step (y_add rfl rfl (by omega)) rfl rfl rfl ?_
    refine oj_step (y_nil rfl) rfl rfl rfl ?_
    refine oj_step (y_fa0 fa121_0 rfl) rfl rfl rfl ?_
    refine oj_step (y_fa fa64_2 rfl) rfl rfl rfl ?_
    refine oj_store rfl rfl rfl rfl Tryd.sizeOf3 rfl ?_
    refine oj_nil ?_
    refine ej_th (cj_seq (cj_region ?_))
    refine oj_step (y_move rfl) rfl rfl rfl ?_
    refine oj_step (y_nil rfl) rfl rfl rfl ?_
    refine oj_step (y_fa0 fa121_0 rfl) rfl rfl rfl ?_
    refine oj_step (y_fa0 fa64_0 rfl) rfl rfl rfl ?_
    refine oj_step (y_load1 Tryd.isAgg3 rfl rfl) rfl rfl rfl ?_
    refine oj_step (y_move rfl) rfl rfl rfl ?_
    refine oj_step (y_move rfl) rfl rfl rfl ?_
    refine oj_step (y_sub rfl rfl (by omega)) rfl rfl rfl ?_
    refine oj_step (y_max rfl rfl) rfl rfl rfl ?_
    refine oj_step (y_sub rfl rfl (by omega)) rfl rfl rfl ?_
    refine oj_step (y_nil rfl) rfl rfl rfl ?_
    refine oj_step (y_fa0 fa121_0 rfl) rfl rfl rfl ?_
    refine oj_step (y_fa0 fa64_0 rfl) rfl rfl rfl ?_
    refine oj_store rfl rfl rfl rfl Tryd.sizeOf3 rfl ?_
    refine oj_nil ?_
    refine ej_th (cj_seq ?_)
    refine cj_regionG (gj_step (y_assign rfl) rfl rfl rfl (gj_nil ?_))
    refine ej_th (cj_ret ?_)
    rw [payE, payL, if_neg (by omega), if_neg (by omega)]
    exact ej_ret1 rfl Tryd.results147 rfl (fun w' hp => ⟨rfl, hp.mut, hp.own1⟩)

theorem k_hold (d : Deal) (Ac : Option Addr) (cc : Nat) (x : Ln) (b : Nat) (n : Int) (w : World) (hob : w.heap[b]? = some (cellsB 121 (encLn d Ac cc x))) (hx : LOk x) (hn : 1 ≤ n ∧ n ≤ 366) : Calls Tryd.prog 148 #[.pointer (some ⟨b, 0, none⟩), .int .i64 n] w (fun e w' => e = .returned (.int .i64 (holdE x)) ∧ Mut (ownB b (cellsB 121 (encLn d Ac cc x))) w w' ∧ w'.heap[b]? = some (cellsB 121 (encLn d Ac cc (holdL x n)))) := by
  have g2 := hx.day
  refine enter_own (args := [.pointer (some ⟨b, 0, none⟩), .int .i64 n]) b (cellsB 121 (encLn d Ac cc x)) [] Tryd.func148 rfl (by rw [Tryd.ntmps148]; simp) hob (by simp) ?_
  refine cj_seq ?_
  refine cj_regionG (gj_step (y_assign rfl) rfl rfl rfl (gj_nil ?_))
  refine ej_th (cj_seq (cj_seq ?_))
  refine cj_draw (by kernel_rfl) (by kernel_rfl) (gj_step (y_move rfl) rfl rfl rfl (gj_step (y_nil rfl) rfl rfl rfl (gj_step (y_fa fa121_3 rfl) rfl rfl rfl (gj_step (y_load1 Tryd.isAgg3 rfl rfl) rfl rfl rfl (gj_step (y_add rfl rfl (by omega)) rfl rfl rfl (gj_step (y_move rfl) rfl rfl rfl (gj_step (y_nil rfl) rfl rfl rfl (gj_step (y_fa fa121_4 rfl) rfl rfl rfl (gj_step (y_load1 Tryd.isAgg3 rfl rfl) rfl rfl rfl (gj_step (y_leq rfl rfl) rfl rfl rfl (gj_nil ?_)))))))))))
  refine ej_th ?_
  refine cj_cond rfl (fun h14 => ?_) (fun h14 => ?_)
  · have h14b := h14
    try simp only [sxb] at h14
    refine cj_seq ?_
    refine cj_regionG (gj_step (y_assign rfl) rfl rfl rfl (gj_nil ?_))
    refine ej_th (cj_ret (ej_then_ret ?_))
    rw [holdE, holdL, if_pos h14, if_pos h14]
    exact ej_ret1 rfl Tryd.results148 rfl (fun w' hp => ⟨rfl, hp.mut, hp.own1⟩)
  · have h14b := h14
    try simp only [sxb] at h14
    refine cj_skip (ej_th (cj_seq (cj_region ?_)))
    refine oj_step (y_move rfl) rfl rfl rfl ?_
    refine oj_step (y_move rfl) rfl rfl rfl ?_
    refine oj_step (y_nil rfl) rfl rfl rfl ?_
    refine oj_step (y_fa fa121_3 rfl) rfl rfl rfl ?_
    refine oj_step (y_load1 Tryd.isAgg3 rfl rfl) rfl rfl rfl ?_
    refine oj_step (y_move rfl) rfl rfl rfl ?_
    refine oj_step (y_add rfl rfl (by omega)) rfl rfl rfl ?_
    refine oj_step (y_nil rfl) rfl rfl rfl ?_
    refine oj_step (y_fa fa121_4 rfl) rfl rfl rfl ?_
    refine oj_store rfl rfl rfl rfl Tryd.sizeOf3 rfl ?_
    refine oj_nil ?_
    refine ej_th (cj_seq ?_)
    refine cj_regionG (gj_step (y_assign rfl) rfl rfl rfl (gj_nil ?_))
    refine ej_th (cj_ret ?_)
    rw [holdE, holdL, if_neg (by omega), if_neg (by omega)]
    exact ej_ret1 rfl Tryd.results148 rfl (fun w' hp => ⟨rfl, hp.mut, hp.own1⟩)

theorem k_redeem (d : Deal) (Ac : Option Addr) (cc : Nat) (x : Ln) (b : Nat) (n : Int) (w : World) (hob : w.heap[b]? = some (cellsB 121 (encLn d Ac cc x)))  : Calls Tryd.prog 149 #[.pointer (some ⟨b, 0, none⟩), .int .i64 n] w (fun e w' => e = .returned (.int .i64 0) ∧ Mut (ownB b (cellsB 121 (encLn d Ac cc x))) w w' ∧ w'.heap[b]? = some (cellsB 121 (encLn d Ac cc (redeemL x)))) := by
  refine enter_own (args := [.pointer (some ⟨b, 0, none⟩), .int .i64 n]) b (cellsB 121 (encLn d Ac cc x)) [] Tryd.func149 rfl (by rw [Tryd.ntmps149]; simp) hob (by simp) ?_
  refine cj_seq ?_
  refine cj_regionG (gj_step (y_assign rfl) rfl rfl rfl (gj_nil ?_))
  refine ej_th (cj_seq (cj_region ?_))
  refine oj_step (y_move rfl) rfl rfl rfl ?_
  refine oj_step (y_move rfl) rfl rfl rfl ?_
  refine oj_step (y_move rfl) rfl rfl rfl ?_
  refine oj_step (y_move rfl) rfl rfl rfl ?_
  refine oj_step (y_nil rfl) rfl rfl rfl ?_
  refine oj_step (y_fa0 fa121_0 rfl) rfl rfl rfl ?_
  refine oj_step (y_fa fa64_1 rfl) rfl rfl rfl ?_
  refine oj_step (y_load1 Tryd.isAgg3 rfl rfl) rfl rfl rfl ?_
  refine oj_step (y_nil rfl) rfl rfl rfl ?_
  refine oj_step (y_fa0 fa121_0 rfl) rfl rfl rfl ?_
  refine oj_step (y_fa fa64_2 rfl) rfl rfl rfl ?_
  refine oj_store rfl rfl rfl rfl Tryd.sizeOf3 rfl ?_
  refine oj_step (y_nil rfl) rfl rfl rfl ?_
  refine oj_step (y_fa0 fa121_0 rfl) rfl rfl rfl ?_
  refine oj_step (y_fa0 fa64_0 rfl) rfl rfl rfl ?_
  refine oj_store rfl rfl rfl rfl Tryd.sizeOf3 rfl ?_
  refine oj_step (y_nil rfl) rfl rfl rfl ?_
  refine oj_step (y_fa0 fa121_0 rfl) rfl rfl rfl ?_
  refine oj_step (y_fa fa64_4 rfl) rfl rfl rfl ?_
  refine oj_store rfl rfl rfl rfl Tryd.sizeOf4 rfl ?_
  refine oj_nil ?_
  refine ej_th (cj_seq ?_)
  refine cj_regionG (gj_step (y_assign rfl) rfl rfl rfl (gj_nil ?_))
  refine ej_th (cj_ret ?_)
  exact ej_ret1 rfl Tryd.results149 rfl (fun w' hp => ⟨rfl, hp.mut, hp.own1⟩)

theorem k_Keep (d : Deal) (Ac : Option Addr) (cc : Nat) (until_ : Int) (w : World) (hc : Rd w 1 enInt Ac d.closed) : Calls Tryd.prog 24 #[.agg #[.int .i64 d.lr, .int .i64 d.lc, .int .i64 d.tr, .int .i64 d.tf, .int .i64 d.te, .int .i64 d.tt, .int .i64 d.tg, .slice Ac d.closed.length cc, .int .i64 d.start, .int .i64 d.sum], .int .i64 until_] w (fun e w' => ∃ A c, e = .returned (.tuple #[.slice A (KeepN d until_).length c, .int .i64 (KeepE d until_)]) ∧ Grow w w' ∧ Res w w' 1 enInt A (KeepN d until_)) := by
  refine enter_pure (args := [.agg #[.int .i64 d.lr, .int .i64 d.lc, .int .i64 d.tr, .int .i64 d.tf, .int .i64 d.te, .int .i64 d.tt, .int .i64 d.tg, .slice Ac d.closed.length cc, .int .i64 d.start, .int .i64 d.sum], .int .i64 until_]) [sl (fun b => b < w.heap.size) 1 enInt Ac d.closed] Tryd.func24 rfl (by rw [Tryd.ntmps24]; simp) (fun g hg => by simp at hg; subst hg; exact ⟨hc, fun _ h => h⟩) ?_
  refine cj_seq (cj_region ?_)
  refine oj_box rfl rfl rfl (fun b2 => ?_)
  refine oj_step (y_assign rfl) rfl rfl rfl ?_
  refine oj_step (y_assign rfl) rfl rfl rfl ?_
  refine oj_nil ?_
  refine ej_th (cj_seq (cj_seq ?_))
  refine cj_regionG ?_
  refine gj_step (y_loadN Tryd.isAgg44 Tryd.sizeOf44 rfl) rfl rfl rfl (?_)
  refine gj_step (y_call Tryd.call31 rfl (fun w hp => k_Check _ _ _ w hp.rd)) rfl rfl rfl ?_
  refine gj_step (y_assign rfl) rfl rfl rfl (?_)
  refine gj_nil ?_
  refine ej_th (cj_seq ?_)
  refine cj_regionG (gj_step (y_move rfl) rfl rfl rfl (gj_step (y_neq rfl rfl) rfl rfl rfl (gj_nil ?_)))
  refine ej_th ?_
  refine cj_cond rfl (fun h13 => ?_) (fun h13 => ?_)
  · have h13b := h13
    try simp only [sxb] at h13
    rw [errD_ne] at h13
    refine cj_seq ?_
    refine cj_regionG (gj_step (y_move rfl) rfl rfl rfl (gj_step (y_assign rfl) rfl rfl rfl (gj_step (y_assign rfl) rfl rfl rfl (gj_nil ?_))))
    refine ej_th (cj_ret (ej_then_ret ?_))
    have h1 : KeepN d until_ = [] := by simp [KeepN, h13]
    have h2 : KeepE d until_ = 23 := by simp [KeepE, h13]
    rw [h1, h2]
    exact ej_ret2 rfl Tryd.results24 rfl rfl (fun w' hp => ⟨none, 0, by rw [h13]; rfl, hp.below, Res.nil⟩)
  · have h13b := h13
    try simp only [sxb] at h13
    rw [errD_eq] at h13
    have hd := badDeal_no h13
    refine cj_skip (ej_th (cj_seq (cj_seq ?_)))
    refine cj_regionG ?_
    refine gj_step (y_move rfl) rfl rfl rfl (gj_step (y_fa fa44_3 rfl) rfl rfl rfl (gj_step (y_load1 Tryd.isAgg3 rfl rfl) rfl rfl rfl (?_)))
    refine gj_step (y_call Tryd.call54 rfl (fun w hp => k_within _ _ _ w)) rfl rfl rfl ?_
    refine gj_step (y_not rfl) rfl rfl rfl (?_)
    refine gj_nil ?_
    refine ej_th ?_
    refine cj_cond rfl (fun h19 => ?_) (fun h19 => ?_)
    · have h19b := h19
      try simp only [sxb] at h19
      have hb : btw d.start until_ 36500 = false := not_t h19b
      refine cj_seq ?_
      refine cj_regionG (gj_step (y_assign rfl) rfl rfl rfl (gj_step (y_assign rfl) rfl rfl rfl (gj_nil ?_)))
      refine ej_th (cj_ret (ej_then_ret ?_))
      have h1 : KeepN d until_ = [] := by simp [KeepN, h13, hb]
      have h2 : KeepE d until_ = 7 := by simp [KeepE, h13, hb]
      rw [h1, h2]
      exact ej_ret2 rfl Tryd.results24 rfl rfl (fun w' hp => ⟨none, 0, rfl, hp.below, Res.nil⟩)
    · have h19b := h19
      try simp only [sxb] at h19
      have hb : btw d.start until_ 36500 = true := not_f h19b
      have hb2 := hb
      simp only [btw, Bool.and_eq_true, decide_eq_true_eq] at hb2
      have hst := hd.start
      have htt := hd.tt
      have htg := hd.tg
      have hte := hd.te
      refine cj_skip (ej_th (cj_seq ?_))
      refine cj_ownNil 3 1 enInt ?_
      refine cj_regionG (gj_step (y_assign rfl) rfl rfl rfl (gj_nil ?_))
      refine ej_th (cj_seq (cj_region ?_))
      refine oj_step (y_loadN Tryd.isAgg44 Tryd.sizeOf44 rfl) rfl rfl rfl ?_
      refine oj_step (y_call Tryd.call63 rfl (fun w hp => k_open d Ac cc w)) rfl rfl rfl ?_
      refine oj_alloc Tryd.zeroValue121 rfl rfl (fun b8 => ?_)
      refine oj_store rfl rfl rfl rfl Tryd.sizeOf121 rfl ?_
      refine oj_nil ?_
      refine ej_th (cj_seq (cj_block ?_))
      refine cj_lp (X := Ln × Nat × Option Addr × Nat × List Int) (fun ⟨x, n, A, c, out⟩ => LOk x ∧ x.fees ≤ 10000 * out.length ∧ out.length + keepMu until_ x ≤ 73001 ∧ keepMu until_ x ≤ n ∧ keepF d until_ n x out = keepL d until_) (fun ⟨x, n, A, c, out⟩ => [(1, .int .i64 until_), (7, .slice A out.length c), (8, .pointer (some ⟨b8, 0, none⟩))]) (fun ⟨x, n, A, c, out⟩ => [ownB b8 (cellsB 121 (encLn d Ac cc x)), ow 3 1 enInt A c out]) (fun ⟨x, n, A, c, out⟩ => [sl (fun b => b < w.heap.size) 1 enInt Ac d.closed]) (fun ⟨x, n, A, c, out⟩ => keepMu until_ x) (openL d, keepMu until_ (openL d), none, 0, []) (⟨openL_ok hd, by simp [openL], by simp [keepMu, openL]; omega, Nat.le_refl _, rfl⟩) ⟨rfl, rfl, rfl, trivial⟩ ?_
      rintro ⟨x, n, A, c, out⟩ ⟨hx, hfe, hlo, hnn, hl⟩
      have hxd := hx.day
      refine cj_seq (cj_seq ?_)
      refine cj_regionG (gj_step (y_fa fa121_3 rfl) rfl rfl rfl (gj_step (y_load1 Tryd.isAgg3 rfl rfl) rfl rfl rfl (gj_step (y_move rfl) rfl rfl rfl (gj_step (y_lss rfl rfl) rfl rfl rfl (gj_nil ?_)))))
      refine ej_th ?_
      refine cj_cond rfl (fun h25 => ?_) (fun h25 => ?_)
      · have h25b := h25
        try simp only [sxb] at h25
        have hmu : 1 ≤ keepMu until_ x := by unfold keepMu; omega
        obtain ⟨n, rfl⟩ : ∃ n', n = n' + 1 := ⟨n - 1, by omega⟩
        have ht1 := toL_one d x
        have ht2 := toL_one_ag d x
        have ht3 := toL_one_fees d x
        have hty := toL_ok hd hx (show x.day + 1 ≤ 36500 by omega)
        rw [keepF, if_neg (by omega)] at hl
        refine cj_skip (ej_th (cj_block (cj_seq (cj_region ?_))))
        refine oj_step (y_loadN Tryd.isAgg121 Tryd.sizeOf121 rfl) rfl rfl rfl ?_
        refine oj_alloc Tryd.zeroValue121 rfl rfl (fun b9 => ?_)
        refine oj_store rfl rfl rfl rfl Tryd.sizeOf121 rfl ?_
        refine oj_nil ?_
        refine ej_th (cj_seq (cj_seq (cj_region ?_)))
        refine oj_step (y_fa fa121_3 rfl) rfl rfl rfl ?_
        refine oj_step (y_load1 Tryd.isAgg3 rfl rfl) rfl rfl rfl ?_
        refine oj_step (y_add rfl rfl (by omega)) rfl rfl rfl ?_
        refine oj_callM (X := Unit) (b := b8) (fun _ => .tuple #[]) (fun _ => cellsB 121 (encLn d Ac cc (toL d x (x.day + 1)))) Tryd.call64 rfl (fun w hp => (k_to d Ac cc x b8 (x.day + 1) w hp.own1 hp.rdX hd hx (by omega)).mono (fun e w2 ⟨h1, h2, h3⟩ => ⟨(), h1, h2, h3⟩)) rfl (fun _ => ?_)
        obtain ⟨y, hy⟩ : ∃ y, y = toL d x (x.day + 1) := ⟨_, rfl⟩
        rw [← hy] at ht1 ht2 ht3 hty hl ⊢
        refine oj_nil ?_
        refine ej_th (cj_seq ?_)
        refine cj_regionG ?_
        refine gj_step (y_loadN Tryd.isAgg121 Tryd.sizeOf121 rfl) rfl rfl rfl (?_)
        refine gj_step (y_call Tryd.call65 rfl (fun w hp => k_over d Ac cc y w hd)) rfl rfl rfl ?_
        refine gj_step (y_not rfl) rfl rfl rfl (?_)
        refine gj_nil ?_
        refine ej_th ?_
        refine cj_cond rfl (fun h33 => ?_) (fun h33 => ?_)
        · have h33b := h33
          try simp only [sxb] at h33
          have ho : overB d y = false := not_t h33b
          refine cj_exit (ej_then_exit (ej_blk_hit ?_))
          rw [if_neg (by rw [ho]; simp)] at hl
          have hm : keepMu until_ y < keepMu until_ x := by unfold keepMu; split <;> split <;> omega
          exact ej_nx (y, n, A, c, out) (by simp only; omega) ⟨hty, by rw [ht3]; exact hfe, by omega, by omega, hl⟩ ⟨rfl, rfl, rfl, trivial⟩
        · have h33b := h33
          try simp only [sxb] at h33
          have ho : overB d y = true := not_f h33b
          refine cj_skip (ej_th (cj_seq (cj_region ?_)))
          refine oj_step (y_move rfl) rfl rfl rfl ?_
          refine oj_step (y_fa fa121_3 rfl) rfl rfl rfl ?_
          refine oj_step (y_load1 Tryd.isAgg3 rfl rfl) rfl rfl rfl ?_
          refine oj_buildSlice [.int .i64 0] Tryd.underlying23 Tryd.sizeOf3 Tryd.zeroValue3 rfl rfl (by kernel_rfl) rfl rfl (fun b37 => ?_)
          refine oj_append  el23 (fun _ => rfl) enInt_one rfl rfl rfl (reads_lit [x.day] (fun _ => rfl) rfl) (by simp [maxLen]; omega) (by simp; omega) rfl (fun A38 c38 => ?_)
          refine oj_step (y_assign rfl) rfl rfl rfl ?_
          refine oj_nil ?_
          refine ej_th (cj_seq (cj_region ?_))
          refine oj_callM (X := Unit) (b := b9) (fun _ => .int .i64 0) (fun _ => cellsB 121 (encLn d Ac cc (renewL d x))) Tryd.call66 rfl (fun w hp => (k_renew d Ac cc x b9 0 w hp.own1 hd hx (by omega)).mono (fun e w2 ⟨h1, h2, h3⟩ => ⟨(), h1, h2, h3⟩)) rfl (fun _ => ?_)
          obtain ⟨z, hz⟩ : ∃ z, z = renewL d x := ⟨_, rfl⟩
          rw [← hz] at hl ⊢
          refine oj_nil ?_
          refine ej_th (cj_region ?_)
          refine oj_step (y_loadN Tryd.isAgg121 Tryd.sizeOf121 rfl) rfl rfl rfl ?_
          refine oj_store rfl rfl rfl rfl Tryd.sizeOf121 rfl ?_
          refine oj_nil ?_
          refine ej_blk ?_
          rw [if_pos (by rw [ho])] at hl
          have hzd : z.day = x.day := by rw [hz]; rfl
          have hza : z.ag = 0 := by rw [hz]; rfl
          have hzf : z.fees = x.fees + d.te := by rw [hz]; rfl
          have hag : x.ag ≠ 0 := by
            have : d.tt + d.tg < y.ag := of_decide_eq_true ho
            omega
          have hm : keepMu until_ z < keepMu until_ x := by unfold keepMu; rw [if_pos hza, if_neg hag, hzd]; omega
          have hzok : LOk z := by rw [hz]; exact renewL_ok hd hx (by omega)
          exact ej_nx (z, n, A38, c38, out ++ [x.day]) (by simp only; omega) ⟨hzok, by rw [hzf]; simp only [List.length_append, List.length_singleton]; omega, by simp only [List.length_append, List.length_singleton]; omega, by omega, hl⟩ ⟨rfl, rfl, rfl, trivial⟩
      · have h25b := h25
        try simp only [sxb] at h25
        refine cj_exit (ej_then_exit (ej_then_exit (ej_blk_hit (ej_th (cj_seq (cj_seq ?_))))))
        refine cj_regionG (gj_step (y_move rfl) rfl rfl rfl (gj_step (y_lenA Tryd.underlying23 rfl) rfl rfl rfl (gj_step (y_gtr rfl rfl) rfl rfl rfl (gj_nil ?_))))
        refine ej_th ?_
        refine cj_cond rfl (fun h43 => ?_) (fun h43 => ?_)
        · have h43b := h43
          try simp only [sxb] at h43
          refine cj_seq ?_
          refine cj_regionG (gj_step (y_assign rfl) rfl rfl rfl (gj_step (y_assign rfl) rfl rfl rfl (gj_nil ?_)))
          refine ej_th (cj_ret (ej_then_ret ?_))
          rw [keepF_end _ _ _ _ _ (by omega)] at hl
          subst hl
          have h1 : KeepN d until_ = [] := by simp only [KeepN, h13, hb, Bool.false_eq_true, if_false, if_true]; rw [if_pos (by omega)]
          have h2 : KeepE d until_ = 3 := by simp only [KeepE, h13, hb, Bool.false_eq_true, if_false, if_true]; rw [if_pos (by omega)]
          rw [h1, h2]
          exact ej_ret2 rfl Tryd.results24 rfl rfl (fun w' hp => ⟨none, 0, rfl, hp.below, Res.nil⟩)
        · have h43b := h43
          try simp only [sxb] at h43
          refine cj_skip (ej_th (cj_seq ?_))
          refine cj_regionG (gj_step (y_move rfl) rfl rfl rfl (gj_step (y_assign rfl) rfl rfl rfl (gj_step (y_assign rfl) rfl rfl rfl (gj_nil ?_))))
          refine ej_th (cj_ret ?_)
          rw [keepF_end _ _ _ _ _ (by omega)] at hl
          subst hl
          have h1 : KeepN d until_ = keepL d until_ := by simp only [KeepN, h13, hb, Bool.false_eq_true, if_false, if_true]; rw [if_neg (by omega)]
          have h2 : KeepE d until_ = 0 := by simp only [KeepE, h13, hb, Bool.false_eq_true, if_false, if_true]; rw [if_neg (by omega)]
          rw [h1, h2]
          exact ej_ret2 rfl Tryd.results24 rfl rfl (fun w' hp => ⟨A, c, rfl, hp.below, hp.res (fun _ => rfl) (by unfold maxLen; omega)⟩)

end Go.Proofs.YtafmgkiddhappaaDoor
namespace Go.Proofs.YtafmgkiddhappaaDoor
open Go.Sx Go.RowKit
set_option maxRecDepth 20000
theorem k_valid1 (n : Int) (w : World)  : Calls Tryd.prog 142 #[.agg #[], .int .i64 n] w (fun e w' => e = .returned (.bool (btw 1 n 1073741824)) ∧ Grow w w') := by
  refine enter_pure (args := [.agg #[], .int .i64 n]) [] Tryd.func142 rfl (by rw [Tryd.ntmps142]; simp) (by simp) ?_
  refine cj_seq (cj_region ?_)
  refine oj_box rfl rfl rfl (fun b2 => ?_)
  refine oj_step (y_assign rfl) rfl rfl rfl ?_
  refine oj_nil ?_
  refine ej_th (cj_seq ?_)
  refine cj_regionG ?_
  refine gj_step (y_move rfl) rfl rfl rfl (?_)
  refine gj_step (y_call Tryd.call54 rfl (fun w hp => k_within _ _ _ w)) rfl rfl rfl ?_
  refine gj_step (y_assign rfl) rfl rfl rfl (?_)
  refine gj_nil ?_
  refine ej_th (cj_ret ?_)
  exact ej_ret1 rfl Tryd.results142 rfl (fun w' hp => ⟨rfl, hp.below⟩)

theorem k_valid2 (n : Int) (w : World)  : Calls Tryd.prog 143 #[.agg #[], .int .i64 n] w (fun e w' => e = .returned (.bool (n == 0)) ∧ Grow w w') := by
  refine enter_pure (args := [.agg #[], .int .i64 n]) [] Tryd.func143 rfl (by rw [Tryd.ntmps143]; simp) (by simp) ?_
  refine cj_seq (cj_region ?_)
  refine oj_box rfl rfl rfl (fun b2 => ?_)
  refine oj_step (y_assign rfl) rfl rfl rfl ?_
  refine oj_nil ?_
  refine ej_th (cj_seq ?_)
  refine cj_regionG (gj_step (y_move rfl) rfl rfl rfl (gj_step (y_eql rfl rfl) rfl rfl rfl (gj_step (y_assign rfl) rfl rfl rfl (gj_nil ?_))))
  refine ej_th (cj_ret ?_)
  exact ej_ret1 rfl Tryd.results143 rfl (fun w' hp => ⟨rfl, hp.below⟩)

theorem k_valid3 (n : Int) (w : World)  : Calls Tryd.prog 144 #[.agg #[], .int .i64 n] w (fun e w' => e = .returned (.bool (btw 1 n 366)) ∧ Grow w w') := by
  refine enter_pure (args := [.agg #[], .int .i64 n]) [] Tryd.func144 rfl (by rw [Tryd.ntmps144]; simp) (by simp) ?_
  refine cj_seq (cj_region ?_)
  refine oj_box rfl rfl rfl (fun b2 => ?_)
  refine oj_step (y_assign rfl) rfl rfl rfl ?_
  refine oj_nil ?_
  refine ej_th (cj_seq ?_)
  refine cj_regionG ?_
  refine gj_step (y_move rfl) rfl rfl rfl (?_)
  refine gj_step (y_call Tryd.call54 rfl (fun w hp => k_within _ _ _ w)) rfl rfl rfl ?_
  refine gj_step (y_assign rfl) rfl rfl rfl (?_)
  refine gj_nil ?_
  refine ej_th (cj_ret ?_)
  exact ej_ret1 rfl Tryd.results144 rfl (fun w' hp => ⟨rfl, hp.below⟩)

theorem k_valid4 (n : Int) (w : World)  : Calls Tryd.prog 145 #[.agg #[], .int .i64 n] w (fun e w' => e = .returned (.bool (n == 0)) ∧ Grow w w') := by
  refine enter_pure (args := [.agg #[], .int .i64 n]) [] Tryd.func145 rfl (by rw [Tryd.ntmps145]; simp) (by simp) ?_
  refine cj_seq (cj_region ?_)
  refine oj_box rfl rfl rfl (fun b2 => ?_)
  refine oj_step (y_assign rfl) rfl rfl rfl ?_
  refine oj_nil ?_
  refine ej_th (cj_seq ?_)
  refine cj_regionG (gj_step (y_move rfl) rfl rfl rfl (gj_step (y_eql rfl rfl) rfl rfl rfl (gj_step (y_assign rfl) rfl rfl rfl (gj_nil ?_))))
  refine ej_th (cj_ret ?_)
  exact ej_ret1 rfl Tryd.results145 rfl (fun w' hp => ⟨rfl, hp.below⟩)

theorem k_deedOf (a : Act1) (w : World)  : Calls Tryd.prog 101 #[.agg #[.int .i64 a.day, .int .i64 a.kind, .int .i64 a.n]] w (fun e w' => e = .returned (deedV a.kind) ∧ Grow w w') := by
  refine enter_pure (args := [.agg #[.int .i64 a.day, .int .i64 a.kind, .int .i64 a.n]]) [] Tryd.func101 rfl (by rw [Tryd.ntmps101]; simp) (by simp) ?_
  refine cj_seq (cj_region ?_)
  refine oj_box rfl rfl rfl (fun b1 => ?_)
  refine oj_step (y_assign rfl) rfl rfl rfl ?_
  refine oj_nil ?_
  refine ej_th (cj_seq (cj_seq ?_))
  refine cj_regionG (gj_step (y_fa fa68_1 rfl) rfl rfl rfl (gj_step (y_load1 Tryd.isAgg3 rfl rfl) rfl rfl rfl (gj_nil ?_)))
  refine ej_th (cj_block (cj_seq ?_))
  refine cj_regionG (gj_step (y_eql rfl rfl) rfl rfl rfl (gj_step (y_assign rfl) rfl rfl rfl (gj_nil ?_)))
  refine ej_th ?_
  refine cj_cond rfl (fun h5 => ?_) (fun h5 => ?_)
  · have h5b := h5
    try simp only [sxb] at h5
    refine cj_seq ?_
    refine cj_regionG (gj_step (y_build st191 rfl rfl) rfl rfl rfl (gj_step (y_iface rfl (by kernel_rfl)) rfl rfl rfl (gj_step (y_assign rfl) rfl rfl rfl (gj_nil ?_))))
    refine ej_th (cj_ret (ej_blk_ret (ej_then_ret ?_)))
    refine ej_ret1 rfl Tryd.results101 rfl (fun w' hp => ⟨?_, hp.below⟩)
    rw [deedV, if_pos h5]
  · have h5b := h5
    try simp only [sxb] at h5
    refine cj_seq ?_
    refine cj_regionG (gj_step (y_eql rfl rfl) rfl rfl rfl (gj_step (y_assign rfl) rfl rfl rfl (gj_nil ?_)))
    refine ej_th ?_
    refine cj_cond rfl (fun h9 => ?_) (fun h9 => ?_)
    · have h9b := h9
      try simp only [sxb] at h9
      refine cj_seq ?_
      refine cj_regionG (gj_step (y_build st192 rfl rfl) rfl rfl rfl (gj_step (y_iface rfl (by kernel_rfl)) rfl rfl rfl (gj_step (y_assign rfl) rfl rfl rfl (gj_nil ?_))))
      refine ej_th (cj_ret (ej_blk_ret (ej_then_ret ?_)))
      refine ej_ret1 rfl Tryd.results101 rfl (fun w' hp => ⟨?_, hp.below⟩)
      rw [deedV, if_neg h5, if_pos h9]
    · have h9b := h9
      try simp only [sxb] at h9
      refine cj_seq ?_
      refine cj_regionG (gj_step (y_eql rfl rfl) rfl rfl rfl (gj_step (y_assign rfl) rfl rfl rfl (gj_nil ?_)))
      refine ej_th ?_
      refine cj_cond rfl (fun h13 => ?_) (fun h13 => ?_)
      · have h13b := h13
        try simp only [sxb] at h13
        refine cj_seq ?_
        refine cj_regionG (gj_step (y_build st193 rfl rfl) rfl rfl rfl (gj_step (y_iface rfl (by kernel_rfl)) rfl rfl rfl (gj_step (y_assign rfl) rfl rfl rfl (gj_nil ?_))))
        refine ej_th (cj_ret (ej_blk_ret (ej_then_ret ?_)))
        refine ej_ret1 rfl Tryd.results101 rfl (fun w' hp => ⟨?_, hp.below⟩)
        rw [deedV, if_neg h5, if_neg h9, if_pos h13]
      · have h13b := h13
        try simp only [sxb] at h13
        refine cj_seq ?_
        refine cj_regionG (gj_step (y_eql rfl rfl) rfl rfl rfl (gj_step (y_assign rfl) rfl rfl rfl (gj_nil ?_)))
        refine ej_th ?_
        refine cj_cond rfl (fun h17 => ?_) (fun h17 => ?_)
        · have h17b := h17
          try simp only [sxb] at h17
          refine cj_seq ?_
          refine cj_regionG (gj_step (y_build st194 rfl rfl) rfl rfl rfl (gj_step (y_iface rfl (by kernel_rfl)) rfl rfl rfl (gj_step (y_assign rfl) rfl rfl rfl (gj_nil ?_))))
          refine ej_th (cj_ret (ej_blk_ret (ej_then_ret ?_)))
          refine ej_ret1 rfl Tryd.results101 rfl (fun w' hp => ⟨?_, hp.below⟩)
          rw [deedV, if_neg h5, if_neg h9, if_neg h13, if_pos h17]
        · have h17b := h17
          try simp only [sxb] at h17
          refine cj_skip (ej_blk (ej_th (cj_seq ?_)))
          refine cj_regionG (gj_step (y_assign rfl) rfl rfl rfl (gj_nil ?_))
          refine ej_th (cj_ret ?_)
          refine ej_ret1 rfl Tryd.results101 rfl (fun w' hp => ⟨?_, hp.below⟩)
          rw [deedV, if_neg h5, if_neg h9, if_neg h13, if_neg h17]

theorem deed_nil0 (m : Nat) (w : World) : (do eqGuard .eql 166 (.tmp m) (.const .nilIface) .nilIface .nilIface; binOp .eql 166 .nilIface .nilIface : Sem Value).run Tryd.prog w = .ok (.bool true) w := by kernel_rfl
theorem deed_nil (k : Int) (m : Nat) (w : World) : (do eqGuard .eql 166 (.tmp m) (.const .nilIface) (deedV k) .nilIface; binOp .eql 166 (deedV k) .nilIface : Sem Value).run Tryd.prog w = .ok (.bool (isNilK k)) w := by
  cases h : isNilK k
  · rcases kinds h with rfl | rfl | rfl | rfl <;> kernel_rfl
  · have := not_t h
    simp only [Bool.and_eq_false_iff, decide_eq_false_iff_not] at this
    have e : deedV k = .nilIface := by unfold deedV; rw [if_neg (by omega), if_neg (by omega), if_neg (by omega), if_neg (by omega)]
    rw [e]
    exact deed_nil0 m w
theorem deed_call (k n : Int) (h : isNilK k = false) : ∃ f u, (∀ args w, (callMethod (deedV k) "lombard/loan.valid" args).run Tryd.prog w = .ok (.enter f (#[u] ++ args)) w) ∧ ∀ w, Calls Tryd.prog f (#[u] ++ [.int .i64 n].toArray) w (fun e w' => e = .returned (.bool (okKind k n)) ∧ Grow w w') := by
  rcases kinds h with rfl | rfl | rfl | rfl
  · exact ⟨142, .agg #[], fun _ _ => by kernel_rfl, fun w => k_valid1 n w⟩
  · exact ⟨143, .agg #[], fun _ _ => by kernel_rfl, fun w => k_valid2 n w⟩
  · exact ⟨144, .agg #[], fun _ _ => by kernel_rfl, fun w => k_valid3 n w⟩
  · exact ⟨145, .agg #[], fun _ _ => by kernel_rfl, fun w => k_valid4 n w⟩

theorem k_acts (d : Deal) (Ac : Option Addr) (cc : Nat) (l : List Act1) (Al : Option Addr) (cl : Nat) (w : World) (hl0 : Rd w 3 encAct Al l) : Calls Tryd.prog 87 #[.agg #[.int .i64 d.lr, .int .i64 d.lc, .int .i64 d.tr, .int .i64 d.tf, .int .i64 d.te, .int .i64 d.tt, .int .i64 d.tg, .slice Ac d.closed.length cc, .int .i64 d.start, .int .i64 d.sum], .slice Al l.length cl] w (fun e w' => e = .returned (.bool (actsOk d l)) ∧ Grow w w') := by
  have hlen := hl0.len
  refine enter_pure (args := [.agg #[.int .i64 d.lr, .int .i64 d.lc, .int .i64 d.tr, .int .i64 d.tf, .int .i64 d.te, .int .i64 d.tt, .int .i64 d.tg, .slice Ac d.closed.length cc, .int .i64 d.start, .int .i64 d.sum], .slice Al l.length cl]) [sl (fun b => b < w.heap.size) 3 encAct Al l] Tryd.func87 rfl (by rw [Tryd.ntmps87]; simp) (fun g hg => by simp at hg; subst hg; exact ⟨hl0, fun _ h => h⟩) ?_
  refine cj_seq (cj_region ?_)
  refine oj_box rfl rfl rfl (fun b2 => ?_)
  refine oj_step (y_assign rfl) rfl rfl rfl ?_
  refine oj_nil ?_
  refine ej_th (cj_seq ?_)
  refine cj_regionG (gj_step (y_fa fa44_3 rfl) rfl rfl rfl (gj_step (y_load1 Tryd.isAgg3 rfl rfl) rfl rfl rfl (gj_step (y_assign rfl) rfl rfl rfl (gj_nil ?_))))
  refine ej_th (cj_seq (cj_seq ?_))
  refine cj_regionG (gj_step (y_move rfl) rfl rfl rfl (gj_step (y_lenA Tryd.underlying69 rfl) rfl rfl rfl (gj_step (y_move rfl) rfl rfl rfl (gj_nil ?_))))
  refine ej_th (cj_block ?_)
  refine cj_lpc (X := Nat × Int) (fun ⟨k, last⟩ => k ≤ l.length ∧ actsF last (pkOf l k) (l.drop k) = actsF d.start 0 l) (fun ⟨k, last⟩ => [(1, .slice Al l.length cl), (5, .int .i64 last), (11, .slice Al l.length cl), (12, .int .i64 l.length), (13, .int .i64 k)]) (fun ⟨k, last⟩ => l.length - k) (0, d.start) (⟨Nat.zero_le _, rfl⟩) ⟨rfl, rfl, rfl, rfl, rfl, trivial⟩ ?_
  rintro ⟨k, last⟩ ⟨hk, hl⟩
  refine cj_seq ?_
  refine cj_regionG (gj_step (y_lss rfl rfl) rfl rfl rfl (gj_nil ?_))
  refine ej_th (cj_seq ?_)
  refine cj_cond rfl (fun h14 => ?_) (fun h14 => ?_)
  · have h14b := h14
    try simp only [sxb] at h14
    obtain ⟨a, hx⟩ : ∃ a, l[k]? = some a := ⟨_, List.getElem?_eq_getElem (by omega)⟩
    rw [actsF_drop l k a last hx] at hl
    refine cj_skip (ej_th (cj_seq (cj_block (cj_seq (cj_region ?_)))))
    refine oj_step (y_move rfl) rfl rfl rfl ?_
    refine oj_step (y_ixR (reads_sl) Tryd.underlying69 Tryd.sizeOf68 rfl rfl (⟨by omega, by omega⟩)) rfl rfl rfl ?_
    refine oj_step (y_ldW (reads_sl) Tryd.isAgg68 Tryd.sizeOf68 rfl (hx) (fun _ => rfl)) rfl rfl rfl ?_
    refine oj_alloc Tryd.zeroValue68 rfl rfl (fun b7 => ?_)
    refine oj_step (y_assign rfl) rfl rfl rfl ?_
    refine oj_store rfl rfl rfl rfl Tryd.sizeOf68 rfl ?_
    refine oj_nil ?_
    refine ej_th (cj_seq ?_)
    refine cj_regionG ?_
    refine gj_step (y_loadN Tryd.isAgg68 Tryd.sizeOf68 rfl) rfl rfl rfl (?_)
    refine gj_step (y_call Tryd.call101 rfl (fun w hp => k_deedOf a w)) rfl rfl rfl ?_
    refine gj_step (y_assign rfl) rfl rfl rfl (?_)
    refine gj_nil ?_
    refine ej_th (cj_seq (cj_seq ?_))
    refine cj_regionG ?_
    refine gj_step (y_move rfl) rfl rfl rfl (gj_step (y_binO rfl rfl (fun w => deed_nil a.kind _ w)) rfl rfl rfl (gj_step (y_move rfl) rfl rfl rfl (?_)))
    refine gj_g 5 22 27 rfl rfl rfl rfl (fun hg22 => gj_yes rfl rfl rfl (y_move rfl) rfl rfl (gj_yes rfl rfl rfl (y_fa fa68_2 rfl) rfl rfl (gj_yes rfl rfl rfl (y_load1 Tryd.isAgg3 rfl rfl) rfl rfl (gj_yes rfl rfl rfl (y_invokeG rfl rfl (by obtain ⟨f, u, h1, h2⟩ := deed_call a.kind a.n hg22; exact ⟨f, u, h1, fun w _ => h2 w⟩)) rfl rfl (gj_yes rfl rfl rfl (y_not rfl) rfl rfl (gj_nil rfl)))))) ?_
    refine gj_step (y_or rfl rfl rfl) rfl rfl rfl (gj_step (y_move rfl) rfl rfl rfl (?_))
    refine gj_g 5 29 34 rfl rfl rfl rfl (fun hg29 => gj_yes rfl rfl rfl (y_fa0 fa68_0 rfl) rfl rfl (gj_yes rfl rfl rfl (y_load1 Tryd.isAgg3 rfl rfl) rfl rfl (gj_yes rfl rfl rfl (y_move rfl) rfl rfl (gj_yes rfl rfl rfl (y_call Tryd.call54 rfl (fun w hp => k_within _ _ _ w)) rfl rfl (gj_yes rfl rfl rfl (y_not rfl) rfl rfl (gj_nil rfl)))))) ?_
    refine gj_step (y_or rfl rfl rfl) rfl rfl rfl (gj_step (y_move rfl) rfl rfl rfl (?_))
    refine gj_g 11 36 47 rfl rfl rfl rfl (fun hg36 => gj_yes rfl rfl rfl (y_move rfl) rfl rfl (gj_yes rfl rfl rfl (y_gtr rfl rfl) rfl rfl (gj_yes rfl rfl rfl (y_move rfl) rfl rfl (gj_g 7 39 46 rfl rfl rfl rfl (fun hg39 => gj_yes rfl rfl rfl (y_move rfl) rfl rfl (gj_yes rfl rfl rfl (y_move rfl) rfl rfl (gj_yes rfl rfl rfl (y_sub rfl rfl (by have := of_decide_eq_true hg39; omega)) rfl rfl (gj_yes rfl rfl rfl (y_ixR (reads_sl) Tryd.underlying69 Tryd.sizeOf68 rfl rfl (⟨by have := of_decide_eq_true hg39; omega, by have := of_decide_eq_true hg39; omega⟩)) rfl rfl (gj_yes rfl rfl rfl (y_faE fa68_1 rfl) rfl rfl (gj_yes rfl rfl rfl (y_ld1 (reads_sl) Tryd.isAgg3 rfl (geq default (by have := of_decide_eq_true hg39; omega)) rfl) rfl rfl (gj_yes rfl rfl rfl (y_eql rfl rfl) rfl rfl (gj_nil rfl)))))))) (gj_yes rfl rfl rfl (y_and rfl rfl rfl) rfl rfl (gj_nil rfl)))))) ?_
    refine gj_step (y_or rfl rfl rfl) rfl rfl rfl (?_)
    refine gj_nil ?_
    refine ej_th ?_
    refine cj_cond rfl (fun h48 => ?_) (fun h48 => ?_)
    · have h48b := h48
      try simp only [sxb] at h48
      have hstep : okAct last (pkOf l k) a = false := not_t ((act_V l k last a).symm.trans h48b)
      refine cj_seq ?_
      refine cj_regionG (gj_step (y_assign rfl) rfl rfl rfl (gj_nil ?_))
      refine ej_th (cj_ret (ej_then_ret (ej_blk_ret (ej_then_ret (ej_then_ret (ej_blk_ret (ej_then_ret ?_)))))))
      refine ej_ret1 rfl Tryd.results87 rfl (fun w' hp => ⟨?_, hp.below⟩)
      rw [actsOk, ← hl, hstep]; rfl
    · have h48b := h48
      try simp only [sxb] at h48
      have hstep : okAct last (pkOf l k) a = true := not_f ((act_V l k last a).symm.trans h48b)
      refine cj_skip (ej_th ?_)
      refine cj_regionG (gj_step (y_fa0 fa68_0 rfl) rfl rfl rfl (gj_step (y_load1 Tryd.isAgg3 rfl rfl) rfl rfl rfl (gj_step (y_assign rfl) rfl rfl rfl (gj_nil ?_))))
      refine ej_blk (ej_th ?_)
      refine cj_regionG (gj_step (y_add rfl rfl (by omega)) rfl rfl rfl (gj_step (y_move rfl) rfl rfl rfl (gj_nil ?_)))
      exact ej_nx (k + 1, a.day) (by simp only; omega) ⟨by omega, by rw [← hl, hstep, Bool.true_and]⟩ ⟨rfl, rfl, rfl, rfl, rfl, trivial⟩
  · have h14b := h14
    try simp only [sxb] at h14
    refine cj_exit (ej_then_exit (ej_then_exit (ej_blk_hit (ej_th (cj_seq ?_)))))
    refine cj_regionG (gj_step (y_move rfl) rfl rfl rfl (gj_step (y_lenA Tryd.underlying69 rfl) rfl rfl rfl (gj_step (y_leq rfl rfl) rfl rfl rfl (gj_step (y_assign rfl) rfl rfl rfl (gj_nil ?_)))))
    refine ej_th (cj_ret ?_)
    refine ej_ret1 rfl Tryd.results87 rfl (fun w' hp => ⟨?_, hp.below⟩)
    rw [List.drop_of_length_le (by omega)] at hl
    rw [actsOk, ← hl]; rfl

end Go.Proofs.YtafmgkiddhappaaDoor
namespace Go.Proofs.YtafmgkiddhappaaDoor
open Go.Sx Go.RowKit
set_option maxRecDepth 20000
theorem way_call (d : Deal) (Ac : Option Addr) (cc : Nat) (y : Ln) (a : Act1) (b : Nat) (hd : DealOk d) (hy : LOk y) (hk : okKind a.kind a.n = true) (hf : y.fees ≤ 999990000) :
    ∃ f, wayV a.kind = .func (.func f) #[] #[] ∧ (∀ args w, (callFunc f args).run Tryd.prog w = .ok (.enter f args) w) ∧ ∀ w : World, w.heap[b]? = some (cellsB 121 (encLn d Ac cc y)) →
      Calls Tryd.prog f (#[] ++ [.pointer (some ⟨b, 0, none⟩), .int .i64 a.n].toArray ++ #[]) w (fun e w' => e = .returned (.int .i64 (actE d y a)) ∧ Mut (ownB b (cellsB 121 (encLn d Ac cc y))) w w' ∧ w'.heap[b]? = some (cellsB 121 (encLn d Ac cc (actL d y a)))) := by
  have hkk := okKind_kinds hk
  obtain ⟨ad, ak, an⟩ := a
  simp only at hkk hk ⊢
  rcases hkk with rfl | rfl | rfl | rfl
  · refine ⟨147, rfl, Tryd.call147, fun w hw => ?_⟩
    have h1 : 1 ≤ an ∧ an ≤ 1073741824 := by
      simp only [okKind, btw, Bool.and_eq_true, decide_eq_true_eq, if_true] at hk; exact hk
    exact k_pay d Ac cc y b an w hw hy h1
  · exact ⟨66, rfl, Tryd.call66, fun w hw => k_renew d Ac cc y b an w hw hd hy hf⟩
  · refine ⟨148, rfl, Tryd.call148, fun w hw => ?_⟩
    have h1 : 1 ≤ an ∧ an ≤ 366 := by
      have h2 : btw 1 an 366 = true := hk
      simp only [btw, Bool.and_eq_true, decide_eq_true_eq] at h2; exact h2
    exact k_hold d Ac cc y b an w hw hy h1
  · exact ⟨149, rfl, Tryd.call149, fun w hw => k_redeem d Ac cc y b an w hw⟩

theorem k_run (d : Deal) (Ac : Option Addr) (cc : Nat) (l : List Act1) (Al : Option Addr) (cl : Nat) (w : World) (hc : Rd w 1 enInt Ac d.closed) (hl0 : Rd w 3 encAct Al l) (hG : Gl w 0 WAYS) (hd : DealOk d) (ha : actsOk d l = true) : Calls Tryd.prog 88 #[.agg #[.int .i64 d.lr, .int .i64 d.lc, .int .i64 d.tr, .int .i64 d.tf, .int .i64 d.te, .int .i64 d.tt, .int .i64 d.tg, .slice Ac d.closed.length cc, .int .i64 d.start, .int .i64 d.sum], .slice Al l.length cl] w (fun e w' => ∃ A c, e = .returned (.tuple #[.agg (encLn d Ac cc (runL d l).x).toArray, .slice A (runL d l).out.length c, .int .i64 (runL d l).at_, .int .i64 (runL d l).e]) ∧ Grow w w' ∧ Res w w' 5 encAcc A (runL d l).out) := by
  have hlen := hl0.len
  obtain ⟨ham, hal⟩ := actsOk_mem ha
  refine enter_pure (args := [.agg #[.int .i64 d.lr, .int .i64 d.lc, .int .i64 d.tr, .int .i64 d.tf, .int .i64 d.te, .int .i64 d.tt, .int .i64 d.tg, .slice Ac d.closed.length cc, .int .i64 d.start, .int .i64 d.sum], .slice Al l.length cl]) [sl (fun b => b < w.heap.size) 1 enInt Ac d.closed, sl (fun b => b < w.heap.size) 3 encAct Al l, gl 0 WAYS] Tryd.func88 rfl (by rw [Tryd.ntmps88]; simp) (fun g hg => by simp at hg; rcases hg with rfl | rfl | rfl; exact ⟨hc, fun _ h => h⟩; exact ⟨hl0, fun _ h => h⟩; exact ⟨hG.1, fun b hb => by have : b = 0 := hb; rw [this]; exact hG.2⟩) ?_
  refine cj_seq (cj_region ?_)
  refine oj_box rfl rfl rfl (fun b2 => ?_)
  refine oj_alloc Tryd.zeroValue121 rfl rfl (fun b4 => ?_)
  refine oj_step (y_assign rfl) rfl rfl rfl ?_
  refine oj_step (y_assign rfl) rfl rfl rfl ?_
  refine oj_step (y_assign rfl) rfl rfl rfl ?_
  refine oj_nil ?_
  refine ej_th ?_
  refine cj_scope rfl ?_
  refine cj_seq (cj_region ?_)
  refine oj_step (y_loadN Tryd.isAgg44 Tryd.sizeOf44 rfl) rfl rfl rfl ?_
  refine oj_step (y_call Tryd.call63 rfl (fun w hp => k_open d Ac cc w)) rfl rfl rfl ?_
  refine oj_store rfl rfl rfl rfl Tryd.sizeOf121 rfl ?_
  refine oj_nil ?_
  refine ej_th (cj_seq (cj_label (ej_th (cj_seq (cj_seq ?_)))))
  refine cj_ownNil 64 5 encAcc ?_
  refine cj_regionG (gj_step (y_move rfl) rfl rfl rfl (gj_step (y_lenA Tryd.underlying69 rfl) rfl rfl rfl (gj_step (y_move rfl) rfl rfl rfl (gj_nil ?_))))
  refine ej_th (cj_block ?_)
  refine cj_lp (X := Nat × Ln × Option Addr × Nat × List Acc × Int × Int) (fun ⟨k, x, A, c, out, at0, e0⟩ => k ≤ l.length ∧ LOk x ∧ x.fees ≤ 10000 * k ∧ out.length = k ∧ runF d k x out at0 e0 (l.drop k) = runL d l) (fun ⟨k, x, A, c, out, at0, e0⟩ => [(1, .slice Al l.length cl), (4, .pointer (some ⟨b4, 0, none⟩)), (5, .slice A out.length c), (6, .int .i64 at0), (7, .int .i64 e0), (12, .slice Al l.length cl), (13, .int .i64 l.length), (14, .int .i64 k)]) (fun ⟨k, x, A, c, out, at0, e0⟩ => [ow 64 5 encAcc A c out, ownB b4 (cellsB 121 (encLn d Ac cc x))]) (fun ⟨k, x, A, c, out, at0, e0⟩ => [sl (fun b => b < w.heap.size) 1 enInt Ac d.closed, sl (fun b => b < w.heap.size) 3 encAct Al l, gl 0 WAYS]) (fun ⟨k, x, A, c, out, at0, e0⟩ => l.length - k) (0, openL d, none, 0, [], 0, 0) (⟨Nat.zero_le _, openL_ok hd, by simp [openL], rfl, rfl⟩) ⟨rfl, rfl, rfl, rfl, rfl, rfl, rfl, rfl, trivial⟩ ?_
  rintro ⟨k, x, A, c, out, at0, e0⟩ ⟨hk, hx, hfe, hol, hl⟩
  refine cj_seq ?_
  refine cj_regionG (gj_step (y_lss rfl rfl) rfl rfl rfl (gj_nil ?_))
  refine ej_th (cj_seq ?_)
  refine cj_cond rfl (fun h15 => ?_) (fun h15 => ?_)
  · have h15b := h15
    try simp only [sxb] at h15
    obtain ⟨a, hxa⟩ : ∃ a, l[k]? = some a := ⟨_, List.getElem?_eq_getElem (by omega)⟩
    have hka := ham a (List.mem_of_getElem? hxa)
    have hkd := okKind_kinds hka.1
    rw [runF_drop d l k a _ _ _ _ _ hxa] at hl
    have hty := toL_ok hd hx hka.2
    have htf := toL_fees d x a.day
    refine cj_skip (ej_th (cj_seq (cj_block (cj_seq (cj_region ?_)))))
    refine oj_step (y_move rfl) rfl rfl rfl ?_
    refine oj_step (y_ixR (reads_sl) Tryd.underlying69 Tryd.sizeOf68 rfl rfl (⟨by omega, by omega⟩)) rfl rfl rfl ?_
    refine oj_step (y_ldW (reads_sl) Tryd.isAgg68 Tryd.sizeOf68 rfl (hxa) (fun _ => rfl)) rfl rfl rfl ?_
    refine oj_alloc Tryd.zeroValue68 rfl rfl (fun b9 => ?_)
    refine oj_step (y_assign rfl) rfl rfl rfl ?_
    refine oj_store rfl rfl rfl rfl Tryd.sizeOf68 rfl ?_
    refine oj_nil ?_
    refine ej_th (cj_seq (cj_region ?_))
    refine oj_step (y_fa0 fa68_0 rfl) rfl rfl rfl ?_
    refine oj_step (y_load1 Tryd.isAgg3 rfl rfl) rfl rfl rfl ?_
    refine oj_callM (X := Unit) (b := b4) (fun _ => .tuple #[]) (fun _ => cellsB 121 (encLn d Ac cc (toL d x a.day))) Tryd.call64 rfl (fun w hp => (k_to d Ac cc x b4 a.day w hp.own1 hp.rdX hd hx hka.2).mono (fun e w2 ⟨h1, h2, h3⟩ => ⟨(), h1, h2, h3⟩)) rfl (fun _ => ?_)
    obtain ⟨y, hy⟩ : ∃ y, y = toL d x a.day := ⟨_, rfl⟩
    rw [← hy] at hl hty htf ⊢
    refine oj_nil ?_
    refine ej_th (cj_seq ?_)
    refine cj_regionG (gj_step (y_move rfl) rfl rfl rfl (gj_step (y_assign rfl) rfl rfl rfl (gj_step (y_assign rfl) rfl rfl rfl (gj_nil ?_))))
    refine ej_th (cj_seq (cj_seq ?_))
    refine cj_regionG ?_
    refine gj_step (y_loadN Tryd.isAgg121 Tryd.sizeOf121 rfl) rfl rfl rfl (?_)
    refine gj_step (y_call Tryd.call65 rfl (fun w hp => k_over d Ac cc y w hd)) rfl rfl rfl ?_
    refine gj_nil ?_
    refine ej_th ?_
    refine cj_cond rfl (fun h24 => ?_) (fun h24 => ?_)
    · have h24b := h24
      try simp only [sxb] at h24
      refine cj_exit (ej_then_exit (ej_blk_pass rfl (ej_then_exit (ej_then_exit (ej_blk_hit (ej_th (cj_seq (cj_region ?_))))))))
      refine oj_step (y_loadN Tryd.isAgg121 Tryd.sizeOf121 rfl) rfl rfl rfl ?_
      refine oj_step (y_move rfl) rfl rfl rfl ?_
      refine oj_step (y_move rfl) rfl rfl rfl ?_
      refine oj_step (y_move rfl) rfl rfl rfl ?_
      refine oj_store rfl rfl rfl rfl Tryd.sizeOf121 rfl ?_
      refine oj_step (y_assign rfl) rfl rfl rfl ?_
      refine oj_step (y_assign rfl) rfl rfl rfl ?_
      refine oj_step (y_assign rfl) rfl rfl rfl ?_
      refine oj_nil ?_
      refine ej_th (cj_ret (ej_noGoto_ret ?_))
      have hr : runL d l = ⟨y, out, k, 25⟩ := by rw [← hl, if_pos h24b]
      rw [hr]
      exact ej_retC4 rfl Tryd.results88 rfl (y_loadN Tryd.isAgg121 Tryd.sizeOf121 rfl) rfl rfl rfl (fun w' hp => ⟨A, c, rfl, hp.below, hp.res (fun _ => rfl) (by unfold maxLen; simp only; omega)⟩)
    · have h24b := h24
      try simp only [sxb] at h24
      refine cj_skip (ej_th (cj_seq (cj_seq ?_)))
      refine cj_plan 9 (by kernel_rfl) (by kernel_rfl) ?_
      refine pl_y 0 rfl (y_fa fa68_1 rfl) rfl rfl rfl rfl (by kernel_rfl) ?_
      refine pl_y 1 rfl (y_load1 Tryd.isAgg3 rfl rfl) rfl rfl rfl rfl (by kernel_rfl) ?_
      refine pl_y 2 rfl (y_sub rfl rfl (by omega)) rfl rfl rfl rfl (by kernel_rfl) ?_
      refine pl_y 3 rfl (y_ixArr Tryd.underlying169 Tryd.sizeOf168 rfl rfl (by omega)) rfl rfl rfl rfl (by kernel_rfl) ?_
      refine pl_y 4 rfl (y_loadG Tryd.isAgg168 rfl (way_at hkd)) rfl rfl rfl rfl (by kernel_rfl) ?_
      refine pl_y 5 rfl (y_fa fa68_2 rfl) rfl rfl rfl rfl (by kernel_rfl) ?_
      refine pl_y 6 rfl (y_load1 Tryd.isAgg3 rfl rfl) rfl rfl rfl rfl (by kernel_rfl) ?_
      refine pl_w1 7 (by kernel_rfl) rfl rfl (pl_fire rfl rfl rfl (by kernel_rfl) ?_)
      refine oj_callMV (X := Unit) (b := b4) (fun _ => .int .i64 (actE d y a)) (fun _ => cellsB 121 (encLn d Ac cc (actL d y a))) rfl rfl (by obtain ⟨f, h1, h2, h3⟩ := way_call d Ac cc y a b4 hd hty hka.1 (by omega); exact ⟨f, #[], #[], h1, h2, fun w hp => (h3 w hp.own1).mono (fun e w2 ⟨p, q, r⟩ => ⟨(), p, q, r⟩)⟩) rfl (fun _ => ?_)
      obtain ⟨z, hz⟩ : ∃ z, z = actL d y a := ⟨_, rfl⟩
      obtain ⟨en, hen⟩ : ∃ en, en = actE d y a := ⟨_, rfl⟩
      rw [← hz, ← hen] at hl ⊢
      refine oj_nil ?_
      refine ej_pl (lt_w (by kernel_rfl) (lt_y (y_fa fa68_2 rfl) rfl (lt_w (by kernel_rfl) (lt_y (y_ixArr Tryd.underlying169 Tryd.sizeOf168 rfl rfl (by omega)) rfl (lt_y (y_sub rfl rfl (by omega)) rfl (lt_y (y_load1 Tryd.isAgg3 rfl rfl) rfl (lt_y (y_fa fa68_1 rfl) rfl (lt_nil)))))))) ?_
      refine pl_y 8 rfl (y_assign rfl) rfl rfl rfl rfl (by kernel_rfl) ?_
      refine pl_end (by kernel_rfl) ?_
      refine ej_th (cj_seq ?_)
      refine cj_regionG (gj_step (y_move rfl) rfl rfl rfl (gj_step (y_neq rfl rfl) rfl rfl rfl (gj_nil ?_)))
      refine ej_th ?_
      refine cj_cond rfl (fun h34 => ?_) (fun h34 => ?_)
      · have h34b := h34
        try simp only [sxb] at h34
        refine cj_exit (ej_then_exit (ej_blk_pass rfl (ej_then_exit (ej_then_exit (ej_blk_hit (ej_th (cj_seq (cj_region ?_))))))))
        refine oj_step (y_loadN Tryd.isAgg121 Tryd.sizeOf121 rfl) rfl rfl rfl ?_
        refine oj_step (y_move rfl) rfl rfl rfl ?_
        refine oj_step (y_move rfl) rfl rfl rfl ?_
        refine oj_step (y_move rfl) rfl rfl rfl ?_
        refine oj_store rfl rfl rfl rfl Tryd.sizeOf121 rfl ?_
        refine oj_step (y_assign rfl) rfl rfl rfl ?_
        refine oj_step (y_assign rfl) rfl rfl rfl ?_
        refine oj_step (y_assign rfl) rfl rfl rfl ?_
        refine oj_nil ?_
        refine ej_th (cj_ret (ej_noGoto_ret ?_))
        have hr : runL d l = ⟨z, out, k, en⟩ := by rw [← hl, if_neg (by rw [h24b]; simp), if_neg h34]
        rw [hr]
        exact ej_retC4 rfl Tryd.results88 rfl (y_loadN Tryd.isAgg121 Tryd.sizeOf121 rfl) rfl rfl rfl (fun w' hp => ⟨A, c, rfl, hp.below, hp.res (fun _ => rfl) (by unfold maxLen; simp only; omega)⟩)
      · have h34b := h34
        try simp only [sxb] at h34
        refine cj_skip (ej_th (cj_region ?_))
        refine oj_step (y_move rfl) rfl rfl rfl ?_
        refine oj_step (y_fa0 fa121_0 rfl) rfl rfl rfl ?_
        refine oj_step (y_loadN Tryd.isAgg64 Tryd.sizeOf64 rfl) rfl rfl rfl ?_
        refine oj_buildSlice [.int .i64 0, .int .i64 0, .int .i64 0, .int .i64 0, .bool false] Tryd.underlying74 Tryd.sizeOf64 Tryd.zeroValue64 rfl rfl (by kernel_rfl) rfl rfl (fun b38 => ?_)
        refine oj_append  el74 (fun _ => rfl) encAcc_one rfl rfl rfl (reads_lit [z.acc] (fun _ => rfl) rfl) (by simp [maxLen]; omega) (by simp; omega) rfl (fun A39 c39 => ?_)
        refine oj_step (y_move rfl) rfl rfl rfl ?_
        refine oj_step (y_add rfl rfl (by omega)) rfl rfl rfl ?_
        refine oj_step (y_assign rfl) rfl rfl rfl ?_
        refine oj_step (y_assign rfl) rfl rfl rfl ?_
        refine oj_nil ?_
        refine ej_blk (ej_th ?_)
        refine cj_regionG (gj_step (y_add rfl rfl (by omega)) rfl rfl rfl (gj_step (y_move rfl) rfl rfl rfl (gj_nil ?_)))
        rw [if_neg (by rw [h24b]; simp), if_pos h34] at hl
        have hzok : LOk z := by rw [hz]; exact actL_ok hd hty hka.1 (by omega)
        have hzf : z.fees ≤ y.fees + 10000 := by rw [hz]; exact actL_fees hd
        rw [h34]
        exact ej_nx (k + 1, z, A39, c39, out ++ [z.acc], ((k : Int) + 1), 0) (by simp only; omega) ⟨by omega, hzok, by omega, by simp [hol], hl⟩ ⟨rfl, rfl, rfl, rfl, rfl, rfl, rfl, rfl, trivial⟩
  · have h15b := h15
    try simp only [sxb] at h15
    rw [List.drop_of_length_le (by omega), runF_nil] at hl
    refine cj_exit (ej_then_exit (ej_then_exit (ej_blk_hit (ej_th (cj_seq (cj_region ?_))))))
    refine oj_step (y_loadN Tryd.isAgg121 Tryd.sizeOf121 rfl) rfl rfl rfl ?_
    refine oj_step (y_move rfl) rfl rfl rfl ?_
    refine oj_step (y_move rfl) rfl rfl rfl ?_
    refine oj_step (y_move rfl) rfl rfl rfl ?_
    refine oj_store rfl rfl rfl rfl Tryd.sizeOf121 rfl ?_
    refine oj_step (y_assign rfl) rfl rfl rfl ?_
    refine oj_step (y_assign rfl) rfl rfl rfl ?_
    refine oj_step (y_assign rfl) rfl rfl rfl ?_
    refine oj_nil ?_
    refine ej_th (cj_ret (ej_noGoto_ret ?_))
    have hr : runL d l = ⟨x, out, at0, e0⟩ := hl.symm
    rw [hr]
    exact ej_retC4 rfl Tryd.results88 rfl (y_loadN Tryd.isAgg121 Tryd.sizeOf121 rfl) rfl rfl rfl (fun w' hp => ⟨A, c, rfl, hp.below, hp.res (fun _ => rfl) (by unfold maxLen; simp only; omega)⟩)

end Go.Proofs.YtafmgkiddhappaaDoor
namespace Go.Proofs.YtafmgkiddhappaaDoor
open Go.Sx Go.RowKit
set_option maxRecDepth 20000
theorem k_asked_ok (d : Deal) (Ac : Option Addr) (cc : Nat) (l : List Act1) (Al : Option Addr) (cl : Nat) (w : World) (hc : Rd w 1 enInt Ac d.closed) (hl0 : Rd w 3 encAct Al l) (hG : Gl w 0 WAYS) (ha : askOk d l = true) : Calls Tryd.prog 69 #[.agg #[.int .i64 d.lr, .int .i64 d.lc, .int .i64 d.tr, .int .i64 d.tf, .int .i64 d.te, .int .i64 d.tt, .int .i64 d.tg, .slice Ac d.closed.length cc, .int .i64 d.start, .int .i64 d.sum], .slice Al l.length cl] w (fun e w' => ∃ A c, e = .returned (.tuple #[.agg (encLn d Ac cc (runL d l).x).toArray, .slice A (runL d l).out.length c, .int .i64 (runL d l).at_, .int .i64 (runL d l).e]) ∧ Grow w w' ∧ Res w w' 5 encAcc A (runL d l).out) := by
  obtain ⟨hb, hac⟩ := askOk_parts ha
  have hd := badDeal_no hb
  refine enter_pure (args := [.agg #[.int .i64 d.lr, .int .i64 d.lc, .int .i64 d.tr, .int .i64 d.tf, .int .i64 d.te, .int .i64 d.tt, .int .i64 d.tg, .slice Ac d.closed.length cc, .int .i64 d.start, .int .i64 d.sum], .slice Al l.length cl]) [sl (fun b => b < w.heap.size) 1 enInt Ac d.closed, sl (fun b => b < w.heap.size) 3 encAct Al l, gl 0 WAYS] Tryd.func69 rfl (by rw [Tryd.ntmps69]; simp) (fun g hg => by simp at hg; rcases hg with rfl | rfl | rfl; exact ⟨hc, fun _ h => h⟩; exact ⟨hl0, fun _ h => h⟩; exact ⟨hG.1, fun b hb => by have : b = 0 := hb; rw [this]; exact hG.2⟩) ?_
  refine cj_seq (cj_region ?_)
  refine oj_box rfl rfl rfl (fun b2 => ?_)
  refine oj_alloc Tryd.zeroValue121 rfl rfl (fun b4 => ?_)
  refine oj_step (y_assign rfl) rfl rfl rfl ?_
  refine oj_step (y_assign rfl) rfl rfl rfl ?_
  refine oj_step (y_assign rfl) rfl rfl rfl ?_
  refine oj_nil ?_
  refine ej_th (cj_seq (cj_seq ?_))
  refine cj_regionG ?_
  refine gj_step (y_loadN Tryd.isAgg44 Tryd.sizeOf44 rfl) rfl rfl rfl (?_)
  refine gj_step (y_call Tryd.call31 rfl (fun w hp => k_Check _ _ _ w hp.rd)) rfl rfl rfl ?_
  refine gj_step (y_assign rfl) rfl rfl rfl (?_)
  refine gj_nil ?_
  refine ej_th (cj_seq ?_)
  refine cj_regionG (gj_step (y_move rfl) rfl rfl rfl (gj_step (y_neq rfl rfl) rfl rfl rfl (gj_nil ?_)))
  refine ej_th ?_
  refine cj_cond rfl (fun h12 => ?_) (fun h12 => ?_)
  · exact absurd h12 (by rw [hb]; decide)
  · have h12b := h12
    try simp only [sxb] at h12
    refine cj_skip (ej_th (cj_seq (cj_seq ?_)))
    refine cj_regionG ?_
    refine gj_step (y_loadN Tryd.isAgg44 Tryd.sizeOf44 rfl) rfl rfl rfl (gj_step (y_move rfl) rfl rfl rfl (?_))
    refine gj_step (y_call Tryd.call87 rfl (fun w hp => k_acts d Ac cc l Al cl w hp.rd)) rfl rfl rfl ?_
    refine gj_step (y_not rfl) rfl rfl rfl (?_)
    refine gj_nil ?_
    refine ej_th ?_
    refine cj_cond rfl (fun h18 => ?_) (fun h18 => ?_)
    · exact absurd h18 (by rw [hac]; decide)
    · have h18b := h18
      try simp only [sxb] at h18
      refine cj_skip (ej_th (cj_seq (cj_region ?_)))
      refine oj_step (y_loadN Tryd.isAgg44 Tryd.sizeOf44 rfl) rfl rfl rfl ?_
      refine oj_step (y_move rfl) rfl rfl rfl ?_
      refine oj_callS (fun A c => .tuple #[.agg (encLn d Ac cc (runL d l).x).toArray, .slice A (runL d l).out.length c, .int .i64 (runL d l).at_, .int .i64 (runL d l).e]) 5 encAcc (runL d l).out Tryd.call88 rfl (fun w hp => k_run d Ac cc l Al cl w hp.rd hp.rd hp.glo hd hac) rfl (fun A22 c22 fp22 hfp22 => ?_)
      refine oj_step (y_extract rfl rfl) rfl rfl rfl ?_
      refine oj_step (y_extract rfl rfl) rfl rfl rfl ?_
      refine oj_step (y_extract rfl rfl) rfl rfl rfl ?_
      refine oj_step (y_extract rfl rfl) rfl rfl rfl ?_
      refine oj_store rfl rfl rfl rfl Tryd.sizeOf121 rfl ?_
      refine oj_step (y_assign rfl) rfl rfl rfl ?_
      refine oj_step (y_assign rfl) rfl rfl rfl ?_
      refine oj_step (y_assign rfl) rfl rfl rfl ?_
      refine oj_nil ?_
      refine ej_th (cj_ret ?_)
      exact ej_retC4 rfl Tryd.results69 rfl (y_loadN Tryd.isAgg121 Tryd.sizeOf121 rfl) rfl rfl rfl (fun w' hp => ⟨A22, c22, rfl, hp.below, hp.resS hfp22⟩)

theorem k_asked_no (d : Deal) (Ac : Option Addr) (cc : Nat) (l : List Act1) (Al : Option Addr) (cl : Nat) (w : World) (hc : Rd w 1 enInt Ac d.closed) (hl0 : Rd w 3 encAct Al l) (hG : Gl w 0 WAYS) (ha : askOk d l = false) : Calls Tryd.prog 69 #[.agg #[.int .i64 d.lr, .int .i64 d.lc, .int .i64 d.tr, .int .i64 d.tf, .int .i64 d.te, .int .i64 d.tt, .int .i64 d.tg, .slice Ac d.closed.length cc, .int .i64 d.start, .int .i64 d.sum], .slice Al l.length cl] w (fun e w' => e = .returned (.tuple #[.agg zeroLn.toArray, .slice none 0 0, .int .i64 0, .int .i64 (askE d l)]) ∧ Grow w w') := by
  have hno := askOk_not ha
  refine enter_pure (args := [.agg #[.int .i64 d.lr, .int .i64 d.lc, .int .i64 d.tr, .int .i64 d.tf, .int .i64 d.te, .int .i64 d.tt, .int .i64 d.tg, .slice Ac d.closed.length cc, .int .i64 d.start, .int .i64 d.sum], .slice Al l.length cl]) [sl (fun b => b < w.heap.size) 1 enInt Ac d.closed, sl (fun b => b < w.heap.size) 3 encAct Al l, gl 0 WAYS] Tryd.func69 rfl (by rw [Tryd.ntmps69]; simp) (fun g hg => by simp at hg; rcases hg with rfl | rfl | rfl; exact ⟨hc, fun _ h => h⟩; exact ⟨hl0, fun _ h => h⟩; exact ⟨hG.1, fun b hb => by have : b = 0 := hb; rw [this]; exact hG.2⟩) ?_
  refine cj_seq (cj_region ?_)
  refine oj_box rfl rfl rfl (fun b2 => ?_)
  refine oj_alloc Tryd.zeroValue121 rfl rfl (fun b4 => ?_)
  refine oj_step (y_assign rfl) rfl rfl rfl ?_
  refine oj_step (y_assign rfl) rfl rfl rfl ?_
  refine oj_step (y_assign rfl) rfl rfl rfl ?_
  refine oj_nil ?_
  refine ej_th (cj_seq (cj_seq ?_))
  refine cj_regionG ?_
  refine gj_step (y_loadN Tryd.isAgg44 Tryd.sizeOf44 rfl) rfl rfl rfl (?_)
  refine gj_step (y_call Tryd.call31 rfl (fun w hp => k_Check _ _ _ w hp.rd)) rfl rfl rfl ?_
  refine gj_step (y_assign rfl) rfl rfl rfl (?_)
  refine gj_nil ?_
  refine ej_th (cj_seq ?_)
  refine cj_regionG (gj_step (y_move rfl) rfl rfl rfl (gj_step (y_neq rfl rfl) rfl rfl rfl (gj_nil ?_)))
  refine ej_th ?_
  refine cj_cond rfl (fun h12 => ?_) (fun h12 => ?_)
  · have h12b := h12
    try simp only [sxb] at h12
    rw [errD_ne] at h12
    refine cj_seq (cj_region ?_)
    refine oj_step (y_build st121 rfl rfl) rfl rfl rfl ?_
    refine oj_step (y_move rfl) rfl rfl rfl ?_
    refine oj_store rfl rfl rfl rfl Tryd.sizeOf121 rfl ?_
    refine oj_step (y_assign rfl) rfl rfl rfl ?_
    refine oj_step (y_assign rfl) rfl rfl rfl ?_
    refine oj_step (y_assign rfl) rfl rfl rfl ?_
    refine oj_nil ?_
    refine ej_th (cj_ret (ej_then_ret ?_))
    have he : askE d l = 23 := by simp [askE, h12]
    rw [he, h12]
    exact ej_retC4 rfl Tryd.results69 rfl (y_loadN Tryd.isAgg121 Tryd.sizeOf121 rfl) rfl rfl rfl (fun w' hp => ⟨rfl, hp.below⟩)
  · have h12b := h12
    try simp only [sxb] at h12
    rw [errD_eq] at h12
    have hac : actsOk d l = false := by
      rcases hno with h | h
      · rw [h12] at h; cases h
      · exact h.2
    refine cj_skip (ej_th (cj_seq (cj_seq ?_)))
    refine cj_regionG ?_
    refine gj_step (y_loadN Tryd.isAgg44 Tryd.sizeOf44 rfl) rfl rfl rfl (gj_step (y_move rfl) rfl rfl rfl (?_))
    refine gj_step (y_call Tryd.call87 rfl (fun w hp => k_acts d Ac cc l Al cl w hp.rd)) rfl rfl rfl ?_
    refine gj_step (y_not rfl) rfl rfl rfl (?_)
    refine gj_nil ?_
    refine ej_th ?_
    refine cj_cond rfl (fun h18 => ?_) (fun h18 => ?_)
    · have h18b := h18
      try simp only [sxb] at h18
      refine cj_seq (cj_region ?_)
      refine oj_step (y_build st121 rfl rfl) rfl rfl rfl ?_
      refine oj_store rfl rfl rfl rfl Tryd.sizeOf121 rfl ?_
      refine oj_step (y_assign rfl) rfl rfl rfl ?_
      refine oj_step (y_assign rfl) rfl rfl rfl ?_
      refine oj_step (y_assign rfl) rfl rfl rfl ?_
      refine oj_nil ?_
      refine ej_th (cj_ret (ej_then_ret ?_))
      have he : askE d l = 24 := by simp [askE, h12, hac]
      rw [he]
      exact ej_retC4 rfl Tryd.results69 rfl (y_loadN Tryd.isAgg121 Tryd.sizeOf121 rfl) rfl rfl rfl (fun w' hp => ⟨rfl, hp.below⟩)
    · exact absurd h18 (by rw [hac]; decide)

theorem k_on_ok (d : Deal) (Ac : Option Addr) (cc : Nat) (l : List Act1) (Al : Option Addr) (cl : Nat) (n : Int) (w : World) (hc : Rd w 1 enInt Ac d.closed) (hl0 : Rd w 3 encAct Al l) (hG : Gl w 0 WAYS) (ho : onOk d l n = true) : Calls Tryd.prog 68 #[.agg #[.int .i64 d.lr, .int .i64 d.lc, .int .i64 d.tr, .int .i64 d.tf, .int .i64 d.te, .int .i64 d.tt, .int .i64 d.tg, .slice Ac d.closed.length cc, .int .i64 d.start, .int .i64 d.sum], .slice Al l.length cl, .int .i64 n] w (fun e w' => e = .returned (.tuple #[.agg (encLn d Ac cc (toL d (runL d l).x n)).toArray, .int .i64 0]) ∧ Grow w w') := by
  obtain ⟨ha, he, hn⟩ := onOk_parts ho
  have hx := runL_ok ha
  have hd := badDeal_no (askOk_parts ha).1
  have hn2 := hn
  simp only [btw, Bool.and_eq_true, decide_eq_true_eq] at hn2
  refine enter_pure (args := [.agg #[.int .i64 d.lr, .int .i64 d.lc, .int .i64 d.tr, .int .i64 d.tf, .int .i64 d.te, .int .i64 d.tt, .int .i64 d.tg, .slice Ac d.closed.length cc, .int .i64 d.start, .int .i64 d.sum], .slice Al l.length cl, .int .i64 n]) [sl (fun b => b < w.heap.size) 1 enInt Ac d.closed, sl (fun b => b < w.heap.size) 3 encAct Al l, gl 0 WAYS] Tryd.func68 rfl (by rw [Tryd.ntmps68]; simp) (fun g hg => by simp at hg; rcases hg with rfl | rfl | rfl; exact ⟨hc, fun _ h => h⟩; exact ⟨hl0, fun _ h => h⟩; exact ⟨hG.1, fun b hb => by have : b = 0 := hb; rw [this]; exact hG.2⟩) ?_
  refine cj_seq (cj_region ?_)
  refine oj_box rfl rfl rfl (fun b3 => ?_)
  refine oj_alloc Tryd.zeroValue121 rfl rfl (fun b6 => ?_)
  refine oj_step (y_assign rfl) rfl rfl rfl ?_
  refine oj_nil ?_
  refine ej_th (cj_seq (cj_region ?_))
  refine oj_step (y_loadN Tryd.isAgg44 Tryd.sizeOf44 rfl) rfl rfl rfl ?_
  refine oj_step (y_move rfl) rfl rfl rfl ?_
  refine oj_callS (fun A c => .tuple #[.agg (encLn d Ac cc (runL d l).x).toArray, .slice A (runL d l).out.length c, .int .i64 (runL d l).at_, .int .i64 (runL d l).e]) 5 encAcc (runL d l).out Tryd.call69 rfl (fun w hp => k_asked_ok d Ac cc l Al cl w hp.rd hp.rd hp.glo ha) rfl (fun A15 c15 fp15 hfp15 => ?_)
  refine oj_step (y_move rfl) rfl rfl rfl ?_
  refine oj_step (y_extract rfl rfl) rfl rfl rfl ?_
  refine oj_step (y_extract rfl rfl) rfl rfl rfl ?_
  refine oj_step (y_extract rfl rfl) rfl rfl rfl ?_
  refine oj_step (y_extract rfl rfl) rfl rfl rfl ?_
  refine oj_alloc Tryd.zeroValue121 rfl rfl (fun b8 => ?_)
  refine oj_store rfl rfl rfl rfl Tryd.sizeOf121 rfl ?_
  refine oj_step (y_assign rfl) rfl rfl rfl ?_
  refine oj_step (y_assign rfl) rfl rfl rfl ?_
  refine oj_step (y_assign rfl) rfl rfl rfl ?_
  refine oj_nil ?_
  refine ej_th (cj_seq (cj_seq ?_))
  refine cj_regionG (gj_step (y_move rfl) rfl rfl rfl (gj_step (y_neq rfl rfl) rfl rfl rfl (gj_nil ?_)))
  refine ej_th ?_
  refine cj_cond rfl (fun h21 => ?_) (fun h21 => ?_)
  · exact absurd h21 (by rw [he]; decide)
  · have h21b := h21
    try simp only [sxb] at h21
    refine cj_skip (ej_th (cj_seq (cj_seq ?_)))
    refine cj_regionG ?_
    refine gj_step (y_move rfl) rfl rfl rfl (gj_step (y_fa fa121_3 rfl) rfl rfl rfl (gj_step (y_load1 Tryd.isAgg3 rfl rfl) rfl rfl rfl (?_)))
    refine gj_step (y_call Tryd.call54 rfl (fun w hp => k_within _ _ _ w)) rfl rfl rfl ?_
    refine gj_step (y_not rfl) rfl rfl rfl (?_)
    refine gj_nil ?_
    refine ej_th ?_
    refine cj_cond rfl (fun h28 => ?_) (fun h28 => ?_)
    · exact absurd h28 (by rw [show (decide ((runL d l).x.day ≤ n) && decide (n ≤ 36500)) = true from hn]; decide)
    · have h28b := h28
      try simp only [sxb] at h28
      refine cj_skip (ej_th (cj_seq (cj_region ?_)))
      refine oj_step (y_move rfl) rfl rfl rfl ?_
      refine oj_callM (X := Unit) (b := b8) (fun _ => .tuple #[]) (fun _ => cellsB 121 (encLn d Ac cc (toL d (runL d l).x n))) Tryd.call64 rfl (fun w hp => (k_to d Ac cc (runL d l).x b8 n w hp.own1 hp.rdX hd hx hn2.2).mono (fun e w2 ⟨h1, h2, h3⟩ => ⟨(), h1, h2, h3⟩)) rfl (fun _ => ?_)
      refine oj_nil ?_
      refine ej_th (cj_seq (cj_region ?_))
      refine oj_step (y_loadN Tryd.isAgg121 Tryd.sizeOf121 rfl) rfl rfl rfl ?_
      refine oj_store rfl rfl rfl rfl Tryd.sizeOf121 rfl ?_
      refine oj_step (y_assign rfl) rfl rfl rfl ?_
      refine oj_nil ?_
      refine ej_th (cj_ret ?_)
      exact ej_retC2 rfl Tryd.results68 rfl (y_loadN Tryd.isAgg121 Tryd.sizeOf121 rfl) rfl (fun w' hp => ⟨rfl, hp.below⟩)

theorem k_on_no1 (d : Deal) (Ac : Option Addr) (cc : Nat) (l : List Act1) (Al : Option Addr) (cl : Nat) (n : Int) (w : World) (hc : Rd w 1 enInt Ac d.closed) (hl0 : Rd w 3 encAct Al l) (hG : Gl w 0 WAYS) (ha : askOk d l = false) : Calls Tryd.prog 68 #[.agg #[.int .i64 d.lr, .int .i64 d.lc, .int .i64 d.tr, .int .i64 d.tf, .int .i64 d.te, .int .i64 d.tt, .int .i64 d.tg, .slice Ac d.closed.length cc, .int .i64 d.start, .int .i64 d.sum], .slice Al l.length cl, .int .i64 n] w (fun e w' => e = .returned (.tuple #[.agg zeroLn.toArray, .int .i64 (askE d l)]) ∧ Grow w w') := by
  refine enter_pure (args := [.agg #[.int .i64 d.lr, .int .i64 d.lc, .int .i64 d.tr, .int .i64 d.tf, .int .i64 d.te, .int .i64 d.tt, .int .i64 d.tg, .slice Ac d.closed.length cc, .int .i64 d.start, .int .i64 d.sum], .slice Al l.length cl, .int .i64 n]) [sl (fun b => b < w.heap.size) 1 enInt Ac d.closed, sl (fun b => b < w.heap.size) 3 encAct Al l, gl 0 WAYS] Tryd.func68 rfl (by rw [Tryd.ntmps68]; simp) (fun g hg => by simp at hg; rcases hg with rfl | rfl | rfl; exact ⟨hc, fun _ h => h⟩; exact ⟨hl0, fun _ h => h⟩; exact ⟨hG.1, fun b hb => by have : b = 0 := hb; rw [this]; exact hG.2⟩) ?_
  refine cj_seq (cj_region ?_)
  refine oj_box rfl rfl rfl (fun b3 => ?_)
  refine oj_alloc Tryd.zeroValue121 rfl rfl (fun b6 => ?_)
  refine oj_step (y_assign rfl) rfl rfl rfl ?_
  refine oj_nil ?_
  refine ej_th (cj_seq (cj_region ?_))
  refine oj_step (y_loadN Tryd.isAgg44 Tryd.sizeOf44 rfl) rfl rfl rfl ?_
  refine oj_step (y_move rfl) rfl rfl rfl ?_
  refine oj_step (y_call Tryd.call69 rfl (fun w hp => k_asked_no d Ac cc l Al cl w hp.rd hp.rd hp.glo ha)) rfl rfl rfl ?_
  refine oj_step (y_move rfl) rfl rfl rfl ?_
  refine oj_step (y_extract rfl rfl) rfl rfl rfl ?_
  refine oj_step (y_extract rfl rfl) rfl rfl rfl ?_
  refine oj_step (y_extract rfl rfl) rfl rfl rfl ?_
  refine oj_step (y_extract rfl rfl) rfl rfl rfl ?_
  refine oj_alloc Tryd.zeroValue121 rfl rfl (fun b8 => ?_)
  refine oj_store rfl rfl rfl rfl Tryd.sizeOf121 rfl ?_
  refine oj_step (y_assign rfl) rfl rfl rfl ?_
  refine oj_step (y_assign rfl) rfl rfl rfl ?_
  refine oj_step (y_assign rfl) rfl rfl rfl ?_
  refine oj_nil ?_
  refine ej_th (cj_seq (cj_seq ?_))
  refine cj_regionG (gj_step (y_move rfl) rfl rfl rfl (gj_step (y_neq rfl rfl) rfl rfl rfl (gj_nil ?_)))
  refine ej_th ?_
  refine cj_cond rfl (fun h21 => ?_) (fun h21 => ?_)
  · have h21b := h21
    try simp only [sxb] at h21
    refine cj_seq (cj_region ?_)
    refine oj_step (y_build st121 rfl rfl) rfl rfl rfl ?_
    refine oj_step (y_move rfl) rfl rfl rfl ?_
    refine oj_store rfl rfl rfl rfl Tryd.sizeOf121 rfl ?_
    refine oj_step (y_assign rfl) rfl rfl rfl ?_
    refine oj_nil ?_
    refine ej_th (cj_ret (ej_then_ret ?_))
    exact ej_retC2 rfl Tryd.results68 rfl (y_loadN Tryd.isAgg121 Tryd.sizeOf121 rfl) rfl (fun w' hp => ⟨rfl, hp.below⟩)
  · exact absurd h21 (by simpa using askE_ne ha)

theorem k_on_no2 (d : Deal) (Ac : Option Addr) (cc : Nat) (l : List Act1) (Al : Option Addr) (cl : Nat) (n : Int) (w : World) (hc : Rd w 1 enInt Ac d.closed) (hl0 : Rd w 3 encAct Al l) (hG : Gl w 0 WAYS) (ha : askOk d l = true) (ho : onOk d l n = false) : Calls Tryd.prog 68 #[.agg #[.int .i64 d.lr, .int .i64 d.lc, .int .i64 d.tr, .int .i64 d.tf, .int .i64 d.te, .int .i64 d.tt, .int .i64 d.tg, .slice Ac d.closed.length cc, .int .i64 d.start, .int .i64 d.sum], .slice Al l.length cl, .int .i64 n] w (fun e w' => e = .returned (.tuple #[.agg zeroLn.toArray, .int .i64 (onE d l n)]) ∧ Grow w w') := by
  refine enter_pure (args := [.agg #[.int .i64 d.lr, .int .i64 d.lc, .int .i64 d.tr, .int .i64 d.tf, .int .i64 d.te, .int .i64 d.tt, .int .i64 d.tg, .slice Ac d.closed.length cc, .int .i64 d.start, .int .i64 d.sum], .slice Al l.length cl, .int .i64 n]) [sl (fun b => b < w.heap.size) 1 enInt Ac d.closed, sl (fun b => b < w.heap.size) 3 encAct Al l, gl 0 WAYS] Tryd.func68 rfl (by rw [Tryd.ntmps68]; simp) (fun g hg => by simp at hg; rcases hg with rfl | rfl | rfl; exact ⟨hc, fun _ h => h⟩; exact ⟨hl0, fun _ h => h⟩; exact ⟨hG.1, fun b hb => by have : b = 0 := hb; rw [this]; exact hG.2⟩) ?_
  refine cj_seq (cj_region ?_)
  refine oj_box rfl rfl rfl (fun b3 => ?_)
  refine oj_alloc Tryd.zeroValue121 rfl rfl (fun b6 => ?_)
  refine oj_step (y_assign rfl) rfl rfl rfl ?_
  refine oj_nil ?_
  refine ej_th (cj_seq (cj_region ?_))
  refine oj_step (y_loadN Tryd.isAgg44 Tryd.sizeOf44 rfl) rfl rfl rfl ?_
  refine oj_step (y_move rfl) rfl rfl rfl ?_
  refine oj_callS (fun A c => .tuple #[.agg (encLn d Ac cc (runL d l).x).toArray, .slice A (runL d l).out.length c, .int .i64 (runL d l).at_, .int .i64 (runL d l).e]) 5 encAcc (runL d l).out Tryd.call69 rfl (fun w hp => k_asked_ok d Ac cc l Al cl w hp.rd hp.rd hp.glo ha) rfl (fun A15 c15 fp15 hfp15 => ?_)
  refine oj_step (y_move rfl) rfl rfl rfl ?_
  refine oj_step (y_extract rfl rfl) rfl rfl rfl ?_
  refine oj_step (y_extract rfl rfl) rfl rfl rfl ?_
  refine oj_step (y_extract rfl rfl) rfl rfl rfl ?_
  refine oj_step (y_extract rfl rfl) rfl rfl rfl ?_
  refine oj_alloc Tryd.zeroValue121 rfl rfl (fun b8 => ?_)
  refine oj_store rfl rfl rfl rfl Tryd.sizeOf121 rfl ?_
  refine oj_step (y_assign rfl) rfl rfl rfl ?_
  refine oj_step (y_assign rfl) rfl rfl rfl ?_
  refine oj_step (y_assign rfl) rfl rfl rfl ?_
  refine oj_nil ?_
  refine ej_th (cj_seq (cj_seq ?_))
  refine cj_regionG (gj_step (y_move rfl) rfl rfl rfl (gj_step (y_neq rfl rfl) rfl rfl rfl (gj_nil ?_)))
  refine ej_th ?_
  refine cj_cond rfl (fun h21 => ?_) (fun h21 => ?_)
  · have h21b := h21
    try simp only [sxb] at h21
    refine cj_seq (cj_region ?_)
    refine oj_step (y_build st121 rfl rfl) rfl rfl rfl ?_
    refine oj_step (y_move rfl) rfl rfl rfl ?_
    refine oj_store rfl rfl rfl rfl Tryd.sizeOf121 rfl ?_
    refine oj_step (y_assign rfl) rfl rfl rfl ?_
    refine oj_nil ?_
    refine ej_th (cj_ret (ej_then_ret ?_))
    have he : onE d l n = (runL d l).e := by rw [onE, if_pos ha, if_neg h21]
    rw [he]
    exact ej_retC2 rfl Tryd.results68 rfl (y_loadN Tryd.isAgg121 Tryd.sizeOf121 rfl) rfl (fun w' hp => ⟨rfl, hp.below⟩)
  · have h21b := h21
    try simp only [sxb] at h21
    refine cj_skip (ej_th (cj_seq (cj_seq ?_)))
    refine cj_regionG ?_
    refine gj_step (y_move rfl) rfl rfl rfl (gj_step (y_fa fa121_3 rfl) rfl rfl rfl (gj_step (y_load1 Tryd.isAgg3 rfl rfl) rfl rfl rfl (?_)))
    refine gj_step (y_call Tryd.call54 rfl (fun w hp => k_within _ _ _ w)) rfl rfl rfl ?_
    refine gj_step (y_not rfl) rfl rfl rfl (?_)
    refine gj_nil ?_
    refine ej_th ?_
    refine cj_cond rfl (fun h28 => ?_) (fun h28 => ?_)
    · have h28b := h28
      try simp only [sxb] at h28
      have hn : btw (runL d l).x.day n 36500 = false := not_t h28b
      refine cj_seq (cj_region ?_)
      refine oj_step (y_build st121 rfl rfl) rfl rfl rfl ?_
      refine oj_store rfl rfl rfl rfl Tryd.sizeOf121 rfl ?_
      refine oj_step (y_assign rfl) rfl rfl rfl ?_
      refine oj_nil ?_
      refine ej_th (cj_ret (ej_then_ret ?_))
      have he : onE d l n = 7 := by rw [onE, if_pos ha, if_pos h21, hn]; rfl
      rw [he]
      exact ej_retC2 rfl Tryd.results68 rfl (y_loadN Tryd.isAgg121 Tryd.sizeOf121 rfl) rfl (fun w' hp => ⟨rfl, hp.below⟩)
    · exact absurd (show btw (runL d l).x.day n 36500 = true from not_f h28) (by intro h; rw [onOk, ha, h] at ho; simp at ho h21; exact ho h21)

theorem k_on_no (d : Deal) (Ac : Option Addr) (cc : Nat) (l : List Act1) (Al : Option Addr) (cl : Nat) (n : Int) (w : World) (hc : Rd w 1 enInt Ac d.closed) (hl0 : Rd w 3 encAct Al l) (hG : Gl w 0 WAYS) (ho : onOk d l n = false) : Calls Tryd.prog 68 #[.agg #[.int .i64 d.lr, .int .i64 d.lc, .int .i64 d.tr, .int .i64 d.tf, .int .i64 d.te, .int .i64 d.tt, .int .i64 d.tg, .slice Ac d.closed.length cc, .int .i64 d.start, .int .i64 d.sum], .slice Al l.length cl, .int .i64 n] w (fun e w' => e = .returned (.tuple #[.agg zeroLn.toArray, .int .i64 (onE d l n)]) ∧ Grow w w') := by
  cases ha : askOk d l
  · have he : onE d l n = askE d l := by rw [onE, if_neg (by rw [ha]; simp)]
    rw [he]
    exact k_on_no1 d Ac cc l Al cl n w hc hl0 hG ha
  · exact k_on_no2 d Ac cc l Al cl n w hc hl0 hG ha ho
theorem k_Owe_no (d : Deal) (Ac : Option Addr) (cc : Nat) (l : List Act1) (Al : Option Addr) (cl : Nat) (n : Int) (w : World) (hc : Rd w 1 enInt Ac d.closed) (hl0 : Rd w 3 encAct Al l) (hG : Gl w 0 WAYS) (ho : onOk d l n = false) : Calls Tryd.prog 32 #[.agg #[.int .i64 d.lr, .int .i64 d.lc, .int .i64 d.tr, .int .i64 d.tf, .int .i64 d.te, .int .i64 d.tt, .int .i64 d.tg, .slice Ac d.closed.length cc, .int .i64 d.start, .int .i64 d.sum], .slice Al l.length cl, .int .i64 n] w (fun e w' => e = .returned (.tuple #[.agg (encAcc (OweA d l n)).toArray, .int .i64 (onE d l n)]) ∧ Grow w w') := by
  have hv : OweA d l n = ⟨0, 0, 0, 0, false⟩ := by simp [OweA, ho]
  rw [hv]
  refine enter_pure (args := [.agg #[.int .i64 d.lr, .int .i64 d.lc, .int .i64 d.tr, .int .i64 d.tf, .int .i64 d.te, .int .i64 d.tt, .int .i64 d.tg, .slice Ac d.closed.length cc, .int .i64 d.start, .int .i64 d.sum], .slice Al l.length cl, .int .i64 n]) [sl (fun b => b < w.heap.size) 1 enInt Ac d.closed, sl (fun b => b < w.heap.size) 3 encAct Al l, gl 0 WAYS] Tryd.func32 rfl (by rw [Tryd.ntmps32]; simp) (fun g hg => by simp at hg; rcases hg with rfl | rfl | rfl; exact ⟨hc, fun _ h => h⟩; exact ⟨hl0, fun _ h => h⟩; exact ⟨hG.1, fun b hb => by have : b = 0 := hb; rw [this]; exact hG.2⟩) ?_
  refine cj_seq (cj_region ?_)
  refine oj_box rfl rfl rfl (fun b3 => ?_)
  refine oj_alloc Tryd.zeroValue64 rfl rfl (fun b6 => ?_)
  refine oj_step (y_assign rfl) rfl rfl rfl ?_
  refine oj_nil ?_
  refine ej_th (cj_seq (cj_region ?_))
  refine oj_step (y_loadN Tryd.isAgg44 Tryd.sizeOf44 rfl) rfl rfl rfl ?_
  refine oj_step (y_move rfl) rfl rfl rfl ?_
  refine oj_step (y_move rfl) rfl rfl rfl ?_
  refine oj_step (y_call Tryd.call68 rfl (fun w hp => k_on_no d Ac cc l Al cl n w hp.rd hp.rd hp.glo ho)) rfl rfl rfl ?_
  refine oj_step (y_move rfl) rfl rfl rfl ?_
  refine oj_step (y_extract rfl rfl) rfl rfl rfl ?_
  refine oj_step (y_extract rfl rfl) rfl rfl rfl ?_
  refine oj_alloc Tryd.zeroValue121 rfl rfl (fun b8 => ?_)
  refine oj_store rfl rfl rfl rfl Tryd.sizeOf121 rfl ?_
  refine oj_step (y_assign rfl) rfl rfl rfl ?_
  refine oj_nil ?_
  refine ej_th (cj_seq (cj_seq ?_))
  refine cj_regionG (gj_step (y_move rfl) rfl rfl rfl (gj_step (y_neq rfl rfl) rfl rfl rfl (gj_nil ?_)))
  refine ej_th ?_
  refine cj_cond rfl (fun h18 => ?_) (fun h18 => ?_)
  · have h18b := h18
    try simp only [sxb] at h18
    refine cj_seq (cj_region ?_)
    refine oj_step (y_build st64 rfl rfl) rfl rfl rfl ?_
    refine oj_step (y_move rfl) rfl rfl rfl ?_
    refine oj_store rfl rfl rfl rfl Tryd.sizeOf64 rfl ?_
    refine oj_step (y_assign rfl) rfl rfl rfl ?_
    refine oj_nil ?_
    refine ej_th (cj_ret (ej_then_ret ?_))
    exact ej_retC2 rfl Tryd.results32 rfl (y_loadN Tryd.isAgg64 Tryd.sizeOf64 rfl) rfl (fun w' hp => ⟨rfl, hp.below⟩)
  · exact absurd h18 (by simpa using onE_ne ho)

theorem k_Owe_ok (d : Deal) (Ac : Option Addr) (cc : Nat) (l : List Act1) (Al : Option Addr) (cl : Nat) (n : Int) (w : World) (hc : Rd w 1 enInt Ac d.closed) (hl0 : Rd w 3 encAct Al l) (hG : Gl w 0 WAYS) (ho : onOk d l n = true) : Calls Tryd.prog 32 #[.agg #[.int .i64 d.lr, .int .i64 d.lc, .int .i64 d.tr, .int .i64 d.tf, .int .i64 d.te, .int .i64 d.tt, .int .i64 d.tg, .slice Ac d.closed.length cc, .int .i64 d.start, .int .i64 d.sum], .slice Al l.length cl, .int .i64 n] w (fun e w' => e = .returned (.tuple #[.agg (encAcc (OweA d l n)).toArray, .int .i64 (onE d l n)]) ∧ Grow w w') := by
  have hv : OweA d l n = (toL d (runL d l).x n).acc := by simp [OweA, ho]
  have he := onE_yes ho
  rw [hv, he]
  obtain ⟨ha, he0, hn⟩ := onOk_parts ho
  have hd := badDeal_no (askOk_parts ha).1
  have hn2 := hn
  simp only [btw, Bool.and_eq_true, decide_eq_true_eq] at hn2
  have hx := toL_ok hd (runL_ok ha) hn2.2
  refine enter_pure (args := [.agg #[.int .i64 d.lr, .int .i64 d.lc, .int .i64 d.tr, .int .i64 d.tf, .int .i64 d.te, .int .i64 d.tt, .int .i64 d.tg, .slice Ac d.closed.length cc, .int .i64 d.start, .int .i64 d.sum], .slice Al l.length cl, .int .i64 n]) [sl (fun b => b < w.heap.size) 1 enInt Ac d.closed, sl (fun b => b < w.heap.size) 3 encAct Al l, gl 0 WAYS] Tryd.func32 rfl (by rw [Tryd.ntmps32]; simp) (fun g hg => by simp at hg; rcases hg with rfl | rfl | rfl; exact ⟨hc, fun _ h => h⟩; exact ⟨hl0, fun _ h => h⟩; exact ⟨hG.1, fun b hb => by have : b = 0 := hb; rw [this]; exact hG.2⟩) ?_
  refine cj_seq (cj_region ?_)
  refine oj_box rfl rfl rfl (fun b3 => ?_)
  refine oj_alloc Tryd.zeroValue64 rfl rfl (fun b6 => ?_)
  refine oj_step (y_assign rfl) rfl rfl rfl ?_
  refine oj_nil ?_
  refine ej_th (cj_seq (cj_region ?_))
  refine oj_step (y_loadN Tryd.isAgg44 Tryd.sizeOf44 rfl) rfl rfl rfl ?_
  refine oj_step (y_move rfl) rfl rfl rfl ?_
  refine oj_step (y_move rfl) rfl rfl rfl ?_
  refine oj_step (y_call Tryd.call68 rfl (fun w hp => k_on_ok d Ac cc l Al cl n w hp.rd hp.rd hp.glo ho)) rfl rfl rfl ?_
  refine oj_step (y_move rfl) rfl rfl rfl ?_
  refine oj_step (y_extract rfl rfl) rfl rfl rfl ?_
  refine oj_step (y_extract rfl rfl) rfl rfl rfl ?_
  refine oj_alloc Tryd.zeroValue121 rfl rfl (fun b8 => ?_)
  refine oj_store rfl rfl rfl rfl Tryd.sizeOf121 rfl ?_
  refine oj_step (y_assign rfl) rfl rfl rfl ?_
  refine oj_nil ?_
  refine ej_th (cj_seq (cj_seq ?_))
  refine cj_regionG (gj_step (y_move rfl) rfl rfl rfl (gj_step (y_neq rfl rfl) rfl rfl rfl (gj_nil ?_)))
  refine ej_th ?_
  refine cj_cond rfl (fun h18 => ?_) (fun h18 => ?_)
  · exact absurd h18 (by decide)
  · have h18b := h18
    try simp only [sxb] at h18
    refine cj_skip (ej_th (cj_seq (cj_region ?_)))
    refine oj_step (y_fa0 fa121_0 rfl) rfl rfl rfl ?_
    refine oj_step (y_loadN Tryd.isAgg64 Tryd.sizeOf64 rfl) rfl rfl rfl ?_
    refine oj_store rfl rfl rfl rfl Tryd.sizeOf64 rfl ?_
    refine oj_step (y_assign rfl) rfl rfl rfl ?_
    refine oj_nil ?_
    refine ej_th (cj_ret ?_)
    exact ej_retC2 rfl Tryd.results32 rfl (y_loadN Tryd.isAgg64 Tryd.sizeOf64 rfl) rfl (fun w' hp => ⟨rfl, hp.below⟩)

theorem k_Owe (d : Deal) (Ac : Option Addr) (cc : Nat) (l : List Act1) (Al : Option Addr) (cl : Nat) (n : Int) (w : World) (hc : Rd w 1 enInt Ac d.closed) (hl0 : Rd w 3 encAct Al l) (hG : Gl w 0 WAYS) : Calls Tryd.prog 32 #[.agg #[.int .i64 d.lr, .int .i64 d.lc, .int .i64 d.tr, .int .i64 d.tf, .int .i64 d.te, .int .i64 d.tt, .int .i64 d.tg, .slice Ac d.closed.length cc, .int .i64 d.start, .int .i64 d.sum], .slice Al l.length cl, .int .i64 n] w (fun e w' => e = .returned (.tuple #[.agg (encAcc (OweA d l n)).toArray, .int .i64 (onE d l n)]) ∧ Grow w w') := by
  cases ho : onOk d l n
  · exact k_Owe_no d Ac cc l Al cl n w hc hl0 hG ho
  · exact k_Owe_ok d Ac cc l Al cl n w hc hl0 hG ho
theorem k_Legal_no (d : Deal) (Ac : Option Addr) (cc : Nat) (l : List Act1) (Al : Option Addr) (cl : Nat) (n : Int) (w : World) (hc : Rd w 1 enInt Ac d.closed) (hl0 : Rd w 3 encAct Al l) (hG : Gl w 0 WAYS) (ho : onOk d l n = false) : Calls Tryd.prog 39 #[.agg #[.int .i64 d.lr, .int .i64 d.lc, .int .i64 d.tr, .int .i64 d.tf, .int .i64 d.te, .int .i64 d.tt, .int .i64 d.tg, .slice Ac d.closed.length cc, .int .i64 d.start, .int .i64 d.sum], .slice Al l.length cl, .int .i64 n] w (fun e w' => e = .returned (.tuple #[.int .i64 (LegalN d l n), .int .i64 (onE d l n)]) ∧ Grow w w') := by
  have hv : LegalN d l n = 0 := by simp [LegalN, ho]
  rw [hv]
  refine enter_pure (args := [.agg #[.int .i64 d.lr, .int .i64 d.lc, .int .i64 d.tr, .int .i64 d.tf, .int .i64 d.te, .int .i64 d.tt, .int .i64 d.tg, .slice Ac d.closed.length cc, .int .i64 d.start, .int .i64 d.sum], .slice Al l.length cl, .int .i64 n]) [sl (fun b => b < w.heap.size) 1 enInt Ac d.closed, sl (fun b => b < w.heap.size) 3 encAct Al l, gl 0 WAYS] Tryd.func39 rfl (by rw [Tryd.ntmps39]; simp) (fun g hg => by simp at hg; rcases hg with rfl | rfl | rfl; exact ⟨hc, fun _ h => h⟩; exact ⟨hl0, fun _ h => h⟩; exact ⟨hG.1, fun b hb => by have : b = 0 := hb; rw [this]; exact hG.2⟩) ?_
  refine cj_seq (cj_region ?_)
  refine oj_box rfl rfl rfl (fun b3 => ?_)
  refine oj_step (y_assign rfl) rfl rfl rfl ?_
  refine oj_step (y_assign rfl) rfl rfl rfl ?_
  refine oj_nil ?_
  refine ej_th (cj_seq (cj_region ?_))
  refine oj_step (y_loadN Tryd.isAgg44 Tryd.sizeOf44 rfl) rfl rfl rfl ?_
  refine oj_step (y_move rfl) rfl rfl rfl ?_
  refine oj_step (y_move rfl) rfl rfl rfl ?_
  refine oj_step (y_call Tryd.call68 rfl (fun w hp => k_on_no d Ac cc l Al cl n w hp.rd hp.rd hp.glo ho)) rfl rfl rfl ?_
  refine oj_step (y_move rfl) rfl rfl rfl ?_
  refine oj_step (y_extract rfl rfl) rfl rfl rfl ?_
  refine oj_step (y_extract rfl rfl) rfl rfl rfl ?_
  refine oj_alloc Tryd.zeroValue121 rfl rfl (fun b8 => ?_)
  refine oj_store rfl rfl rfl rfl Tryd.sizeOf121 rfl ?_
  refine oj_step (y_assign rfl) rfl rfl rfl ?_
  refine oj_nil ?_
  refine ej_th (cj_seq (cj_seq ?_))
  refine cj_regionG (gj_step (y_move rfl) rfl rfl rfl (gj_step (y_neq rfl rfl) rfl rfl rfl (gj_nil ?_)))
  refine ej_th ?_
  refine cj_cond rfl (fun h18 => ?_) (fun h18 => ?_)
  · have h18b := h18
    try simp only [sxb] at h18
    refine cj_seq ?_
    refine cj_regionG (gj_step (y_move rfl) rfl rfl rfl (gj_step (y_assign rfl) rfl rfl rfl (gj_step (y_assign rfl) rfl rfl rfl (gj_nil ?_))))
    refine ej_th (cj_ret (ej_then_ret ?_))
    exact ej_ret2 rfl Tryd.results39 rfl rfl (fun w' hp => ⟨rfl, hp.below⟩)
  · exact absurd h18 (by simpa using onE_ne ho)

theorem k_Legal_ok (d : Deal) (Ac : Option Addr) (cc : Nat) (l : List Act1) (Al : Option Addr) (cl : Nat) (n : Int) (w : World) (hc : Rd w 1 enInt Ac d.closed) (hl0 : Rd w 3 encAct Al l) (hG : Gl w 0 WAYS) (ho : onOk d l n = true) : Calls Tryd.prog 39 #[.agg #[.int .i64 d.lr, .int .i64 d.lc, .int .i64 d.tr, .int .i64 d.tf, .int .i64 d.te, .int .i64 d.tt, .int .i64 d.tg, .slice Ac d.closed.length cc, .int .i64 d.start, .int .i64 d.sum], .slice Al l.length cl, .int .i64 n] w (fun e w' => e = .returned (.tuple #[.int .i64 (LegalN d l n), .int .i64 (onE d l n)]) ∧ Grow w w') := by
  have hv : LegalN d l n = limitOf d (toL d (runL d l).x n) := by simp [LegalN, ho]
  have he := onE_yes ho
  rw [hv, he]
  obtain ⟨ha, he0, hn⟩ := onOk_parts ho
  have hd := badDeal_no (askOk_parts ha).1
  have hn2 := hn
  simp only [btw, Bool.and_eq_true, decide_eq_true_eq] at hn2
  have hx := toL_ok hd (runL_ok ha) hn2.2
  refine enter_pure (args := [.agg #[.int .i64 d.lr, .int .i64 d.lc, .int .i64 d.tr, .int .i64 d.tf, .int .i64 d.te, .int .i64 d.tt, .int .i64 d.tg, .slice Ac d.closed.length cc, .int .i64 d.start, .int .i64 d.sum], .slice Al l.length cl, .int .i64 n]) [sl (fun b => b < w.heap.size) 1 enInt Ac d.closed, sl (fun b => b < w.heap.size) 3 encAct Al l, gl 0 WAYS] Tryd.func39 rfl (by rw [Tryd.ntmps39]; simp) (fun g hg => by simp at hg; rcases hg with rfl | rfl | rfl; exact ⟨hc, fun _ h => h⟩; exact ⟨hl0, fun _ h => h⟩; exact ⟨hG.1, fun b hb => by have : b = 0 := hb; rw [this]; exact hG.2⟩) ?_
  refine cj_seq (cj_region ?_)
  refine oj_box rfl rfl rfl (fun b3 => ?_)
  refine oj_step (y_assign rfl) rfl rfl rfl ?_
  refine oj_step (y_assign rfl) rfl rfl rfl ?_
  refine oj_nil ?_
  refine ej_th (cj_seq (cj_region ?_))
  refine oj_step (y_loadN Tryd.isAgg44 Tryd.sizeOf44 rfl) rfl rfl rfl ?_
  refine oj_step (y_move rfl) rfl rfl rfl ?_
  refine oj_step (y_move rfl) rfl rfl rfl ?_
  refine oj_step (y_call Tryd.call68 rfl (fun w hp => k_on_ok d Ac cc l Al cl n w hp.rd hp.rd hp.glo ho)) rfl rfl rfl ?_
  refine oj_step (y_move rfl) rfl rfl rfl ?_
  refine oj_step (y_extract rfl rfl) rfl rfl rfl ?_
  refine oj_step (y_extract rfl rfl) rfl rfl rfl ?_
  refine oj_alloc Tryd.zeroValue121 rfl rfl (fun b8 => ?_)
  refine oj_store rfl rfl rfl rfl Tryd.sizeOf121 rfl ?_
  refine oj_step (y_assign rfl) rfl rfl rfl ?_
  refine oj_nil ?_
  refine ej_th (cj_seq (cj_seq ?_))
  refine cj_regionG (gj_step (y_move rfl) rfl rfl rfl (gj_step (y_neq rfl rfl) rfl rfl rfl (gj_nil ?_)))
  refine ej_th ?_
  refine cj_cond rfl (fun h18 => ?_) (fun h18 => ?_)
  · exact absurd h18 (by decide)
  · have h18b := h18
    try simp only [sxb] at h18
    refine cj_skip (ej_th (cj_seq ?_))
    refine cj_regionG ?_
    refine gj_step (y_loadN Tryd.isAgg121 Tryd.sizeOf121 rfl) rfl rfl rfl (?_)
    refine gj_step (y_call Tryd.call73 rfl (fun w hp => k_limit d Ac cc (toL d (runL d l).x n) w hd hx)) rfl rfl rfl ?_
    refine gj_step (y_assign rfl) rfl rfl rfl (gj_step (y_assign rfl) rfl rfl rfl (?_))
    refine gj_nil ?_
    refine ej_th (cj_ret ?_)
    exact ej_ret2 rfl Tryd.results39 rfl rfl (fun w' hp => ⟨rfl, hp.below⟩)

theorem k_Legal (d : Deal) (Ac : Option Addr) (cc : Nat) (l : List Act1) (Al : Option Addr) (cl : Nat) (n : Int) (w : World) (hc : Rd w 1 enInt Ac d.closed) (hl0 : Rd w 3 encAct Al l) (hG : Gl w 0 WAYS) : Calls Tryd.prog 39 #[.agg #[.int .i64 d.lr, .int .i64 d.lc, .int .i64 d.tr, .int .i64 d.tf, .int .i64 d.te, .int .i64 d.tt, .int .i64 d.tg, .slice Ac d.closed.length cc, .int .i64 d.start, .int .i64 d.sum], .slice Al l.length cl, .int .i64 n] w (fun e w' => e = .returned (.tuple #[.int .i64 (LegalN d l n), .int .i64 (onE d l n)]) ∧ Grow w w') := by
  cases ho : onOk d l n
  · exact k_Legal_no d Ac cc l Al cl n w hc hl0 hG ho
  · exact k_Legal_ok d Ac cc l Al cl n w hc hl0 hG ho
end Go.Proofs.YtafmgkiddhappaaDoor
namespace Go.Proofs.YtafmgkiddhappaaDoor
open Go.Sx Go.RowKit
set_option maxRecDepth 20000
theorem k_market  (w : World)  : Calls Tryd.prog 50 #[] w (fun e w' => ∃ x : Nat × Nat, e = .returned (.agg #[.slice (some ⟨x.1, 0, none⟩) 4 4, .slice (some ⟨x.2, 0, none⟩) 2 2, .int .i64 50, .int .i64 800, .int .i64 2]) ∧ Grow w w' ∧ (∀ g ∈ ([] : List Fact), g.P w' ∧ ∀ b, g.fp b → w.heap.size ≤ b ∧ b < w'.heap.size) ∧ ([] : List Fact).Pairwise (fun f g => ∀ b, f.fp b → ¬ g.fp b) ∧ (∀ g ∈ [litS x.1 5 encSale mSales, litS x.2 1 enInt mFade], g.P w' ∧ ∀ b, g.fp b → w.heap.size ≤ b ∧ b < w'.heap.size ∧ ∀ o ∈ ([] : List Fact), ¬ o.fp b)) := by
  refine enter_pure (args := []) [] Tryd.func50 rfl (by rw [Tryd.ntmps50]; simp) (by simp) ?_
  refine cj_seq (cj_region ?_)
  refine oj_alloc Tryd.zeroValue25 rfl rfl (fun b0 => ?_)
  refine oj_nil ?_
  refine ej_th (cj_seq (cj_region ?_))
  refine oj_step (y_build (cs := [.int .i64 0, .int .i64 800, .int .i64 10, .int .i64 40, .int .i64 1000]) st56 rfl (by kernel_rfl)) rfl rfl rfl ?_
  refine oj_step (y_build (cs := [.int .i64 0, .int .i64 434, .int .i64 20, .int .i64 50, .int .i64 2000]) st56 rfl (by kernel_rfl)) rfl rfl rfl ?_
  refine oj_step (y_build (cs := [.int .i64 0, .int .i64 70, .int .i64 10, .int .i64 30, .int .i64 900]) st56 rfl (by kernel_rfl)) rfl rfl rfl ?_
  refine oj_step (y_build (cs := [.int .i64 1, .int .i64 0, .int .i64 5, .int .i64 10, .int .i64 40]) st56 rfl (by kernel_rfl)) rfl rfl rfl ?_
  refine oj_buildSlice (cs := [.int .i64 0, .int .i64 800, .int .i64 10, .int .i64 40, .int .i64 1000, .int .i64 0, .int .i64 434, .int .i64 20, .int .i64 50, .int .i64 2000, .int .i64 0, .int .i64 70, .int .i64 10, .int .i64 30, .int .i64 900, .int .i64 1, .int .i64 0, .int .i64 5, .int .i64 10, .int .i64 40]) [.int .i64 0, .int .i64 0, .int .i64 0, .int .i64 0, .int .i64 0, .int .i64 0, .int .i64 0, .int .i64 0, .int .i64 0, .int .i64 0, .int .i64 0, .int .i64 0, .int .i64 0, .int .i64 0, .int .i64 0, .int .i64 0, .int .i64 0, .int .i64 0, .int .i64 0, .int .i64 0] Tryd.underlying22 Tryd.sizeOf56 Tryd.zeroValue56 rfl rfl (by kernel_rfl) (by kernel_rfl) rfl (fun b5 => ?_)
  refine oj_buildSlice (cs := [.int .i64 32, .int .i64 64]) [.int .i64 0, .int .i64 0] Tryd.underlying23 Tryd.sizeOf3 Tryd.zeroValue3 rfl rfl (by kernel_rfl) (by kernel_rfl) rfl (fun b6 => ?_)
  refine oj_step (y_build (cs := [.slice (some ⟨b5, 0, none⟩) 4 4, .slice (some ⟨b6, 0, none⟩) 2 2, .int .i64 50, .int .i64 800, .int .i64 2]) st25 rfl (by kernel_rfl)) rfl rfl rfl ?_
  refine oj_store rfl rfl rfl rfl Tryd.sizeOf25 rfl ?_
  refine oj_nil ?_
  refine ej_th (cj_ret ?_)
  exact ej_retC1 rfl Tryd.results50 rfl (y_loadN Tryd.isAgg25 Tryd.sizeOf25 rfl) (fun w' hp => ⟨(b5, b6), rfl, hp.below, by simp, List.Pairwise.nil, fun g hg => by
    simp only [List.mem_cons, List.not_mem_nil, or_false] at hg
    rcases hg with rfl | rfl
    · exact hp.lit mSales (fun _ => rfl) rfl (by unfold maxLen; simp)
    · exact hp.lit mFade (fun _ => rfl) rfl (by unfold maxLen; simp)⟩)

theorem k_terms  (w : World)  : Calls Tryd.prog 51 #[] w (fun e w' => e = .returned (.agg #[.int .i64 40, .int .i64 300, .int .i64 5000]) ∧ Grow w w') := by
  refine enter_pure (args := []) [] Tryd.func51 rfl (by rw [Tryd.ntmps51]; simp) (by simp) ?_
  refine cj_seq (cj_region ?_)
  refine oj_alloc Tryd.zeroValue52 rfl rfl (fun b0 => ?_)
  refine oj_nil ?_
  refine ej_th (cj_seq (cj_region ?_))
  refine oj_step (y_build (cs := [.int .i64 40, .int .i64 300, .int .i64 5000]) st52 rfl (by kernel_rfl)) rfl rfl rfl ?_
  refine oj_store rfl rfl rfl rfl Tryd.sizeOf52 rfl ?_
  refine oj_nil ?_
  refine ej_th (cj_ret ?_)
  exact ej_retC1 rfl Tryd.results51 rfl (y_loadN Tryd.isAgg52 Tryd.sizeOf52 rfl) (fun w' hp => ⟨rfl, hp.below⟩)

theorem k_deal  (w : World)  : Calls Tryd.prog 52 #[] w (fun e w' => ∃ x : Nat, e = .returned (.agg #[.int .i64 1000, .int .i64 16, .int .i64 500, .int .i64 2, .int .i64 50, .int .i64 10, .int .i64 3, .slice (some ⟨x, 0, none⟩) 2 2, .int .i64 100, .int .i64 100000]) ∧ Grow w w' ∧ (∀ g ∈ ([] : List Fact), g.P w' ∧ ∀ b, g.fp b → w.heap.size ≤ b ∧ b < w'.heap.size) ∧ ([] : List Fact).Pairwise (fun f g => ∀ b, f.fp b → ¬ g.fp b) ∧ (∀ g ∈ [litS x 1 enInt [103, 104]], g.P w' ∧ ∀ b, g.fp b → w.heap.size ≤ b ∧ b < w'.heap.size ∧ ∀ o ∈ ([] : List Fact), ¬ o.fp b)) := by
  refine enter_pure (args := []) [] Tryd.func52 rfl (by rw [Tryd.ntmps52]; simp) (by simp) ?_
  refine cj_seq (cj_region ?_)
  refine oj_alloc Tryd.zeroValue44 rfl rfl (fun b0 => ?_)
  refine oj_nil ?_
  refine ej_th (cj_seq (cj_region ?_))
  refine oj_step (y_build (cs := [.int .i64 1000, .int .i64 16]) st40 rfl (by kernel_rfl)) rfl rfl rfl ?_
  refine oj_step (y_build (cs := [.int .i64 500, .int .i64 2, .int .i64 50, .int .i64 10, .int .i64 3]) st42 rfl (by kernel_rfl)) rfl rfl rfl ?_
  refine oj_buildSlice (cs := [.int .i64 103, .int .i64 104]) [.int .i64 0, .int .i64 0] Tryd.underlying23 Tryd.sizeOf3 Tryd.zeroValue3 rfl rfl (by kernel_rfl) (by kernel_rfl) rfl (fun b3 => ?_)
  refine oj_step (y_build (cs := [.int .i64 1000, .int .i64 16, .int .i64 500, .int .i64 2, .int .i64 50, .int .i64 10, .int .i64 3, .slice (some ⟨b3, 0, none⟩) 2 2, .int .i64 100, .int .i64 100000]) st44 rfl (by kernel_rfl)) rfl rfl rfl ?_
  refine oj_store rfl rfl rfl rfl Tryd.sizeOf44 rfl ?_
  refine oj_nil ?_
  refine ej_th (cj_ret ?_)
  exact ej_retC1 rfl Tryd.results52 rfl (y_loadN Tryd.isAgg44 Tryd.sizeOf44 rfl) (fun w' hp => ⟨b3, rfl, hp.below, by simp, List.Pairwise.nil, fun g hg => by
    simp only [List.mem_cons, List.not_mem_nil, or_false] at hg
    subst hg
    exact hp.lit [103, 104] (fun _ => rfl) rfl (by unfold maxLen; simp)⟩)

end Go.Proofs.YtafmgkiddhappaaDoor
namespace Go.Proofs.YtafmgkiddhappaaDoor
open Go.Sx Go.RowKit
set_option maxRecDepth 20000
theorem ew_Crafts (As Af : Option Addr) (cs cf : Nat) (w : World) (hs : Rd w 5 encSale As mSales) (hf : Rd w 1 enInt Af mFade) : Calls Tryd.prog 16 #[.agg #[.slice As 4 cs, .slice Af 2 cf, .int .i64 50, .int .i64 800, .int .i64 2], .int .i64 0] w (fun e w' => ∃ A c, e = .returned (.tuple #[.slice A ([150, 500, 600] : List Int).length c, .int .i64 0]) ∧ Grow w w' ∧ Res w w' 1 enInt A [150, 500, 600]) := by
  have h := k_Crafts mSales mFade 50 800 2 As Af cs cf 0 w hs hf
  rw [ex_crafts, ex_craftsE] at h
  exact h
theorem ew_Value (As Af : Option Addr) (cs cf : Nat) (w : World) (hs : Rd w 5 encSale As mSales) (hf : Rd w 1 enInt Af mFade) : Calls Tryd.prog 21 #[.agg #[.slice As 4 cs, .slice Af 2 cf, .int .i64 50, .int .i64 800, .int .i64 2], .agg #[.int .i64 0, .int .i64 10, .int .i64 12]] w (fun e w' => e = .returned (.tuple #[.agg #[.int .i64 650, .int .i64 1200], .int .i64 0]) ∧ Grow w w') := by
  have h := k_Value mSales mFade 50 800 2 As Af cs cf 0 10 12 w hs hf
  rw [ex_value.1, ex_value.2.1, ex_value.2.2] at h
  exact h
theorem ew_Most (w : World) : Calls Tryd.prog 28 #[.agg #[.int .i64 40, .int .i64 300, .int .i64 5000], .agg #[.int .i64 400, .int .i64 900]] w (fun e w' => e = .returned (.tuple #[.int .i64 300, .int .i64 0]) ∧ Grow w w') := by
  have h := k_Most 40 300 5000 400 900 w
  rw [ex_most.1, ex_most.2] at h
  exact h
theorem ew_Lend (w : World) : Calls Tryd.prog 30 #[.agg #[.int .i64 40, .int .i64 300, .int .i64 5000], .agg #[.int .i64 650, .int .i64 1200], .int .i64 1000] w (fun e w' => e = .returned (.tuple #[.int .i64 406, .int .i64 0]) ∧ Grow w w') := by
  have h := k_Lend 40 300 5000 650 1200 1000 w
  rw [ex_lend.1, ex_lend.2] at h
  exact h
theorem ew_Owe1 (b : Nat) (w : World) (hc : Rd w 1 enInt (some ⟨b, 0, none⟩) [103, 104]) (hG : Gl w 0 WAYS) : Calls Tryd.prog 32 #[.agg #[.int .i64 1000, .int .i64 16, .int .i64 500, .int .i64 2, .int .i64 50, .int .i64 10, .int .i64 3, .slice (some ⟨b, 0, none⟩) 2 2, .int .i64 100, .int .i64 100000], .slice none 0 0, .int .i64 112] w (fun e w' => e = .returned (.tuple #[.agg #[.int .i64 100000, .int .i64 400, .int .i64 0, .int .i64 10, .bool true], .int .i64 0]) ∧ Grow w w') := by
  have h := k_Owe dealD (some ⟨b, 0, none⟩) 2 [] none 0 112 w hc Rd.nil hG
  rw [ex_owe1.1, ex_owe1.2] at h
  exact h
theorem ew_Owe2 (b : Nat) (w : World) (hc : Rd w 1 enInt (some ⟨b, 0, none⟩) [103, 104]) (hG : Gl w 0 WAYS) (b2 : Nat) (hl : Rd w 3 encAct (some ⟨b2, 0, none⟩) [⟨105, 2, 0⟩]) : Calls Tryd.prog 32 #[.agg #[.int .i64 1000, .int .i64 16, .int .i64 500, .int .i64 2, .int .i64 50, .int .i64 10, .int .i64 3, .slice (some ⟨b, 0, none⟩) 2 2, .int .i64 100, .int .i64 100000], .slice (some ⟨b2, 0, none⟩) 1 1, .int .i64 112] w (fun e w' => e = .returned (.tuple #[.agg #[.int .i64 100000, .int .i64 450, .int .i64 100, .int .i64 7, .bool true], .int .i64 0]) ∧ Grow w w') := by
  have h := k_Owe dealD (some ⟨b, 0, none⟩) 2 [⟨105, 2, 0⟩] (some ⟨b2, 0, none⟩) 1 112 w hc hl hG
  rw [ex_owe2.1, ex_owe2.2] at h
  exact h
theorem ew_Owe3 (b : Nat) (w : World) (hc : Rd w 1 enInt (some ⟨b, 0, none⟩) [103, 104]) (hG : Gl w 0 WAYS) (b2 : Nat) (hl : Rd w 3 encAct (some ⟨b2, 0, none⟩) [⟨105, 1, 20050⟩]) : Calls Tryd.prog 32 #[.agg #[.int .i64 1000, .int .i64 16, .int .i64 500, .int .i64 2, .int .i64 50, .int .i64 10, .int .i64 3, .slice (some ⟨b, 0, none⟩) 2 2, .int .i64 100, .int .i64 100000], .slice (some ⟨b2, 0, none⟩) 1 1, .int .i64 112] w (fun e w' => e = .returned (.tuple #[.agg #[.int .i64 80000, .int .i64 330, .int .i64 50, .int .i64 10, .bool true], .int .i64 0]) ∧ Grow w w') := by
  have h := k_Owe dealD (some ⟨b, 0, none⟩) 2 [⟨105, 1, 20050⟩] (some ⟨b2, 0, none⟩) 1 112 w hc hl hG
  rw [ex_owe3.1, ex_owe3.2] at h
  exact h
theorem ew_Owe4 (b : Nat) (w : World) (hc : Rd w 1 enInt (some ⟨b, 0, none⟩) [103, 104]) (hG : Gl w 0 WAYS) (b2 : Nat) (hl : Rd w 3 encAct (some ⟨b2, 0, none⟩) [⟨105, 3, 5⟩]) : Calls Tryd.prog 32 #[.agg #[.int .i64 1000, .int .i64 16, .int .i64 500, .int .i64 2, .int .i64 50, .int .i64 10, .int .i64 3, .slice (some ⟨b, 0, none⟩) 2 2, .int .i64 100, .int .i64 100000], .slice (some ⟨b2, 0, none⟩) 1 1, .int .i64 112] w (fun e w' => e = .returned (.tuple #[.agg #[.int .i64 100000, .int .i64 150, .int .i64 0, .int .i64 5, .bool true], .int .i64 0]) ∧ Grow w w') := by
  have h := k_Owe dealD (some ⟨b, 0, none⟩) 2 [⟨105, 3, 5⟩] (some ⟨b2, 0, none⟩) 1 112 w hc hl hG
  rw [ex_owe4.1, ex_owe4.2] at h
  exact h
theorem ew_Legal (b : Nat) (w : World) (hc : Rd w 1 enInt (some ⟨b, 0, none⟩) [103, 104]) (hG : Gl w 0 WAYS) : Calls Tryd.prog 39 #[.agg #[.int .i64 1000, .int .i64 16, .int .i64 500, .int .i64 2, .int .i64 50, .int .i64 10, .int .i64 3, .slice (some ⟨b, 0, none⟩) 2 2, .int .i64 100, .int .i64 100000], .slice none 0 0, .int .i64 105] w (fun e w' => e = .returned (.tuple #[.int .i64 300, .int .i64 0]) ∧ Grow w w') := by
  have h := k_Legal dealD (some ⟨b, 0, none⟩) 2 [] none 0 105 w hc Rd.nil hG
  rw [ex_legal.1, ex_legal.2] at h
  exact h
theorem ew_Keep (b : Nat) (w : World) (hc : Rd w 1 enInt (some ⟨b, 0, none⟩) [103, 104]) : Calls Tryd.prog 24 #[.agg #[.int .i64 1000, .int .i64 16, .int .i64 500, .int .i64 2, .int .i64 50, .int .i64 10, .int .i64 3, .slice (some ⟨b, 0, none⟩) 2 2, .int .i64 100, .int .i64 100000], .int .i64 140] w (fun e w' => ∃ A c, e = .returned (.tuple #[.slice A ([115, 128] : List Int).length c, .int .i64 0]) ∧ Grow w w' ∧ Res w w' 1 enInt A [115, 128]) := by
  have h := k_Keep dealD (some ⟨b, 0, none⟩) 2 140 w hc
  rw [ex_keep.1, ex_keep.2] at h
  exact h

theorem k_works  (w : World) (hG : Gl w 0 WAYS) : Calls Tryd.prog 23 #[] w (fun e w' => e = .returned (.bool true) ∧ Grow w w') := by
  refine enter_pure (args := []) [gl 0 WAYS] Tryd.func23 rfl (by rw [Tryd.ntmps23]; simp) (fun g hg => by simp at hg; subst hg; exact ⟨hG.1, fun b hb => by have : b = 0 := hb; rw [this]; exact hG.2⟩) ?_
  refine cj_seq ?_
  refine cj_regionG (gj_step (y_assign rfl) rfl rfl rfl (gj_nil ?_))
  refine ej_th (cj_seq (cj_region ?_))
  refine oj_call (X := Nat × Nat) (fun x => .agg #[.slice (some ⟨x.1, 0, none⟩) 4 4, .slice (some ⟨x.2, 0, none⟩) 2 2, .int .i64 50, .int .i64 800, .int .i64 2]) (fun _ => []) (fun x => [litS x.1 5 encSale mSales, litS x.2 1 enInt mFade]) Tryd.call50 rfl (fun w hp => k_market w) rfl (fun ⟨m16, f16⟩ => ?_)
  dsimp only [List.nil_append, List.cons_append]
  refine oj_callS (fun A c => .tuple #[.slice A ([150, 500, 600] : List Int).length c, .int .i64 0]) 1 enInt [150, 500, 600] Tryd.call16 rfl (fun w hp => ew_Crafts _ _ _ _ w hp.rd hp.rd) rfl (fun A17 c17 fp17 hfp17 => ?_)
  refine oj_step (y_move rfl) rfl rfl rfl ?_
  refine oj_step (y_extract rfl rfl) rfl rfl rfl ?_
  refine oj_step (y_extract rfl rfl) rfl rfl rfl ?_
  refine oj_step (y_assign rfl) rfl rfl rfl ?_
  refine oj_step (y_assign rfl) rfl rfl rfl ?_
  refine oj_nil ?_
  refine ej_th (cj_seq (cj_region ?_))
  refine oj_call (X := Nat × Nat) (fun x => .agg #[.slice (some ⟨x.1, 0, none⟩) 4 4, .slice (some ⟨x.2, 0, none⟩) 2 2, .int .i64 50, .int .i64 800, .int .i64 2]) (fun _ => []) (fun x => [litS x.1 5 encSale mSales, litS x.2 1 enInt mFade]) Tryd.call50 rfl (fun w hp => k_market w) rfl (fun ⟨m21, f21⟩ => ?_)
  dsimp only [List.nil_append, List.cons_append]
  refine oj_step (y_build (cs := [.int .i64 10, .int .i64 12]) st27 rfl (by kernel_rfl)) rfl rfl rfl ?_
  refine oj_step (y_build (cs := [.int .i64 0, .int .i64 10, .int .i64 12]) st29 rfl (by kernel_rfl)) rfl rfl rfl ?_
  refine oj_step (y_call Tryd.call21 rfl (fun w hp => ew_Value _ _ _ _ w hp.rd hp.rd)) rfl rfl rfl ?_
  refine oj_step (y_move rfl) rfl rfl rfl ?_
  refine oj_step (y_extract rfl rfl) rfl rfl rfl ?_
  refine oj_step (y_extract rfl rfl) rfl rfl rfl ?_
  refine oj_alloc Tryd.zeroValue27 rfl rfl (fun b3 => ?_)
  refine oj_store rfl rfl rfl rfl Tryd.sizeOf27 rfl ?_
  refine oj_step (y_assign rfl) rfl rfl rfl ?_
  refine oj_nil ?_
  refine ej_th (cj_seq ?_)
  refine cj_regionG ?_
  refine gj_step (y_call Tryd.call51 rfl (fun w hp => k_terms w)) rfl rfl rfl ?_
  refine gj_step (y_build (cs := [.int .i64 400, .int .i64 900]) st27 rfl (by kernel_rfl)) rfl rfl rfl (?_)
  refine gj_step (y_call Tryd.call28 rfl (fun w hp => ew_Most w)) rfl rfl rfl ?_
  refine gj_step (y_move rfl) rfl rfl rfl (gj_step (y_extract rfl rfl) rfl rfl rfl (gj_step (y_extract rfl rfl) rfl rfl rfl (gj_step (y_assign rfl) rfl rfl rfl (gj_step (y_assign rfl) rfl rfl rfl (?_)))))
  refine gj_nil ?_
  refine ej_th (cj_seq ?_)
  refine cj_draw (by kernel_rfl) (by kernel_rfl) ?_
  refine gj_step (y_call Tryd.call51 rfl (fun w hp => k_terms w)) rfl rfl rfl ?_
  refine gj_step (y_loadN Tryd.isAgg27 Tryd.sizeOf27 rfl) rfl rfl rfl (?_)
  refine gj_step (y_call Tryd.call30 rfl (fun w hp => ew_Lend w)) rfl rfl rfl ?_
  refine gj_step (y_move rfl) rfl rfl rfl (gj_step (y_extract rfl rfl) rfl rfl rfl (gj_step (y_extract rfl rfl) rfl rfl rfl (gj_step (y_assign rfl) rfl rfl rfl (gj_step (y_assign rfl) rfl rfl rfl (?_)))))
  refine gj_nil ?_
  refine ej_th (cj_seq (cj_seq (cj_region ?_)))
  refine oj_step (y_move rfl) rfl rfl rfl ?_
  refine oj_step (y_neq rfl rfl) rfl rfl rfl ?_
  refine oj_step (y_move rfl) rfl rfl rfl ?_
  refine oj_yes rfl rfl rfl ?_
  refine oj_step (y_move rfl) rfl rfl rfl ?_
  refine oj_yes rfl rfl rfl ?_
  refine oj_step (y_neq rfl rfl) rfl rfl rfl ?_
  refine oj_step (y_pick rfl rfl rfl) rfl rfl rfl ?_
  refine oj_step (y_move rfl) rfl rfl rfl ?_
  refine oj_yes rfl rfl rfl ?_
  refine oj_step (y_move rfl) rfl rfl rfl ?_
  refine oj_yes rfl rfl rfl ?_
  refine oj_step (y_neq rfl rfl) rfl rfl rfl ?_
  refine oj_step (y_pick rfl rfl rfl) rfl rfl rfl ?_
  refine oj_step (y_move rfl) rfl rfl rfl ?_
  refine oj_yes rfl rfl rfl ?_
  refine oj_step (y_move rfl) rfl rfl rfl ?_
  refine oj_yes rfl rfl rfl ?_
  refine oj_step (y_neq rfl rfl) rfl rfl rfl ?_
  refine oj_step (y_pick rfl rfl rfl) rfl rfl rfl ?_
  refine oj_step (y_move rfl) rfl rfl rfl ?_
  refine oj_yes rfl rfl rfl ?_
  refine oj_step (y_move rfl) rfl rfl rfl ?_
  refine oj_yes rfl rfl rfl ?_
  refine oj_buildSlice (cs := [.int .i64 150, .int .i64 500, .int .i64 600]) [.int .i64 0, .int .i64 0, .int .i64 0] Tryd.underlying23 Tryd.sizeOf3 Tryd.zeroValue3 rfl rfl (by kernel_rfl) (by kernel_rfl) rfl (fun b55 => ?_)
  refine oj_yes rfl rfl rfl ?_
  refine oj_step (y_call Tryd.call18 rfl (fun w hp => k_Same [150, 500, 600] [150, 500, 600] A17 (some ⟨b55, 0, none⟩) c17 3 w hp.rd (hp.rdLit (sz := 1) (enc := enInt) [150, 500, 600] (fun _ => rfl) rfl (by unfold maxLen; simp)))) rfl rfl rfl ?_
  refine oj_yes rfl rfl rfl ?_
  refine oj_step (y_not rfl) rfl rfl rfl ?_
  refine oj_step (y_pick rfl rfl rfl) rfl rfl rfl ?_
  refine oj_step (y_move rfl) rfl rfl rfl ?_
  refine oj_yes rfl rfl rfl ?_
  refine oj_step (y_loadN Tryd.isAgg27 Tryd.sizeOf27 rfl) rfl rfl rfl ?_
  refine oj_yes rfl rfl rfl ?_
  refine oj_step (y_build (cs := [.int .i64 650, .int .i64 1200]) st27 rfl (by kernel_rfl)) rfl rfl rfl ?_
  refine oj_yes rfl rfl rfl ?_
  refine oj_step (y_bin rfl rfl (fun x y w => ne27 _ _ _ _ x y w)) rfl rfl rfl ?_
  refine oj_step (y_pick rfl rfl rfl) rfl rfl rfl ?_
  refine oj_step (y_move rfl) rfl rfl rfl ?_
  refine oj_yes rfl rfl rfl ?_
  refine oj_step (y_move rfl) rfl rfl rfl ?_
  refine oj_yes rfl rfl rfl ?_
  refine oj_step (y_neq rfl rfl) rfl rfl rfl ?_
  refine oj_step (y_pick rfl rfl rfl) rfl rfl rfl ?_
  refine oj_step (y_move rfl) rfl rfl rfl ?_
  refine oj_yes rfl rfl rfl ?_
  refine oj_step (y_move rfl) rfl rfl rfl ?_
  refine oj_yes rfl rfl rfl ?_
  refine oj_step (y_neq rfl rfl) rfl rfl rfl ?_
  refine oj_step (y_pick rfl rfl rfl) rfl rfl rfl ?_
  refine oj_nil ?_
  refine ej_th ?_
  refine cj_cond rfl (fun h71 => ?_) (fun h71 => ?_)
  · exact absurd h71 (by decide)
  · have h71b := h71
    try simp only [sxb] at h71
    refine cj_skip (ej_th (cj_seq (cj_region ?_)))
    refine oj_call (X := Nat) (fun x => .agg #[.int .i64 1000, .int .i64 16, .int .i64 500, .int .i64 2, .int .i64 50, .int .i64 10, .int .i64 3, .slice (some ⟨x, 0, none⟩) 2 2, .int .i64 100, .int .i64 100000]) (fun _ => []) (fun x => [litS x 1 enInt [103, 104]]) Tryd.call52 rfl (fun w hp => k_deal w) rfl (fun m73 => ?_)
    dsimp only [List.nil_append, List.cons_append]
    refine oj_step (y_call Tryd.call32 rfl (fun w hp => ew_Owe1 m73 w hp.rd hp.glo)) rfl rfl rfl ?_
    refine oj_step (y_move rfl) rfl rfl rfl ?_
    refine oj_step (y_extract rfl rfl) rfl rfl rfl ?_
    refine oj_step (y_extract rfl rfl) rfl rfl rfl ?_
    refine oj_alloc Tryd.zeroValue64 rfl rfl (fun b9 => ?_)
    refine oj_store rfl rfl rfl rfl Tryd.sizeOf64 rfl ?_
    refine oj_step (y_assign rfl) rfl rfl rfl ?_
    refine oj_nil ?_
    refine ej_th (cj_seq (cj_region ?_))
    refine oj_call (X := Nat) (fun x => .agg #[.int .i64 1000, .int .i64 16, .int .i64 500, .int .i64 2, .int .i64 50, .int .i64 10, .int .i64 3, .slice (some ⟨x, 0, none⟩) 2 2, .int .i64 100, .int .i64 100000]) (fun _ => []) (fun x => [litS x 1 enInt [103, 104]]) Tryd.call52 rfl (fun w hp => k_deal w) rfl (fun m78 => ?_)
    dsimp only [List.nil_append, List.cons_append]
    refine oj_step (y_build (cs := [.int .i64 105, .int .i64 2, .int .i64 0]) st68 rfl (by kernel_rfl)) rfl rfl rfl ?_
    refine oj_buildSlice (cs := [.int .i64 105, .int .i64 2, .int .i64 0]) [.int .i64 0, .int .i64 0, .int .i64 0] Tryd.underlying69 Tryd.sizeOf68 Tryd.zeroValue68 rfl rfl (by kernel_rfl) (by kernel_rfl) rfl (fun b80 => ?_)
    refine oj_step (y_call Tryd.call32 rfl (fun w hp => ew_Owe2 m78 w hp.rd hp.glo b80 (hp.rdLit (sz := 3) (enc := encAct) [(⟨105, 2, 0⟩ : Act1)] (fun _ => rfl) rfl (by unfold maxLen; simp)))) rfl rfl rfl ?_
    refine oj_step (y_move rfl) rfl rfl rfl ?_
    refine oj_step (y_extract rfl rfl) rfl rfl rfl ?_
    refine oj_step (y_extract rfl rfl) rfl rfl rfl ?_
    refine oj_alloc Tryd.zeroValue64 rfl rfl (fun b10 => ?_)
    refine oj_store rfl rfl rfl rfl Tryd.sizeOf64 rfl ?_
    refine oj_step (y_assign rfl) rfl rfl rfl ?_
    refine oj_nil ?_
    refine ej_th (cj_seq (cj_region ?_))
    refine oj_call (X := Nat) (fun x => .agg #[.int .i64 1000, .int .i64 16, .int .i64 500, .int .i64 2, .int .i64 50, .int .i64 10, .int .i64 3, .slice (some ⟨x, 0, none⟩) 2 2, .int .i64 100, .int .i64 100000]) (fun _ => []) (fun x => [litS x 1 enInt [103, 104]]) Tryd.call52 rfl (fun w hp => k_deal w) rfl (fun m85 => ?_)
    dsimp only [List.nil_append, List.cons_append]
    refine oj_step (y_build (cs := [.int .i64 105, .int .i64 1, .int .i64 20050]) st68 rfl (by kernel_rfl)) rfl rfl rfl ?_
    refine oj_buildSlice (cs := [.int .i64 105, .int .i64 1, .int .i64 20050]) [.int .i64 0, .int .i64 0, .int .i64 0] Tryd.underlying69 Tryd.sizeOf68 Tryd.zeroValue68 rfl rfl (by kernel_rfl) (by kernel_rfl) rfl (fun b87 => ?_)
    refine oj_step (y_call Tryd.call32 rfl (fun w hp => ew_Owe3 m85 w hp.rd hp.glo b87 (hp.rdLit (sz := 3) (enc := encAct) [(⟨105, 1, 20050⟩ : Act1)] (fun _ => rfl) rfl (by unfold maxLen; simp)))) rfl rfl rfl ?_
    refine oj_step (y_move rfl) rfl rfl rfl ?_
    refine oj_step (y_extract rfl rfl) rfl rfl rfl ?_
    refine oj_step (y_extract rfl rfl) rfl rfl rfl ?_
    refine oj_alloc Tryd.zeroValue64 rfl rfl (fun b11 => ?_)
    refine oj_store rfl rfl rfl rfl Tryd.sizeOf64 rfl ?_
    refine oj_step (y_assign rfl) rfl rfl rfl ?_
    refine oj_nil ?_
    refine ej_th (cj_seq (cj_region ?_))
    refine oj_call (X := Nat) (fun x => .agg #[.int .i64 1000, .int .i64 16, .int .i64 500, .int .i64 2, .int .i64 50, .int .i64 10, .int .i64 3, .slice (some ⟨x, 0, none⟩) 2 2, .int .i64 100, .int .i64 100000]) (fun _ => []) (fun x => [litS x 1 enInt [103, 104]]) Tryd.call52 rfl (fun w hp => k_deal w) rfl (fun m92 => ?_)
    dsimp only [List.nil_append, List.cons_append]
    refine oj_step (y_build (cs := [.int .i64 105, .int .i64 3, .int .i64 5]) st68 rfl (by kernel_rfl)) rfl rfl rfl ?_
    refine oj_buildSlice (cs := [.int .i64 105, .int .i64 3, .int .i64 5]) [.int .i64 0, .int .i64 0, .int .i64 0] Tryd.underlying69 Tryd.sizeOf68 Tryd.zeroValue68 rfl rfl (by kernel_rfl) (by kernel_rfl) rfl (fun b94 => ?_)
    refine oj_step (y_call Tryd.call32 rfl (fun w hp => ew_Owe4 m92 w hp.rd hp.glo b94 (hp.rdLit (sz := 3) (enc := encAct) [(⟨105, 3, 5⟩ : Act1)] (fun _ => rfl) rfl (by unfold maxLen; simp)))) rfl rfl rfl ?_
    refine oj_step (y_move rfl) rfl rfl rfl ?_
    refine oj_step (y_extract rfl rfl) rfl rfl rfl ?_
    refine oj_step (y_extract rfl rfl) rfl rfl rfl ?_
    refine oj_alloc Tryd.zeroValue64 rfl rfl (fun b12 => ?_)
    refine oj_store rfl rfl rfl rfl Tryd.sizeOf64 rfl ?_
    refine oj_step (y_assign rfl) rfl rfl rfl ?_
    refine oj_nil ?_
    refine ej_th (cj_seq (cj_seq (cj_region ?_)))
    refine oj_step (y_move rfl) rfl rfl rfl ?_
    refine oj_step (y_neq rfl rfl) rfl rfl rfl ?_
    refine oj_step (y_move rfl) rfl rfl rfl ?_
    refine oj_yes rfl rfl rfl ?_
    refine oj_step (y_move rfl) rfl rfl rfl ?_
    refine oj_yes rfl rfl rfl ?_
    refine oj_step (y_neq rfl rfl) rfl rfl rfl ?_
    refine oj_step (y_pick rfl rfl rfl) rfl rfl rfl ?_
    refine oj_step (y_move rfl) rfl rfl rfl ?_
    refine oj_yes rfl rfl rfl ?_
    refine oj_step (y_move rfl) rfl rfl rfl ?_
    refine oj_yes rfl rfl rfl ?_
    refine oj_step (y_neq rfl rfl) rfl rfl rfl ?_
    refine oj_step (y_pick rfl rfl rfl) rfl rfl rfl ?_
    refine oj_step (y_move rfl) rfl rfl rfl ?_
    refine oj_yes rfl rfl rfl ?_
    refine oj_step (y_move rfl) rfl rfl rfl ?_
    refine oj_yes rfl rfl rfl ?_
    refine oj_step (y_neq rfl rfl) rfl rfl rfl ?_
    refine oj_step (y_pick rfl rfl rfl) rfl rfl rfl ?_
    refine oj_nil ?_
    refine ej_th ?_
    refine cj_cond rfl (fun h111 => ?_) (fun h111 => ?_)
    · exact absurd h111 (by decide)
    · have h111b := h111
      try simp only [sxb] at h111
      refine cj_skip (ej_th (cj_seq (cj_region ?_)))
      refine oj_call (X := Nat) (fun x => .agg #[.int .i64 1000, .int .i64 16, .int .i64 500, .int .i64 2, .int .i64 50, .int .i64 10, .int .i64 3, .slice (some ⟨x, 0, none⟩) 2 2, .int .i64 100, .int .i64 100000]) (fun _ => []) (fun x => [litS x 1 enInt [103, 104]]) Tryd.call52 rfl (fun w hp => k_deal w) rfl (fun m113 => ?_)
      dsimp only [List.nil_append, List.cons_append]
      refine oj_step (y_call Tryd.call39 rfl (fun w hp => ew_Legal m113 w hp.rd hp.glo)) rfl rfl rfl ?_
      refine oj_step (y_move rfl) rfl rfl rfl ?_
      refine oj_step (y_extract rfl rfl) rfl rfl rfl ?_
      refine oj_step (y_extract rfl rfl) rfl rfl rfl ?_
      refine oj_step (y_assign rfl) rfl rfl rfl ?_
      refine oj_step (y_assign rfl) rfl rfl rfl ?_
      refine oj_nil ?_
      refine ej_th (cj_seq (cj_region ?_))
      refine oj_call (X := Nat) (fun x => .agg #[.int .i64 1000, .int .i64 16, .int .i64 500, .int .i64 2, .int .i64 50, .int .i64 10, .int .i64 3, .slice (some ⟨x, 0, none⟩) 2 2, .int .i64 100, .int .i64 100000]) (fun _ => []) (fun x => [litS x 1 enInt [103, 104]]) Tryd.call52 rfl (fun w hp => k_deal w) rfl (fun m118 => ?_)
      dsimp only [List.nil_append, List.cons_append]
      refine oj_callS (fun A c => .tuple #[.slice A ([115, 128] : List Int).length c, .int .i64 0]) 1 enInt [115, 128] Tryd.call24 rfl (fun w hp => ew_Keep m118 w hp.rd) rfl (fun A119 c119 fp119 hfp119 => ?_)
      refine oj_step (y_move rfl) rfl rfl rfl ?_
      refine oj_step (y_extract rfl rfl) rfl rfl rfl ?_
      refine oj_step (y_extract rfl rfl) rfl rfl rfl ?_
      refine oj_step (y_assign rfl) rfl rfl rfl ?_
      refine oj_step (y_assign rfl) rfl rfl rfl ?_
      refine oj_nil ?_
      refine ej_th (cj_seq (cj_region ?_))
      refine oj_step (y_move rfl) rfl rfl rfl ?_
      refine oj_step (y_eql rfl rfl) rfl rfl rfl ?_
      refine oj_step (y_move rfl) rfl rfl rfl ?_
      refine oj_yes rfl rfl rfl ?_
      refine oj_step (y_move rfl) rfl rfl rfl ?_
      refine oj_yes rfl rfl rfl ?_
      refine oj_step (y_eql rfl rfl) rfl rfl rfl ?_
      refine oj_step (y_pick rfl rfl rfl) rfl rfl rfl ?_
      refine oj_step (y_move rfl) rfl rfl rfl ?_
      refine oj_yes rfl rfl rfl ?_
      refine oj_step (y_loadN Tryd.isAgg64 Tryd.sizeOf64 rfl) rfl rfl rfl ?_
      refine oj_yes rfl rfl rfl ?_
      refine oj_step (y_build (cs := [.int .i64 100000, .int .i64 400, .int .i64 0, .int .i64 10, .bool true]) st64 rfl (by kernel_rfl)) rfl rfl rfl ?_
      refine oj_yes rfl rfl rfl ?_
      refine oj_step (y_bin rfl rfl (fun x y w => eq64 _ _ _ _ _ _ _ _ _ _ x y w)) rfl rfl rfl ?_
      refine oj_step (y_pick rfl rfl rfl) rfl rfl rfl ?_
      refine oj_step (y_move rfl) rfl rfl rfl ?_
      refine oj_yes rfl rfl rfl ?_
      refine oj_step (y_loadN Tryd.isAgg64 Tryd.sizeOf64 rfl) rfl rfl rfl ?_
      refine oj_yes rfl rfl rfl ?_
      refine oj_step (y_build (cs := [.int .i64 100000, .int .i64 450, .int .i64 100, .int .i64 7, .bool true]) st64 rfl (by kernel_rfl)) rfl rfl rfl ?_
      refine oj_yes rfl rfl rfl ?_
      refine oj_step (y_bin rfl rfl (fun x y w => eq64 _ _ _ _ _ _ _ _ _ _ x y w)) rfl rfl rfl ?_
      refine oj_step (y_pick rfl rfl rfl) rfl rfl rfl ?_
      refine oj_step (y_move rfl) rfl rfl rfl ?_
      refine oj_yes rfl rfl rfl ?_
      refine oj_step (y_loadN Tryd.isAgg64 Tryd.sizeOf64 rfl) rfl rfl rfl ?_
      refine oj_yes rfl rfl rfl ?_
      refine oj_step (y_build (cs := [.int .i64 80000, .int .i64 330, .int .i64 50, .int .i64 10, .bool true]) st64 rfl (by kernel_rfl)) rfl rfl rfl ?_
      refine oj_yes rfl rfl rfl ?_
      refine oj_step (y_bin rfl rfl (fun x y w => eq64 _ _ _ _ _ _ _ _ _ _ x y w)) rfl rfl rfl ?_
      refine oj_step (y_pick rfl rfl rfl) rfl rfl rfl ?_
      refine oj_step (y_move rfl) rfl rfl rfl ?_
      refine oj_yes rfl rfl rfl ?_
      refine oj_step (y_loadN Tryd.isAgg64 Tryd.sizeOf64 rfl) rfl rfl rfl ?_
      refine oj_yes rfl rfl rfl ?_
      refine oj_step (y_build (cs := [.int .i64 100000, .int .i64 150, .int .i64 0, .int .i64 5, .bool true]) st64 rfl (by kernel_rfl)) rfl rfl rfl ?_
      refine oj_yes rfl rfl rfl ?_
      refine oj_step (y_bin rfl rfl (fun x y w => eq64 _ _ _ _ _ _ _ _ _ _ x y w)) rfl rfl rfl ?_
      refine oj_step (y_pick rfl rfl rfl) rfl rfl rfl ?_
      refine oj_step (y_move rfl) rfl rfl rfl ?_
      refine oj_yes rfl rfl rfl ?_
      refine oj_step (y_move rfl) rfl rfl rfl ?_
      refine oj_yes rfl rfl rfl ?_
      refine oj_step (y_eql rfl rfl) rfl rfl rfl ?_
      refine oj_step (y_pick rfl rfl rfl) rfl rfl rfl ?_
      refine oj_step (y_move rfl) rfl rfl rfl ?_
      refine oj_yes rfl rfl rfl ?_
      refine oj_step (y_move rfl) rfl rfl rfl ?_
      refine oj_yes rfl rfl rfl ?_
      refine oj_buildSlice (cs := [.int .i64 115, .int .i64 128]) [.int .i64 0, .int .i64 0] Tryd.underlying23 Tryd.sizeOf3 Tryd.zeroValue3 rfl rfl (by kernel_rfl) (by kernel_rfl) rfl (fun b154 => ?_)
      refine oj_yes rfl rfl rfl ?_
      refine oj_step (y_call Tryd.call18 rfl (fun w hp => k_Same [115, 128] [115, 128] A119 (some ⟨b154, 0, none⟩) c119 2 w hp.rd (hp.rdLit (sz := 1) (enc := enInt) [115, 128] (fun _ => rfl) rfl (by unfold maxLen; simp)))) rfl rfl rfl ?_
      refine oj_step (y_pick rfl rfl rfl) rfl rfl rfl ?_
      refine oj_step (y_assign rfl) rfl rfl rfl ?_
      refine oj_nil ?_
      refine ej_th (cj_ret ?_)
      exact ej_ret1 rfl Tryd.results23 rfl (fun w' hp => ⟨rfl, hp.below⟩)

end Go.Proofs.YtafmgkiddhappaaDoor
