/- Walks of functions of the program. -/
import Derived.Test.YtafmgkiddhappaaDoorWA
import Derived.Test.YtafmgkiddhappaaDoorPA
namespace Go.Proofs.YtafmgkiddhappaaDoor
open Go.Sx Go.RowKit
set_option maxRecDepth 20000
theorem k_bad64 (n : Int) (w : World)  : Calls Tryd.prog 58 #[.int .i64 n] w (fun e w' => e = .returned (.bool (bad64 n)) ∧ Grow w w') := by
  refine enter_pure (args := [.int .i64 n]) [] Tryd.func58 rfl (by rw [Tryd.ntmps58]; simp) (by simp) ?_
  refine cj_seq ?_
  refine cj_regionG (gj_step (y_assign rfl) rfl rfl rfl (gj_nil ?_))
  refine ej_th (cj_seq ?_)
  refine cj_regionG ?_
  refine gj_step (y_move rfl) rfl rfl rfl (?_)
  refine gj_step (y_call Tryd.call54 rfl (fun w hp => k_within _ _ _ w)) rfl rfl rfl ?_
  refine gj_step (y_not rfl) rfl rfl rfl (gj_step (y_assign rfl) rfl rfl rfl (?_))
  refine gj_nil ?_
  refine ej_th (cj_ret ?_)
  exact ej_ret1 rfl Tryd.results58 rfl (fun w' hp => ⟨rfl, hp.below⟩)

theorem k_IndexFunc (l : List Int) (A : Option Addr) (c : Nat) (w : World) (hl : Rd w 1 enInt A l) : Calls Tryd.prog 84 #[.slice A l.length c, .func (.func 58) #[] #[]] w (fun e w' => e = .returned (.int .i64 (firstB l 0)) ∧ Grow w w') := by
  have hlen := hl.len
  refine enter_pure (args := [.slice A l.length c, .func (.func 58) #[] #[]]) [sl (fun b => b < w.heap.size) 1 enInt A l] Tryd.func84 rfl (by rw [Tryd.ntmps84]; simp) (fun g hg => by simp at hg; subst hg; exact ⟨hl, fun _ h => h⟩) ?_
  refine cj_seq ?_
  refine cj_regionG (gj_step (y_assign rfl) rfl rfl rfl (gj_nil ?_))
  refine ej_th (cj_seq (cj_seq ?_))
  refine cj_regionG (gj_step (y_move rfl) rfl rfl rfl (gj_step (y_lenA Tryd.underlying23 rfl) rfl rfl rfl (gj_step (y_move rfl) rfl rfl rfl (gj_nil ?_))))
  refine ej_th (cj_block ?_)
  refine cj_lpc (X := Nat) (fun k => k ≤ l.length ∧ firstB (l.drop k) k = firstB l 0) (fun k => [(0, .slice A l.length c), (1, .func (.func 58) #[] #[]), (7, .int .i64 l.length), (8, .int .i64 k)]) (fun k => l.length - k) 0 (⟨Nat.zero_le _, rfl⟩) ⟨rfl, rfl, rfl, rfl, trivial⟩ ?_
  rintro k ⟨hk, hs⟩
  refine cj_seq ?_
  refine cj_regionG (gj_step (y_lss rfl rfl) rfl rfl rfl (gj_nil ?_))
  refine ej_th (cj_seq ?_)
  refine cj_cond rfl (fun h9 => ?_) (fun h9 => ?_)
  · have h9b := h9
    try simp only [sxb] at h9
    obtain ⟨x, hx⟩ : ∃ x, l[k]? = some x := ⟨_, List.getElem?_eq_getElem (by omega)⟩
    rw [firstB_drop l k x hx] at hs
    refine cj_skip (ej_th (cj_seq (cj_block (cj_seq ?_))))
    refine cj_regionG (gj_step (y_move rfl) rfl rfl rfl (gj_step (y_assign rfl) rfl rfl rfl (gj_nil ?_)))
    refine ej_th (cj_seq ?_)
    refine cj_regionG ?_
    refine gj_step (y_move rfl) rfl rfl rfl (gj_step (y_move rfl) rfl rfl rfl (gj_step (y_move rfl) rfl rfl rfl (gj_step (y_ixR (reads_sl) Tryd.underlying23 Tryd.sizeOf3 rfl rfl (⟨by omega, by omega⟩)) rfl rfl rfl (gj_step (y_ld0 (reads_sl) Tryd.isAgg3 rfl (hx) rfl) rfl rfl rfl (?_)))))
    refine gj_step (y_callV Tryd.call58 rfl rfl (fun w hp => k_bad64 _ w)) rfl rfl rfl ?_
    refine gj_nil ?_
    refine ej_th ?_
    refine cj_cond rfl (fun h16 => ?_) (fun h16 => ?_)
    · have h16b := h16
      try simp only [sxb] at h16
      refine cj_seq ?_
      refine cj_regionG (gj_step (y_move rfl) rfl rfl rfl (gj_step (y_assign rfl) rfl rfl rfl (gj_nil ?_)))
      refine ej_th (cj_ret (ej_blk_ret (ej_then_ret (ej_then_ret (ej_blk_ret (ej_then_ret ?_))))))
      refine ej_ret1 rfl Tryd.results84 rfl (fun w' hp => ⟨?_, hp.below⟩)
      rw [← hs, if_pos h16]
    · have h16b := h16
      try simp only [sxb] at h16
      refine cj_skip (ej_blk (ej_th ?_))
      refine cj_regionG (gj_step (y_add rfl rfl (by omega)) rfl rfl rfl (gj_step (y_move rfl) rfl rfl rfl (gj_nil ?_)))
      refine ej_nx (k + 1) (by omega) ⟨by omega, ?_⟩ ⟨rfl, rfl, rfl, rfl, trivial⟩
      rw [← hs, if_neg (by simp [h16])]
  · have h9b := h9
    try simp only [sxb] at h9
    refine cj_exit (ej_then_exit (ej_then_exit (ej_blk_hit (ej_th (cj_seq ?_)))))
    refine cj_regionG (gj_step (y_assign rfl) rfl rfl rfl (gj_nil ?_))
    refine ej_th (cj_ret ?_)
    refine ej_ret1 rfl Tryd.results84 rfl (fun w' hp => ⟨?_, hp.below⟩)
    rw [← hs, List.drop_of_length_le (by omega)]; rfl

theorem k_ContainsFunc (l : List Int) (A : Option Addr) (c : Nat) (w : World) (hl : Rd w 1 enInt A l) : Calls Tryd.prog 57 #[.slice A l.length c, .func (.func 58) #[] #[]] w (fun e w' => e = .returned (.bool (decide (0 ≤ firstB l 0))) ∧ Grow w w') := by
  refine enter_pure (args := [.slice A l.length c, .func (.func 58) #[] #[]]) [sl (fun b => b < w.heap.size) 1 enInt A l] Tryd.func57 rfl (by rw [Tryd.ntmps57]; simp) (fun g hg => by simp at hg; subst hg; exact ⟨hl, fun _ h => h⟩) ?_
  refine cj_seq ?_
  refine cj_regionG (gj_step (y_assign rfl) rfl rfl rfl (gj_nil ?_))
  refine ej_th (cj_seq ?_)
  refine cj_regionG ?_
  refine gj_step (y_move rfl) rfl rfl rfl (gj_step (y_move rfl) rfl rfl rfl (?_))
  refine gj_step (y_call Tryd.call84 rfl (fun w hp => k_IndexFunc _ _ _ w hp.rd)) rfl rfl rfl ?_
  refine gj_step (y_geq rfl rfl) rfl rfl rfl (gj_step (y_assign rfl) rfl rfl rfl (?_))
  refine gj_nil ?_
  refine ej_th (cj_ret ?_)
  exact ej_ret1 rfl Tryd.results57 rfl (fun w' hp => ⟨rfl, hp.below⟩)

theorem k_sold (s : Sale) (ns nf cs cf : Nat) (metal day few : Int) (As Af : Option Addr) (w : World) (hf : nf ≤ 9223372036854775807) : Calls Tryd.prog 60 #[.agg #[.slice As ns cs, .slice Af nf cf, .int .i64 metal, .int .i64 day, .int .i64 few], .agg #[.int .i64 s.kind, .int .i64 s.day, .int .i64 s.weight, .int .i64 s.metal, .int .i64 s.price]] w (fun e w' => e = .returned (.bool (okSale nf day s)) ∧ Grow w w') := by
  refine enter_pure (args := [.agg #[.slice As ns cs, .slice Af nf cf, .int .i64 metal, .int .i64 day, .int .i64 few], .agg #[.int .i64 s.kind, .int .i64 s.day, .int .i64 s.weight, .int .i64 s.metal, .int .i64 s.price]]) [] Tryd.func60 rfl (by rw [Tryd.ntmps60]; simp) (by simp) ?_
  refine cj_seq (cj_region ?_)
  refine oj_box rfl rfl rfl (fun b2 => ?_)
  refine oj_box rfl rfl rfl (fun b3 => ?_)
  refine oj_step (y_assign rfl) rfl rfl rfl ?_
  refine oj_nil ?_
  refine ej_th (cj_seq ?_)
  refine cj_regionG ?_
  refine gj_step (y_fa0 fa56_0 rfl) rfl rfl rfl (gj_step (y_load1 Tryd.isAgg3 rfl rfl) rfl rfl rfl (gj_step (y_fa0 fa110_0 rfl) rfl rfl rfl (gj_step (y_fa fa25_1 rfl) rfl rfl rfl (gj_step (y_load1 Tryd.isAgg23 rfl rfl) rfl rfl rfl (gj_step (y_lenA Tryd.underlying23 rfl) rfl rfl rfl (gj_step (y_sub rfl rfl (by omega)) rfl rfl rfl (?_)))))))
  refine gj_step (y_call Tryd.call54 rfl (fun w hp => k_within _ _ _ w)) rfl rfl rfl ?_
  refine gj_step (y_move rfl) rfl rfl rfl (?_)
  refine gj_g 6 13 19 rfl rfl rfl rfl (fun hg13 => gj_yes rfl rfl rfl (y_fa fa56_1 rfl) rfl rfl (gj_yes rfl rfl rfl (y_load1 Tryd.isAgg3 rfl rfl) rfl rfl (gj_yes rfl rfl rfl (y_fa0 fa110_0 rfl) rfl rfl (gj_yes rfl rfl rfl (y_fa fa25_3 rfl) rfl rfl (gj_yes rfl rfl rfl (y_load1 Tryd.isAgg3 rfl rfl) rfl rfl (gj_yes rfl rfl rfl (y_call Tryd.call54 rfl (fun w hp => k_within _ _ _ w)) rfl rfl (gj_nil rfl))))))) ?_
  refine gj_step (y_and rfl rfl rfl) rfl rfl rfl (gj_step (y_move rfl) rfl rfl rfl (?_))
  refine gj_g 3 21 24 rfl rfl rfl rfl (fun hg21 => gj_yes rfl rfl rfl (y_fa fa56_2 rfl) rfl rfl (gj_yes rfl rfl rfl (y_load1 Tryd.isAgg3 rfl rfl) rfl rfl (gj_yes rfl rfl rfl (y_call Tryd.call54 rfl (fun w hp => k_within _ _ _ w)) rfl rfl (gj_nil rfl)))) ?_
  refine gj_step (y_and rfl rfl rfl) rfl rfl rfl (gj_step (y_move rfl) rfl rfl rfl (?_))
  refine gj_g 3 26 29 rfl rfl rfl rfl (fun hg26 => gj_yes rfl rfl rfl (y_fa fa56_3 rfl) rfl rfl (gj_yes rfl rfl rfl (y_load1 Tryd.isAgg3 rfl rfl) rfl rfl (gj_yes rfl rfl rfl (y_call Tryd.call54 rfl (fun w hp => k_within _ _ _ w)) rfl rfl (gj_nil rfl)))) ?_
  refine gj_step (y_and rfl rfl rfl) rfl rfl rfl (gj_step (y_move rfl) rfl rfl rfl (?_))
  refine gj_g 3 31 34 rfl rfl rfl rfl (fun hg31 => gj_yes rfl rfl rfl (y_fa fa56_4 rfl) rfl rfl (gj_yes rfl rfl rfl (y_load1 Tryd.isAgg3 rfl rfl) rfl rfl (gj_yes rfl rfl rfl (y_call Tryd.call54 rfl (fun w hp => k_within _ _ _ w)) rfl rfl (gj_nil rfl)))) ?_
  refine gj_step (y_and rfl rfl rfl) rfl rfl rfl (gj_step (y_assign rfl) rfl rfl rfl (?_))
  refine gj_nil ?_
  refine ej_th (cj_ret ?_)
  exact ej_ret1 rfl Tryd.results60 rfl (fun w' hp => ⟨rfl, hp.below⟩)

theorem k_CheckMarket (sales : List Sale) (fade : List Int) (metal day few : Int) (As Af : Option Addr) (cs cf : Nat) (w : World) (hs : Rd w 5 encSale As sales) (hf : Rd w 1 enInt Af fade) : Calls Tryd.prog 19 #[.agg #[.slice As sales.length cs, .slice Af fade.length cf, .int .i64 metal, .int .i64 day, .int .i64 few]] w (fun e w' => e = .returned (.int .i64 (errM (badMarket sales fade metal day few))) ∧ Grow w w') := by
  have hlen := hs.len
  have hlenf := hf.len
  refine enter_pure (args := [.agg #[.slice As sales.length cs, .slice Af fade.length cf, .int .i64 metal, .int .i64 day, .int .i64 few]]) [sl (fun b => b < w.heap.size) 5 encSale As sales, sl (fun b => b < w.heap.size) 1 enInt Af fade] Tryd.func19 rfl (by rw [Tryd.ntmps19]; simp) (fun g hg => by simp at hg; rcases hg with rfl | rfl; exact ⟨hs, fun _ h => h⟩; exact ⟨hf, fun _ h => h⟩) ?_
  refine cj_seq (cj_region ?_)
  refine oj_box rfl rfl rfl (fun b1 => ?_)
  refine oj_step (y_assign rfl) rfl rfl rfl ?_
  refine oj_nil ?_
  refine ej_th (cj_seq ?_)
  refine cj_regionG ?_
  refine gj_step (y_fa fa25_1 rfl) rfl rfl rfl (gj_step (y_load1 Tryd.isAgg23 rfl rfl) rfl rfl rfl (?_))
  refine gj_step (y_call Tryd.call57 rfl (fun w hp => k_ContainsFunc _ _ _ w hp.rd)) rfl rfl rfl ?_
  refine gj_step (y_assign rfl) rfl rfl rfl (?_)
  refine gj_nil ?_
  refine ej_th (cj_seq (cj_seq ?_))
  refine cj_regionG ?_
  refine gj_step (y_move rfl) rfl rfl rfl (gj_step (y_move rfl) rfl rfl rfl (?_))
  refine gj_g 5 10 15 rfl rfl rfl rfl (fun hg10 => gj_yes rfl rfl rfl (y_fa fa25_1 rfl) rfl rfl (gj_yes rfl rfl rfl (y_load1 Tryd.isAgg23 rfl rfl) rfl rfl (gj_yes rfl rfl rfl (y_lenA Tryd.underlying23 rfl) rfl rfl (gj_yes rfl rfl rfl (y_call Tryd.call54 rfl (fun w hp => k_within _ _ _ w)) rfl rfl (gj_yes rfl rfl rfl (y_not rfl) rfl rfl (gj_nil rfl)))))) ?_
  refine gj_step (y_or rfl rfl rfl) rfl rfl rfl (gj_step (y_move rfl) rfl rfl rfl (?_))
  refine gj_g 4 17 21 rfl rfl rfl rfl (fun hg17 => gj_yes rfl rfl rfl (y_fa fa25_2 rfl) rfl rfl (gj_yes rfl rfl rfl (y_load1 Tryd.isAgg3 rfl rfl) rfl rfl (gj_yes rfl rfl rfl (y_call Tryd.call54 rfl (fun w hp => k_within _ _ _ w)) rfl rfl (gj_yes rfl rfl rfl (y_not rfl) rfl rfl (gj_nil rfl))))) ?_
  refine gj_step (y_or rfl rfl rfl) rfl rfl rfl (gj_step (y_move rfl) rfl rfl rfl (?_))
  refine gj_g 4 23 27 rfl rfl rfl rfl (fun hg23 => gj_yes rfl rfl rfl (y_fa fa25_3 rfl) rfl rfl (gj_yes rfl rfl rfl (y_load1 Tryd.isAgg3 rfl rfl) rfl rfl (gj_yes rfl rfl rfl (y_call Tryd.call59 rfl (fun w hp => k_day _ w)) rfl rfl (gj_yes rfl rfl rfl (y_not rfl) rfl rfl (gj_nil rfl))))) ?_
  refine gj_step (y_or rfl rfl rfl) rfl rfl rfl (gj_step (y_move rfl) rfl rfl rfl (?_))
  refine gj_g 4 29 33 rfl rfl rfl rfl (fun hg29 => gj_yes rfl rfl rfl (y_fa fa25_4 rfl) rfl rfl (gj_yes rfl rfl rfl (y_load1 Tryd.isAgg3 rfl rfl) rfl rfl (gj_yes rfl rfl rfl (y_call Tryd.call54 rfl (fun w hp => k_within _ _ _ w)) rfl rfl (gj_yes rfl rfl rfl (y_not rfl) rfl rfl (gj_nil rfl))))) ?_
  refine gj_step (y_or rfl rfl rfl) rfl rfl rfl (gj_step (y_move rfl) rfl rfl rfl (?_))
  refine gj_g 4 35 39 rfl rfl rfl rfl (fun hg35 => gj_yes rfl rfl rfl (y_fa0 fa25_0 rfl) rfl rfl (gj_yes rfl rfl rfl (y_load1 Tryd.isAgg22 rfl rfl) rfl rfl (gj_yes rfl rfl rfl (y_lenA Tryd.underlying22 rfl) rfl rfl (gj_yes rfl rfl rfl (y_gtr rfl rfl) rfl rfl (gj_nil rfl))))) ?_
  refine gj_step (y_or rfl rfl rfl) rfl rfl rfl (?_)
  refine gj_nil ?_
  refine ej_th ?_
  refine cj_cond rfl (fun h40 => ?_) (fun h40 => ?_)
  · have h40b := h40
    try simp only [sxb] at h40
    refine cj_seq ?_
    refine cj_regionG (gj_step (y_assign rfl) rfl rfl rfl (gj_nil ?_))
    refine ej_th (cj_ret (ej_then_ret ?_))
    refine ej_ret1 rfl Tryd.results19 rfl (fun w' hp => ⟨?_, hp.below⟩)
    rw [errM, badMarket, show badM sales.length fade metal day few = true from h40b]; rfl
  · have h40b := h40
    try simp only [sxb] at h40
    refine cj_skip (ej_th (cj_seq (cj_seq ?_)))
    refine cj_regionG (gj_step (y_fa0 fa25_0 rfl) rfl rfl rfl (gj_step (y_load1 Tryd.isAgg22 rfl rfl) rfl rfl rfl (gj_step (y_lenA Tryd.underlying22 rfl) rfl rfl rfl (gj_step (y_move rfl) rfl rfl rfl (gj_nil ?_)))))
    refine ej_th (cj_block ?_)
    refine cj_lpc (X := Nat) (fun k => k ≤ sales.length ∧ (sales.drop k).all (okSale fade.length day) = sales.all (okSale fade.length day)) (fun k => [(1, .pointer (some ⟨b1, 0, none⟩)), (42, .slice As sales.length cs), (43, .int .i64 sales.length), (44, .int .i64 k)]) (fun k => sales.length - k) 0 (⟨Nat.zero_le _, rfl⟩) ⟨rfl, rfl, rfl, rfl, trivial⟩ ?_
    rintro k ⟨hk, hl⟩
    refine cj_seq ?_
    refine cj_regionG (gj_step (y_lss rfl rfl) rfl rfl rfl (gj_nil ?_))
    refine ej_th (cj_seq ?_)
    refine cj_cond rfl (fun h45 => ?_) (fun h45 => ?_)
    · have h45b := h45
      try simp only [sxb] at h45
      obtain ⟨s, hx⟩ : ∃ s, sales[k]? = some s := ⟨_, List.getElem?_eq_getElem (by omega)⟩
      rw [all_drop _ sales k s hx] at hl
      refine cj_skip (ej_th (cj_seq (cj_block (cj_seq (cj_region ?_)))))
      refine oj_step (y_ixR (reads_sl) Tryd.underlying22 Tryd.sizeOf56 rfl rfl (⟨by omega, by omega⟩)) rfl rfl rfl ?_
      refine oj_step (y_ldW (reads_sl) Tryd.isAgg56 Tryd.sizeOf56 rfl (hx) (fun _ => rfl)) rfl rfl rfl ?_
      refine oj_alloc Tryd.zeroValue56 rfl rfl (fun b5 => ?_)
      refine oj_store rfl rfl rfl rfl Tryd.sizeOf56 rfl ?_
      refine oj_nil ?_
      refine ej_th (cj_seq ?_)
      refine cj_regionG ?_
      refine gj_step (y_loadN Tryd.isAgg25 Tryd.sizeOf25 rfl) rfl rfl rfl (gj_step (y_build st110 rfl rfl) rfl rfl rfl (gj_step (y_loadN Tryd.isAgg56 Tryd.sizeOf56 rfl) rfl rfl rfl (?_)))
      refine gj_step (y_call Tryd.call60 rfl (fun w hp => k_sold _ _ _ _ _ _ _ _ _ _ w (by omega))) rfl rfl rfl ?_
      refine gj_step (y_not rfl) rfl rfl rfl (?_)
      refine gj_nil ?_
      refine ej_th ?_
      refine cj_cond rfl (fun h52 => ?_) (fun h52 => ?_)
      · have h52b := h52
        try simp only [sxb] at h52
        refine cj_seq ?_
        refine cj_regionG (gj_step (y_assign rfl) rfl rfl rfl (gj_nil ?_))
        refine ej_th (cj_ret (ej_blk_ret (ej_then_ret (ej_then_ret (ej_blk_ret (ej_then_ret ?_))))))
        refine ej_ret1 rfl Tryd.results19 rfl (fun w' hp => ⟨?_, hp.below⟩)
        rw [errM, badMarket, ← hl, h52]; simp
      · have h52b := h52
        try simp only [sxb] at h52
        refine cj_skip (ej_blk (ej_th ?_))
        refine cj_regionG (gj_step (y_add rfl rfl (by omega)) rfl rfl rfl (gj_step (y_move rfl) rfl rfl rfl (gj_nil ?_)))
        refine ej_nx (k + 1) (by omega) ⟨by omega, ?_⟩ ⟨rfl, rfl, rfl, rfl, trivial⟩
        rw [← hl, h52]; rfl
    · have h45b := h45
      try simp only [sxb] at h45
      refine cj_exit (ej_then_exit (ej_then_exit (ej_blk_hit (ej_th (cj_seq ?_)))))
      refine cj_regionG (gj_step (y_assign rfl) rfl rfl rfl (gj_nil ?_))
      refine ej_th (cj_ret ?_)
      refine ej_ret1 rfl Tryd.results19 rfl (fun w' hp => ⟨?_, hp.below⟩)
      rw [List.drop_of_length_le (by omega)] at hl
      rw [errM, badMarket, show badM sales.length fade metal day few = false from h40b, ← hl]; rfl

end Go.Proofs.YtafmgkiddhappaaDoor
