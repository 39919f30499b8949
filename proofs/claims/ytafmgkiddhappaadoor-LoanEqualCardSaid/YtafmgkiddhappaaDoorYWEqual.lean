/- Walks of functions of the program. -/
import Derived.Test.YtafmgkiddhappaaDoorYWCovers
import Derived.Test.YtafmgkiddhappaaDoorYTyEqual
namespace Go.Proofs.YtafmgkiddhappaaDoor
open Go.Sx Go.RowKit
set_option maxRecDepth 20000
theorem k_LoanEqual (lc : List ClassV) (Ag : Option Addr) (cg : Nat) (a b : ItemV) (rs : List RuleR) (Ar : Option Addr) (cr : Nat) (lo hi : Int) (w : World) (hl : Rd w 4 encCl Ag lc) (hgc : ∀ c ∈ lc, GoodC w c) (hga : GoodI w a) (hgb : GoodI w b) (hr0 : Rd w 4 encRule Ar rs) (hsm : ∀ r ∈ rs, r.cls.size ≤ 9223372036854775807) (hG : Gl w 0 WAYS) : Calls Tryd.prog 15 #[.agg #[.slice Ag lc.length cg, .string a.cls, .slice a.As a.says.length a.cs, .slice a.Ap a.parts.length a.cp, .string b.cls, .slice b.As b.says.length b.cs, .slice b.Ap b.parts.length b.cp], .slice Ar rs.length cr, .agg #[.int .i64 lo, .int .i64 hi]] w (fun e w' => e = .returned (.bool true) ∧ Grow w w') := by
  refine enter_pure (args := [.agg #[.slice Ag lc.length cg, .string a.cls, .slice a.As a.says.length a.cs, .slice a.Ap a.parts.length a.cp, .string b.cls, .slice b.As b.says.length b.cs, .slice b.Ap b.parts.length b.cp], .slice Ar rs.length cr, .agg #[.int .i64 lo, .int .i64 hi]]) [sl (fun b => b < w.heap.size) 4 encCl Ag lc, sl (fun b => b < w.heap.size) 4 encRule Ar rs, gl 0 WAYS] Tryd.func15 rfl (by rw [Tryd.ntmps15]; simp) (fun g hg => by simp at hg; rcases hg with rfl | rfl | rfl; exact ⟨hl, fun _ h => h⟩; exact ⟨hr0, fun _ h => h⟩; exact ⟨hG.1, fun b hb => by have : b = 0 := hb; rw [this]; exact hG.2⟩) ?_
  refine cj_seq (cj_region ?_)
  refine oj_box rfl rfl rfl (fun b3 => ?_)
  refine oj_box rfl rfl rfl (fun b5 => ?_)
  refine oj_step (y_assign rfl) rfl rfl rfl ?_
  refine oj_nil ?_
  refine ej_th (cj_seq ?_)
  refine cj_regionG ?_
  refine gj_step (y_fa0 fa105_0 rfl) rfl rfl rfl (gj_step (y_load1 Tryd.isAgg99 rfl rfl) rfl rfl rfl (gj_step (y_fa fa105_1 rfl) rfl rfl rfl (gj_step (y_loadN Tryd.isAgg103 Tryd.sizeOf103 rfl) rfl rfl rfl (gj_step (y_fa fa105_2 rfl) rfl rfl rfl (gj_step (y_loadN Tryd.isAgg103 Tryd.sizeOf103 rfl) rfl rfl rfl (?_))))))
  refine gj_step (y_call Tryd.call53 rfl (fun w hp => by have h := k_Covers lc Ag cg a b w hp.rd (fun c hc => (hgc c hc).mono hp.below) (hga.mono hp.below) (hgb.mono hp.below); exact h)) rfl rfl rfl ?_
  refine gj_step (y_move rfl) rfl rfl rfl (gj_step (y_extract rfl rfl) rfl rfl rfl (gj_step (y_extract rfl rfl) rfl rfl rfl (gj_step (y_assign rfl) rfl rfl rfl (gj_step (y_assign rfl) rfl rfl rfl (?_)))))
  refine gj_nil ?_
  refine ej_th (cj_seq ?_)
  refine cj_regionG ?_
  refine gj_step (y_fa0 fa105_0 rfl) rfl rfl rfl (gj_step (y_load1 Tryd.isAgg99 rfl rfl) rfl rfl rfl (gj_step (y_fa fa105_2 rfl) rfl rfl rfl (gj_step (y_loadN Tryd.isAgg103 Tryd.sizeOf103 rfl) rfl rfl rfl (gj_step (y_fa fa105_1 rfl) rfl rfl rfl (gj_step (y_loadN Tryd.isAgg103 Tryd.sizeOf103 rfl) rfl rfl rfl (?_))))))
  refine gj_step (y_call Tryd.call53 rfl (fun w hp => by have h := k_Covers lc Ag cg b a w hp.rd (fun c hc => (hgc c hc).mono hp.below) (hgb.mono hp.below) (hga.mono hp.below); exact h)) rfl rfl rfl ?_
  refine gj_step (y_move rfl) rfl rfl rfl (gj_step (y_extract rfl rfl) rfl rfl rfl (gj_step (y_extract rfl rfl) rfl rfl rfl (gj_step (y_assign rfl) rfl rfl rfl (gj_step (y_assign rfl) rfl rfl rfl (?_)))))
  refine gj_nil ?_
  refine ej_th (cj_seq (cj_seq ?_))
  refine cj_regionG (gj_step (y_move rfl) rfl rfl rfl (gj_step (y_neq rfl rfl) rfl rfl rfl (gj_step (y_move rfl) rfl rfl rfl (gj_g 2 37 39 rfl rfl rfl rfl (fun hg37 => gj_yes rfl rfl rfl (y_move rfl) rfl rfl (gj_yes rfl rfl rfl (y_neq rfl rfl) rfl rfl (gj_nil rfl))) (gj_step (y_or rfl rfl rfl) rfl rfl rfl (gj_step (y_move rfl) rfl rfl rfl (gj_g 2 41 43 rfl rfl rfl rfl (fun hg41 => gj_yes rfl rfl rfl (y_move rfl) rfl rfl (gj_yes rfl rfl rfl (y_not rfl) rfl rfl (gj_nil rfl))) (gj_step (y_or rfl rfl rfl) rfl rfl rfl (gj_step (y_move rfl) rfl rfl rfl (gj_g 2 45 47 rfl rfl rfl rfl (fun hg45 => gj_yes rfl rfl rfl (y_move rfl) rfl rfl (gj_yes rfl rfl rfl (y_not rfl) rfl rfl (gj_nil rfl))) (gj_step (y_or rfl rfl rfl) rfl rfl rfl (gj_nil ?_))))))))))))
  refine ej_th ?_
  refine cj_cond rfl (fun h48 => ?_) (fun h48 => ?_)
  · have h48b := h48
    try simp only [sxb] at h48
    refine cj_seq ?_
    refine cj_regionG ?_
    refine gj_step (y_call Tryd.call23 rfl (fun w hp => k_works w hp.glo)) rfl rfl rfl ?_
    refine gj_step (y_assign rfl) rfl rfl rfl (?_)
    refine gj_nil ?_
    refine ej_th (cj_ret (ej_then_ret ?_))
    exact ej_ret1 rfl Tryd.results15 rfl (fun w' hp => ⟨by first | rfl | simp, hp.below⟩)
  · have h48b := h48
    try simp only [sxb] at h48
    simp only [Bool.or_eq_false_iff] at h48b
    have hcv := not_f h48b.1.2
    have hcl : a.cls = b.cls := covI_cls (by have := hcv; simp only [CovT, Bool.and_eq_true] at this; exact this.2)
    rw [← hcl]
    refine cj_skip (ej_th (cj_seq (cj_region ?_)))
    refine oj_step (y_move rfl) rfl rfl rfl ?_
    refine oj_step (y_fa fa105_1 rfl) rfl rfl rfl ?_
    refine oj_step (y_fa0 fa103_0 rfl) rfl rfl rfl ?_
    refine oj_step (y_load1 Tryd.isAgg9 rfl rfl) rfl rfl rfl ?_
    refine oj_step (y_call Tryd.call48 rfl (fun w hp => by have h := k_For rs Ar cr a.cls w hp.rd hsm; exact h)) rfl rfl rfl ?_
    refine oj_step (y_move rfl) rfl rfl rfl ?_
    refine oj_step (y_extract rfl rfl) rfl rfl rfl ?_
    refine oj_step (y_extract rfl rfl) rfl rfl rfl ?_
    refine oj_alloc Tryd.zeroValue52 rfl rfl (fun b11 => ?_)
    refine oj_store rfl rfl rfl rfl Tryd.sizeOf52 rfl ?_
    refine oj_step (y_assign rfl) rfl rfl rfl ?_
    refine oj_nil ?_
    refine ej_th (cj_seq (cj_region ?_))
    refine oj_step (y_move rfl) rfl rfl rfl ?_
    refine oj_step (y_fa fa105_2 rfl) rfl rfl rfl ?_
    refine oj_step (y_fa0 fa103_0 rfl) rfl rfl rfl ?_
    refine oj_step (y_load1 Tryd.isAgg9 rfl rfl) rfl rfl rfl ?_
    refine oj_step (y_call Tryd.call48 rfl (fun w hp => by have h := k_For rs Ar cr a.cls w hp.rd hsm; exact h)) rfl rfl rfl ?_
    refine oj_step (y_move rfl) rfl rfl rfl ?_
    refine oj_step (y_extract rfl rfl) rfl rfl rfl ?_
    refine oj_step (y_extract rfl rfl) rfl rfl rfl ?_
    refine oj_alloc Tryd.zeroValue52 rfl rfl (fun b12 => ?_)
    refine oj_store rfl rfl rfl rfl Tryd.sizeOf52 rfl ?_
    refine oj_step (y_assign rfl) rfl rfl rfl ?_
    refine oj_nil ?_
    refine ej_th (cj_seq (cj_seq ?_))
    refine cj_regionG (gj_step (y_loadN Tryd.isAgg52 Tryd.sizeOf52 rfl) rfl rfl rfl (gj_step (y_loadN Tryd.isAgg52 Tryd.sizeOf52 rfl) rfl rfl rfl (gj_step (y_bin rfl rfl (fun x y w => ne52 _ _ _ _ _ _ x y w)) rfl rfl rfl (gj_step (y_move rfl) rfl rfl rfl (gj_g 3 69 72 rfl rfl rfl rfl (fun hg69 => gj_yes rfl rfl rfl (y_move rfl) rfl rfl (gj_yes rfl rfl rfl (y_move rfl) rfl rfl (gj_yes rfl rfl rfl (y_neq rfl rfl) rfl rfl (gj_nil rfl)))) (gj_step (y_or rfl rfl rfl) rfl rfl rfl (gj_nil ?_)))))))
    refine ej_th ?_
    refine cj_cond rfl (fun h73 => ?_) (fun h73 => ?_)
    · exact absurd h73 (by simp)
    · have h73b := h73
      try simp only [sxb] at h73
      refine cj_skip (ej_th (cj_seq ?_))
      refine cj_regionG ?_
      refine gj_step (y_loadN Tryd.isAgg52 Tryd.sizeOf52 rfl) rfl rfl rfl (gj_step (y_loadN Tryd.isAgg27 Tryd.sizeOf27 rfl) rfl rfl rfl (?_))
      refine gj_step (y_call Tryd.call28 rfl (fun w hp => by have h := k_Most (ForT rs a.cls).fr (ForT rs a.cls).fl (ForT rs a.cls).cap lo hi w; exact h)) rfl rfl rfl ?_
      refine gj_step (y_move rfl) rfl rfl rfl (gj_step (y_extract rfl rfl) rfl rfl rfl (gj_step (y_extract rfl rfl) rfl rfl rfl (gj_step (y_assign rfl) rfl rfl rfl (gj_step (y_assign rfl) rfl rfl rfl (?_)))))
      refine gj_nil ?_
      refine ej_th (cj_seq ?_)
      refine cj_regionG ?_
      refine gj_step (y_loadN Tryd.isAgg52 Tryd.sizeOf52 rfl) rfl rfl rfl (gj_step (y_loadN Tryd.isAgg27 Tryd.sizeOf27 rfl) rfl rfl rfl (?_))
      refine gj_step (y_call Tryd.call28 rfl (fun w hp => by have h := k_Most (ForT rs a.cls).fr (ForT rs a.cls).fl (ForT rs a.cls).cap lo hi w; exact h)) rfl rfl rfl ?_
      refine gj_step (y_move rfl) rfl rfl rfl (gj_step (y_extract rfl rfl) rfl rfl rfl (gj_step (y_extract rfl rfl) rfl rfl rfl (gj_step (y_assign rfl) rfl rfl rfl (gj_step (y_assign rfl) rfl rfl rfl (?_)))))
      refine gj_nil ?_
      refine ej_th (cj_seq ?_)
      refine cj_regionG ?_
      refine gj_step (y_move rfl) rfl rfl rfl (gj_step (y_move rfl) rfl rfl rfl (gj_step (y_eql rfl rfl) rfl rfl rfl (gj_step (y_move rfl) rfl rfl rfl (?_))))
      refine gj_g 3 89 92 rfl rfl rfl rfl (fun hg89 => gj_yes rfl rfl rfl (y_move rfl) rfl rfl (gj_yes rfl rfl rfl (y_move rfl) rfl rfl (gj_yes rfl rfl rfl (y_eql rfl rfl) rfl rfl (gj_nil rfl)))) ?_
      refine gj_step (y_and rfl rfl rfl) rfl rfl rfl (gj_step (y_move rfl) rfl rfl rfl (?_))
      refine gj_g 1 94 95 rfl rfl rfl rfl (fun hg94 => gj_yes rfl rfl rfl (y_call Tryd.call23 rfl (fun w hp => k_works w hp.glo)) rfl rfl (gj_nil rfl)) ?_
      refine gj_step (y_and rfl rfl rfl) rfl rfl rfl (gj_step (y_assign rfl) rfl rfl rfl (?_))
      refine gj_nil ?_
      refine ej_th (cj_ret ?_)
      exact ej_ret1 rfl Tryd.results15 rfl (fun w' hp => ⟨by first | rfl | simp, hp.below⟩)

end Go.Proofs.YtafmgkiddhappaaDoor
