/- Walks of functions of the program. -/
import Derived.Test.YtafmgkiddhappaaDoorWN
namespace Go.Proofs.YtafmgkiddhappaaDoor
open Go.Sx Go.RowKit
set_option maxRecDepth 20000
theorem k_LoanValues (sales : List Sale) (fade : List Int) (metal day few : Int) (As Af : Option Addr) (cs cf : Nat) (kind kind2 wmin wmax : Int) (w : World) (hs : Rd w 5 encSale As sales) (hf : Rd w 1 enInt Af fade) (hG : Gl w 0 WAYS) : Calls Tryd.prog 3 #[.agg #[.slice As sales.length cs, .slice Af fade.length cf, .int .i64 metal, .int .i64 day, .int .i64 few], .int .i64 kind, .agg #[.int .i64 kind2, .int .i64 wmin, .int .i64 wmax]] w (fun e w' => e = .returned (.bool true) ∧ Grow w w') := by
  refine enter_pure (args := [.agg #[.slice As sales.length cs, .slice Af fade.length cf, .int .i64 metal, .int .i64 day, .int .i64 few], .int .i64 kind, .agg #[.int .i64 kind2, .int .i64 wmin, .int .i64 wmax]]) [sl (fun b => b < w.heap.size) 5 encSale As sales, sl (fun b => b < w.heap.size) 1 enInt Af fade, gl 0 WAYS] Tryd.func3 rfl (by rw [Tryd.ntmps3]; simp) (fun g hg => by simp at hg; rcases hg with rfl | rfl | rfl; exact ⟨hs, fun _ h => h⟩; exact ⟨hf, fun _ h => h⟩; exact ⟨hG.1, fun b hb => by have : b = 0 := hb; rw [this]; exact hG.2⟩) ?_
  refine cj_seq (cj_region ?_)
  refine oj_box rfl rfl rfl (fun b3 => ?_)
  refine oj_box rfl rfl rfl (fun b5 => ?_)
  refine oj_step (y_assign rfl) rfl rfl rfl ?_
  refine oj_nil ?_
  refine ej_th (cj_seq (cj_region ?_))
  refine oj_step (y_loadN Tryd.isAgg25 Tryd.sizeOf25 rfl) rfl rfl rfl ?_
  refine oj_step (y_move rfl) rfl rfl rfl ?_
  refine oj_callS (fun A c => .tuple #[.slice A (CraftsL sales fade metal day few kind).length c, .int .i64 (CraftsE sales fade metal day few kind)]) 1 enInt (CraftsL sales fade metal day few kind) Tryd.call16 rfl (fun w hp => k_Crafts sales fade metal day few As Af cs cf kind w hp.rd hp.rd) rfl (fun A16 c16 fp16 hfp16 => ?_)
  refine oj_step (y_move rfl) rfl rfl rfl ?_
  refine oj_step (y_extract rfl rfl) rfl rfl rfl ?_
  refine oj_step (y_extract rfl rfl) rfl rfl rfl ?_
  refine oj_step (y_assign rfl) rfl rfl rfl ?_
  refine oj_step (y_assign rfl) rfl rfl rfl ?_
  refine oj_nil ?_
  refine ej_th (cj_seq (cj_region ?_))
  refine oj_step (y_loadN Tryd.isAgg25 Tryd.sizeOf25 rfl) rfl rfl rfl ?_
  refine oj_step (y_move rfl) rfl rfl rfl ?_
  refine oj_callS (fun A c => .tuple #[.slice A (CraftsL sales fade metal day few kind).length c, .int .i64 (CraftsE sales fade metal day few kind)]) 1 enInt (CraftsL sales fade metal day few kind) Tryd.call17 rfl (fun w hp => k_rCrafts sales fade metal day few As Af cs cf kind w hp.rd hp.rd) rfl (fun A22 c22 fp22 hfp22 => ?_)
  refine oj_step (y_move rfl) rfl rfl rfl ?_
  refine oj_step (y_extract rfl rfl) rfl rfl rfl ?_
  refine oj_step (y_extract rfl rfl) rfl rfl rfl ?_
  refine oj_step (y_assign rfl) rfl rfl rfl ?_
  refine oj_step (y_assign rfl) rfl rfl rfl ?_
  refine oj_nil ?_
  refine ej_th (cj_seq (cj_seq ?_))
  refine cj_draw (by kernel_rfl) (by kernel_rfl) ?_
  refine gj_step (y_move rfl) rfl rfl rfl (gj_step (y_move rfl) rfl rfl rfl (?_))
  refine gj_step (y_call Tryd.call18 rfl (fun w hp => k_Same (CraftsL sales fade metal day few kind) (CraftsL sales fade metal day few kind) A16 A22 c16 c22 w hp.rd hp.rd)) rfl rfl rfl ?_
  refine gj_step (y_not rfl) rfl rfl rfl (gj_step (y_move rfl) rfl rfl rfl (?_))
  refine gj_g 3 29 32 rfl rfl rfl rfl (fun hg29 => gj_yes rfl rfl rfl (y_move rfl) rfl rfl (gj_yes rfl rfl rfl (y_move rfl) rfl rfl (gj_yes rfl rfl rfl (y_neq rfl rfl) rfl rfl (gj_nil rfl)))) ?_
  refine gj_step (y_or rfl rfl rfl) rfl rfl rfl (gj_step (y_move rfl) rfl rfl rfl (?_))
  refine gj_g 5 34 39 rfl rfl rfl rfl (fun hg34 => gj_yes rfl rfl rfl (y_loadN Tryd.isAgg25 Tryd.sizeOf25 rfl) rfl rfl (gj_yes rfl rfl rfl (y_call Tryd.call19 rfl (fun w hp => k_CheckMarket sales fade metal day few As Af cs cf w hp.rd hp.rd)) rfl rfl (gj_yes rfl rfl rfl (y_loadN Tryd.isAgg25 Tryd.sizeOf25 rfl) rfl rfl (gj_yes rfl rfl rfl (y_call Tryd.call20 rfl (fun w hp => k_rCheckMarket sales fade metal day few As Af cs cf w hp.rd hp.rd)) rfl rfl (gj_yes rfl rfl rfl (y_neq rfl rfl) rfl rfl (gj_nil rfl)))))) ?_
  refine gj_step (y_or rfl rfl rfl) rfl rfl rfl (?_)
  refine gj_nil ?_
  refine ej_th ?_
  refine cj_cond rfl (fun h40 => ?_) (fun h40 => ?_)
  · exact absurd h40 (by simp)
  · have h40b := h40
    try simp only [sxb] at h40
    refine cj_skip (ej_th (cj_seq (cj_region ?_)))
    refine oj_step (y_loadN Tryd.isAgg25 Tryd.sizeOf25 rfl) rfl rfl rfl ?_
    refine oj_step (y_loadN Tryd.isAgg29 Tryd.sizeOf29 rfl) rfl rfl rfl ?_
    refine oj_step (y_call Tryd.call21 rfl (fun w hp => k_Value sales fade metal day few As Af cs cf kind2 wmin wmax w hp.rd hp.rd)) rfl rfl rfl ?_
    refine oj_step (y_move rfl) rfl rfl rfl ?_
    refine oj_step (y_extract rfl rfl) rfl rfl rfl ?_
    refine oj_step (y_extract rfl rfl) rfl rfl rfl ?_
    refine oj_alloc Tryd.zeroValue27 rfl rfl (fun b11 => ?_)
    refine oj_store rfl rfl rfl rfl Tryd.sizeOf27 rfl ?_
    refine oj_step (y_assign rfl) rfl rfl rfl ?_
    refine oj_nil ?_
    refine ej_th (cj_seq (cj_region ?_))
    refine oj_step (y_loadN Tryd.isAgg25 Tryd.sizeOf25 rfl) rfl rfl rfl ?_
    refine oj_step (y_loadN Tryd.isAgg29 Tryd.sizeOf29 rfl) rfl rfl rfl ?_
    refine oj_step (y_call Tryd.call22 rfl (fun w hp => k_rValue sales fade metal day few As Af cs cf kind2 wmin wmax w hp.rd hp.rd)) rfl rfl rfl ?_
    refine oj_step (y_move rfl) rfl rfl rfl ?_
    refine oj_step (y_extract rfl rfl) rfl rfl rfl ?_
    refine oj_step (y_extract rfl rfl) rfl rfl rfl ?_
    refine oj_alloc Tryd.zeroValue27 rfl rfl (fun b12 => ?_)
    refine oj_store rfl rfl rfl rfl Tryd.sizeOf27 rfl ?_
    refine oj_step (y_assign rfl) rfl rfl rfl ?_
    refine oj_nil ?_
    refine ej_th (cj_seq ?_)
    refine cj_regionG ?_
    refine gj_step (y_loadN Tryd.isAgg27 Tryd.sizeOf27 rfl) rfl rfl rfl (gj_step (y_loadN Tryd.isAgg27 Tryd.sizeOf27 rfl) rfl rfl rfl (gj_step (y_bin rfl rfl (fun x y w => eq27 _ _ _ _ x y w)) rfl rfl rfl (gj_step (y_move rfl) rfl rfl rfl (?_))))
    refine gj_g 3 56 59 rfl rfl rfl rfl (fun hg56 => gj_yes rfl rfl rfl (y_move rfl) rfl rfl (gj_yes rfl rfl rfl (y_move rfl) rfl rfl (gj_yes rfl rfl rfl (y_eql rfl rfl) rfl rfl (gj_nil rfl)))) ?_
    refine gj_step (y_and rfl rfl rfl) rfl rfl rfl (gj_step (y_move rfl) rfl rfl rfl (?_))
    refine gj_g 1 61 62 rfl rfl rfl rfl (fun hg61 => gj_yes rfl rfl rfl (y_call Tryd.call23 rfl (fun w hp => k_works w hp.glo)) rfl rfl (gj_nil rfl)) ?_
    refine gj_step (y_and rfl rfl rfl) rfl rfl rfl (gj_step (y_assign rfl) rfl rfl rfl (?_))
    refine gj_nil ?_
    refine ej_th (cj_ret ?_)
    exact ej_ret1 rfl Tryd.results3 rfl (fun w' hp => ⟨by simp, hp.below⟩)

end Go.Proofs.YtafmgkiddhappaaDoor
