/- Walks of functions of the program. -/
import Derived.Test.YtafmgkiddhappaaDoorWE
import Derived.Test.YtafmgkiddhappaaDoorPF
namespace Go.Proofs.YtafmgkiddhappaaDoor
open Go.Sx Go.RowKit
set_option maxRecDepth 20000
theorem k_Crafts (sales : List Sale) (fade : List Int) (metal day few : Int) (As Af : Option Addr) (cs cf : Nat) (kind : Int) (w : World) (hs : Rd w 5 encSale As sales) (hf : Rd w 1 enInt Af fade) : Calls Tryd.prog 16 #[.agg #[.slice As sales.length cs, .slice Af fade.length cf, .int .i64 metal, .int .i64 day, .int .i64 few], .int .i64 kind] w (fun e w' => ∃ A c, e = .returned (.tuple #[.slice A (CraftsL sales fade metal day few kind).length c, .int .i64 (CraftsE sales fade metal day few kind)]) ∧ Grow w w' ∧ Res w w' 1 enInt A (CraftsL sales fade metal day few kind)) := by
  have hlen := hs.len
  have hlenf := hf.len
  refine enter_pure (args := [.agg #[.slice As sales.length cs, .slice Af fade.length cf, .int .i64 metal, .int .i64 day, .int .i64 few], .int .i64 kind]) [sl (fun b => b < w.heap.size) 5 encSale As sales, sl (fun b => b < w.heap.size) 1 enInt Af fade] Tryd.func16 rfl (by rw [Tryd.ntmps16]; simp) (fun g hg => by simp at hg; rcases hg with rfl | rfl; exact ⟨hs, fun _ h => h⟩; exact ⟨hf, fun _ h => h⟩) ?_
  refine cj_seq (cj_region ?_)
  refine oj_box rfl rfl rfl (fun b2 => ?_)
  refine oj_step (y_assign rfl) rfl rfl rfl ?_
  refine oj_step (y_assign rfl) rfl rfl rfl ?_
  refine oj_nil ?_
  refine ej_th (cj_seq (cj_seq ?_))
  refine cj_regionG ?_
  refine gj_step (y_loadN Tryd.isAgg25 Tryd.sizeOf25 rfl) rfl rfl rfl (?_)
  refine gj_step (y_call Tryd.call19 rfl (fun w hp => k_CheckMarket _ _ _ _ _ _ _ _ _ w hp.rd hp.rd)) rfl rfl rfl ?_
  refine gj_step (y_assign rfl) rfl rfl rfl (?_)
  refine gj_nil ?_
  refine ej_th (cj_seq ?_)
  refine cj_regionG (gj_step (y_move rfl) rfl rfl rfl (gj_step (y_neq rfl rfl) rfl rfl rfl (gj_nil ?_)))
  refine ej_th ?_
  refine cj_cond rfl (fun h10 => ?_) (fun h10 => ?_)
  · have h10b := h10
    try simp only [sxb] at h10
    rw [errM_ne] at h10
    refine cj_seq ?_
    refine cj_regionG (gj_step (y_move rfl) rfl rfl rfl (gj_step (y_assign rfl) rfl rfl rfl (gj_step (y_assign rfl) rfl rfl rfl (gj_nil ?_))))
    refine ej_th (cj_ret (ej_then_ret ?_))
    have h1 : CraftsL sales fade metal day few kind = [] := by simp [CraftsL, h10]
    have h2 : CraftsE sales fade metal day few kind = 20 := by simp [CraftsE, h10]
    rw [h1, h2]
    exact ej_ret2 rfl Tryd.results16 rfl rfl (fun w' hp => ⟨none, 0, by rw [h10]; rfl, hp.below, Res.nil⟩)
  · have h10b := h10
    try simp only [sxb] at h10
    rw [errM_eq] at h10
    have hb := h10
    refine cj_skip (ej_th (cj_seq (cj_seq ?_)))
    refine cj_regionG ?_
    refine gj_step (y_move rfl) rfl rfl rfl (gj_step (y_fa fa25_1 rfl) rfl rfl rfl (gj_step (y_load1 Tryd.isAgg23 rfl rfl) rfl rfl rfl (gj_step (y_lenA Tryd.underlying23 rfl) rfl rfl rfl (gj_step (y_sub rfl rfl (by omega)) rfl rfl rfl (?_)))))
    refine gj_step (y_call Tryd.call54 rfl (fun w hp => k_within _ _ _ w)) rfl rfl rfl ?_
    refine gj_step (y_not rfl) rfl rfl rfl (?_)
    refine gj_nil ?_
    refine ej_th ?_
    refine cj_cond rfl (fun h18 => ?_) (fun h18 => ?_)
    · have h18b := h18
      try simp only [sxb] at h18
      have hk : btw 0 kind (fade.length - 1) = false := not_t h18b
      refine cj_seq ?_
      refine cj_regionG (gj_step (y_assign rfl) rfl rfl rfl (gj_step (y_assign rfl) rfl rfl rfl (gj_nil ?_)))
      refine ej_th (cj_ret (ej_then_ret ?_))
      have h1 : CraftsL sales fade metal day few kind = [] := by simp [CraftsL, hb, hk]
      have h2 : CraftsE sales fade metal day few kind = 7 := by simp [CraftsE, hb, hk]
      rw [h1, h2]
      exact ej_ret2 rfl Tryd.results16 rfl rfl (fun w' hp => ⟨none, 0, rfl, hp.below, Res.nil⟩)
    · have h18b := h18
      try simp only [sxb] at h18
      have hk : btw 0 kind (fade.length - 1) = true := not_f h18b
      refine cj_skip (ej_th (cj_seq (cj_region ?_)))
      refine oj_step (y_loadN Tryd.isAgg25 Tryd.sizeOf25 rfl) rfl rfl rfl ?_
      refine oj_step (y_build st110 rfl rfl) rfl rfl rfl ?_
      refine oj_step (y_move rfl) rfl rfl rfl ?_
      refine oj_callS (fun A c => .slice A (craftsOf sales fade day kind).length c) 1 enInt (craftsOf sales fade day kind) Tryd.call55 rfl (fun w hp => k_crafts sales fade metal day few As Af cs cf kind w hp.rd hp.rd hb) rfl (fun A22 c22 fp22 hfp22 => ?_)
      refine oj_step (y_assign rfl) rfl rfl rfl ?_
      refine oj_step (y_assign rfl) rfl rfl rfl ?_
      refine oj_nil ?_
      refine ej_th (cj_ret ?_)
      have h1 : CraftsL sales fade metal day few kind = craftsOf sales fade day kind := by simp [CraftsL, hb, hk]
      have h2 : CraftsE sales fade metal day few kind = 0 := by simp [CraftsE, hb, hk]
      rw [h1, h2]
      exact ej_ret2 rfl Tryd.results16 rfl rfl (fun w' hp => ⟨A22, c22, rfl, hp.below, hp.resS hfp22⟩)

theorem k_rCrafts (sales : List Sale) (fade : List Int) (metal day few : Int) (As Af : Option Addr) (cs cf : Nat) (kind : Int) (w : World) (hs : Rd w 5 encSale As sales) (hf : Rd w 1 enInt Af fade) : Calls Tryd.prog 17 #[.agg #[.slice As sales.length cs, .slice Af fade.length cf, .int .i64 metal, .int .i64 day, .int .i64 few], .int .i64 kind] w (fun e w' => ∃ A c, e = .returned (.tuple #[.slice A (CraftsL sales fade metal day few kind).length c, .int .i64 (CraftsE sales fade metal day few kind)]) ∧ Grow w w' ∧ Res w w' 1 enInt A (CraftsL sales fade metal day few kind)) := by
  have hlen := hs.len
  have hlenf := hf.len
  refine enter_pure (args := [.agg #[.slice As sales.length cs, .slice Af fade.length cf, .int .i64 metal, .int .i64 day, .int .i64 few], .int .i64 kind]) [sl (fun b => b < w.heap.size) 5 encSale As sales, sl (fun b => b < w.heap.size) 1 enInt Af fade] Tryd.func17 rfl (by rw [Tryd.ntmps17]; simp) (fun g hg => by simp at hg; rcases hg with rfl | rfl; exact ⟨hs, fun _ h => h⟩; exact ⟨hf, fun _ h => h⟩) ?_
  refine cj_seq (cj_region ?_)
  refine oj_box rfl rfl rfl (fun b2 => ?_)
  refine oj_step (y_assign rfl) rfl rfl rfl ?_
  refine oj_step (y_assign rfl) rfl rfl rfl ?_
  refine oj_nil ?_
  refine ej_th (cj_seq (cj_seq ?_))
  refine cj_regionG ?_
  refine gj_step (y_loadN Tryd.isAgg25 Tryd.sizeOf25 rfl) rfl rfl rfl (?_)
  refine gj_step (y_call Tryd.call20 rfl (fun w hp => k_rCheckMarket _ _ _ _ _ _ _ _ _ w hp.rd hp.rd)) rfl rfl rfl ?_
  refine gj_step (y_assign rfl) rfl rfl rfl (?_)
  refine gj_nil ?_
  refine ej_th (cj_seq ?_)
  refine cj_regionG (gj_step (y_move rfl) rfl rfl rfl (gj_step (y_neq rfl rfl) rfl rfl rfl (gj_nil ?_)))
  refine ej_th ?_
  refine cj_cond rfl (fun h10 => ?_) (fun h10 => ?_)
  · have h10b := h10
    try simp only [sxb] at h10
    rw [errM_ne] at h10
    refine cj_seq ?_
    refine cj_regionG (gj_step (y_move rfl) rfl rfl rfl (gj_step (y_assign rfl) rfl rfl rfl (gj_step (y_assign rfl) rfl rfl rfl (gj_nil ?_))))
    refine ej_th (cj_ret (ej_then_ret ?_))
    have h1 : CraftsL sales fade metal day few kind = [] := by simp [CraftsL, h10]
    have h2 : CraftsE sales fade metal day few kind = 20 := by simp [CraftsE, h10]
    rw [h1, h2]
    exact ej_ret2 rfl Tryd.results17 rfl rfl (fun w' hp => ⟨none, 0, by rw [h10]; rfl, hp.below, Res.nil⟩)
  · have h10b := h10
    try simp only [sxb] at h10
    rw [errM_eq] at h10
    have hb := h10
    refine cj_skip (ej_th (cj_seq (cj_seq ?_)))
    refine cj_regionG ?_
    refine gj_step (y_move rfl) rfl rfl rfl (gj_step (y_fa fa25_1 rfl) rfl rfl rfl (gj_step (y_load1 Tryd.isAgg23 rfl rfl) rfl rfl rfl (gj_step (y_lenA Tryd.underlying23 rfl) rfl rfl rfl (gj_step (y_sub rfl rfl (by omega)) rfl rfl rfl (?_)))))
    refine gj_step (y_call Tryd.call26 rfl (fun w hp => k_From _ _ _ w)) rfl rfl rfl ?_
    refine gj_step (y_not rfl) rfl rfl rfl (?_)
    refine gj_nil ?_
    refine ej_th ?_
    refine cj_cond rfl (fun h18 => ?_) (fun h18 => ?_)
    · have h18b := h18
      try simp only [sxb] at h18
      have hk : btw 0 kind (fade.length - 1) = false := not_t h18b
      refine cj_seq ?_
      refine cj_regionG (gj_step (y_assign rfl) rfl rfl rfl (gj_step (y_assign rfl) rfl rfl rfl (gj_nil ?_)))
      refine ej_th (cj_ret (ej_then_ret ?_))
      have h1 : CraftsL sales fade metal day few kind = [] := by simp [CraftsL, hb, hk]
      have h2 : CraftsE sales fade metal day few kind = 7 := by simp [CraftsE, hb, hk]
      rw [h1, h2]
      exact ej_ret2 rfl Tryd.results17 rfl rfl (fun w' hp => ⟨none, 0, rfl, hp.below, Res.nil⟩)
    · have h18b := h18
      try simp only [sxb] at h18
      have hk : btw 0 kind (fade.length - 1) = true := not_f h18b
      refine cj_skip (ej_th (cj_seq (cj_region ?_)))
      refine oj_step (y_loadN Tryd.isAgg25 Tryd.sizeOf25 rfl) rfl rfl rfl ?_
      refine oj_step (y_move rfl) rfl rfl rfl ?_
      refine oj_callS (fun A c => .slice A (craftsOf sales fade day kind).length c) 1 enInt (craftsOf sales fade day kind) Tryd.call56 rfl (fun w hp => k_rcrafts sales fade metal day few As Af cs cf kind w hp.rd hp.rd hb) rfl (fun A21 c21 fp21 hfp21 => ?_)
      refine oj_step (y_assign rfl) rfl rfl rfl ?_
      refine oj_step (y_assign rfl) rfl rfl rfl ?_
      refine oj_nil ?_
      refine ej_th (cj_ret ?_)
      have h1 : CraftsL sales fade metal day few kind = craftsOf sales fade day kind := by simp [CraftsL, hb, hk]
      have h2 : CraftsE sales fade metal day few kind = 0 := by simp [CraftsE, hb, hk]
      rw [h1, h2]
      exact ej_ret2 rfl Tryd.results17 rfl rfl (fun w' hp => ⟨A21, c21, rfl, hp.below, hp.resS hfp21⟩)

theorem k_Value (sales : List Sale) (fade : List Int) (metal day few : Int) (As Af : Option Addr) (cs cf : Nat) (kind wmin wmax : Int) (w : World) (hs : Rd w 5 encSale As sales) (hf : Rd w 1 enInt Af fade) : Calls Tryd.prog 21 #[.agg #[.slice As sales.length cs, .slice Af fade.length cf, .int .i64 metal, .int .i64 day, .int .i64 few], .agg #[.int .i64 kind, .int .i64 wmin, .int .i64 wmax]] w (fun e w' => e = .returned (.tuple #[.agg #[.int .i64 (valueOf sales fade metal day few kind wmin wmax).lo, .int .i64 (valueOf sales fade metal day few kind wmin wmax).hi], .int .i64 (valueOf sales fade metal day few kind wmin wmax).err]) ∧ Grow w w') := by
  have hlen := hs.len
  have hlenf := hf.len
  refine enter_pure (args := [.agg #[.slice As sales.length cs, .slice Af fade.length cf, .int .i64 metal, .int .i64 day, .int .i64 few], .agg #[.int .i64 kind, .int .i64 wmin, .int .i64 wmax]]) [sl (fun b => b < w.heap.size) 5 encSale As sales, sl (fun b => b < w.heap.size) 1 enInt Af fade] Tryd.func21 rfl (by rw [Tryd.ntmps21]; simp) (fun g hg => by simp at hg; rcases hg with rfl | rfl; exact ⟨hs, fun _ h => h⟩; exact ⟨hf, fun _ h => h⟩) ?_
  refine cj_seq (cj_region ?_)
  refine oj_box rfl rfl rfl (fun b2 => ?_)
  refine oj_box rfl rfl rfl (fun b3 => ?_)
  refine oj_alloc Tryd.zeroValue27 rfl rfl (fun b4 => ?_)
  refine oj_step (y_assign rfl) rfl rfl rfl ?_
  refine oj_nil ?_
  refine ej_th (cj_seq (cj_seq ?_))
  refine cj_regionG ?_
  refine gj_step (y_loadN Tryd.isAgg25 Tryd.sizeOf25 rfl) rfl rfl rfl (?_)
  refine gj_step (y_call Tryd.call19 rfl (fun w hp => k_CheckMarket _ _ _ _ _ _ _ _ _ w hp.rd hp.rd)) rfl rfl rfl ?_
  refine gj_step (y_assign rfl) rfl rfl rfl (?_)
  refine gj_nil ?_
  refine ej_th (cj_seq ?_)
  refine cj_regionG (gj_step (y_move rfl) rfl rfl rfl (gj_step (y_neq rfl rfl) rfl rfl rfl (gj_nil ?_)))
  refine ej_th ?_
  refine cj_cond rfl (fun h12 => ?_) (fun h12 => ?_)
  · have h12b := h12
    try simp only [sxb] at h12
    rw [errM_ne] at h12
    refine cj_seq (cj_region ?_)
    refine oj_step (y_build st27 rfl rfl) rfl rfl rfl ?_
    refine oj_step (y_move rfl) rfl rfl rfl ?_
    refine oj_store rfl rfl rfl rfl Tryd.sizeOf27 rfl ?_
    refine oj_step (y_assign rfl) rfl rfl rfl ?_
    refine oj_nil ?_
    refine ej_th (cj_ret (ej_then_ret ?_))
    have hv : valueOf sales fade metal day few kind wmin wmax = ⟨0, 0, 20⟩ := by simp [valueOf, h12]
    rw [hv, h12]
    exact ej_retC2 rfl Tryd.results21 rfl (y_loadN Tryd.isAgg27 Tryd.sizeOf27 rfl) rfl (fun w' hp => ⟨rfl, hp.below⟩)
  · have h12b := h12
    try simp only [sxb] at h12
    rw [errM_eq] at h12
    have hb := h12
    obtain ⟨hfa, hfl, hme, hda, hfe, hsl, hsa⟩ := badMarket_parts hb
    refine cj_skip (ej_th (cj_seq (cj_seq ?_)))
    refine cj_regionG ?_
    refine gj_step (y_fa0 fa29_0 rfl) rfl rfl rfl (gj_step (y_load1 Tryd.isAgg3 rfl rfl) rfl rfl rfl (gj_step (y_fa fa25_1 rfl) rfl rfl rfl (gj_step (y_load1 Tryd.isAgg23 rfl rfl) rfl rfl rfl (gj_step (y_lenA Tryd.underlying23 rfl) rfl rfl rfl (gj_step (y_sub rfl rfl (by omega)) rfl rfl rfl (?_))))))
    refine gj_step (y_call Tryd.call54 rfl (fun w hp => k_within _ _ _ w)) rfl rfl rfl ?_
    refine gj_step (y_not rfl) rfl rfl rfl (gj_step (y_move rfl) rfl rfl rfl (?_))
    refine gj_g 4 23 27 rfl rfl rfl rfl (fun hg23 => gj_yes rfl rfl rfl (y_fa fa29_1 rfl) rfl rfl (gj_yes rfl rfl rfl (y_loadN Tryd.isAgg27 Tryd.sizeOf27 rfl) rfl rfl (gj_yes rfl rfl rfl (y_call Tryd.call61 rfl (fun w hp => k_span _ _ _ w)) rfl rfl (gj_yes rfl rfl rfl (y_not rfl) rfl rfl (gj_nil rfl))))) ?_
    refine gj_step (y_or rfl rfl rfl) rfl rfl rfl (?_)
    refine gj_nil ?_
    refine ej_th ?_
    refine cj_cond rfl (fun h28 => ?_) (fun h28 => ?_)
    · have h28b := h28
      try simp only [sxb] at h28
      have hw : badWare fade.length kind wmin wmax = true := h28b
      refine cj_seq (cj_region ?_)
      refine oj_step (y_build st27 rfl rfl) rfl rfl rfl ?_
      refine oj_store rfl rfl rfl rfl Tryd.sizeOf27 rfl ?_
      refine oj_step (y_assign rfl) rfl rfl rfl ?_
      refine oj_nil ?_
      refine ej_th (cj_ret (ej_then_ret ?_))
      have hv : valueOf sales fade metal day few kind wmin wmax = ⟨0, 0, 21⟩ := by simp [valueOf, hb, hw]
      rw [hv]
      exact ej_retC2 rfl Tryd.results21 rfl (y_loadN Tryd.isAgg27 Tryd.sizeOf27 rfl) rfl (fun w' hp => ⟨rfl, hp.below⟩)
    · have h28b := h28
      try simp only [sxb] at h28
      have hw : badWare fade.length kind wmin wmax = false := h28b
      obtain ⟨hk, hww⟩ := badWare_no hw
      have hm1 := mul_bd hme (show 0 ≤ wmin ∧ wmin ≤ 1000 by omega)
      have hm2 := mul_bd hme (show 0 ≤ wmax ∧ wmax ≤ 1000 by omega)
      have hg := getD_bd (craftsOf_bd kind hsa hfa) (by omega)
      have hcl := craftsOf_len sales fade day kind
      refine cj_skip (ej_th (cj_seq (cj_region ?_)))
      refine oj_step (y_loadN Tryd.isAgg25 Tryd.sizeOf25 rfl) rfl rfl rfl ?_
      refine oj_step (y_build st110 rfl rfl) rfl rfl rfl ?_
      refine oj_step (y_fa0 fa29_0 rfl) rfl rfl rfl ?_
      refine oj_step (y_load1 Tryd.isAgg3 rfl rfl) rfl rfl rfl ?_
      refine oj_callS (fun A c => .slice A (craftsOf sales fade day kind).length c) 1 enInt (craftsOf sales fade day kind) Tryd.call55 rfl (fun w hp => k_crafts sales fade metal day few As Af cs cf kind w hp.rd hp.rd hb) rfl (fun A34 c34 fp34 hfp34 => ?_)
      refine oj_step (y_assign rfl) rfl rfl rfl ?_
      refine oj_nil ?_
      refine ej_th (cj_seq (cj_seq ?_))
      refine cj_regionG (gj_step (y_move rfl) rfl rfl rfl (gj_step (y_lenA Tryd.underlying23 rfl) rfl rfl rfl (gj_step (y_fa fa25_4 rfl) rfl rfl rfl (gj_step (y_load1 Tryd.isAgg3 rfl rfl) rfl rfl rfl (gj_step (y_lss rfl rfl) rfl rfl rfl (gj_nil ?_))))))
      refine ej_th ?_
      refine cj_cond rfl (fun h39 => ?_) (fun h39 => ?_)
      · have h39b := h39
        try simp only [sxb] at h39
        refine cj_seq (cj_region ?_)
        refine oj_step (y_build st27 rfl rfl) rfl rfl rfl ?_
        refine oj_store rfl rfl rfl rfl Tryd.sizeOf27 rfl ?_
        refine oj_step (y_assign rfl) rfl rfl rfl ?_
        refine oj_nil ?_
        refine ej_th (cj_ret (ej_then_ret ?_))
        have hv : valueOf sales fade metal day few kind wmin wmax = ⟨0, 0, 4⟩ := by simp [valueOf, hb, hw, h39]
        rw [hv]
        exact ej_retC2 rfl Tryd.results21 rfl (y_loadN Tryd.isAgg27 Tryd.sizeOf27 rfl) rfl (fun w' hp => ⟨rfl, hp.below⟩)
      · have h39b := h39
        try simp only [sxb] at h39
        refine cj_skip (ej_th (cj_seq ?_))
        refine cj_regionG (gj_step (y_move rfl) rfl rfl rfl (gj_step (y_lenA Tryd.underlying23 rfl) rfl rfl rfl (gj_step (y_sub rfl rfl (by omega)) rfl rfl rfl (gj_step (y_quo rfl rfl (⟨by omega, by omega, by omega⟩)) rfl rfl rfl (gj_step (y_assign rfl) rfl rfl rfl (gj_nil ?_))))))
        refine ej_th (cj_seq ?_)
        refine cj_plan 29 (by kernel_rfl) (by kernel_rfl) ?_
        refine pl_y 0 rfl (y_move rfl) rfl rfl rfl rfl (by kernel_rfl) ?_
        refine pl_y 1 rfl (y_move rfl) rfl rfl rfl rfl (by kernel_rfl) ?_
        refine pl_y 2 rfl (y_ixR (reads_sl) Tryd.underlying23 Tryd.sizeOf3 rfl rfl (⟨by omega, by omega⟩)) rfl rfl rfl rfl (by kernel_rfl) ?_
        refine pl_y 3 rfl (y_ld0 (reads_sl) Tryd.isAgg3 rfl (geq 0 (by omega)) rfl) rfl rfl rfl rfl (by kernel_rfl) ?_
        refine pl_y 4 rfl (y_fa fa25_2 rfl) rfl rfl rfl rfl (by kernel_rfl) ?_
        refine pl_y 5 rfl (y_load1 Tryd.isAgg3 rfl rfl) rfl rfl rfl rfl (by kernel_rfl) ?_
        refine pl_y 6 rfl (y_fa fa29_1 rfl) rfl rfl rfl rfl (by kernel_rfl) ?_
        refine pl_y 7 rfl (y_fa0 fa27_0 rfl) rfl rfl rfl rfl (by kernel_rfl) ?_
        refine pl_y 8 rfl (y_load1 Tryd.isAgg3 rfl rfl) rfl rfl rfl rfl (by kernel_rfl) ?_
        refine pl_y 9 rfl (y_mul rfl rfl (by omega)) rfl rfl rfl rfl (by kernel_rfl) ?_
        refine pl_y 10 rfl (y_add rfl rfl (by have := hg ((((craftsOf sales fade day kind).length : Int) - 1) / 4).toNat; omega)) rfl rfl rfl rfl (by kernel_rfl) ?_
        refine pl_y 11 rfl (y_move rfl) rfl rfl rfl rfl (by kernel_rfl) ?_
        refine pl_y 12 rfl (y_move rfl) rfl rfl rfl rfl (by kernel_rfl) ?_
        refine pl_y 13 rfl (y_lenA Tryd.underlying23 rfl) rfl rfl rfl rfl (by kernel_rfl) ?_
        refine pl_y 14 rfl (y_sub rfl rfl (by omega)) rfl rfl rfl rfl (by kernel_rfl) ?_
        refine pl_y 15 rfl (y_move rfl) rfl rfl rfl rfl (by kernel_rfl) ?_
        refine pl_y 16 rfl (y_sub rfl rfl (by omega)) rfl rfl rfl rfl (by kernel_rfl) ?_
        refine pl_y 17 rfl (y_ixR (reads_sl) Tryd.underlying23 Tryd.sizeOf3 rfl rfl (⟨by omega, by omega⟩)) rfl rfl rfl rfl (by kernel_rfl) ?_
        refine pl_y 18 rfl (y_ld0 (reads_sl) Tryd.isAgg3 rfl (geq 0 (by omega)) rfl) rfl rfl rfl rfl (by kernel_rfl) ?_
        refine pl_y 19 rfl (y_fa fa25_2 rfl) rfl rfl rfl rfl (by kernel_rfl) ?_
        refine pl_y 20 rfl (y_load1 Tryd.isAgg3 rfl rfl) rfl rfl rfl rfl (by kernel_rfl) ?_
        refine pl_y 21 rfl (y_fa fa29_1 rfl) rfl rfl rfl rfl (by kernel_rfl) ?_
        refine pl_y 22 rfl (y_fa fa27_1 rfl) rfl rfl rfl rfl (by kernel_rfl) ?_
        refine pl_y 23 rfl (y_load1 Tryd.isAgg3 rfl rfl) rfl rfl rfl rfl (by kernel_rfl) ?_
        refine pl_y 24 rfl (y_mul rfl rfl (by omega)) rfl rfl rfl rfl (by kernel_rfl) ?_
        refine pl_y 25 rfl (y_add rfl rfl (by have := hg (((craftsOf sales fade day kind).length : Int) - 1 - (((craftsOf sales fade day kind).length : Int) - 1) / 4).toNat; omega)) rfl rfl rfl rfl (by kernel_rfl) ?_
        refine pl_y 26 rfl (y_build (cs := [.int .i64 (((craftsOf sales fade day kind).getD ((((craftsOf sales fade day kind).length : Int) - 1) / 4).toNat 0) + metal * wmin), .int .i64 (((craftsOf sales fade day kind).getD (((craftsOf sales fade day kind).length : Int) - 1 - (((craftsOf sales fade day kind).length : Int) - 1) / 4).toNat 0) + metal * wmax)]) st27 rfl (by kernel_rfl)) rfl rfl rfl rfl (by kernel_rfl) ?_
        refine pl_w1 27 (by kernel_rfl) rfl rfl (pl_fire rfl rfl rfl (by kernel_rfl) ?_)
        refine oj_store rfl rfl rfl rfl Tryd.sizeOf27 rfl ?_
        refine oj_nil ?_
        refine ej_pl (lt_w (by kernel_rfl) (lt_w (by kernel_rfl) (lt_w (by kernel_rfl) (lt_w (by kernel_rfl) (lt_w (by kernel_rfl) (lt_w (by kernel_rfl) (lt_w (by kernel_rfl) (lt_w (by kernel_rfl) (lt_w (by kernel_rfl) (lt_w (by kernel_rfl) (lt_w (by kernel_rfl) (lt_w (by kernel_rfl) (lt_w (by kernel_rfl) (lt_w (by kernel_rfl) (lt_w (by kernel_rfl) (lt_w (by kernel_rfl) (lt_w (by kernel_rfl) (lt_w (by kernel_rfl) (lt_w (by kernel_rfl) (lt_w (by kernel_rfl) (lt_w (by kernel_rfl) (lt_w (by kernel_rfl) (lt_w (by kernel_rfl) (lt_w (by kernel_rfl) (lt_w (by kernel_rfl) (lt_w (by kernel_rfl) (lt_w (by kernel_rfl) (lt_nil)))))))))))))))))))))))))))) ?_
        refine pl_y 28 rfl (y_assign rfl) rfl rfl rfl rfl (by kernel_rfl) ?_
        refine pl_end (by kernel_rfl) ?_
        refine ej_th (cj_ret ?_)
        have hv : valueOf sales fade metal day few kind wmin wmax = midOf (craftsOf sales fade day kind) metal wmin wmax := by simp only [valueOf, hb, hw, Bool.false_eq_true, if_false]; rw [if_neg (by omega)]
        rw [hv]
        exact ej_retC2 rfl Tryd.results21 rfl (y_loadN Tryd.isAgg27 Tryd.sizeOf27 rfl) rfl (fun w' hp => ⟨rfl, hp.below⟩)

theorem k_rValue (sales : List Sale) (fade : List Int) (metal day few : Int) (As Af : Option Addr) (cs cf : Nat) (kind wmin wmax : Int) (w : World) (hs : Rd w 5 encSale As sales) (hf : Rd w 1 enInt Af fade) : Calls Tryd.prog 22 #[.agg #[.slice As sales.length cs, .slice Af fade.length cf, .int .i64 metal, .int .i64 day, .int .i64 few], .agg #[.int .i64 kind, .int .i64 wmin, .int .i64 wmax]] w (fun e w' => e = .returned (.tuple #[.agg #[.int .i64 (valueOf sales fade metal day few kind wmin wmax).lo, .int .i64 (valueOf sales fade metal day few kind wmin wmax).hi], .int .i64 (valueOf sales fade metal day few kind wmin wmax).err]) ∧ Grow w w') := by
  have hlen := hs.len
  have hlenf := hf.len
  refine enter_pure (args := [.agg #[.slice As sales.length cs, .slice Af fade.length cf, .int .i64 metal, .int .i64 day, .int .i64 few], .agg #[.int .i64 kind, .int .i64 wmin, .int .i64 wmax]]) [sl (fun b => b < w.heap.size) 5 encSale As sales, sl (fun b => b < w.heap.size) 1 enInt Af fade] Tryd.func22 rfl (by rw [Tryd.ntmps22]; simp) (fun g hg => by simp at hg; rcases hg with rfl | rfl; exact ⟨hs, fun _ h => h⟩; exact ⟨hf, fun _ h => h⟩) ?_
  refine cj_seq (cj_region ?_)
  refine oj_box rfl rfl rfl (fun b2 => ?_)
  refine oj_box rfl rfl rfl (fun b3 => ?_)
  refine oj_alloc Tryd.zeroValue27 rfl rfl (fun b4 => ?_)
  refine oj_step (y_assign rfl) rfl rfl rfl ?_
  refine oj_nil ?_
  refine ej_th (cj_seq (cj_seq ?_))
  refine cj_regionG ?_
  refine gj_step (y_loadN Tryd.isAgg25 Tryd.sizeOf25 rfl) rfl rfl rfl (?_)
  refine gj_step (y_call Tryd.call20 rfl (fun w hp => k_rCheckMarket _ _ _ _ _ _ _ _ _ w hp.rd hp.rd)) rfl rfl rfl ?_
  refine gj_step (y_assign rfl) rfl rfl rfl (?_)
  refine gj_nil ?_
  refine ej_th (cj_seq ?_)
  refine cj_regionG (gj_step (y_move rfl) rfl rfl rfl (gj_step (y_neq rfl rfl) rfl rfl rfl (gj_nil ?_)))
  refine ej_th ?_
  refine cj_cond rfl (fun h12 => ?_) (fun h12 => ?_)
  · have h12b := h12
    try simp only [sxb] at h12
    rw [errM_ne] at h12
    refine cj_seq (cj_region ?_)
    refine oj_step (y_build st27 rfl rfl) rfl rfl rfl ?_
    refine oj_step (y_move rfl) rfl rfl rfl ?_
    refine oj_store rfl rfl rfl rfl Tryd.sizeOf27 rfl ?_
    refine oj_step (y_assign rfl) rfl rfl rfl ?_
    refine oj_nil ?_
    refine ej_th (cj_ret (ej_then_ret ?_))
    have hv : valueOf sales fade metal day few kind wmin wmax = ⟨0, 0, 20⟩ := by simp [valueOf, h12]
    rw [hv, h12]
    exact ej_retC2 rfl Tryd.results22 rfl (y_loadN Tryd.isAgg27 Tryd.sizeOf27 rfl) rfl (fun w' hp => ⟨rfl, hp.below⟩)
  · have h12b := h12
    try simp only [sxb] at h12
    rw [errM_eq] at h12
    have hb := h12
    obtain ⟨hfa, hfl, hme, hda, hfe, hsl, hsa⟩ := badMarket_parts hb
    refine cj_skip (ej_th (cj_seq (cj_seq ?_)))
    refine cj_regionG ?_
    refine gj_step (y_fa0 fa29_0 rfl) rfl rfl rfl (gj_step (y_load1 Tryd.isAgg3 rfl rfl) rfl rfl rfl (gj_step (y_fa fa25_1 rfl) rfl rfl rfl (gj_step (y_load1 Tryd.isAgg23 rfl rfl) rfl rfl rfl (gj_step (y_lenA Tryd.underlying23 rfl) rfl rfl rfl (gj_step (y_sub rfl rfl (by omega)) rfl rfl rfl (?_))))))
    refine gj_step (y_call Tryd.call26 rfl (fun w hp => k_From _ _ _ w)) rfl rfl rfl ?_
    refine gj_step (y_not rfl) rfl rfl rfl (gj_step (y_move rfl) rfl rfl rfl (?_))
    refine gj_g 4 23 27 rfl rfl rfl rfl (fun hg23 => gj_yes rfl rfl rfl (y_fa fa29_1 rfl) rfl rfl (gj_yes rfl rfl rfl (y_loadN Tryd.isAgg27 Tryd.sizeOf27 rfl) rfl rfl (gj_yes rfl rfl rfl (y_call Tryd.call62 rfl (fun w hp => k_rspan _ _ _ _ w)) rfl rfl (gj_yes rfl rfl rfl (y_not rfl) rfl rfl (gj_nil rfl))))) ?_
    refine gj_step (y_or rfl rfl rfl) rfl rfl rfl (?_)
    refine gj_nil ?_
    refine ej_th ?_
    refine cj_cond rfl (fun h28 => ?_) (fun h28 => ?_)
    · have h28b := h28
      try simp only [sxb] at h28
      have hw : badWare fade.length kind wmin wmax = true := h28b
      refine cj_seq (cj_region ?_)
      refine oj_step (y_build st27 rfl rfl) rfl rfl rfl ?_
      refine oj_store rfl rfl rfl rfl Tryd.sizeOf27 rfl ?_
      refine oj_step (y_assign rfl) rfl rfl rfl ?_
      refine oj_nil ?_
      refine ej_th (cj_ret (ej_then_ret ?_))
      have hv : valueOf sales fade metal day few kind wmin wmax = ⟨0, 0, 21⟩ := by simp [valueOf, hb, hw]
      rw [hv]
      exact ej_retC2 rfl Tryd.results22 rfl (y_loadN Tryd.isAgg27 Tryd.sizeOf27 rfl) rfl (fun w' hp => ⟨rfl, hp.below⟩)
    · have h28b := h28
      try simp only [sxb] at h28
      have hw : badWare fade.length kind wmin wmax = false := h28b
      obtain ⟨hk, hww⟩ := badWare_no hw
      have hm1 := mul_bd hme (show 0 ≤ wmin ∧ wmin ≤ 1000 by omega)
      have hm2 := mul_bd hme (show 0 ≤ wmax ∧ wmax ≤ 1000 by omega)
      have hg := getD_bd (craftsOf_bd kind hsa hfa) (by omega)
      have hcl := craftsOf_len sales fade day kind
      refine cj_skip (ej_th (cj_seq (cj_region ?_)))
      refine oj_step (y_loadN Tryd.isAgg25 Tryd.sizeOf25 rfl) rfl rfl rfl ?_
      refine oj_step (y_fa0 fa29_0 rfl) rfl rfl rfl ?_
      refine oj_step (y_load1 Tryd.isAgg3 rfl rfl) rfl rfl rfl ?_
      refine oj_callS (fun A c => .slice A (craftsOf sales fade day kind).length c) 1 enInt (craftsOf sales fade day kind) Tryd.call56 rfl (fun w hp => k_rcrafts sales fade metal day few As Af cs cf kind w hp.rd hp.rd hb) rfl (fun A33 c33 fp33 hfp33 => ?_)
      refine oj_step (y_assign rfl) rfl rfl rfl ?_
      refine oj_nil ?_
      refine ej_th (cj_seq (cj_seq ?_))
      refine cj_regionG (gj_step (y_move rfl) rfl rfl rfl (gj_step (y_lenA Tryd.underlying23 rfl) rfl rfl rfl (gj_step (y_fa fa25_4 rfl) rfl rfl rfl (gj_step (y_load1 Tryd.isAgg3 rfl rfl) rfl rfl rfl (gj_step (y_lss rfl rfl) rfl rfl rfl (gj_nil ?_))))))
      refine ej_th ?_
      refine cj_cond rfl (fun h38 => ?_) (fun h38 => ?_)
      · have h38b := h38
        try simp only [sxb] at h38
        refine cj_seq (cj_region ?_)
        refine oj_step (y_build st27 rfl rfl) rfl rfl rfl ?_
        refine oj_store rfl rfl rfl rfl Tryd.sizeOf27 rfl ?_
        refine oj_step (y_assign rfl) rfl rfl rfl ?_
        refine oj_nil ?_
        refine ej_th (cj_ret (ej_then_ret ?_))
        have hv : valueOf sales fade metal day few kind wmin wmax = ⟨0, 0, 4⟩ := by simp [valueOf, hb, hw, h38]
        rw [hv]
        exact ej_retC2 rfl Tryd.results22 rfl (y_loadN Tryd.isAgg27 Tryd.sizeOf27 rfl) rfl (fun w' hp => ⟨rfl, hp.below⟩)
      · have h38b := h38
        try simp only [sxb] at h38
        refine cj_skip (ej_th (cj_seq ?_))
        refine cj_regionG ?_
        refine gj_step (y_move rfl) rfl rfl rfl (gj_step (y_lenA Tryd.underlying23 rfl) rfl rfl rfl (gj_step (y_sub rfl rfl (by omega)) rfl rfl rfl (?_)))
        refine gj_step (y_call Tryd.call29 rfl (fun w hp => k_Down _ _ w (by omega) (by omega))) rfl rfl rfl ?_
        refine gj_step (y_assign rfl) rfl rfl rfl (?_)
        refine gj_nil ?_
        refine ej_th (cj_seq ?_)
        refine cj_plan 29 (by kernel_rfl) (by kernel_rfl) ?_
        refine pl_y 0 rfl (y_move rfl) rfl rfl rfl rfl (by kernel_rfl) ?_
        refine pl_y 1 rfl (y_move rfl) rfl rfl rfl rfl (by kernel_rfl) ?_
        refine pl_y 2 rfl (y_ixR (reads_sl) Tryd.underlying23 Tryd.sizeOf3 rfl rfl (⟨by omega, by omega⟩)) rfl rfl rfl rfl (by kernel_rfl) ?_
        refine pl_y 3 rfl (y_ld0 (reads_sl) Tryd.isAgg3 rfl (geq 0 (by omega)) rfl) rfl rfl rfl rfl (by kernel_rfl) ?_
        refine pl_y 4 rfl (y_fa fa25_2 rfl) rfl rfl rfl rfl (by kernel_rfl) ?_
        refine pl_y 5 rfl (y_load1 Tryd.isAgg3 rfl rfl) rfl rfl rfl rfl (by kernel_rfl) ?_
        refine pl_y 6 rfl (y_fa fa29_1 rfl) rfl rfl rfl rfl (by kernel_rfl) ?_
        refine pl_y 7 rfl (y_fa0 fa27_0 rfl) rfl rfl rfl rfl (by kernel_rfl) ?_
        refine pl_y 8 rfl (y_load1 Tryd.isAgg3 rfl rfl) rfl rfl rfl rfl (by kernel_rfl) ?_
        refine pl_y 9 rfl (y_mul rfl rfl (by omega)) rfl rfl rfl rfl (by kernel_rfl) ?_
        refine pl_y 10 rfl (y_add rfl rfl (by have := hg ((((craftsOf sales fade day kind).length : Int) - 1) / 4).toNat; omega)) rfl rfl rfl rfl (by kernel_rfl) ?_
        refine pl_y 11 rfl (y_move rfl) rfl rfl rfl rfl (by kernel_rfl) ?_
        refine pl_y 12 rfl (y_move rfl) rfl rfl rfl rfl (by kernel_rfl) ?_
        refine pl_y 13 rfl (y_lenA Tryd.underlying23 rfl) rfl rfl rfl rfl (by kernel_rfl) ?_
        refine pl_y 14 rfl (y_sub rfl rfl (by omega)) rfl rfl rfl rfl (by kernel_rfl) ?_
        refine pl_y 15 rfl (y_move rfl) rfl rfl rfl rfl (by kernel_rfl) ?_
        refine pl_y 16 rfl (y_sub rfl rfl (by omega)) rfl rfl rfl rfl (by kernel_rfl) ?_
        refine pl_y 17 rfl (y_ixR (reads_sl) Tryd.underlying23 Tryd.sizeOf3 rfl rfl (⟨by omega, by omega⟩)) rfl rfl rfl rfl (by kernel_rfl) ?_
        refine pl_y 18 rfl (y_ld0 (reads_sl) Tryd.isAgg3 rfl (geq 0 (by omega)) rfl) rfl rfl rfl rfl (by kernel_rfl) ?_
        refine pl_y 19 rfl (y_fa fa25_2 rfl) rfl rfl rfl rfl (by kernel_rfl) ?_
        refine pl_y 20 rfl (y_load1 Tryd.isAgg3 rfl rfl) rfl rfl rfl rfl (by kernel_rfl) ?_
        refine pl_y 21 rfl (y_fa fa29_1 rfl) rfl rfl rfl rfl (by kernel_rfl) ?_
        refine pl_y 22 rfl (y_fa fa27_1 rfl) rfl rfl rfl rfl (by kernel_rfl) ?_
        refine pl_y 23 rfl (y_load1 Tryd.isAgg3 rfl rfl) rfl rfl rfl rfl (by kernel_rfl) ?_
        refine pl_y 24 rfl (y_mul rfl rfl (by omega)) rfl rfl rfl rfl (by kernel_rfl) ?_
        refine pl_y 25 rfl (y_add rfl rfl (by have := hg (((craftsOf sales fade day kind).length : Int) - 1 - (((craftsOf sales fade day kind).length : Int) - 1) / 4).toNat; omega)) rfl rfl rfl rfl (by kernel_rfl) ?_
        refine pl_y 26 rfl (y_build (cs := [.int .i64 (((craftsOf sales fade day kind).getD ((((craftsOf sales fade day kind).length : Int) - 1) / 4).toNat 0) + metal * wmin), .int .i64 (((craftsOf sales fade day kind).getD (((craftsOf sales fade day kind).length : Int) - 1 - (((craftsOf sales fade day kind).length : Int) - 1) / 4).toNat 0) + metal * wmax)]) st27 rfl (by kernel_rfl)) rfl rfl rfl rfl (by kernel_rfl) ?_
        refine pl_w1 27 (by kernel_rfl) rfl rfl (pl_fire rfl rfl rfl (by kernel_rfl) ?_)
        refine oj_store rfl rfl rfl rfl Tryd.sizeOf27 rfl ?_
        refine oj_nil ?_
        refine ej_pl (lt_w (by kernel_rfl) (lt_w (by kernel_rfl) (lt_w (by kernel_rfl) (lt_w (by kernel_rfl) (lt_w (by kernel_rfl) (lt_w (by kernel_rfl) (lt_w (by kernel_rfl) (lt_w (by kernel_rfl) (lt_w (by kernel_rfl) (lt_w (by kernel_rfl) (lt_w (by kernel_rfl) (lt_w (by kernel_rfl) (lt_w (by kernel_rfl) (lt_w (by kernel_rfl) (lt_w (by kernel_rfl) (lt_w (by kernel_rfl) (lt_w (by kernel_rfl) (lt_w (by kernel_rfl) (lt_w (by kernel_rfl) (lt_w (by kernel_rfl) (lt_w (by kernel_rfl) (lt_w (by kernel_rfl) (lt_w (by kernel_rfl) (lt_w (by kernel_rfl) (lt_w (by kernel_rfl) (lt_w (by kernel_rfl) (lt_w (by kernel_rfl) (lt_nil)))))))))))))))))))))))))))) ?_
        refine pl_y 28 rfl (y_assign rfl) rfl rfl rfl rfl (by kernel_rfl) ?_
        refine pl_end (by kernel_rfl) ?_
        refine ej_th (cj_ret ?_)
        have hv : valueOf sales fade metal day few kind wmin wmax = midOf (craftsOf sales fade day kind) metal wmin wmax := by simp only [valueOf, hb, hw, Bool.false_eq_true, if_false]; rw [if_neg (by omega)]
        rw [hv]
        exact ej_retC2 rfl Tryd.results22 rfl (y_loadN Tryd.isAgg27 Tryd.sizeOf27 rfl) rfl (fun w' hp => ⟨rfl, hp.below⟩)

theorem k_CheckTerms (fr fl cap : Int) (w : World)  : Calls Tryd.prog 45 #[.agg #[.int .i64 fr, .int .i64 fl, .int .i64 cap]] w (fun e w' => e = .returned (.int .i64 (errT (badTerms fr fl cap))) ∧ Grow w w') := by
  refine enter_pure (args := [.agg #[.int .i64 fr, .int .i64 fl, .int .i64 cap]]) [] Tryd.func45 rfl (by rw [Tryd.ntmps45]; simp) (by simp) ?_
  refine cj_seq (cj_region ?_)
  refine oj_box rfl rfl rfl (fun b1 => ?_)
  refine oj_step (y_assign rfl) rfl rfl rfl ?_
  refine oj_nil ?_
  refine ej_th (cj_seq (cj_seq ?_))
  refine cj_regionG ?_
  refine gj_step (y_fa0 fa52_0 rfl) rfl rfl rfl (gj_step (y_load1 Tryd.isAgg3 rfl rfl) rfl rfl rfl (?_))
  refine gj_step (y_call Tryd.call54 rfl (fun w hp => k_within _ _ _ w)) rfl rfl rfl ?_
  refine gj_step (y_not rfl) rfl rfl rfl (gj_step (y_move rfl) rfl rfl rfl (?_))
  refine gj_g 4 7 11 rfl rfl rfl rfl (fun hg7 => gj_yes rfl rfl rfl (y_fa fa52_2 rfl) rfl rfl (gj_yes rfl rfl rfl (y_load1 Tryd.isAgg3 rfl rfl) rfl rfl (gj_yes rfl rfl rfl (y_call Tryd.call54 rfl (fun w hp => k_within _ _ _ w)) rfl rfl (gj_yes rfl rfl rfl (y_not rfl) rfl rfl (gj_nil rfl))))) ?_
  refine gj_step (y_or rfl rfl rfl) rfl rfl rfl (gj_step (y_move rfl) rfl rfl rfl (?_))
  refine gj_g 6 13 19 rfl rfl rfl rfl (fun hg13 => gj_yes rfl rfl rfl (y_fa fa52_1 rfl) rfl rfl (gj_yes rfl rfl rfl (y_load1 Tryd.isAgg3 rfl rfl) rfl rfl (gj_yes rfl rfl rfl (y_fa fa52_2 rfl) rfl rfl (gj_yes rfl rfl rfl (y_load1 Tryd.isAgg3 rfl rfl) rfl rfl (gj_yes rfl rfl rfl (y_call Tryd.call54 rfl (fun w hp => k_within _ _ _ w)) rfl rfl (gj_yes rfl rfl rfl (y_not rfl) rfl rfl (gj_nil rfl))))))) ?_
  refine gj_step (y_or rfl rfl rfl) rfl rfl rfl (?_)
  refine gj_nil ?_
  refine ej_th ?_
  refine cj_cond rfl (fun h20 => ?_) (fun h20 => ?_)
  · have h20b := h20
    try simp only [sxb] at h20
    refine cj_seq ?_
    refine cj_regionG (gj_step (y_assign rfl) rfl rfl rfl (gj_nil ?_))
    refine ej_th (cj_ret (ej_then_ret ?_))
    refine ej_ret1 rfl Tryd.results45 rfl (fun w' hp => ⟨?_, hp.below⟩)
    rw [show badTerms fr fl cap = true from h20b]; rfl
  · have h20b := h20
    try simp only [sxb] at h20
    refine cj_skip (ej_th (cj_seq ?_))
    refine cj_regionG (gj_step (y_assign rfl) rfl rfl rfl (gj_nil ?_))
    refine ej_th (cj_ret ?_)
    refine ej_ret1 rfl Tryd.results45 rfl (fun w' hp => ⟨?_, hp.below⟩)
    rw [show badTerms fr fl cap = false from h20b]; rfl

theorem k_most (fr fl cap lo hi : Int) (w : World) (hb : badTerms fr fl cap = false) (hv : 0 ≤ lo ∧ lo ≤ 2147483648) : Calls Tryd.prog 67 #[.agg #[.int .i64 fr, .int .i64 fl, .int .i64 cap], .agg #[.int .i64 lo, .int .i64 hi]] w (fun e w' => e = .returned (.int .i64 (mostOf fr fl cap lo)) ∧ Grow w w') := by
  obtain ⟨h1, h2, h3⟩ := badTerms_no hb
  have hm := mul_bd hv h1
  refine enter_pure (args := [.agg #[.int .i64 fr, .int .i64 fl, .int .i64 cap], .agg #[.int .i64 lo, .int .i64 hi]]) [] Tryd.func67 rfl (by rw [Tryd.ntmps67]; simp) (by simp) ?_
  refine cj_seq (cj_region ?_)
  refine oj_box rfl rfl rfl (fun b2 => ?_)
  refine oj_box rfl rfl rfl (fun b3 => ?_)
  refine oj_step (y_assign rfl) rfl rfl rfl ?_
  refine oj_nil ?_
  refine ej_th (cj_seq ?_)
  refine cj_regionG (gj_step (y_fa0 fa27_0 rfl) rfl rfl rfl (gj_step (y_load1 Tryd.isAgg3 rfl rfl) rfl rfl rfl (gj_step (y_fa0 fa52_0 rfl) rfl rfl rfl (gj_step (y_load1 Tryd.isAgg3 rfl rfl) rfl rfl rfl (gj_step (y_mul rfl rfl (by omega)) rfl rfl rfl (gj_step (y_quo rfl rfl (⟨by omega, by omega, by omega⟩)) rfl rfl rfl (gj_step (y_assign rfl) rfl rfl rfl (gj_nil ?_))))))))
  refine ej_th (cj_seq (cj_seq ?_))
  refine cj_regionG (gj_step (y_move rfl) rfl rfl rfl (gj_step (y_fa fa52_1 rfl) rfl rfl rfl (gj_step (y_load1 Tryd.isAgg3 rfl rfl) rfl rfl rfl (gj_step (y_lss rfl rfl) rfl rfl rfl (gj_nil ?_)))))
  refine ej_th ?_
  refine cj_cond rfl (fun h15 => ?_) (fun h15 => ?_)
  · have h15b := h15
    try simp only [sxb] at h15
    refine cj_regionG (gj_step (y_fa fa52_1 rfl) rfl rfl rfl (gj_step (y_load1 Tryd.isAgg3 rfl rfl) rfl rfl rfl (gj_step (y_fa0 fa27_0 rfl) rfl rfl rfl (gj_step (y_load1 Tryd.isAgg3 rfl rfl) rfl rfl rfl (gj_step (y_min rfl rfl) rfl rfl rfl (gj_step (y_assign rfl) rfl rfl rfl (gj_nil ?_)))))))
    refine ej_th (cj_seq ?_)
    refine cj_regionG (gj_step (y_move rfl) rfl rfl rfl (gj_step (y_fa fa52_2 rfl) rfl rfl rfl (gj_step (y_load1 Tryd.isAgg3 rfl rfl) rfl rfl rfl (gj_step (y_min rfl rfl) rfl rfl rfl (gj_step (y_assign rfl) rfl rfl rfl (gj_nil ?_))))))
    refine ej_th (cj_ret ?_)
    refine ej_ret1 rfl Tryd.results67 rfl (fun w' hp => ⟨?_, hp.below⟩)
    rw [mostOf, if_pos h15]
  · have h15b := h15
    try simp only [sxb] at h15
    refine cj_skip (ej_th (cj_seq ?_))
    refine cj_regionG (gj_step (y_move rfl) rfl rfl rfl (gj_step (y_fa fa52_2 rfl) rfl rfl rfl (gj_step (y_load1 Tryd.isAgg3 rfl rfl) rfl rfl rfl (gj_step (y_min rfl rfl) rfl rfl rfl (gj_step (y_assign rfl) rfl rfl rfl (gj_nil ?_))))))
    refine ej_th (cj_ret ?_)
    refine ej_ret1 rfl Tryd.results67 rfl (fun w' hp => ⟨?_, hp.below⟩)
    rw [mostOf, if_neg (by omega)]

theorem k_Most (fr fl cap lo hi : Int) (w : World)  : Calls Tryd.prog 28 #[.agg #[.int .i64 fr, .int .i64 fl, .int .i64 cap], .agg #[.int .i64 lo, .int .i64 hi]] w (fun e w' => e = .returned (.tuple #[.int .i64 (MostN fr fl cap lo hi), .int .i64 (MostE fr fl cap lo hi)]) ∧ Grow w w') := by
  refine enter_pure (args := [.agg #[.int .i64 fr, .int .i64 fl, .int .i64 cap], .agg #[.int .i64 lo, .int .i64 hi]]) [] Tryd.func28 rfl (by rw [Tryd.ntmps28]; simp) (by simp) ?_
  refine cj_seq (cj_region ?_)
  refine oj_box rfl rfl rfl (fun b2 => ?_)
  refine oj_box rfl rfl rfl (fun b3 => ?_)
  refine oj_step (y_assign rfl) rfl rfl rfl ?_
  refine oj_step (y_assign rfl) rfl rfl rfl ?_
  refine oj_nil ?_
  refine ej_th (cj_seq (cj_seq ?_))
  refine cj_regionG ?_
  refine gj_step (y_loadN Tryd.isAgg52 Tryd.sizeOf52 rfl) rfl rfl rfl (?_)
  refine gj_step (y_call Tryd.call45 rfl (fun w hp => k_CheckTerms _ _ _ w)) rfl rfl rfl ?_
  refine gj_step (y_assign rfl) rfl rfl rfl (?_)
  refine gj_nil ?_
  refine ej_th (cj_seq ?_)
  refine cj_regionG (gj_step (y_move rfl) rfl rfl rfl (gj_step (y_neq rfl rfl) rfl rfl rfl (gj_nil ?_)))
  refine ej_th ?_
  refine cj_cond rfl (fun h10 => ?_) (fun h10 => ?_)
  · have h10b := h10
    try simp only [sxb] at h10
    rw [errT_ne] at h10
    refine cj_seq ?_
    refine cj_regionG (gj_step (y_move rfl) rfl rfl rfl (gj_step (y_assign rfl) rfl rfl rfl (gj_step (y_assign rfl) rfl rfl rfl (gj_nil ?_))))
    refine ej_th (cj_ret (ej_then_ret ?_))
    refine ej_ret2 rfl Tryd.results28 rfl rfl (fun w' hp => ⟨?_, hp.below⟩)
    rw [MostN, MostE, h10]; rfl
  · have h10b := h10
    try simp only [sxb] at h10
    rw [errT_eq] at h10
    refine cj_skip (ej_th (cj_seq (cj_seq ?_)))
    refine cj_regionG ?_
    refine gj_step (y_loadN Tryd.isAgg27 Tryd.sizeOf27 rfl) rfl rfl rfl (?_)
    refine gj_step (y_call Tryd.call61 rfl (fun w hp => k_span _ _ _ w)) rfl rfl rfl ?_
    refine gj_step (y_not rfl) rfl rfl rfl (?_)
    refine gj_nil ?_
    refine ej_th ?_
    refine cj_cond rfl (fun h14 => ?_) (fun h14 => ?_)
    · have h14b := h14
      try simp only [sxb] at h14
      have hs : spanOk lo hi 2147483648 = false := not_t h14b
      refine cj_seq ?_
      refine cj_regionG (gj_step (y_assign rfl) rfl rfl rfl (gj_step (y_assign rfl) rfl rfl rfl (gj_nil ?_)))
      refine ej_th (cj_ret (ej_then_ret ?_))
      refine ej_ret2 rfl Tryd.results28 rfl rfl (fun w' hp => ⟨?_, hp.below⟩)
      rw [MostN, MostE, h10, hs]; rfl
    · have h14b := h14
      try simp only [sxb] at h14
      have hs : spanOk lo hi 2147483648 = true := not_f h14b
      have hs2 := hs
      simp only [spanOk, Bool.and_eq_true, decide_eq_true_eq] at hs2
      refine cj_skip (ej_th (cj_seq ?_))
      refine cj_regionG ?_
      refine gj_step (y_loadN Tryd.isAgg52 Tryd.sizeOf52 rfl) rfl rfl rfl (gj_step (y_loadN Tryd.isAgg27 Tryd.sizeOf27 rfl) rfl rfl rfl (?_))
      refine gj_step (y_call Tryd.call67 rfl (fun w hp => k_most _ _ _ _ _ w (by assumption) (by omega))) rfl rfl rfl ?_
      refine gj_step (y_assign rfl) rfl rfl rfl (gj_step (y_assign rfl) rfl rfl rfl (?_))
      refine gj_nil ?_
      refine ej_th (cj_ret ?_)
      refine ej_ret2 rfl Tryd.results28 rfl rfl (fun w' hp => ⟨?_, hp.below⟩)
      rw [MostN, MostE, h10, hs]; rfl

theorem k_Lend (fr fl cap lo hi wish : Int) (w : World)  : Calls Tryd.prog 30 #[.agg #[.int .i64 fr, .int .i64 fl, .int .i64 cap], .agg #[.int .i64 lo, .int .i64 hi], .int .i64 wish] w (fun e w' => e = .returned (.tuple #[.int .i64 (LendN fr fl cap lo hi wish), .int .i64 (LendE fr fl cap lo hi wish)]) ∧ Grow w w') := by
  refine enter_pure (args := [.agg #[.int .i64 fr, .int .i64 fl, .int .i64 cap], .agg #[.int .i64 lo, .int .i64 hi], .int .i64 wish]) [] Tryd.func30 rfl (by rw [Tryd.ntmps30]; simp) (by simp) ?_
  refine cj_seq (cj_region ?_)
  refine oj_box rfl rfl rfl (fun b3 => ?_)
  refine oj_box rfl rfl rfl (fun b4 => ?_)
  refine oj_step (y_assign rfl) rfl rfl rfl ?_
  refine oj_step (y_assign rfl) rfl rfl rfl ?_
  refine oj_nil ?_
  refine ej_th (cj_seq ?_)
  refine cj_regionG ?_
  refine gj_step (y_loadN Tryd.isAgg52 Tryd.sizeOf52 rfl) rfl rfl rfl (gj_step (y_loadN Tryd.isAgg27 Tryd.sizeOf27 rfl) rfl rfl rfl (?_))
  refine gj_step (y_call Tryd.call28 rfl (fun w hp => k_Most _ _ _ _ _ w)) rfl rfl rfl ?_
  refine gj_step (y_move rfl) rfl rfl rfl (gj_step (y_extract rfl rfl) rfl rfl rfl (gj_step (y_extract rfl rfl) rfl rfl rfl (gj_step (y_assign rfl) rfl rfl rfl (gj_step (y_assign rfl) rfl rfl rfl (?_)))))
  refine gj_nil ?_
  refine ej_th (cj_seq (cj_block (cj_seq ?_)))
  refine cj_regionG (gj_step (y_move rfl) rfl rfl rfl (gj_step (y_neq rfl rfl) rfl rfl rfl (gj_step (y_assign rfl) rfl rfl rfl (gj_nil ?_))))
  refine ej_th ?_
  refine cj_cond rfl (fun h16 => ?_) (fun h16 => ?_)
  · have h16b := h16
    try simp only [sxb] at h16
    refine cj_seq ?_
    refine cj_regionG (gj_step (y_move rfl) rfl rfl rfl (gj_step (y_assign rfl) rfl rfl rfl (gj_step (y_assign rfl) rfl rfl rfl (gj_nil ?_))))
    refine ej_th (cj_ret (ej_blk_ret (ej_then_ret ?_)))
    refine ej_ret2 rfl Tryd.results30 rfl rfl (fun w' hp => ⟨?_, hp.below⟩)
    rw [LendN, LendE, if_neg h16, if_neg h16]
  · have h16b := h16
    try simp only [sxb] at h16
    refine cj_seq ?_
    refine cj_regionG ?_
    refine gj_step (y_move rfl) rfl rfl rfl (?_)
    refine gj_step (y_call Tryd.call54 rfl (fun w hp => k_within _ _ _ w)) rfl rfl rfl ?_
    refine gj_step (y_not rfl) rfl rfl rfl (gj_step (y_assign rfl) rfl rfl rfl (?_))
    refine gj_nil ?_
    refine ej_th ?_
    refine cj_cond rfl (fun h20 => ?_) (fun h20 => ?_)
    · have h20b := h20
      try simp only [sxb] at h20
      refine cj_seq ?_
      refine cj_regionG (gj_step (y_assign rfl) rfl rfl rfl (gj_step (y_assign rfl) rfl rfl rfl (gj_nil ?_)))
      refine ej_th (cj_ret (ej_blk_ret (ej_then_ret ?_)))
      refine ej_ret2 rfl Tryd.results30 rfl rfl (fun w' hp => ⟨?_, hp.below⟩)
      have hw : btw 1 wish 1073741824 = false := not_t h20b
      rw [LendN, LendE, if_pos h16, if_pos h16, hw]; rfl
    · have h20b := h20
      try simp only [sxb] at h20
      refine cj_seq ?_
      refine cj_regionG (gj_step (y_move rfl) rfl rfl rfl (gj_step (y_eql rfl rfl) rfl rfl rfl (gj_step (y_assign rfl) rfl rfl rfl (gj_nil ?_))))
      refine ej_th ?_
      refine cj_cond rfl (fun h24 => ?_) (fun h24 => ?_)
      · have h24b := h24
        try simp only [sxb] at h24
        refine cj_seq ?_
        refine cj_regionG (gj_step (y_assign rfl) rfl rfl rfl (gj_step (y_assign rfl) rfl rfl rfl (gj_nil ?_)))
        refine ej_th (cj_ret (ej_blk_ret (ej_then_ret ?_)))
        refine ej_ret2 rfl Tryd.results30 rfl rfl (fun w' hp => ⟨?_, hp.below⟩)
        have hw : btw 1 wish 1073741824 = true := not_f h20b
        rw [LendN, LendE, if_pos h16, if_pos h16, hw, if_pos rfl, if_pos rfl, if_pos h24, if_pos h24]
      · have h24b := h24
        try simp only [sxb] at h24
        refine cj_skip (ej_blk (ej_th (cj_seq ?_)))
        refine cj_regionG (gj_step (y_move rfl) rfl rfl rfl (gj_step (y_move rfl) rfl rfl rfl (gj_step (y_min rfl rfl) rfl rfl rfl (gj_step (y_assign rfl) rfl rfl rfl (gj_step (y_assign rfl) rfl rfl rfl (gj_nil ?_))))))
        refine ej_th (cj_ret ?_)
        refine ej_ret2 rfl Tryd.results30 rfl rfl (fun w' hp => ⟨?_, hp.below⟩)
        have hw : btw 1 wish 1073741824 = true := not_f h20b
        rw [LendN, LendE, if_pos h16, if_pos h16, hw, if_pos rfl, if_pos rfl, if_neg h24, if_neg h24]

end Go.Proofs.YtafmgkiddhappaaDoor
