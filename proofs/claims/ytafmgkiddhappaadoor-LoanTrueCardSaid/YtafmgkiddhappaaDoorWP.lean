/- Walks of functions of the program. -/
import Derived.Test.YtafmgkiddhappaaDoorWN
import Derived.Test.YtafmgkiddhappaaDoorPN
namespace Go.Proofs.YtafmgkiddhappaaDoor
open Go.Sx Go.RowKit
set_option maxRecDepth 20000
theorem k_LoanTrue (sales : List Sale) (fade : List Int) (metal day few : Int) (As Af : Option Addr) (cs cf : Nat) (kind wmin wmax n0 n1 n2 : Int) (w : World) (hs : Rd w 5 encSale As sales) (hf : Rd w 1 enInt Af fade) (hG : Gl w 0 WAYS) : Calls Tryd.prog 5 #[.agg #[.slice As sales.length cs, .slice Af fade.length cf, .int .i64 metal, .int .i64 day, .int .i64 few], .agg #[.int .i64 kind, .int .i64 wmin, .int .i64 wmax], .agg #[.int .i64 n0, .int .i64 n1, .int .i64 n2]] w (fun e w' => e = .returned (.bool true) ∧ Grow w w') := by
  refine enter_pure (args := [.agg #[.slice As sales.length cs, .slice Af fade.length cf, .int .i64 metal, .int .i64 day, .int .i64 few], .agg #[.int .i64 kind, .int .i64 wmin, .int .i64 wmax], .agg #[.int .i64 n0, .int .i64 n1, .int .i64 n2]]) [sl (fun b => b < w.heap.size) 5 encSale As sales, sl (fun b => b < w.heap.size) 1 enInt Af fade, gl 0 WAYS] Tryd.func5 rfl (by rw [Tryd.ntmps5]; simp) (fun g hg => by simp at hg; rcases hg with rfl | rfl | rfl; exact ⟨hs, fun _ h => h⟩; exact ⟨hf, fun _ h => h⟩; exact ⟨hG.1, fun b hb => by have : b = 0 := hb; rw [this]; exact hG.2⟩) ?_
  refine cj_seq (cj_region ?_)
  refine oj_box rfl rfl rfl (fun b3 => ?_)
  refine oj_box rfl rfl rfl (fun b4 => ?_)
  refine oj_box rfl rfl rfl (fun b5 => ?_)
  refine oj_step (y_assign rfl) rfl rfl rfl ?_
  refine oj_nil ?_
  refine ej_th (cj_seq (cj_region ?_))
  refine oj_step (y_loadN Tryd.isAgg25 Tryd.sizeOf25 rfl) rfl rfl rfl ?_
  refine oj_step (y_loadN Tryd.isAgg29 Tryd.sizeOf29 rfl) rfl rfl rfl ?_
  refine oj_step (y_call Tryd.call21 rfl (fun w hp => k_Value sales fade metal day few As Af cs cf kind wmin wmax w hp.rd hp.rd)) rfl rfl rfl ?_
  refine oj_step (y_move rfl) rfl rfl rfl ?_
  refine oj_step (y_extract rfl rfl) rfl rfl rfl ?_
  refine oj_step (y_extract rfl rfl) rfl rfl rfl ?_
  refine oj_alloc Tryd.zeroValue27 rfl rfl (fun b7 => ?_)
  refine oj_store rfl rfl rfl rfl Tryd.sizeOf27 rfl ?_
  refine oj_step (y_assign rfl) rfl rfl rfl ?_
  refine oj_nil ?_
  refine ej_th (cj_seq (cj_seq ?_))
  refine cj_regionG (gj_step (y_move rfl) rfl rfl rfl (gj_step (y_neq rfl rfl) rfl rfl rfl (gj_nil ?_)))
  refine ej_th ?_
  refine cj_cond rfl (fun h23 => ?_) (fun h23 => ?_)
  · have h23b := h23
    try simp only [sxb] at h23
    obtain ⟨he1, he2⟩ := valueOf_err h23
    refine cj_seq ?_
    refine cj_regionG ?_
    refine gj_step (y_loadN Tryd.isAgg27 Tryd.sizeOf27 rfl) rfl rfl rfl (gj_step (y_build st27 rfl rfl) rfl rfl rfl (gj_step (y_bin rfl rfl (fun x y w => eq27 _ _ _ _ x y w)) rfl rfl rfl (gj_step (y_move rfl) rfl rfl rfl (?_))))
    refine gj_g 1 27 28 rfl rfl rfl rfl (fun hg27 => gj_yes rfl rfl rfl (y_call Tryd.call23 rfl (fun w hp => k_works w hp.glo)) rfl rfl (gj_nil rfl)) ?_
    refine gj_step (y_and rfl rfl rfl) rfl rfl rfl (gj_step (y_assign rfl) rfl rfl rfl (?_))
    refine gj_nil ?_
    refine ej_th (cj_ret (ej_then_ret ?_))
    exact ej_ret1 rfl Tryd.results5 rfl (fun w' hp => ⟨by simp [he1, he2], hp.below⟩)
  · have h23b := h23
    try simp only [sxb] at h23
    obtain ⟨hb, hw, hfw, hV⟩ := valueOf_ok h23
    obtain ⟨hfa, hfl, hme, hda, hfe, hsl, hsa⟩ := badMarket_parts hb
    obtain ⟨hk, hww⟩ := badWare_no hw
    obtain ⟨hCL, hCE⟩ := CraftsL_ok hb hw
    have hso := craftsOf_sorted sales fade day kind
    have hbd := getD_bd (craftsOf_bd kind hsa hfa) (by omega)
    have hcl := craftsOf_len sales fade day kind
    obtain ⟨l, hl⟩ : ∃ l, l = craftsOf sales fade day kind := ⟨_, rfl⟩
    rw [← hl] at hV hCL hso hbd hcl hfw
    have hm1 := mul_bd hme (show 0 ≤ wmin ∧ wmin ≤ 1000 by omega)
    have hm2 := mul_bd hme (show 0 ≤ wmax ∧ wmax ≤ 1000 by omega)
    obtain ⟨a, ha⟩ : ∃ a, a = l.getD ((l.length - 1) / 4) 0 := ⟨_, rfl⟩
    obtain ⟨b, hbb⟩ : ∃ b, b = l.getD (l.length - 1 - (l.length - 1) / 4) 0 := ⟨_, rfl⟩
    have hab := hbd ((l.length - 1) / 4)
    have hbb2 := hbd (l.length - 1 - (l.length - 1) / 4)
    rw [← ha] at hab
    rw [← hbb] at hbb2
    have hq1 : (((l.length : Int) - 1) / 4).toNat = (l.length - 1) / 4 := by omega
    have hq2 : ((l.length : Int) - 1 - (((l.length : Int) - 1) / 4)).toNat = l.length - 1 - (l.length - 1) / 4 := by omega
    have hlo : (valueOf sales fade metal day few kind wmin wmax).lo = a + metal * wmin := by rw [hV, ha]; simp only [midOf, hq1]
    have hhi : (valueOf sales fade metal day few kind wmin wmax).hi = b + metal * wmax := by rw [hV, hbb]; simp only [midOf, hq2]
    rw [hlo, hhi]
    have hmid := middle hso ((l.length - 1) / 4) (by omega)
    rw [← ha, ← hbb] at hmid
    refine cj_skip (ej_th (cj_seq (cj_region ?_)))
    refine oj_step (y_loadN Tryd.isAgg25 Tryd.sizeOf25 rfl) rfl rfl rfl ?_
    refine oj_step (y_fa0 fa29_0 rfl) rfl rfl rfl ?_
    refine oj_step (y_load1 Tryd.isAgg3 rfl rfl) rfl rfl rfl ?_
    refine oj_callS (fun A c => .tuple #[.slice A l.length c, .int .i64 0]) 1 enInt l Tryd.call16 rfl (fun w hp => by have h := k_Crafts sales fade metal day few As Af cs cf kind w hp.rd hp.rd; rw [hCL, hCE] at h; exact h) rfl (fun A34 c34 fp34 hfp34 => ?_)
    refine oj_step (y_move rfl) rfl rfl rfl ?_
    refine oj_step (y_extract rfl rfl) rfl rfl rfl ?_
    refine oj_step (y_extract rfl rfl) rfl rfl rfl ?_
    refine oj_step (y_assign rfl) rfl rfl rfl ?_
    refine oj_step (y_assign rfl) rfl rfl rfl ?_
    refine oj_nil ?_
    refine ej_th (cj_seq (cj_seq ?_))
    refine cj_regionG ?_
    refine gj_step (y_move rfl) rfl rfl rfl (gj_step (y_neq rfl rfl) rfl rfl rfl (gj_step (y_move rfl) rfl rfl rfl (?_)))
    refine gj_g 3 39 42 rfl rfl rfl rfl (fun hg39 => gj_yes rfl rfl rfl (y_move rfl) rfl rfl (gj_yes rfl rfl rfl (y_lenA Tryd.underlying23 rfl) rfl rfl (gj_yes rfl rfl rfl (y_eql rfl rfl) rfl rfl (gj_nil rfl)))) ?_
    refine gj_step (y_or rfl rfl rfl) rfl rfl rfl (gj_step (y_move rfl) rfl rfl rfl (?_))
    refine gj_g 5 44 49 rfl rfl rfl rfl (fun hg44 => gj_yes rfl rfl rfl (y_move rfl) rfl rfl (gj_yes rfl rfl rfl (y_lenA Tryd.underlying23 rfl) rfl rfl (gj_yes rfl rfl rfl (y_fa fa25_4 rfl) rfl rfl (gj_yes rfl rfl rfl (y_load1 Tryd.isAgg3 rfl rfl) rfl rfl (gj_yes rfl rfl rfl (y_lss rfl rfl) rfl rfl (gj_nil rfl)))))) ?_
    refine gj_step (y_or rfl rfl rfl) rfl rfl rfl (gj_step (y_move rfl) rfl rfl rfl (?_))
    refine gj_g 4 51 55 rfl rfl rfl rfl (fun hg51 => gj_yes rfl rfl rfl (y_fa fa25_2 rfl) rfl rfl (gj_yes rfl rfl rfl (y_load1 Tryd.isAgg3 rfl rfl) rfl rfl (gj_yes rfl rfl rfl (y_call Tryd.call26 rfl (fun w hp => k_From _ _ _ w)) rfl rfl (gj_yes rfl rfl rfl (y_not rfl) rfl rfl (gj_nil rfl))))) ?_
    refine gj_step (y_or rfl rfl rfl) rfl rfl rfl (gj_step (y_move rfl) rfl rfl rfl (?_))
    refine gj_g 5 57 62 rfl rfl rfl rfl (fun hg57 => gj_yes rfl rfl rfl (y_fa fa29_1 rfl) rfl rfl (gj_yes rfl rfl rfl (y_fa0 fa27_0 rfl) rfl rfl (gj_yes rfl rfl rfl (y_load1 Tryd.isAgg3 rfl rfl) rfl rfl (gj_yes rfl rfl rfl (y_call Tryd.call26 rfl (fun w hp => k_From _ _ _ w)) rfl rfl (gj_yes rfl rfl rfl (y_not rfl) rfl rfl (gj_nil rfl)))))) ?_
    refine gj_step (y_or rfl rfl rfl) rfl rfl rfl (gj_step (y_move rfl) rfl rfl rfl (?_))
    refine gj_g 5 64 69 rfl rfl rfl rfl (fun hg64 => gj_yes rfl rfl rfl (y_fa fa29_1 rfl) rfl rfl (gj_yes rfl rfl rfl (y_fa fa27_1 rfl) rfl rfl (gj_yes rfl rfl rfl (y_load1 Tryd.isAgg3 rfl rfl) rfl rfl (gj_yes rfl rfl rfl (y_call Tryd.call26 rfl (fun w hp => k_From _ _ _ w)) rfl rfl (gj_yes rfl rfl rfl (y_not rfl) rfl rfl (gj_nil rfl)))))) ?_
    refine gj_step (y_or rfl rfl rfl) rfl rfl rfl (?_)
    refine gj_nil ?_
    refine ej_th ?_
    refine cj_cond rfl (fun h70 => ?_) (fun h70 => ?_)
    · simp only [sxb] at h70
      omega
    · have h70b := h70
      try simp only [sxb] at h70
      refine cj_skip (ej_th (cj_seq ?_))
      refine cj_regionG (gj_step (y_assign rfl) rfl rfl rfl (gj_nil ?_))
      refine ej_th (cj_seq (cj_seq ?_))
      refine cj_regionG (gj_step (y_assign rfl) rfl rfl rfl (gj_nil ?_))
      refine ej_th (cj_block ?_)
      refine cj_lpc (X := Nat × Nat) (fun ⟨i, m⟩ => i ≤ l.length ∧ m = (l.take i).countP (fun x => btw a x b)) (fun ⟨i, m⟩ => [(3, .pointer (some ⟨b3, 0, none⟩)), (4, .pointer (some ⟨b4, 0, none⟩)), (5, .pointer (some ⟨b5, 0, none⟩)), (7, .pointer (some ⟨b7, 0, none⟩)), (9, .slice A34 l.length c34), (10, .int .i64 m), (11, .int .i64 i)]) (fun ⟨i, m⟩ => l.length - i) (0, 0) (⟨Nat.zero_le _, rfl⟩) ⟨rfl, rfl, rfl, rfl, rfl, rfl, rfl, trivial⟩ ?_
      rintro ⟨i, m⟩ ⟨hi, hm⟩
      have hmi : m ≤ i := by rw [hm]; exact Nat.le_trans List.countP_le_length (by rw [List.length_take]; omega)
      refine cj_seq (cj_seq ?_)
      refine cj_regionG (gj_step (y_move rfl) rfl rfl rfl (gj_step (y_move rfl) rfl rfl rfl (gj_step (y_lenA Tryd.underlying23 rfl) rfl rfl rfl (gj_step (y_lss rfl rfl) rfl rfl rfl (gj_nil ?_)))))
      refine ej_th ?_
      refine cj_cond rfl (fun h74 => ?_) (fun h74 => ?_)
      · have h74b := h74
        try simp only [sxb] at h74
        obtain ⟨x, hx⟩ : ∃ x, l[i]? = some x := ⟨_, List.getElem?_eq_getElem (by omega)⟩
        have hxe : l.getD i 0 = x := by rw [List.getD_eq_getElem?_getD, hx]; rfl
        have hx1 := hbd i
        rw [hxe] at hx1
        have hs1 : (0 : Int) < i → l.getD ((i : Int) - 1).toNat 0 ≤ x := fun h => by rw [← hxe]; exact sorted_getD hso (by omega) (by omega)
        have hct := countP_take (fun x => btw a x b) i x hx
        refine cj_skip (ej_th (cj_seq (cj_block (cj_seq (cj_seq ?_)))))
        refine cj_draw (by kernel_rfl) (by kernel_rfl) (gj_step (y_move rfl) rfl rfl rfl (gj_step (y_gtr rfl rfl) rfl rfl rfl (gj_step (y_move rfl) rfl rfl rfl (gj_g 10 79 89 rfl rfl rfl rfl (fun hg79 => gj_yes rfl rfl rfl (y_move rfl) rfl rfl (gj_yes rfl rfl rfl (y_move rfl) rfl rfl (gj_yes rfl rfl rfl (y_sub rfl rfl (by have := of_decide_eq_true hg79; omega)) rfl rfl (gj_yes rfl rfl rfl (y_ixR (reads_sl) Tryd.underlying23 Tryd.sizeOf3 rfl rfl (⟨by have := of_decide_eq_true hg79; omega, by have := of_decide_eq_true hg79; omega⟩)) rfl rfl (gj_yes rfl rfl rfl (y_ld0 (reads_sl) Tryd.isAgg3 rfl (geq 0 (by have := of_decide_eq_true hg79; omega)) rfl) rfl rfl (gj_yes rfl rfl rfl (y_move rfl) rfl rfl (gj_yes rfl rfl rfl (y_move rfl) rfl rfl (gj_yes rfl rfl rfl (y_ixR (reads_sl) Tryd.underlying23 Tryd.sizeOf3 rfl rfl (⟨by omega, by omega⟩)) rfl rfl (gj_yes rfl rfl rfl (y_ld0 (reads_sl) Tryd.isAgg3 rfl (hx) rfl) rfl rfl (gj_yes rfl rfl rfl (y_gtr rfl rfl) rfl rfl (gj_nil rfl))))))))))) (gj_step (y_and rfl rfl rfl) rfl rfl rfl (gj_step (y_move rfl) rfl rfl rfl (gj_g 5 91 96 rfl rfl rfl rfl (fun hg91 => gj_yes rfl rfl rfl (y_move rfl) rfl rfl (gj_yes rfl rfl rfl (y_move rfl) rfl rfl (gj_yes rfl rfl rfl (y_ixR (reads_sl) Tryd.underlying23 Tryd.sizeOf3 rfl rfl (⟨by omega, by omega⟩)) rfl rfl (gj_yes rfl rfl rfl (y_ld0 (reads_sl) Tryd.isAgg3 rfl (hx) rfl) rfl rfl (gj_yes rfl rfl rfl (y_lss rfl rfl) rfl rfl (gj_nil rfl)))))) (gj_step (y_or rfl rfl rfl) rfl rfl rfl (gj_nil ?_)))))))))
        refine ej_th ?_
        refine cj_cond rfl (fun h97 => ?_) (fun h97 => ?_)
        · simp only [sxb] at h97
          omega
        · have h97b := h97
          try simp only [sxb] at h97
          refine cj_skip (ej_th (cj_seq ?_))
          refine cj_draw (by kernel_rfl) (by kernel_rfl) ?_
          refine gj_step (y_fa0 fa27_0 rfl) rfl rfl rfl (gj_step (y_load1 Tryd.isAgg3 rfl rfl) rfl rfl rfl (gj_step (y_fa fa25_2 rfl) rfl rfl rfl (gj_step (y_load1 Tryd.isAgg3 rfl rfl) rfl rfl rfl (gj_step (y_fa fa29_1 rfl) rfl rfl rfl (gj_step (y_fa0 fa27_0 rfl) rfl rfl rfl (gj_step (y_load1 Tryd.isAgg3 rfl rfl) rfl rfl rfl (gj_step (y_mul rfl rfl (by omega)) rfl rfl rfl (gj_step (y_sub rfl rfl (by omega)) rfl rfl rfl (gj_step (y_move rfl) rfl rfl rfl (gj_step (y_move rfl) rfl rfl rfl (gj_step (y_ixR (reads_sl) Tryd.underlying23 Tryd.sizeOf3 rfl rfl (⟨by omega, by omega⟩)) rfl rfl rfl (gj_step (y_ld0 (reads_sl) Tryd.isAgg3 rfl (hx) rfl) rfl rfl rfl (gj_step (y_fa fa27_1 rfl) rfl rfl rfl (gj_step (y_load1 Tryd.isAgg3 rfl rfl) rfl rfl rfl (gj_step (y_fa fa25_2 rfl) rfl rfl rfl (gj_step (y_load1 Tryd.isAgg3 rfl rfl) rfl rfl rfl (gj_step (y_fa fa29_1 rfl) rfl rfl rfl (gj_step (y_fa fa27_1 rfl) rfl rfl rfl (gj_step (y_load1 Tryd.isAgg3 rfl rfl) rfl rfl rfl (gj_step (y_mul rfl rfl (by omega)) rfl rfl rfl (gj_step (y_sub rfl rfl (by omega)) rfl rfl rfl (?_))))))))))))))))))))))
          refine gj_step (y_call Tryd.call26 rfl (fun w hp => k_From _ _ _ w)) rfl rfl rfl ?_
          refine gj_nil ?_
          refine ej_th ?_
          refine cj_cond rfl (fun h120 => ?_) (fun h120 => ?_)
          · have h120b := h120
            try simp only [sxb] at h120
            have hbt : btw a x b = true := by simp only [btw, Bool.and_eq_true, decide_eq_true_eq]; omega
            refine cj_regionG (gj_step (y_move rfl) rfl rfl rfl (gj_step (y_add rfl rfl (by omega)) rfl rfl rfl (gj_step (y_assign rfl) rfl rfl rfl (gj_nil ?_))))
            refine ej_blk (ej_th ?_)
            refine cj_regionG (gj_step (y_move rfl) rfl rfl rfl (gj_step (y_add rfl rfl (by omega)) rfl rfl rfl (gj_step (y_assign rfl) rfl rfl rfl (gj_nil ?_))))
            exact ej_nx (i + 1, m + 1) (by simp only; omega) ⟨by omega, by rw [hct, ← hm, if_pos hbt]⟩ ⟨rfl, rfl, rfl, rfl, rfl, rfl, rfl, trivial⟩
          · have h120b := h120
            try simp only [sxb] at h120
            have hbt : btw a x b = false := by simp only [btw, Bool.and_eq_false_iff, decide_eq_false_iff_not]; omega
            refine cj_skip (ej_blk (ej_th ?_))
            refine cj_regionG (gj_step (y_move rfl) rfl rfl rfl (gj_step (y_add rfl rfl (by omega)) rfl rfl rfl (gj_step (y_assign rfl) rfl rfl rfl (gj_nil ?_))))
            exact ej_nx (i + 1, m) (by simp only; omega) ⟨by omega, by rw [hct, ← hm, if_neg (by rw [hbt]; simp)]; rfl⟩ ⟨rfl, rfl, rfl, rfl, rfl, rfl, rfl, trivial⟩
      · have h74b := h74
        try simp only [sxb] at h74
        rw [List.take_of_length_le (by omega)] at hm
        have hcle := List.countP_le_length (p := fun x => btw a x b) (l := l)
        refine cj_exit (ej_then_exit (ej_then_exit (ej_blk_hit (ej_th (cj_seq ?_)))))
        have hr0 := ring_bd n0 (wmax - wmin + 1) (by omega)
        refine cj_draw (by kernel_rfl) (by kernel_rfl) ?_
        refine gj_step (y_fa fa29_1 rfl) rfl rfl rfl (gj_step (y_fa0 fa27_0 rfl) rfl rfl rfl (gj_step (y_load1 Tryd.isAgg3 rfl rfl) rfl rfl rfl (gj_step (y_ixArr Tryd.underlying47 Tryd.sizeOf3 rfl rfl (by omega)) rfl rfl rfl (gj_step (y_load1 Tryd.isAgg3 rfl rfl) rfl rfl rfl (gj_step (y_fa fa29_1 rfl) rfl rfl rfl (gj_step (y_fa fa27_1 rfl) rfl rfl rfl (gj_step (y_load1 Tryd.isAgg3 rfl rfl) rfl rfl rfl (gj_step (y_fa fa29_1 rfl) rfl rfl rfl (gj_step (y_fa0 fa27_0 rfl) rfl rfl rfl (gj_step (y_load1 Tryd.isAgg3 rfl rfl) rfl rfl rfl (gj_step (y_sub rfl rfl (by omega)) rfl rfl rfl (gj_step (y_add rfl rfl (by omega)) rfl rfl rfl (?_)))))))))))))
        refine gj_step (y_call Tryd.call27 rfl (fun w hp => k_Ring _ _ w (by omega))) rfl rfl rfl ?_
        refine gj_step (y_add rfl rfl (by omega)) rfl rfl rfl (gj_step (y_assign rfl) rfl rfl rfl (?_))
        refine gj_nil ?_
        refine ej_th (cj_seq ?_)
        refine cj_regionG (gj_step (y_move rfl) rfl rfl rfl (gj_step (y_lenA Tryd.underlying23 rfl) rfl rfl rfl (gj_step (y_sub rfl rfl (by omega)) rfl rfl rfl (gj_step (y_quo rfl rfl (⟨by omega, by omega, by omega⟩)) rfl rfl rfl (gj_step (y_assign rfl) rfl rfl rfl (gj_nil ?_))))))
        refine ej_th (cj_seq ?_)
        have hr1 := ring_bd n1 ((l.length : Int) - 2 * (((l.length : Int) - 1) / 4)) (by omega)
        refine cj_regionG ?_
        refine gj_step (y_move rfl) rfl rfl rfl (gj_step (y_move rfl) rfl rfl rfl (gj_step (y_ixArr Tryd.underlying47 Tryd.sizeOf3 rfl rfl (by omega)) rfl rfl rfl (gj_step (y_load1 Tryd.isAgg3 rfl rfl) rfl rfl rfl (gj_step (y_move rfl) rfl rfl rfl (gj_step (y_lenA Tryd.underlying23 rfl) rfl rfl rfl (gj_step (y_move rfl) rfl rfl rfl (gj_step (y_mul rfl rfl (by omega)) rfl rfl rfl (gj_step (y_sub rfl rfl (by omega)) rfl rfl rfl (?_)))))))))
        refine gj_step (y_call Tryd.call27 rfl (fun w hp => k_Ring _ _ w (by omega))) rfl rfl rfl ?_
        refine gj_step (y_add rfl rfl (by omega)) rfl rfl rfl (gj_step (y_ixR (reads_sl) Tryd.underlying23 Tryd.sizeOf3 rfl rfl (⟨by omega, by omega⟩)) rfl rfl rfl (gj_step (y_ld0 (reads_sl) Tryd.isAgg3 rfl (geq 0 (by omega)) rfl) rfl rfl rfl (gj_step (y_assign rfl) rfl rfl rfl (?_))))
        refine gj_nil ?_
        refine ej_th (cj_seq (cj_seq ?_))
        obtain ⟨cj, hcj⟩ : ∃ cj, cj = ((((l.length : Int) - 1) / 4) + ringI n1 ((l.length : Int) - 2 * (((l.length : Int) - 1) / 4))).toNat := ⟨_, rfl⟩
        rw [← hcj]
        have hc1 : a ≤ l.getD cj 0 := by rw [ha]; exact sorted_getD hso (by omega) (by omega)
        have hc2 : l.getD cj 0 ≤ b := by rw [hbb]; exact sorted_getD hso (by omega) (by omega)
        obtain ⟨wt, hwt⟩ : ∃ wt, wt = wmin + ringI n0 (wmax - wmin + 1) := ⟨_, rfl⟩
        rw [← hwt]
        have hw1 : metal * wmin ≤ metal * wt := Int.mul_le_mul_of_nonneg_left (by omega) hme.1
        have hw2 : metal * wt ≤ metal * wmax := Int.mul_le_mul_of_nonneg_left (by omega) hme.1
        refine cj_regionG ?_
        refine gj_step (y_fa0 fa27_0 rfl) rfl rfl rfl (gj_step (y_load1 Tryd.isAgg3 rfl rfl) rfl rfl rfl (gj_step (y_move rfl) rfl rfl rfl (gj_step (y_fa fa25_2 rfl) rfl rfl rfl (gj_step (y_load1 Tryd.isAgg3 rfl rfl) rfl rfl rfl (gj_step (y_move rfl) rfl rfl rfl (gj_step (y_mul rfl rfl (by omega)) rfl rfl rfl (gj_step (y_add rfl rfl (by omega)) rfl rfl rfl (gj_step (y_fa fa27_1 rfl) rfl rfl rfl (gj_step (y_load1 Tryd.isAgg3 rfl rfl) rfl rfl rfl (?_))))))))))
        refine gj_step (y_call Tryd.call26 rfl (fun w hp => k_From _ _ _ w)) rfl rfl rfl ?_
        refine gj_step (y_not rfl) rfl rfl rfl (gj_step (y_move rfl) rfl rfl rfl (?_))
        refine gj_g 5 167 172 rfl rfl rfl rfl (fun hg167 => gj_yes rfl rfl rfl (y_move rfl) rfl rfl (gj_yes rfl rfl rfl (y_mul rfl rfl (by omega)) rfl rfl (gj_yes rfl rfl rfl (y_move rfl) rfl rfl (gj_yes rfl rfl rfl (y_lenA Tryd.underlying23 rfl) rfl rfl (gj_yes rfl rfl rfl (y_lss rfl rfl) rfl rfl (gj_nil rfl)))))) ?_
        refine gj_step (y_or rfl rfl rfl) rfl rfl rfl (?_)
        refine gj_nil ?_
        refine ej_th ?_
        refine cj_cond rfl (fun h173 => ?_) (fun h173 => ?_)
        · simp only [sxb] at h173
          omega
        · have h173b := h173
          try simp only [sxb] at h173
          refine cj_skip (ej_th (cj_seq ?_))
          have hr2 := ring_bd n2 (100001 - metal) (by omega)
          refine cj_plan 11 (by kernel_rfl) (by kernel_rfl) ?_
          refine pl_y 0 rfl (y_fa fa25_2 rfl) rfl rfl rfl rfl (by kernel_rfl) ?_
          refine pl_y 1 rfl (y_load1 Tryd.isAgg3 rfl rfl) rfl rfl rfl rfl (by kernel_rfl) ?_
          refine pl_y 2 rfl (y_ixArr Tryd.underlying47 Tryd.sizeOf3 rfl rfl (by omega)) rfl rfl rfl rfl (by kernel_rfl) ?_
          refine pl_y 3 rfl (y_load1 Tryd.isAgg3 rfl rfl) rfl rfl rfl rfl (by kernel_rfl) ?_
          refine pl_y 4 rfl (y_fa fa25_2 rfl) rfl rfl rfl rfl (by kernel_rfl) ?_
          refine pl_y 5 rfl (y_load1 Tryd.isAgg3 rfl rfl) rfl rfl rfl rfl (by kernel_rfl) ?_
          refine pl_y 6 rfl (y_sub rfl rfl (by omega)) rfl rfl rfl rfl (by kernel_rfl) ?_
          refine pl_y 7 rfl (y_call Tryd.call27 rfl (fun w hp => k_Ring _ _ w (by omega))) rfl rfl rfl rfl (by kernel_rfl) ?_
          refine pl_y 8 rfl (y_add rfl rfl (by omega)) rfl rfl rfl rfl (by kernel_rfl) ?_
          refine pl_y 9 rfl (y_fa fa25_2 rfl) rfl rfl rfl rfl (by kernel_rfl) ?_
          refine pl_w1 10 (by kernel_rfl) rfl rfl (pl_fire rfl rfl rfl (by kernel_rfl) ?_)
          refine oj_store rfl rfl rfl rfl Tryd.sizeOf3 rfl ?_
          refine oj_nil ?_
          refine ej_pl (lt_w (by kernel_rfl) (lt_w (by kernel_rfl) (lt_w (by kernel_rfl) (lt_w (by kernel_rfl) (lt_w (by kernel_rfl) (lt_w (by kernel_rfl) (lt_w (by kernel_rfl) (lt_w (by kernel_rfl) (lt_w (by kernel_rfl) (lt_w (by kernel_rfl) (lt_nil))))))))))) ?_
          refine pl_end (by kernel_rfl) ?_
          refine ej_th (cj_seq ?_)
          have hb2 := badMarket_metal (m2 := (metal + ringI n2 (100001 - metal))) hb (by omega)
          have hV2 := valueOf_mk hb2 hw (by rw [← hl]; exact hfw)
          rw [← hl] at hV2
          have e1 : (valueOf sales fade (metal + ringI n2 (100001 - metal)) day few kind wmin wmax).lo = a + (metal + ringI n2 (100001 - metal)) * wmin := by rw [hV2, ha]; simp only [midOf, hq1]
          have e2 : (valueOf sales fade (metal + ringI n2 (100001 - metal)) day few kind wmin wmax).hi = b + (metal + ringI n2 (100001 - metal)) * wmax := by rw [hV2, hbb]; simp only [midOf, hq2]
          have e3 : (valueOf sales fade (metal + ringI n2 (100001 - metal)) day few kind wmin wmax).err = 0 := by rw [hV2]; rfl
          have hn1 : metal * wmin ≤ (metal + ringI n2 (100001 - metal)) * wmin := Int.mul_le_mul_of_nonneg_right (by omega) (by omega)
          have hn2 : metal * wmax ≤ (metal + ringI n2 (100001 - metal)) * wmax := Int.mul_le_mul_of_nonneg_right (by omega) (by omega)
          refine cj_region ?_
          refine oj_step (y_loadN Tryd.isAgg25 Tryd.sizeOf25 rfl) rfl rfl rfl ?_
          refine oj_step (y_loadN Tryd.isAgg29 Tryd.sizeOf29 rfl) rfl rfl rfl ?_
          refine oj_step (y_call Tryd.call21 rfl (fun w hp => k_Value sales fade (metal + ringI n2 (100001 - metal)) day few As Af cs cf kind wmin wmax w hp.rd hp.rd)) rfl rfl rfl ?_
          refine oj_step (y_move rfl) rfl rfl rfl ?_
          refine oj_step (y_extract rfl rfl) rfl rfl rfl ?_
          refine oj_step (y_extract rfl rfl) rfl rfl rfl ?_
          refine oj_alloc Tryd.zeroValue27 rfl rfl (fun b15 => ?_)
          refine oj_store rfl rfl rfl rfl Tryd.sizeOf27 rfl ?_
          refine oj_step (y_assign rfl) rfl rfl rfl ?_
          refine oj_nil ?_
          refine ej_th (cj_seq ?_)
          refine cj_regionG ?_
          refine gj_step (y_move rfl) rfl rfl rfl (gj_step (y_eql rfl rfl) rfl rfl rfl (gj_step (y_move rfl) rfl rfl rfl (?_)))
          refine gj_g 5 192 197 rfl rfl rfl rfl (fun hg192 => gj_yes rfl rfl rfl (y_fa0 fa27_0 rfl) rfl rfl (gj_yes rfl rfl rfl (y_load1 Tryd.isAgg3 rfl rfl) rfl rfl (gj_yes rfl rfl rfl (y_fa0 fa27_0 rfl) rfl rfl (gj_yes rfl rfl rfl (y_load1 Tryd.isAgg3 rfl rfl) rfl rfl (gj_yes rfl rfl rfl (y_geq rfl rfl) rfl rfl (gj_nil rfl)))))) ?_
          refine gj_step (y_and rfl rfl rfl) rfl rfl rfl (gj_step (y_move rfl) rfl rfl rfl (?_))
          refine gj_g 5 199 204 rfl rfl rfl rfl (fun hg199 => gj_yes rfl rfl rfl (y_fa fa27_1 rfl) rfl rfl (gj_yes rfl rfl rfl (y_load1 Tryd.isAgg3 rfl rfl) rfl rfl (gj_yes rfl rfl rfl (y_fa fa27_1 rfl) rfl rfl (gj_yes rfl rfl rfl (y_load1 Tryd.isAgg3 rfl rfl) rfl rfl (gj_yes rfl rfl rfl (y_geq rfl rfl) rfl rfl (gj_nil rfl)))))) ?_
          refine gj_step (y_and rfl rfl rfl) rfl rfl rfl (gj_step (y_move rfl) rfl rfl rfl (?_))
          refine gj_g 1 206 207 rfl rfl rfl rfl (fun hg206 => gj_yes rfl rfl rfl (y_call Tryd.call23 rfl (fun w hp => k_works w hp.glo)) rfl rfl (gj_nil rfl)) ?_
          refine gj_step (y_and rfl rfl rfl) rfl rfl rfl (gj_step (y_assign rfl) rfl rfl rfl (?_))
          refine gj_nil ?_
          refine ej_th (cj_ret ?_)
          exact ej_ret1 rfl Tryd.results5 rfl (fun w' hp => ⟨by rw [e1, e2, e3]; simp; omega, hp.below⟩)

end Go.Proofs.YtafmgkiddhappaaDoor
