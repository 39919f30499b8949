/- Walks of functions of the program. -/
import Derived.Test.YtafmgkiddhappaaDoorWN
import Derived.Test.YtafmgkiddhappaaDoorPFair
import Derived.Test.YtafmgkiddhappaaDoorSxP
import Derived.Test.YtafmgkiddhappaaDoorTyKeep
import Derived.Test.YtafmgkiddhappaaDoorTyFair
namespace Go.Proofs.YtafmgkiddhappaaDoor
open Go.Sx Go.RowKit
set_option maxRecDepth 20000
theorem k_LoanFair (sales : List Sale) (fade : List Int) (metal day few : Int) (As Af : Option Addr) (cs cf : Nat) (kind wmin wmax fr fl cap wi mo : Int) (w : World) (hs : Rd w 5 encSale As sales) (hf : Rd w 1 enInt Af fade) (hG : Gl w 0 WAYS) (hsz : sales.length * 40 ≤ 140737488351232) : Calls Tryd.prog 6 #[.agg #[.slice As sales.length cs, .slice Af fade.length cf, .int .i64 metal, .int .i64 day, .int .i64 few], .agg #[.int .i64 kind, .int .i64 wmin, .int .i64 wmax], .agg #[.int .i64 fr, .int .i64 fl, .int .i64 cap, .int .i64 wi, .int .i64 mo]] w (fun e w' => e = .returned (.bool true) ∧ Grow w w') := by
  have hlen := hs.len
  refine enter_pure (args := [.agg #[.slice As sales.length cs, .slice Af fade.length cf, .int .i64 metal, .int .i64 day, .int .i64 few], .agg #[.int .i64 kind, .int .i64 wmin, .int .i64 wmax], .agg #[.int .i64 fr, .int .i64 fl, .int .i64 cap, .int .i64 wi, .int .i64 mo]]) [sl (fun b => b < w.heap.size) 5 encSale As sales, sl (fun b => b < w.heap.size) 1 enInt Af fade, gl 0 WAYS] Tryd.func6 rfl (by rw [Tryd.ntmps6]; simp) (fun g hg => by simp at hg; rcases hg with rfl | rfl | rfl; exact ⟨hs, fun _ h => h⟩; exact ⟨hf, fun _ h => h⟩; exact ⟨hG.1, fun b hb => by have : b = 0 := hb; rw [this]; exact hG.2⟩) ?_
  refine cj_seq (cj_region ?_)
  refine oj_box rfl rfl rfl (fun b3 => ?_)
  refine oj_box rfl rfl rfl (fun b4 => ?_)
  refine oj_box rfl rfl rfl (fun b5 => ?_)
  refine oj_step (y_assign rfl) rfl rfl rfl ?_
  refine oj_nil ?_
  refine ej_th (cj_seq (cj_region ?_))
  refine oj_step (y_loadN Tryd.isAgg25 Tryd.sizeOf25 rfl) rfl rfl rfl ?_
  refine oj_step (y_loadN Tryd.isAgg29 Tryd.sizeOf29 rfl) rfl rfl rfl ?_
  refine oj_step (y_call Tryd.call21 rfl (fun w hp => k_Value sales fade metal day few As Af cs cf kind wmin wmax w hp.rd hp.rd)) rfl rfl rfl ?_
  refine oj_step (y_move rfl) rfl rfl rfl ?_
  refine oj_step (y_extract rfl rfl) rfl rfl rfl ?_
  refine oj_step (y_extract rfl rfl) rfl rfl rfl ?_
  refine oj_alloc Tryd.zeroValue27 rfl rfl (fun b7 => ?_)
  refine oj_store rfl rfl rfl rfl Tryd.sizeOf27 rfl ?_
  refine oj_step (y_assign rfl) rfl rfl rfl ?_
  refine oj_nil ?_
  refine ej_th (cj_seq (cj_region ?_))
  refine oj_step (y_loadN Tryd.isAgg25 Tryd.sizeOf25 rfl) rfl rfl rfl ?_
  refine oj_alloc Tryd.zeroValue25 rfl rfl (fun b9 => ?_)
  refine oj_store rfl rfl rfl rfl Tryd.sizeOf25 rfl ?_
  refine oj_nil ?_
  refine ej_th (cj_seq (cj_region ?_))
  refine oj_step (y_fa0 fa25_0 rfl) rfl rfl rfl ?_
  refine oj_store rfl rfl rfl rfl Tryd.sizeOf22 rfl ?_
  refine oj_nil ?_
  refine ej_th (cj_seq (cj_seq ?_))
  refine cj_ownNil 56 5 encSale ?_
  refine cj_regionG (gj_step (y_fa0 fa25_0 rfl) rfl rfl rfl (gj_step (y_load1 Tryd.isAgg22 rfl rfl) rfl rfl rfl (gj_step (y_lenA Tryd.underlying22 rfl) rfl rfl rfl (gj_step (y_sub rfl rfl (by omega)) rfl rfl rfl (gj_step (y_assign rfl) rfl rfl rfl (gj_nil ?_))))))
  refine ej_th (cj_block ?_)
  refine cj_lpi (X := Nat × Int × Option Addr × Nat × List Sale) [(3, _), (4, _), (5, _), (6, _), (7, _), (8, _), (9, _)] (fun ⟨m, i, A, c, xs⟩ => m ≤ sales.length ∧ i = m - 1 ∧ xs = (sales.drop m).reverse) (fun ⟨m, i, A, c, xs⟩ => [(10, .int .i64 i)]) (fun ⟨m, i, A, c, xs⟩ => [ow 56 5 encSale A c xs, ownB b9 (cellsB 25 [.slice A xs.length c, .slice Af fade.length cf, .int .i64 metal, .int .i64 day, .int .i64 few]), ownB b7 (cellsB 27 [.int .i64 (valueOf sales fade metal day few kind wmin wmax).lo, .int .i64 (valueOf sales fade metal day few kind wmin wmax).hi]), ownB b5 (cellsB 54 [.int .i64 fr, .int .i64 fl, .int .i64 cap, .int .i64 wi, .int .i64 mo]), ownB b4 (cellsB 29 [.int .i64 kind, .int .i64 wmin, .int .i64 wmax]), ownB b3 (cellsB 25 [.slice As sales.length cs, .slice Af fade.length cf, .int .i64 metal, .int .i64 day, .int .i64 few])]) (fun ⟨m, i, A, c, xs⟩ => [sl (fun b => b < w.heap.size) 5 encSale As sales, sl (fun b => b < w.heap.size) 1 enInt Af fade, gl 0 WAYS]) (fun ⟨m, i, A, c, xs⟩ => m) (sales.length, sales.length - 1, none, 0, []) (⟨Nat.le_refl _, rfl, by simp⟩) ⟨rfl, rfl, rfl, rfl, rfl, rfl, rfl, rfl, trivial⟩ ?_
  rintro ⟨m, i, A, c, xs⟩ ⟨hm, hi, hxs⟩
  dsimp only [List.cons_append, List.nil_append]
  have hxl : xs.length = sales.length - m := by rw [hxs]; simp
  refine cj_seq (cj_seq ?_)
  refine cj_regionG (gj_step (y_move rfl) rfl rfl rfl (gj_step (y_geq rfl rfl) rfl rfl rfl (gj_nil ?_)))
  refine ej_th ?_
  refine cj_cond rfl (fun h32 => ?_) (fun h32 => ?_)
  · have h32b := h32
    try simp only [sxb] at h32
    obtain ⟨m, rfl⟩ : ∃ m0, m = m0 + 1 := ⟨m - 1, by omega⟩
    obtain rfl : i = m := by omega
    obtain ⟨s, hx⟩ : ∃ s, sales[m]? = some s := ⟨_, List.getElem?_eq_getElem (by omega)⟩
    have hdr := drop_rev hx
    refine cj_skip (ej_th (cj_seq (cj_block ?_)))
    refine cj_plan 11 (by kernel_rfl) (by kernel_rfl) ?_
    refine pl_y 0 rfl (y_fa0 fa25_0 rfl) rfl rfl rfl rfl (by kernel_rfl) ?_
    refine pl_y 1 rfl (y_load1 Tryd.isAgg22 rfl rfl) rfl rfl rfl rfl (by kernel_rfl) ?_
    refine pl_y 2 rfl (y_fa0 fa25_0 rfl) rfl rfl rfl rfl (by kernel_rfl) ?_
    refine pl_y 3 rfl (y_load1 Tryd.isAgg22 rfl rfl) rfl rfl rfl rfl (by kernel_rfl) ?_
    refine pl_y 4 rfl (y_move rfl) rfl rfl rfl rfl (by kernel_rfl) ?_
    refine pl_y 5 rfl (y_ixR (reads_sl) Tryd.underlying22 Tryd.sizeOf56 rfl rfl (⟨by omega, by omega⟩)) rfl rfl rfl rfl (by kernel_rfl) ?_
    refine pl_y 6 rfl (y_ldW (reads_sl) Tryd.isAgg56 Tryd.sizeOf56 rfl (hx) (fun _ => rfl)) rfl rfl rfl rfl (by kernel_rfl) ?_
    refine pl_w1 7 (by kernel_rfl) rfl rfl (pl_fire rfl rfl rfl (by kernel_rfl) ?_)
    refine oj_buildSlice (cs := [.int .i64 s.kind, .int .i64 s.day, .int .i64 s.weight, .int .i64 s.metal, .int .i64 s.price]) [.int .i64 0, .int .i64 0, .int .i64 0, .int .i64 0, .int .i64 0] Tryd.underlying22 Tryd.sizeOf56 Tryd.zeroValue56 rfl rfl (by kernel_rfl) (by kernel_rfl) rfl (fun b42 => ?_)
    refine oj_nil ?_
    refine ej_pl (lt_w (by kernel_rfl) (lt_y (y_ixR (reads_sl) Tryd.underlying22 Tryd.sizeOf56 rfl rfl (⟨by omega, by omega⟩)) rfl (lt_y (y_move rfl) rfl (lt_y (y_load1 Tryd.isAgg22 rfl rfl) rfl (lt_y (y_fa0 fa25_0 rfl) rfl (lt_y (y_load1 Tryd.isAgg22 rfl rfl) rfl (lt_y (y_fa0 fa25_0 rfl) rfl (lt_nil)))))))) ?_
    refine pl_w1 8 (by kernel_rfl) rfl rfl (pl_fire rfl rfl rfl (by kernel_rfl) ?_)
    refine oj_append  el22 (fun _ => rfl) encSale_one rfl rfl rfl (reads_lit [s] (fun _ => rfl) rfl) (by simp [maxLen]; omega) (by simp; omega) rfl (fun A43 c43 => ?_)
    refine oj_nil ?_
    refine ej_pl (lt_y (y_ldW (reads_sl) Tryd.isAgg56 Tryd.sizeOf56 rfl (hx) (fun _ => rfl)) rfl (lt_y (y_ixR (reads_sl) Tryd.underlying22 Tryd.sizeOf56 rfl rfl (⟨by omega, by omega⟩)) rfl (lt_y (y_move rfl) rfl (lt_y (y_load1 Tryd.isAgg22 rfl rfl) rfl (lt_y (y_fa0 fa25_0 rfl) rfl (lt_w (by kernel_rfl) (lt_y (y_fa0 fa25_0 rfl) rfl (lt_nil)))))))) ?_
    refine pl_y 9 rfl (y_fa0 fa25_0 rfl) rfl rfl rfl rfl (by kernel_rfl) ?_
    refine pl_w1 10 (by kernel_rfl) rfl rfl (pl_fire rfl rfl rfl (by kernel_rfl) ?_)
    refine oj_store rfl rfl rfl rfl Tryd.sizeOf22 rfl ?_
    refine oj_nil ?_
    refine ej_pl (lt_w (by kernel_rfl) (lt_w (by kernel_rfl) (lt_w (by kernel_rfl) (lt_w (by kernel_rfl) (lt_w (by kernel_rfl) (lt_w (by kernel_rfl) (lt_w (by kernel_rfl) (lt_w (by kernel_rfl) (lt_nil))))))))) ?_
    refine pl_end (by kernel_rfl) ?_
    refine ej_blk (ej_th ?_)
    refine cj_regionG (gj_step (y_move rfl) rfl rfl rfl (gj_step (y_sub rfl rfl (by omega)) rfl rfl rfl (gj_step (y_assign rfl) rfl rfl rfl (gj_nil ?_))))
    exact ej_nx (m, (m : Int) - 1, A43, c43, xs ++ [s]) (by simp only; omega) ⟨by first | omega | (simp only; omega), rfl, by rw [hdr, hxs]⟩ ⟨rfl, rfl, rfl, rfl, rfl, rfl, rfl, rfl, trivial⟩
  · have h32b := h32
    try simp only [sxb] at h32
    obtain rfl : m = 0 := by omega
    rw [List.drop_zero] at hxs
    subst hxs
    refine cj_exit (ej_then_exit (ej_then_exit (ej_blk_hit (ej_th (cj_seq (cj_region ?_))))))
    refine oj_step (y_loadN Tryd.isAgg25 Tryd.sizeOf25 rfl) rfl rfl rfl ?_
    refine oj_step (y_loadN Tryd.isAgg29 Tryd.sizeOf29 rfl) rfl rfl rfl ?_
    refine oj_step (y_call Tryd.call21 rfl (fun w hp => k_Value sales.reverse fade metal day few A Af c cf kind wmin wmax w (hp.rdO (fun _ => rfl) (by unfold maxLen; simp; omega)) hp.rd)) rfl rfl rfl ?_
    refine oj_step (y_move rfl) rfl rfl rfl ?_
    refine oj_step (y_extract rfl rfl) rfl rfl rfl ?_
    refine oj_step (y_extract rfl rfl) rfl rfl rfl ?_
    refine oj_alloc Tryd.zeroValue27 rfl rfl (fun b11 => ?_)
    refine oj_store rfl rfl rfl rfl Tryd.sizeOf27 rfl ?_
    refine oj_step (y_assign rfl) rfl rfl rfl ?_
    refine oj_nil ?_
    refine ej_th (cj_seq (cj_seq ?_))
    refine cj_regionG (gj_step (y_loadN Tryd.isAgg27 Tryd.sizeOf27 rfl) rfl rfl rfl (gj_step (y_loadN Tryd.isAgg27 Tryd.sizeOf27 rfl) rfl rfl rfl (gj_step (y_bin rfl rfl (fun x y w => ne27 _ _ _ _ x y w)) rfl rfl rfl (gj_step (y_move rfl) rfl rfl rfl (gj_g 3 54 57 rfl rfl rfl rfl (fun hg54 => gj_yes rfl rfl rfl (y_move rfl) rfl rfl (gj_yes rfl rfl rfl (y_move rfl) rfl rfl (gj_yes rfl rfl rfl (y_neq rfl rfl) rfl rfl (gj_nil rfl)))) (gj_step (y_or rfl rfl rfl) rfl rfl rfl (gj_nil ?_)))))))
    refine ej_th ?_
    refine cj_cond rfl (fun h58 => ?_) (fun h58 => ?_)
    · rw [value_rev] at h58
      simp at h58
    · have h58b := h58
      try simp only [sxb] at h58
      refine cj_skip (ej_th (cj_seq (cj_seq ?_)))
      refine cj_regionG (gj_step (y_move rfl) rfl rfl rfl (gj_step (y_neq rfl rfl) rfl rfl rfl (gj_nil ?_)))
      refine ej_th ?_
      refine cj_cond rfl (fun h60 => ?_) (fun h60 => ?_)
      · have h60b := h60
        try simp only [sxb] at h60
        skip
        refine cj_seq ?_
        refine cj_regionG ?_
        refine gj_step (y_call Tryd.call23 rfl (fun w hp => k_works w hp.glo)) rfl rfl rfl ?_
        refine gj_step (y_assign rfl) rfl rfl rfl (?_)
        refine gj_nil ?_
        refine ej_th (cj_ret (ej_then_ret ?_))
        exact ej_ret1 rfl Tryd.results6 rfl (fun w' hp => ⟨rfl, hp.below⟩)
      · have h60b := h60
        try simp only [sxb] at h60
        obtain ⟨lo, hlo⟩ : ∃ lo, lo = (valueOf sales fade metal day few kind wmin wmax).lo := ⟨_, rfl⟩
        obtain ⟨hi, hhi⟩ : ∃ hi, hi = (valueOf sales fade metal day few kind wmin wmax).hi := ⟨_, rfl⟩
        rw [← hlo, ← hhi]
        refine cj_skip (ej_th (cj_seq ?_))
        refine cj_regionG ?_
        refine gj_step (y_fa0 fa54_0 rfl) rfl rfl rfl (gj_step (y_loadN Tryd.isAgg52 Tryd.sizeOf52 rfl) rfl rfl rfl (gj_step (y_loadN Tryd.isAgg27 Tryd.sizeOf27 rfl) rfl rfl rfl (?_)))
        refine gj_step (y_call Tryd.call28 rfl (fun w hp => k_Most fr fl cap lo hi w)) rfl rfl rfl ?_
        refine gj_step (y_move rfl) rfl rfl rfl (gj_step (y_extract rfl rfl) rfl rfl rfl (gj_step (y_extract rfl rfl) rfl rfl rfl (gj_step (y_assign rfl) rfl rfl rfl (gj_step (y_assign rfl) rfl rfl rfl (?_)))))
        refine gj_nil ?_
        refine ej_th (cj_seq (cj_seq ?_))
        refine cj_regionG (gj_step (y_move rfl) rfl rfl rfl (gj_step (y_neq rfl rfl) rfl rfl rfl (gj_nil ?_)))
        refine ej_th ?_
        refine cj_cond rfl (fun h70 => ?_) (fun h70 => ?_)
        · have h70b := h70
          try simp only [sxb] at h70
          obtain ⟨hn0, hn1⟩ := mostE_no h70
          rw [hn0]
          refine cj_seq ?_
          refine cj_regionG ?_
          refine gj_step (y_move rfl) rfl rfl rfl (gj_step (y_eql rfl rfl) rfl rfl rfl (gj_step (y_move rfl) rfl rfl rfl (?_)))
          refine gj_g 6 73 79 rfl rfl rfl rfl (fun hg73 => gj_yes rfl rfl rfl (y_move rfl) rfl rfl (gj_yes rfl rfl rfl (y_eql rfl rfl) rfl rfl (gj_yes rfl rfl rfl (y_move rfl) rfl rfl (gj_g 2 76 78 rfl rfl rfl rfl (fun hg76 => gj_yes rfl rfl rfl (y_move rfl) rfl rfl (gj_yes rfl rfl rfl (y_eql rfl rfl) rfl rfl (gj_nil rfl))) (gj_yes rfl rfl rfl (y_or rfl rfl rfl) rfl rfl (gj_nil rfl)))))) ?_
          refine gj_step (y_and rfl rfl rfl) rfl rfl rfl (gj_step (y_move rfl) rfl rfl rfl (?_))
          refine gj_g 1 81 82 rfl rfl rfl rfl (fun hg81 => gj_yes rfl rfl rfl (y_call Tryd.call23 rfl (fun w hp => k_works w hp.glo)) rfl rfl (gj_nil rfl)) ?_
          refine gj_step (y_and rfl rfl rfl) rfl rfl rfl (gj_step (y_assign rfl) rfl rfl rfl (?_))
          refine gj_nil ?_
          refine ej_th (cj_ret (ej_then_ret ?_))
          exact ej_ret1 rfl Tryd.results6 rfl (fun w' hp => ⟨by rcases hn1 with h | h <;> rw [h] <;> rfl, hp.below⟩)
        · have h70b := h70
          try simp only [sxb] at h70
          obtain ⟨⟨hfr, hcap, hfl⟩, hsp, hbt, hmn⟩ := mostE_ok h70
          have hq := frac_bd hfr (show 0 ≤ lo ∧ lo ≤ 2147483648 by omega)
          have hmb := most_bd hfr (show 0 ≤ lo ∧ lo ≤ 2147483648 by omega) hfl
          rw [← hmn] at hmb
          have hr1 := ring_bd mo 100000 (by omega)
          have hr2 := ring_bd wi 1073741824 (by omega)
          refine cj_skip (ej_th (cj_seq ?_))
          refine cj_regionG (gj_step (y_fa0 fa54_0 rfl) rfl rfl rfl (gj_step (y_fa fa52_1 rfl) rfl rfl rfl (gj_step (y_load1 Tryd.isAgg3 rfl rfl) rfl rfl rfl (gj_step (y_fa0 fa27_0 rfl) rfl rfl rfl (gj_step (y_load1 Tryd.isAgg3 rfl rfl) rfl rfl rfl (gj_step (y_min rfl rfl) rfl rfl rfl (gj_step (y_assign rfl) rfl rfl rfl (gj_nil ?_))))))))
          refine ej_th (cj_seq (cj_seq ?_))
          refine cj_regionG ?_
          refine gj_step (y_move rfl) rfl rfl rfl (gj_step (y_fa0 fa54_0 rfl) rfl rfl rfl (gj_step (y_fa fa52_2 rfl) rfl rfl rfl (gj_step (y_load1 Tryd.isAgg3 rfl rfl) rfl rfl rfl (gj_step (y_gtr rfl rfl) rfl rfl rfl (gj_step (y_move rfl) rfl rfl rfl (?_))))))
          refine gj_g 4 95 99 rfl rfl rfl rfl (fun hg95 => gj_yes rfl rfl rfl (y_move rfl) rfl rfl (gj_yes rfl rfl rfl (y_fa0 fa27_0 rfl) rfl rfl (gj_yes rfl rfl rfl (y_load1 Tryd.isAgg3 rfl rfl) rfl rfl (gj_yes rfl rfl rfl (y_gtr rfl rfl) rfl rfl (gj_nil rfl))))) ?_
          refine gj_step (y_or rfl rfl rfl) rfl rfl rfl (gj_step (y_move rfl) rfl rfl rfl (?_))
          refine gj_g 11 101 112 rfl rfl rfl rfl (fun hg101 => gj_yes rfl rfl rfl (y_move rfl) rfl rfl (gj_yes rfl rfl rfl (y_fa0 fa27_0 rfl) rfl rfl (gj_yes rfl rfl rfl (y_load1 Tryd.isAgg3 rfl rfl) rfl rfl (gj_yes rfl rfl rfl (y_fa0 fa54_0 rfl) rfl rfl (gj_yes rfl rfl rfl (y_fa0 fa52_0 rfl) rfl rfl (gj_yes rfl rfl rfl (y_load1 Tryd.isAgg3 rfl rfl) rfl rfl (gj_yes rfl rfl rfl (y_mul rfl rfl (by omega)) rfl rfl (gj_yes rfl rfl rfl (y_call Tryd.call29 rfl (fun w hp => k_Down _ _ w (by omega) (by omega))) rfl rfl (gj_yes rfl rfl rfl (y_move rfl) rfl rfl (gj_yes rfl rfl rfl (y_max rfl rfl) rfl rfl (gj_yes rfl rfl rfl (y_gtr rfl rfl) rfl rfl (gj_nil rfl)))))))))))) ?_
          refine gj_step (y_or rfl rfl rfl) rfl rfl rfl (gj_step (y_move rfl) rfl rfl rfl (?_))
          refine gj_g 7 114 121 rfl rfl rfl rfl (fun hg114 => gj_yes rfl rfl rfl (y_move rfl) rfl rfl (gj_yes rfl rfl rfl (y_move rfl) rfl rfl (gj_yes rfl rfl rfl (y_fa0 fa54_0 rfl) rfl rfl (gj_yes rfl rfl rfl (y_fa fa52_2 rfl) rfl rfl (gj_yes rfl rfl rfl (y_load1 Tryd.isAgg3 rfl rfl) rfl rfl (gj_yes rfl rfl rfl (y_min rfl rfl) rfl rfl (gj_yes rfl rfl rfl (y_lss rfl rfl) rfl rfl (gj_nil rfl)))))))) ?_
          refine gj_step (y_or rfl rfl rfl) rfl rfl rfl (?_)
          refine gj_nil ?_
          refine ej_th ?_
          refine cj_cond rfl (fun h122 => ?_) (fun h122 => ?_)
          · simp only [sxb] at h122
            exfalso
            omega
          · have h122b := h122
            try simp only [sxb] at h122
            refine cj_skip (ej_th (cj_seq ?_))
            refine cj_plan 15 (by kernel_rfl) (by kernel_rfl) ?_
            refine pl_y 0 rfl (y_fa0 fa27_0 rfl) rfl rfl rfl rfl (by kernel_rfl) ?_
            refine pl_y 1 rfl (y_load1 Tryd.isAgg3 rfl rfl) rfl rfl rfl rfl (by kernel_rfl) ?_
            refine pl_y 2 rfl (y_fa fa54_2 rfl) rfl rfl rfl rfl (by kernel_rfl) ?_
            refine pl_y 3 rfl (y_load1 Tryd.isAgg3 rfl rfl) rfl rfl rfl rfl (by kernel_rfl) ?_
            refine pl_y 4 rfl (y_call Tryd.call27 rfl (fun w hp => k_Ring _ _ w (by omega))) rfl rfl rfl rfl (by kernel_rfl) ?_
            refine pl_y 5 rfl (y_add rfl rfl (by omega)) rfl rfl rfl rfl (by kernel_rfl) ?_
            refine pl_y 6 rfl (y_fa fa27_1 rfl) rfl rfl rfl rfl (by kernel_rfl) ?_
            refine pl_y 7 rfl (y_load1 Tryd.isAgg3 rfl rfl) rfl rfl rfl rfl (by kernel_rfl) ?_
            refine pl_y 8 rfl (y_fa fa54_2 rfl) rfl rfl rfl rfl (by kernel_rfl) ?_
            refine pl_y 9 rfl (y_load1 Tryd.isAgg3 rfl rfl) rfl rfl rfl rfl (by kernel_rfl) ?_
            refine pl_y 10 rfl (y_call Tryd.call27 rfl (fun w hp => k_Ring _ _ w (by omega))) rfl rfl rfl rfl (by kernel_rfl) ?_
            refine pl_y 11 rfl (y_add rfl rfl (by omega)) rfl rfl rfl rfl (by kernel_rfl) ?_
            refine pl_y 12 rfl (y_build (cs := [.int .i64 (lo + ringI mo 100000), .int .i64 (hi + ringI mo 100000)]) st27 rfl (by kernel_rfl)) rfl rfl rfl rfl (by kernel_rfl) ?_
            refine pl_w1 13 (by kernel_rfl) rfl rfl (pl_fire rfl rfl rfl (by kernel_rfl) ?_)
            refine oj_alloc Tryd.zeroValue27 rfl rfl (fun b15 => ?_)
            refine oj_nil ?_
            refine ej_pl (lt_y (y_build (cs := [.int .i64 (lo + ringI mo 100000), .int .i64 (hi + ringI mo 100000)]) st27 rfl (by kernel_rfl)) rfl (lt_y (y_add rfl rfl (by omega)) rfl (lt_y (y_call Tryd.call27 rfl (fun w hp => k_Ring _ _ w (by omega))) rfl (lt_y (y_load1 Tryd.isAgg3 rfl rfl) rfl (lt_y (y_fa fa54_2 rfl) rfl (lt_y (y_load1 Tryd.isAgg3 rfl rfl) rfl (lt_y (y_fa fa27_1 rfl) rfl (lt_y (y_add rfl rfl (by omega)) rfl (lt_y (y_call Tryd.call27 rfl (fun w hp => k_Ring _ _ w (by omega))) rfl (lt_y (y_load1 Tryd.isAgg3 rfl rfl) rfl (lt_y (y_fa fa54_2 rfl) rfl (lt_y (y_load1 Tryd.isAgg3 rfl rfl) rfl (lt_y (y_fa0 fa27_0 rfl) rfl (lt_nil)))))))))))))) ?_
            refine pl_w1 14 (by kernel_rfl) rfl rfl (pl_fire rfl rfl rfl (by kernel_rfl) ?_)
            refine oj_store rfl rfl rfl rfl Tryd.sizeOf27 rfl ?_
            refine oj_nil ?_
            refine ej_pl (lt_w (by kernel_rfl) (lt_w (by kernel_rfl) (lt_w (by kernel_rfl) (lt_w (by kernel_rfl) (lt_w (by kernel_rfl) (lt_w (by kernel_rfl) (lt_w (by kernel_rfl) (lt_w (by kernel_rfl) (lt_w (by kernel_rfl) (lt_w (by kernel_rfl) (lt_w (by kernel_rfl) (lt_w (by kernel_rfl) (lt_w (by kernel_rfl) (lt_nil)))))))))))))) ?_
            refine pl_end (by kernel_rfl) ?_
            refine ej_th (cj_seq ?_)
            refine cj_regionG ?_
            refine gj_step (y_fa0 fa54_0 rfl) rfl rfl rfl (gj_step (y_loadN Tryd.isAgg52 Tryd.sizeOf52 rfl) rfl rfl rfl (gj_step (y_loadN Tryd.isAgg27 Tryd.sizeOf27 rfl) rfl rfl rfl (?_)))
            refine gj_step (y_call Tryd.call28 rfl (fun w hp => k_Most fr fl cap (lo + ringI mo 100000) (hi + ringI mo 100000) w)) rfl rfl rfl ?_
            refine gj_step (y_move rfl) rfl rfl rfl (gj_step (y_extract rfl rfl) rfl rfl rfl (gj_step (y_extract rfl rfl) rfl rfl rfl (gj_step (y_assign rfl) rfl rfl rfl (gj_step (y_assign rfl) rfl rfl rfl (?_)))))
            refine gj_nil ?_
            refine ej_th (cj_seq (cj_seq ?_))
            refine cj_regionG (gj_step (y_move rfl) rfl rfl rfl (gj_step (y_neq rfl rfl) rfl rfl rfl (gj_step (y_move rfl) rfl rfl rfl (gj_g 2 145 147 rfl rfl rfl rfl (fun hg145 => gj_yes rfl rfl rfl (y_move rfl) rfl rfl (gj_yes rfl rfl rfl (y_neq rfl rfl) rfl rfl (gj_nil rfl))) (gj_step (y_and rfl rfl rfl) rfl rfl rfl (gj_step (y_move rfl) rfl rfl rfl (gj_g 7 149 156 rfl rfl rfl rfl (fun hg149 => gj_yes rfl rfl rfl (y_move rfl) rfl rfl (gj_yes rfl rfl rfl (y_eql rfl rfl) rfl rfl (gj_yes rfl rfl rfl (y_move rfl) rfl rfl (gj_g 3 152 155 rfl rfl rfl rfl (fun hg152 => gj_yes rfl rfl rfl (y_move rfl) rfl rfl (gj_yes rfl rfl rfl (y_move rfl) rfl rfl (gj_yes rfl rfl rfl (y_lss rfl rfl) rfl rfl (gj_nil rfl)))) (gj_yes rfl rfl rfl (y_and rfl rfl rfl) rfl rfl (gj_nil rfl)))))) (gj_step (y_or rfl rfl rfl) rfl rfl rfl (gj_nil ?_)))))))))
            refine ej_th ?_
            refine cj_cond rfl (fun h157 => ?_) (fun h157 => ?_)
            · exfalso
              simp only [sxb] at h157
              rcases h157 with h | h
              · have := mostE_no h.1
                unfold MostE at this h
                rw [hbt] at this h
                simp only [Bool.false_eq_true, if_false] at this h
                split at h <;> omega
              · obtain ⟨_, _, _, hm2⟩ := mostE_ok h.1
                have := most_mono (fl := fl) (cap := cap) hfr.1 (show lo ≤ lo + ringI mo 100000 by omega)
                rw [hm2, hmn] at h
                omega
            · have h157b := h157
              try simp only [sxb] at h157
              refine cj_skip (ej_th (cj_seq ?_))
              refine cj_regionG ?_
              refine gj_step (y_fa fa54_1 rfl) rfl rfl rfl (gj_step (y_load1 Tryd.isAgg3 rfl rfl) rfl rfl rfl (?_))
              refine gj_step (y_call Tryd.call27 rfl (fun w hp => k_Ring _ _ w (by omega))) rfl rfl rfl ?_
              refine gj_step (y_add rfl rfl (by omega)) rfl rfl rfl (gj_step (y_assign rfl) rfl rfl rfl (?_))
              refine gj_nil ?_
              refine ej_th (cj_seq ?_)
              refine cj_regionG ?_
              refine gj_step (y_fa0 fa54_0 rfl) rfl rfl rfl (gj_step (y_loadN Tryd.isAgg52 Tryd.sizeOf52 rfl) rfl rfl rfl (gj_step (y_loadN Tryd.isAgg27 Tryd.sizeOf27 rfl) rfl rfl rfl (gj_step (y_move rfl) rfl rfl rfl (?_))))
              refine gj_step (y_call Tryd.call30 rfl (fun w hp => k_Lend fr fl cap lo hi (1 + ringI wi 1073741824) w)) rfl rfl rfl ?_
              refine gj_step (y_move rfl) rfl rfl rfl (gj_step (y_extract rfl rfl) rfl rfl rfl (gj_step (y_extract rfl rfl) rfl rfl rfl (gj_step (y_assign rfl) rfl rfl rfl (gj_step (y_assign rfl) rfl rfl rfl (?_)))))
              refine gj_nil ?_
              refine ej_th (cj_seq ?_)
              refine cj_regionG ?_
              refine gj_step (y_move rfl) rfl rfl rfl (gj_step (y_eql rfl rfl) rfl rfl rfl (gj_step (y_move rfl) rfl rfl rfl (?_)))
              refine gj_g 2 172 174 rfl rfl rfl rfl (fun hg172 => gj_yes rfl rfl rfl (y_move rfl) rfl rfl (gj_yes rfl rfl rfl (y_eql rfl rfl) rfl rfl (gj_nil rfl))) ?_
              refine gj_step (y_and rfl rfl rfl) rfl rfl rfl (gj_step (y_move rfl) rfl rfl rfl (?_))
              refine gj_g 2 176 178 rfl rfl rfl rfl (fun hg176 => gj_yes rfl rfl rfl (y_move rfl) rfl rfl (gj_yes rfl rfl rfl (y_eql rfl rfl) rfl rfl (gj_nil rfl))) ?_
              refine gj_step (y_and rfl rfl rfl) rfl rfl rfl (gj_step (y_move rfl) rfl rfl rfl (?_))
              refine gj_g 13 180 193 rfl rfl rfl rfl (fun hg180 => gj_yes rfl rfl rfl (y_move rfl) rfl rfl (gj_yes rfl rfl rfl (y_gtr rfl rfl) rfl rfl (gj_yes rfl rfl rfl (y_move rfl) rfl rfl (gj_g 2 183 185 rfl rfl rfl rfl (fun hg183 => gj_yes rfl rfl rfl (y_move rfl) rfl rfl (gj_yes rfl rfl rfl (y_eql rfl rfl) rfl rfl (gj_nil rfl))) (gj_yes rfl rfl rfl (y_and rfl rfl rfl) rfl rfl (gj_yes rfl rfl rfl (y_move rfl) rfl rfl (gj_g 5 187 192 rfl rfl rfl rfl (fun hg187 => gj_yes rfl rfl rfl (y_move rfl) rfl rfl (gj_yes rfl rfl rfl (y_move rfl) rfl rfl (gj_yes rfl rfl rfl (y_move rfl) rfl rfl (gj_yes rfl rfl rfl (y_min rfl rfl) rfl rfl (gj_yes rfl rfl rfl (y_eql rfl rfl) rfl rfl (gj_nil rfl)))))) (gj_yes rfl rfl rfl (y_and rfl rfl rfl) rfl rfl (gj_nil rfl))))))))) ?_
              refine gj_step (y_or rfl rfl rfl) rfl rfl rfl (gj_step (y_move rfl) rfl rfl rfl (?_))
              refine gj_g 1 195 196 rfl rfl rfl rfl (fun hg195 => gj_yes rfl rfl rfl (y_call Tryd.call23 rfl (fun w hp => k_works w hp.glo)) rfl rfl (gj_nil rfl)) ?_
              refine gj_step (y_and rfl rfl rfl) rfl rfl rfl (gj_step (y_assign rfl) rfl rfl rfl (?_))
              refine gj_nil ?_
              refine ej_th (cj_ret ?_)
              refine ej_ret1 rfl Tryd.results6 rfl (fun w' hp => ⟨?_, hp.below⟩)
              have hl := lend_of (wish := 1 + ringI wi 1073741824) h70 (by omega)
              by_cases h0 : MostN fr fl cap lo hi = 0
              · obtain ⟨h1, h2⟩ := hl.1 h0
                rw [h1, h2, h0]; rfl
              · obtain ⟨h1, h2⟩ := hl.2 h0
                rw [h1, h2]
                have h3 : decide (0 < MostN fr fl cap lo hi) = true := decide_eq_true (by omega)
                rw [h3]; simp

end Go.Proofs.YtafmgkiddhappaaDoor
