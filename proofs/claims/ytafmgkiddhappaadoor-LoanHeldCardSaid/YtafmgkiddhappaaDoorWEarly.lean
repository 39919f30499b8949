/- Walks of functions of the program. -/
import Derived.Test.YtafmgkiddhappaaDoorWN
import Derived.Test.YtafmgkiddhappaaDoorPGo
import Derived.Test.YtafmgkiddhappaaDoorPN
import Derived.Test.YtafmgkiddhappaaDoorSxP
import Derived.Test.YtafmgkiddhappaaDoorTyKeep
import Derived.Test.YtafmgkiddhappaaDoorTyFair
import Derived.Test.YtafmgkiddhappaaDoorTyEarly
namespace Go.Proofs.YtafmgkiddhappaaDoor
open Go.Sx Go.RowKit
set_option maxRecDepth 20000
theorem k_LoanEarly (d : Deal) (Ac : Option Addr) (cc : Nat) (n0 n1 n2 n3 : Int) (w : World) (hc : Rd w 1 enInt Ac d.closed) (hG : Gl w 0 WAYS) : Calls Tryd.prog 7 #[.agg #[.int .i64 d.lr, .int .i64 d.lc, .int .i64 d.tr, .int .i64 d.tf, .int .i64 d.te, .int .i64 d.tt, .int .i64 d.tg, .slice Ac d.closed.length cc, .int .i64 d.start, .int .i64 d.sum], .agg #[.int .i64 n0, .int .i64 n1, .int .i64 n2, .int .i64 n3]] w (fun e w' => e = .returned (.bool true) ∧ Grow w w') := by
  refine enter_pure (args := [.agg #[.int .i64 d.lr, .int .i64 d.lc, .int .i64 d.tr, .int .i64 d.tf, .int .i64 d.te, .int .i64 d.tt, .int .i64 d.tg, .slice Ac d.closed.length cc, .int .i64 d.start, .int .i64 d.sum], .agg #[.int .i64 n0, .int .i64 n1, .int .i64 n2, .int .i64 n3]]) [sl (fun b => b < w.heap.size) 1 enInt Ac d.closed, gl 0 WAYS] Tryd.func7 rfl (by rw [Tryd.ntmps7]; simp) (fun g hg => by simp at hg; rcases hg with rfl | rfl; exact ⟨hc, fun _ h => h⟩; exact ⟨hG.1, fun b hb => by have : b = 0 := hb; rw [this]; exact hG.2⟩) ?_
  refine cj_seq (cj_region ?_)
  refine oj_box rfl rfl rfl (fun b2 => ?_)
  refine oj_box rfl rfl rfl (fun b3 => ?_)
  refine oj_step (y_assign rfl) rfl rfl rfl ?_
  refine oj_nil ?_
  refine ej_th (cj_seq (cj_seq ?_))
  refine cj_regionG ?_
  refine gj_step (y_loadN Tryd.isAgg44 Tryd.sizeOf44 rfl) rfl rfl rfl (?_)
  refine gj_step (y_call Tryd.call31 rfl (fun w hp => k_Check d Ac cc w hp.rd)) rfl rfl rfl ?_
  refine gj_step (y_neq rfl rfl) rfl rfl rfl (gj_step (y_move rfl) rfl rfl rfl (?_))
  refine gj_g 4 16 20 rfl rfl rfl rfl (fun hg16 => gj_yes rfl rfl rfl (y_fa fa44_3 rfl) rfl rfl (gj_yes rfl rfl rfl (y_load1 Tryd.isAgg3 rfl rfl) rfl rfl (gj_yes rfl rfl rfl (y_call Tryd.call26 rfl (fun w hp => k_From _ _ _ w)) rfl rfl (gj_yes rfl rfl rfl (y_not rfl) rfl rfl (gj_nil rfl))))) ?_
  refine gj_step (y_or rfl rfl rfl) rfl rfl rfl (gj_step (y_move rfl) rfl rfl rfl (?_))
  refine gj_g 3 22 25 rfl rfl rfl rfl (fun hg22 => gj_yes rfl rfl rfl (y_fa fa44_4 rfl) rfl rfl (gj_yes rfl rfl rfl (y_load1 Tryd.isAgg3 rfl rfl) rfl rfl (gj_yes rfl rfl rfl (y_lss rfl rfl) rfl rfl (gj_nil rfl)))) ?_
  refine gj_step (y_or rfl rfl rfl) rfl rfl rfl (?_)
  refine gj_nil ?_
  refine ej_th ?_
  refine cj_cond rfl (fun h26 => ?_) (fun h26 => ?_)
  · have h26b := h26
    try simp only [sxb] at h26
    refine cj_seq ?_
    refine cj_regionG ?_
    refine gj_step (y_call Tryd.call23 rfl (fun w hp => k_works w hp.glo)) rfl rfl rfl ?_
    refine gj_step (y_assign rfl) rfl rfl rfl (?_)
    refine gj_nil ?_
    refine ej_th (cj_ret (ej_then_ret ?_))
    exact ej_ret1 rfl Tryd.results7 rfl (fun w' hp => ⟨rfl, hp.below⟩)
  · have h26b := h26
    try simp only [sxb] at h26
    have he : errD (badDeal d) = 0 := by omega
    rw [errD_eq] at he
    have hd := badDeal_no he
    have hsum := hd.sum
    have hst := hd.start
    have hr0 := ring_bd n0 d.sum (by omega)
    have hr1 := ring_bd n1 400 (by omega)
    have hr2 := ring_bd n2 100 (by omega)
    have hr3 := ring_bd n3 400 (by omega)
    refine cj_skip (ej_th (cj_seq ?_))
    refine cj_regionG ?_
    refine gj_step (y_ixArr Tryd.underlying61 Tryd.sizeOf3 rfl rfl (by omega)) rfl rfl rfl (gj_step (y_load1 Tryd.isAgg3 rfl rfl) rfl rfl rfl (gj_step (y_fa fa44_4 rfl) rfl rfl rfl (gj_step (y_load1 Tryd.isAgg3 rfl rfl) rfl rfl rfl (?_))))
    refine gj_step (y_call Tryd.call27 rfl (fun w hp => k_Ring _ _ w (by omega))) rfl rfl rfl ?_
    refine gj_step (y_add rfl rfl (by omega)) rfl rfl rfl (gj_step (y_assign rfl) rfl rfl rfl (?_))
    refine gj_nil ?_
    refine ej_th (cj_seq ?_)
    refine cj_draw (by kernel_rfl) (by kernel_rfl) ?_
    refine gj_step (y_fa fa44_3 rfl) rfl rfl rfl (gj_step (y_load1 Tryd.isAgg3 rfl rfl) rfl rfl rfl (gj_step (y_ixArr Tryd.underlying61 Tryd.sizeOf3 rfl rfl (by omega)) rfl rfl rfl (gj_step (y_load1 Tryd.isAgg3 rfl rfl) rfl rfl rfl (?_))))
    refine gj_step (y_call Tryd.call27 rfl (fun w hp => k_Ring _ _ w (by omega))) rfl rfl rfl ?_
    refine gj_step (y_add rfl rfl (by omega)) rfl rfl rfl (gj_step (y_min rfl rfl) rfl rfl rfl (gj_step (y_assign rfl) rfl rfl rfl (?_)))
    refine gj_nil ?_
    refine ej_th (cj_seq ?_)
    refine cj_regionG ?_
    refine gj_step (y_move rfl) rfl rfl rfl (gj_step (y_ixArr Tryd.underlying61 Tryd.sizeOf3 rfl rfl (by omega)) rfl rfl rfl (gj_step (y_load1 Tryd.isAgg3 rfl rfl) rfl rfl rfl (?_)))
    refine gj_step (y_call Tryd.call27 rfl (fun w hp => k_Ring _ _ w (by omega))) rfl rfl rfl ?_
    refine gj_step (y_add rfl rfl (by omega)) rfl rfl rfl (gj_step (y_min rfl rfl) rfl rfl rfl (gj_step (y_assign rfl) rfl rfl rfl (?_)))
    refine gj_nil ?_
    refine ej_th (cj_seq ?_)
    refine cj_regionG ?_
    refine gj_step (y_move rfl) rfl rfl rfl (gj_step (y_ixArr Tryd.underlying61 Tryd.sizeOf3 rfl rfl (by omega)) rfl rfl rfl (gj_step (y_load1 Tryd.isAgg3 rfl rfl) rfl rfl rfl (?_)))
    refine gj_step (y_call Tryd.call27 rfl (fun w hp => k_Ring _ _ w (by omega))) rfl rfl rfl ?_
    refine gj_step (y_add rfl rfl (by omega)) rfl rfl rfl (gj_step (y_min rfl rfl) rfl rfl rfl (gj_step (y_assign rfl) rfl rfl rfl (?_)))
    refine gj_nil ?_
    refine ej_th (cj_seq ?_)
    obtain ⟨p, hp⟩ : ∃ p, p = 1 + ringI n0 d.sum := ⟨_, rfl⟩
    rw [← hp]
    obtain ⟨x, hx⟩ : ∃ x, x = min 36500 (d.start + ringI n1 400) := ⟨_, rfl⟩
    rw [← hx]
    obtain ⟨y, hy⟩ : ∃ y, y = min 36500 (x + ringI n2 100) := ⟨_, rfl⟩
    rw [← hy]
    obtain ⟨z, hz⟩ : ∃ z, z = min 36500 (y + ringI n3 400) := ⟨_, rfl⟩
    rw [← hz]
    obtain ⟨hE, hF, hEF⟩ := early hd he (e := x) (l := y) (day := z) (p := p) (by omega) (by omega) (by omega) (by omega) (by omega)
    have hB1 := owe_bd d [⟨x, 1, p⟩] z
    have hB2 := owe_bd d [⟨y, 1, p⟩] z
    refine cj_region ?_
    refine oj_step (y_loadN Tryd.isAgg44 Tryd.sizeOf44 rfl) rfl rfl rfl ?_
    refine oj_step (y_move rfl) rfl rfl rfl ?_
    refine oj_step (y_move rfl) rfl rfl rfl ?_
    refine oj_step (y_build (cs := [.int .i64 x, .int .i64 1, .int .i64 p]) st68 rfl (by kernel_rfl)) rfl rfl rfl ?_
    refine oj_buildSlice (cs := [.int .i64 x, .int .i64 1, .int .i64 p]) [.int .i64 0, .int .i64 0, .int .i64 0] Tryd.underlying69 Tryd.sizeOf68 Tryd.zeroValue68 rfl rfl (by kernel_rfl) (by kernel_rfl) rfl (fun b58 => ?_)
    refine oj_step (y_move rfl) rfl rfl rfl ?_
    refine oj_step (y_call Tryd.call32 rfl (fun w hp => k_Owe d Ac cc [⟨x, 1, p⟩] (some ⟨b58, 0, none⟩) 1 z w hp.rd (hp.rdLit (sz := 3) (enc := encAct) [(⟨x, 1, p⟩ : Act1)] (fun _ => rfl) rfl (by unfold maxLen; simp)) hp.glo)) rfl rfl rfl ?_
    refine oj_step (y_move rfl) rfl rfl rfl ?_
    refine oj_step (y_extract rfl rfl) rfl rfl rfl ?_
    refine oj_step (y_extract rfl rfl) rfl rfl rfl ?_
    refine oj_alloc Tryd.zeroValue64 rfl rfl (fun b9 => ?_)
    refine oj_store rfl rfl rfl rfl Tryd.sizeOf64 rfl ?_
    refine oj_step (y_assign rfl) rfl rfl rfl ?_
    refine oj_nil ?_
    refine ej_th (cj_seq (cj_region ?_))
    refine oj_step (y_loadN Tryd.isAgg44 Tryd.sizeOf44 rfl) rfl rfl rfl ?_
    refine oj_step (y_move rfl) rfl rfl rfl ?_
    refine oj_step (y_move rfl) rfl rfl rfl ?_
    refine oj_step (y_build (cs := [.int .i64 y, .int .i64 1, .int .i64 p]) st68 rfl (by kernel_rfl)) rfl rfl rfl ?_
    refine oj_buildSlice (cs := [.int .i64 y, .int .i64 1, .int .i64 p]) [.int .i64 0, .int .i64 0, .int .i64 0] Tryd.underlying69 Tryd.sizeOf68 Tryd.zeroValue68 rfl rfl (by kernel_rfl) (by kernel_rfl) rfl (fun b68 => ?_)
    refine oj_step (y_move rfl) rfl rfl rfl ?_
    refine oj_step (y_call Tryd.call32 rfl (fun w hp => k_Owe d Ac cc [⟨y, 1, p⟩] (some ⟨b68, 0, none⟩) 1 z w hp.rd (hp.rdLit (sz := 3) (enc := encAct) [(⟨y, 1, p⟩ : Act1)] (fun _ => rfl) rfl (by unfold maxLen; simp)) hp.glo)) rfl rfl rfl ?_
    refine oj_step (y_move rfl) rfl rfl rfl ?_
    refine oj_step (y_extract rfl rfl) rfl rfl rfl ?_
    refine oj_step (y_extract rfl rfl) rfl rfl rfl ?_
    refine oj_alloc Tryd.zeroValue64 rfl rfl (fun b11 => ?_)
    refine oj_store rfl rfl rfl rfl Tryd.sizeOf64 rfl ?_
    refine oj_step (y_assign rfl) rfl rfl rfl ?_
    refine oj_nil ?_
    refine ej_th (cj_seq (cj_seq ?_))
    refine cj_regionG (gj_step (y_move rfl) rfl rfl rfl (gj_step (y_neq rfl rfl) rfl rfl rfl (gj_step (y_move rfl) rfl rfl rfl (gj_g 2 75 77 rfl rfl rfl rfl (fun hg75 => gj_yes rfl rfl rfl (y_move rfl) rfl rfl (gj_yes rfl rfl rfl (y_neq rfl rfl) rfl rfl (gj_nil rfl))) (gj_step (y_or rfl rfl rfl) rfl rfl rfl (gj_nil ?_))))))
    refine ej_th ?_
    refine cj_cond rfl (fun h78 => ?_) (fun h78 => ?_)
    · have h78b := h78
      try simp only [sxb] at h78
      refine cj_seq ?_
      refine cj_regionG ?_
      refine gj_step (y_move rfl) rfl rfl rfl (gj_step (y_eql rfl rfl) rfl rfl rfl (gj_step (y_move rfl) rfl rfl rfl (?_)))
      refine gj_g 2 81 83 rfl rfl rfl rfl (fun hg81 => gj_yes rfl rfl rfl (y_move rfl) rfl rfl (gj_yes rfl rfl rfl (y_eql rfl rfl) rfl rfl (gj_nil rfl))) ?_
      refine gj_step (y_or rfl rfl rfl) rfl rfl rfl (gj_step (y_move rfl) rfl rfl rfl (?_))
      refine gj_g 2 85 87 rfl rfl rfl rfl (fun hg85 => gj_yes rfl rfl rfl (y_move rfl) rfl rfl (gj_yes rfl rfl rfl (y_eql rfl rfl) rfl rfl (gj_nil rfl))) ?_
      refine gj_step (y_or rfl rfl rfl) rfl rfl rfl (gj_step (y_move rfl) rfl rfl rfl (?_))
      refine gj_g 10 89 99 rfl rfl rfl rfl (fun hg89 => gj_yes rfl rfl rfl (y_move rfl) rfl rfl (gj_yes rfl rfl rfl (y_eql rfl rfl) rfl rfl (gj_yes rfl rfl rfl (y_move rfl) rfl rfl (gj_g 2 92 94 rfl rfl rfl rfl (fun hg92 => gj_yes rfl rfl rfl (y_move rfl) rfl rfl (gj_yes rfl rfl rfl (y_eql rfl rfl) rfl rfl (gj_nil rfl))) (gj_yes rfl rfl rfl (y_or rfl rfl rfl) rfl rfl (gj_yes rfl rfl rfl (y_move rfl) rfl rfl (gj_g 2 96 98 rfl rfl rfl rfl (fun hg96 => gj_yes rfl rfl rfl (y_move rfl) rfl rfl (gj_yes rfl rfl rfl (y_eql rfl rfl) rfl rfl (gj_nil rfl))) (gj_yes rfl rfl rfl (y_or rfl rfl rfl) rfl rfl (gj_nil rfl))))))))) ?_
      refine gj_step (y_and rfl rfl rfl) rfl rfl rfl (gj_step (y_move rfl) rfl rfl rfl (?_))
      refine gj_g 1 101 102 rfl rfl rfl rfl (fun hg101 => gj_yes rfl rfl rfl (y_call Tryd.call23 rfl (fun w hp => k_works w hp.glo)) rfl rfl (gj_nil rfl)) ?_
      refine gj_step (y_and rfl rfl rfl) rfl rfl rfl (gj_step (y_assign rfl) rfl rfl rfl (?_))
      refine gj_nil ?_
      refine ej_th (cj_ret (ej_then_ret ?_))
      exact ej_ret1 rfl Tryd.results7 rfl (fun w' hp => ⟨by rcases hE with h | h | h <;> rcases hF with g | g | g <;> rw [h, g] <;> rfl, hp.below⟩)
    · have h78b := h78
      try simp only [sxb] at h78
      obtain ⟨hA1, hA2⟩ := hEF h78.1 h78.2
      refine cj_skip (ej_th (cj_seq ?_))
      refine cj_regionG ?_
      refine gj_step (y_fa fa64_1 rfl) rfl rfl rfl (gj_step (y_load1 Tryd.isAgg3 rfl rfl) rfl rfl rfl (gj_step (y_fa fa64_1 rfl) rfl rfl rfl (gj_step (y_load1 Tryd.isAgg3 rfl rfl) rfl rfl rfl (gj_step (y_leq rfl rfl) rfl rfl rfl (gj_step (y_move rfl) rfl rfl rfl (?_))))))
      refine gj_g 11 109 120 rfl rfl rfl rfl (fun hg109 => gj_yes rfl rfl rfl (y_fa0 fa64_0 rfl) rfl rfl (gj_yes rfl rfl rfl (y_load1 Tryd.isAgg3 rfl rfl) rfl rfl (gj_yes rfl rfl rfl (y_fa0 fa64_0 rfl) rfl rfl (gj_yes rfl rfl rfl (y_load1 Tryd.isAgg3 rfl rfl) rfl rfl (gj_yes rfl rfl rfl (y_fa fa64_1 rfl) rfl rfl (gj_yes rfl rfl rfl (y_load1 Tryd.isAgg3 rfl rfl) rfl rfl (gj_yes rfl rfl rfl (y_add rfl rfl (by omega)) rfl rfl (gj_yes rfl rfl rfl (y_fa fa64_1 rfl) rfl rfl (gj_yes rfl rfl rfl (y_load1 Tryd.isAgg3 rfl rfl) rfl rfl (gj_yes rfl rfl rfl (y_sub rfl rfl (by omega)) rfl rfl (gj_yes rfl rfl rfl (y_leq rfl rfl) rfl rfl (gj_nil rfl)))))))))))) ?_
      refine gj_step (y_and rfl rfl rfl) rfl rfl rfl (gj_step (y_move rfl) rfl rfl rfl (?_))
      refine gj_g 1 122 123 rfl rfl rfl rfl (fun hg122 => gj_yes rfl rfl rfl (y_call Tryd.call23 rfl (fun w hp => k_works w hp.glo)) rfl rfl (gj_nil rfl)) ?_
      refine gj_step (y_and rfl rfl rfl) rfl rfl rfl (gj_step (y_assign rfl) rfl rfl rfl (?_))
      refine gj_nil ?_
      refine ej_th (cj_ret ?_)
      exact ej_ret1 rfl Tryd.results7 rfl (fun w' hp => ⟨by rw [decide_eq_true hA1, decide_eq_true (by omega)]; rfl, hp.below⟩)

theorem k_LoanHeld (d : Deal) (Ac : Option Addr) (cc : Nat) (n0 n1 : Int) (w : World) (hc : Rd w 1 enInt Ac d.closed) (hG : Gl w 0 WAYS) : Calls Tryd.prog 8 #[.agg #[.int .i64 d.lr, .int .i64 d.lc, .int .i64 d.tr, .int .i64 d.tf, .int .i64 d.te, .int .i64 d.tt, .int .i64 d.tg, .slice Ac d.closed.length cc, .int .i64 d.start, .int .i64 d.sum], .agg #[.int .i64 n0, .int .i64 n1]] w (fun e w' => e = .returned (.bool true) ∧ Grow w w') := by
  refine enter_pure (args := [.agg #[.int .i64 d.lr, .int .i64 d.lc, .int .i64 d.tr, .int .i64 d.tf, .int .i64 d.te, .int .i64 d.tt, .int .i64 d.tg, .slice Ac d.closed.length cc, .int .i64 d.start, .int .i64 d.sum], .agg #[.int .i64 n0, .int .i64 n1]]) [sl (fun b => b < w.heap.size) 1 enInt Ac d.closed, gl 0 WAYS] Tryd.func8 rfl (by rw [Tryd.ntmps8]; simp) (fun g hg => by simp at hg; rcases hg with rfl | rfl; exact ⟨hc, fun _ h => h⟩; exact ⟨hG.1, fun b hb => by have : b = 0 := hb; rw [this]; exact hG.2⟩) ?_
  refine cj_seq (cj_region ?_)
  refine oj_box rfl rfl rfl (fun b2 => ?_)
  refine oj_box rfl rfl rfl (fun b3 => ?_)
  refine oj_step (y_assign rfl) rfl rfl rfl ?_
  refine oj_nil ?_
  refine ej_th (cj_seq (cj_seq ?_))
  refine cj_regionG ?_
  refine gj_step (y_loadN Tryd.isAgg44 Tryd.sizeOf44 rfl) rfl rfl rfl (?_)
  refine gj_step (y_call Tryd.call31 rfl (fun w hp => k_Check d Ac cc w hp.rd)) rfl rfl rfl ?_
  refine gj_step (y_neq rfl rfl) rfl rfl rfl (gj_step (y_move rfl) rfl rfl rfl (?_))
  refine gj_g 4 14 18 rfl rfl rfl rfl (fun hg14 => gj_yes rfl rfl rfl (y_fa fa44_3 rfl) rfl rfl (gj_yes rfl rfl rfl (y_load1 Tryd.isAgg3 rfl rfl) rfl rfl (gj_yes rfl rfl rfl (y_call Tryd.call26 rfl (fun w hp => k_From _ _ _ w)) rfl rfl (gj_yes rfl rfl rfl (y_not rfl) rfl rfl (gj_nil rfl))))) ?_
  refine gj_step (y_or rfl rfl rfl) rfl rfl rfl (?_)
  refine gj_nil ?_
  refine ej_th ?_
  refine cj_cond rfl (fun h19 => ?_) (fun h19 => ?_)
  · have h19b := h19
    try simp only [sxb] at h19
    refine cj_seq ?_
    refine cj_regionG ?_
    refine gj_step (y_call Tryd.call23 rfl (fun w hp => k_works w hp.glo)) rfl rfl rfl ?_
    refine gj_step (y_assign rfl) rfl rfl rfl (?_)
    refine gj_nil ?_
    refine ej_th (cj_ret (ej_then_ret ?_))
    exact ej_ret1 rfl Tryd.results8 rfl (fun w' hp => ⟨rfl, hp.below⟩)
  · have h19b := h19
    try simp only [sxb] at h19
    have he : errD (badDeal d) = 0 := by omega
    rw [errD_eq] at he
    have hd := badDeal_no he
    have hst := hd.start
    have htt := hd.tt
    have htg := hd.tg
    have hr0 := ring_bd n0 400 (by omega)
    have hr1 := ring_bd n1 366 (by omega)
    refine cj_skip (ej_th (cj_seq ?_))
    refine cj_draw (by kernel_rfl) (by kernel_rfl) ?_
    refine gj_step (y_fa fa44_3 rfl) rfl rfl rfl (gj_step (y_load1 Tryd.isAgg3 rfl rfl) rfl rfl rfl (gj_step (y_ixArr Tryd.underlying71 Tryd.sizeOf3 rfl rfl (by omega)) rfl rfl rfl (gj_step (y_load1 Tryd.isAgg3 rfl rfl) rfl rfl rfl (?_))))
    refine gj_step (y_call Tryd.call27 rfl (fun w hp => k_Ring _ _ w (by omega))) rfl rfl rfl ?_
    refine gj_step (y_add rfl rfl (by omega)) rfl rfl rfl (gj_step (y_min rfl rfl) rfl rfl rfl (gj_step (y_assign rfl) rfl rfl rfl (?_)))
    refine gj_nil ?_
    refine ej_th (cj_seq ?_)
    refine cj_regionG ?_
    refine gj_step (y_ixArr Tryd.underlying71 Tryd.sizeOf3 rfl rfl (by omega)) rfl rfl rfl (gj_step (y_load1 Tryd.isAgg3 rfl rfl) rfl rfl rfl (?_))
    refine gj_step (y_call Tryd.call27 rfl (fun w hp => k_Ring _ _ w (by omega))) rfl rfl rfl ?_
    refine gj_step (y_add rfl rfl (by omega)) rfl rfl rfl (gj_step (y_assign rfl) rfl rfl rfl (?_))
    refine gj_nil ?_
    refine ej_th (cj_seq (cj_seq ?_))
    obtain ⟨x, hx⟩ : ∃ x, x = min 36500 (d.start + ringI n0 400) := ⟨_, rfl⟩
    rw [← hx]
    obtain ⟨q, hq⟩ : ∃ q, q = 1 + ringI n1 366 := ⟨_, rfl⟩
    rw [← hq]
    refine cj_regionG (gj_step (y_move rfl) rfl rfl rfl (gj_step (y_move rfl) rfl rfl rfl (gj_step (y_add rfl rfl (by omega)) rfl rfl rfl (gj_step (y_gtr rfl rfl) rfl rfl rfl (gj_nil ?_)))))
    refine ej_th ?_
    refine cj_cond rfl (fun h35 => ?_) (fun h35 => ?_)
    · have h35b := h35
      try simp only [sxb] at h35
      refine cj_seq ?_
      refine cj_regionG ?_
      refine gj_step (y_call Tryd.call23 rfl (fun w hp => k_works w hp.glo)) rfl rfl rfl ?_
      refine gj_step (y_assign rfl) rfl rfl rfl (?_)
      refine gj_nil ?_
      refine ej_th (cj_ret (ej_then_ret ?_))
      exact ej_ret1 rfl Tryd.results8 rfl (fun w' hp => ⟨rfl, hp.below⟩)
    · have h35b := h35
      try simp only [sxb] at h35
      obtain ⟨hN, hL⟩ := held_same hd he (day := x) (long := q) (by omega) (by omega) (by omega)
      refine cj_skip (ej_th (cj_seq (cj_region ?_)))
      refine oj_step (y_loadN Tryd.isAgg44 Tryd.sizeOf44 rfl) rfl rfl rfl ?_
      refine oj_step (y_move rfl) rfl rfl rfl ?_
      refine oj_step (y_call Tryd.call32 rfl (fun w hp => k_Owe d Ac cc [] none 0 x w hp.rd Rd.nil hp.glo)) rfl rfl rfl ?_
      refine oj_step (y_move rfl) rfl rfl rfl ?_
      refine oj_step (y_extract rfl rfl) rfl rfl rfl ?_
      refine oj_step (y_extract rfl rfl) rfl rfl rfl ?_
      refine oj_alloc Tryd.zeroValue64 rfl rfl (fun b7 => ?_)
      refine oj_store rfl rfl rfl rfl Tryd.sizeOf64 rfl ?_
      refine oj_step (y_assign rfl) rfl rfl rfl ?_
      refine oj_nil ?_
      refine ej_th (cj_seq (cj_region ?_))
      refine oj_step (y_loadN Tryd.isAgg44 Tryd.sizeOf44 rfl) rfl rfl rfl ?_
      refine oj_step (y_move rfl) rfl rfl rfl ?_
      refine oj_step (y_move rfl) rfl rfl rfl ?_
      refine oj_step (y_build (cs := [.int .i64 x, .int .i64 3, .int .i64 q]) st68 rfl (by kernel_rfl)) rfl rfl rfl ?_
      refine oj_buildSlice (cs := [.int .i64 x, .int .i64 3, .int .i64 q]) [.int .i64 0, .int .i64 0, .int .i64 0] Tryd.underlying69 Tryd.sizeOf68 Tryd.zeroValue68 rfl rfl (by kernel_rfl) (by kernel_rfl) rfl (fun b48 => ?_)
      refine oj_step (y_move rfl) rfl rfl rfl ?_
      refine oj_step (y_move rfl) rfl rfl rfl ?_
      refine oj_step (y_add rfl rfl (by omega)) rfl rfl rfl ?_
      refine oj_step (y_call Tryd.call32 rfl (fun w hp => k_Owe d Ac cc [⟨x, 3, q⟩] (some ⟨b48, 0, none⟩) 1 (x + q) w hp.rd (hp.rdLit (sz := 3) (enc := encAct) [(⟨x, 3, q⟩ : Act1)] (fun _ => rfl) rfl (by unfold maxLen; simp)) hp.glo)) rfl rfl rfl ?_
      refine oj_step (y_move rfl) rfl rfl rfl ?_
      refine oj_step (y_extract rfl rfl) rfl rfl rfl ?_
      refine oj_step (y_extract rfl rfl) rfl rfl rfl ?_
      refine oj_alloc Tryd.zeroValue64 rfl rfl (fun b9 => ?_)
      refine oj_store rfl rfl rfl rfl Tryd.sizeOf64 rfl ?_
      refine oj_step (y_assign rfl) rfl rfl rfl ?_
      refine oj_nil ?_
      refine ej_th (cj_seq (cj_seq ?_))
      refine cj_regionG (gj_step (y_move rfl) rfl rfl rfl (gj_step (y_neq rfl rfl) rfl rfl rfl (gj_nil ?_)))
      refine ej_th ?_
      refine cj_cond rfl (fun h56 => ?_) (fun h56 => ?_)
      · simp only [sxb] at h56
        exact absurd hN h56
      · have h56b := h56
        try simp only [sxb] at h56
        refine cj_skip (ej_th (cj_seq (cj_seq ?_)))
        refine cj_regionG (gj_step (y_move rfl) rfl rfl rfl (gj_step (y_neq rfl rfl) rfl rfl rfl (gj_nil ?_)))
        refine ej_th ?_
        refine cj_cond rfl (fun h58 => ?_) (fun h58 => ?_)
        · have h58b := h58
          try simp only [sxb] at h58
          refine cj_seq ?_
          refine cj_regionG ?_
          refine gj_step (y_move rfl) rfl rfl rfl (gj_step (y_eql rfl rfl) rfl rfl rfl (gj_step (y_move rfl) rfl rfl rfl (?_)))
          refine gj_g 10 61 71 rfl rfl rfl rfl (fun hg61 => gj_yes rfl rfl rfl (y_fa fa64_3 rfl) rfl rfl (gj_yes rfl rfl rfl (y_load1 Tryd.isAgg3 rfl rfl) rfl rfl (gj_yes rfl rfl rfl (y_fa fa44_1 rfl) rfl rfl (gj_yes rfl rfl rfl (y_fa fa42_3 rfl) rfl rfl (gj_yes rfl rfl rfl (y_load1 Tryd.isAgg3 rfl rfl) rfl rfl (gj_yes rfl rfl rfl (y_fa fa44_1 rfl) rfl rfl (gj_yes rfl rfl rfl (y_fa fa42_4 rfl) rfl rfl (gj_yes rfl rfl rfl (y_load1 Tryd.isAgg3 rfl rfl) rfl rfl (gj_yes rfl rfl rfl (y_add rfl rfl (by omega)) rfl rfl (gj_yes rfl rfl rfl (y_gtr rfl rfl) rfl rfl (gj_nil rfl))))))))))) ?_
          refine gj_step (y_and rfl rfl rfl) rfl rfl rfl (gj_step (y_move rfl) rfl rfl rfl (?_))
          refine gj_g 1 73 74 rfl rfl rfl rfl (fun hg73 => gj_yes rfl rfl rfl (y_call Tryd.call23 rfl (fun w hp => k_works w hp.glo)) rfl rfl (gj_nil rfl)) ?_
          refine gj_step (y_and rfl rfl rfl) rfl rfl rfl (gj_step (y_assign rfl) rfl rfl rfl (?_))
          refine gj_nil ?_
          refine ej_th (cj_ret (ej_then_ret ?_))
          exact ej_ret1 rfl Tryd.results8 rfl (fun w' hp => ⟨by rcases hL with ⟨h, g⟩ | ⟨h, g⟩; (rw [h, decide_eq_true g]; rfl); exact absurd h h58, hp.below⟩)
        · have h58b := h58
          try simp only [sxb] at h58
          refine cj_skip (ej_th (cj_seq ?_))
          refine cj_regionG ?_
          refine gj_step (y_loadN Tryd.isAgg64 Tryd.sizeOf64 rfl) rfl rfl rfl (gj_step (y_loadN Tryd.isAgg64 Tryd.sizeOf64 rfl) rfl rfl rfl (gj_step (y_bin rfl rfl (fun x y w => eq64 _ _ _ _ _ _ _ _ _ _ x y w)) rfl rfl rfl (gj_step (y_move rfl) rfl rfl rfl (?_))))
          refine gj_g 1 79 80 rfl rfl rfl rfl (fun hg79 => gj_yes rfl rfl rfl (y_call Tryd.call23 rfl (fun w hp => k_works w hp.glo)) rfl rfl (gj_nil rfl)) ?_
          refine gj_step (y_and rfl rfl rfl) rfl rfl rfl (gj_step (y_assign rfl) rfl rfl rfl (?_))
          refine gj_nil ?_
          refine ej_th (cj_ret ?_)
          exact ej_ret1 rfl Tryd.results8 rfl (fun w' hp => ⟨by rcases hL with ⟨h, g⟩ | ⟨h, g⟩; (rw [h] at h58; exact absurd h58 (by decide)); (rw [g]; simp), hp.below⟩)

end Go.Proofs.YtafmgkiddhappaaDoor
