/- Walks of functions of the program. -/
import Derived.Test.YtafmgkiddhappaaDoorZWb
import Derived.Test.YtafmgkiddhappaaDoorYPKeep
import Derived.Test.YtafmgkiddhappaaDoorZSb
import Derived.Test.YtafmgkiddhappaaDoorYTyKeep
namespace Go.Proofs.YtafmgkiddhappaaDoor
open Go.Sx Go.RowKit
set_option maxRecDepth 20000
theorem k_rCheck (d : Deal) (Ac : Option Addr) (cc : Nat) (w : World) (hc : Rd w 1 enInt Ac d.closed) : Calls Tryd.prog 37 #[.agg #[.int .i64 d.lr, .int .i64 d.lc, .int .i64 d.tr, .int .i64 d.tf, .int .i64 d.te, .int .i64 d.tt, .int .i64 d.tg, .slice Ac d.closed.length cc, .int .i64 d.start, .int .i64 d.sum]] w (fun e w' => e = .returned (.int .i64 (errD (badDeal d))) ∧ Grow w w') := by
  have hlen := hc.len
  refine enter_pure (args := [.agg #[.int .i64 d.lr, .int .i64 d.lc, .int .i64 d.tr, .int .i64 d.tf, .int .i64 d.te, .int .i64 d.tt, .int .i64 d.tg, .slice Ac d.closed.length cc, .int .i64 d.start, .int .i64 d.sum]]) [sl (fun b => b < w.heap.size) 1 enInt Ac d.closed] Tryd.func37 rfl (by rw [Tryd.ntmps37]; simp) (fun g hg => by simp at hg; subst hg; exact ⟨hc, fun _ h => h⟩) ?_
  refine cj_seq (cj_region ?_)
  refine oj_box rfl rfl rfl (fun b1 => ?_)
  refine oj_step (y_assign rfl) rfl rfl rfl ?_
  refine oj_nil ?_
  refine ej_th (cj_seq (cj_region ?_))
  refine oj_step (y_fa fa44_1 rfl) rfl rfl rfl ?_
  refine oj_step (y_loadN Tryd.isAgg42 Tryd.sizeOf42 rfl) rfl rfl rfl ?_
  refine oj_alloc Tryd.zeroValue42 rfl rfl (fun b3 => ?_)
  refine oj_store rfl rfl rfl rfl Tryd.sizeOf42 rfl ?_
  refine oj_nil ?_
  refine ej_th (cj_seq ?_)
  refine cj_regionG ?_
  refine gj_step (y_fa0 fa44_0 rfl) rfl rfl rfl (gj_step (y_fa0 fa40_0 rfl) rfl rfl rfl (gj_step (y_load1 Tryd.isAgg3 rfl rfl) rfl rfl rfl (?_)))
  refine gj_step (y_call Tryd.call26 rfl (fun w hp => k_From _ _ _ w)) rfl rfl rfl ?_
  refine gj_step (y_move rfl) rfl rfl rfl (?_)
  refine gj_g 4 12 16 rfl rfl rfl rfl (fun hg12 => gj_yes rfl rfl rfl (y_fa0 fa44_0 rfl) rfl rfl (gj_yes rfl rfl rfl (y_fa fa40_1 rfl) rfl rfl (gj_yes rfl rfl rfl (y_load1 Tryd.isAgg3 rfl rfl) rfl rfl (gj_yes rfl rfl rfl (y_call Tryd.call26 rfl (fun w hp => k_From _ _ _ w)) rfl rfl (gj_nil rfl))))) ?_
  refine gj_step (y_and rfl rfl rfl) rfl rfl rfl (gj_step (y_move rfl) rfl rfl rfl (?_))
  refine gj_g 3 18 21 rfl rfl rfl rfl (fun hg18 => gj_yes rfl rfl rfl (y_fa0 fa42_0 rfl) rfl rfl (gj_yes rfl rfl rfl (y_load1 Tryd.isAgg3 rfl rfl) rfl rfl (gj_yes rfl rfl rfl (y_call Tryd.call26 rfl (fun w hp => k_From _ _ _ w)) rfl rfl (gj_nil rfl)))) ?_
  refine gj_step (y_and rfl rfl rfl) rfl rfl rfl (gj_step (y_move rfl) rfl rfl rfl (?_))
  refine gj_g 3 23 26 rfl rfl rfl rfl (fun hg23 => gj_yes rfl rfl rfl (y_fa fa42_1 rfl) rfl rfl (gj_yes rfl rfl rfl (y_load1 Tryd.isAgg3 rfl rfl) rfl rfl (gj_yes rfl rfl rfl (y_call Tryd.call26 rfl (fun w hp => k_From _ _ _ w)) rfl rfl (gj_nil rfl)))) ?_
  refine gj_step (y_and rfl rfl rfl) rfl rfl rfl (gj_step (y_move rfl) rfl rfl rfl (?_))
  refine gj_g 3 28 31 rfl rfl rfl rfl (fun hg28 => gj_yes rfl rfl rfl (y_fa fa42_2 rfl) rfl rfl (gj_yes rfl rfl rfl (y_load1 Tryd.isAgg3 rfl rfl) rfl rfl (gj_yes rfl rfl rfl (y_call Tryd.call26 rfl (fun w hp => k_From _ _ _ w)) rfl rfl (gj_nil rfl)))) ?_
  refine gj_step (y_and rfl rfl rfl) rfl rfl rfl (gj_step (y_move rfl) rfl rfl rfl (?_))
  refine gj_g 3 33 36 rfl rfl rfl rfl (fun hg33 => gj_yes rfl rfl rfl (y_fa fa42_3 rfl) rfl rfl (gj_yes rfl rfl rfl (y_load1 Tryd.isAgg3 rfl rfl) rfl rfl (gj_yes rfl rfl rfl (y_call Tryd.call26 rfl (fun w hp => k_From _ _ _ w)) rfl rfl (gj_nil rfl)))) ?_
  refine gj_step (y_and rfl rfl rfl) rfl rfl rfl (gj_step (y_move rfl) rfl rfl rfl (?_))
  refine gj_g 3 38 41 rfl rfl rfl rfl (fun hg38 => gj_yes rfl rfl rfl (y_fa fa42_4 rfl) rfl rfl (gj_yes rfl rfl rfl (y_load1 Tryd.isAgg3 rfl rfl) rfl rfl (gj_yes rfl rfl rfl (y_call Tryd.call26 rfl (fun w hp => k_From _ _ _ w)) rfl rfl (gj_nil rfl)))) ?_
  refine gj_step (y_and rfl rfl rfl) rfl rfl rfl (gj_step (y_assign rfl) rfl rfl rfl (?_))
  refine gj_nil ?_
  refine ej_th (cj_seq ?_)
  refine cj_regionG ?_
  refine gj_step (y_move rfl) rfl rfl rfl (gj_step (y_move rfl) rfl rfl rfl (?_))
  refine gj_g 4 44 48 rfl rfl rfl rfl (fun hg44 => gj_yes rfl rfl rfl (y_fa fa44_2 rfl) rfl rfl (gj_yes rfl rfl rfl (y_load1 Tryd.isAgg23 rfl rfl) rfl rfl (gj_yes rfl rfl rfl (y_lenA Tryd.underlying23 rfl) rfl rfl (gj_yes rfl rfl rfl (y_leq rfl rfl) rfl rfl (gj_nil rfl))))) ?_
  refine gj_step (y_and rfl rfl rfl) rfl rfl rfl (gj_step (y_move rfl) rfl rfl rfl (?_))
  refine gj_g 3 50 53 rfl rfl rfl rfl (fun hg50 => gj_yes rfl rfl rfl (y_fa fa44_3 rfl) rfl rfl (gj_yes rfl rfl rfl (y_load1 Tryd.isAgg3 rfl rfl) rfl rfl (gj_yes rfl rfl rfl (y_call Tryd.call26 rfl (fun w hp => k_From _ _ _ w)) rfl rfl (gj_nil rfl)))) ?_
  refine gj_step (y_and rfl rfl rfl) rfl rfl rfl (gj_step (y_move rfl) rfl rfl rfl (?_))
  refine gj_g 3 55 58 rfl rfl rfl rfl (fun hg55 => gj_yes rfl rfl rfl (y_fa fa44_4 rfl) rfl rfl (gj_yes rfl rfl rfl (y_load1 Tryd.isAgg3 rfl rfl) rfl rfl (gj_yes rfl rfl rfl (y_call Tryd.call26 rfl (fun w hp => k_From _ _ _ w)) rfl rfl (gj_nil rfl)))) ?_
  refine gj_step (y_and rfl rfl rfl) rfl rfl rfl (gj_step (y_assign rfl) rfl rfl rfl (?_))
  refine gj_nil ?_
  refine ej_th (cj_seq (cj_seq ?_))
  refine cj_regionG (gj_step (y_assign rfl) rfl rfl rfl (gj_nil ?_))
  refine ej_th (cj_block ?_)
  refine cj_lpic (X := Nat × Bool) [(1, _), (2, _)] (fun ⟨k, ok⟩ => k ≤ d.closed.length ∧ (ok && ascOk (prevOf d.closed k) (d.closed.drop k)) = (okD d && ascOk (-1) d.closed)) (fun ⟨k, ok⟩ => [(4, .bool ok), (5, .int .i64 k)]) (fun ⟨k, ok⟩ => d.closed.length - k) (0, okD d) (⟨Nat.zero_le _, rfl⟩) ⟨rfl, rfl, rfl, rfl, trivial⟩ ?_
  rintro ⟨k, ok⟩ ⟨hk, hl⟩
  dsimp only [List.cons_append, List.nil_append]
  refine cj_seq (cj_seq ?_)
  refine cj_regionG (gj_step (y_move rfl) rfl rfl rfl (gj_step (y_fa fa44_2 rfl) rfl rfl rfl (gj_step (y_load1 Tryd.isAgg23 rfl rfl) rfl rfl rfl (gj_step (y_lenA Tryd.underlying23 rfl) rfl rfl rfl (gj_step (y_lss rfl rfl) rfl rfl rfl (gj_nil ?_))))))
  refine ej_th ?_
  refine cj_cond rfl (fun h64 => ?_) (fun h64 => ?_)
  · have h64b := h64
    try simp only [sxb] at h64
    obtain ⟨x, hx⟩ : ∃ x, d.closed[k]? = some x := ⟨_, List.getElem?_eq_getElem (by omega)⟩
    rw [ascOk_drop d.closed k x hx] at hl
    refine cj_skip (ej_th (cj_seq (cj_block ?_)))
    refine cj_draw (by kernel_rfl) (by kernel_rfl) ?_
    refine gj_step (y_move rfl) rfl rfl rfl (gj_step (y_move rfl) rfl rfl rfl (?_))
    refine gj_g 6 68 74 rfl rfl rfl rfl (fun hg68 => gj_yes rfl rfl rfl (y_fa fa44_2 rfl) rfl rfl (gj_yes rfl rfl rfl (y_load1 Tryd.isAgg23 rfl rfl) rfl rfl (gj_yes rfl rfl rfl (y_move rfl) rfl rfl (gj_yes rfl rfl rfl (y_ixR (reads_sl) Tryd.underlying23 Tryd.sizeOf3 rfl rfl (⟨by omega, by omega⟩)) rfl rfl (gj_yes rfl rfl rfl (y_ld0 (reads_sl) Tryd.isAgg3 rfl (hx) rfl) rfl rfl (gj_yes rfl rfl rfl (y_call Tryd.call26 rfl (fun w hp => k_From _ _ _ w)) rfl rfl (gj_nil rfl))))))) ?_
    refine gj_step (y_and rfl rfl rfl) rfl rfl rfl (gj_step (y_move rfl) rfl rfl rfl (?_))
    refine gj_g 16 76 92 rfl rfl rfl rfl (fun hg76 => gj_yes rfl rfl rfl (y_move rfl) rfl rfl (gj_yes rfl rfl rfl (y_eql rfl rfl) rfl rfl (gj_yes rfl rfl rfl (y_move rfl) rfl rfl (gj_g 12 79 91 rfl rfl rfl rfl (fun hg79 => gj_yes rfl rfl rfl (y_fa fa44_2 rfl) rfl rfl (gj_yes rfl rfl rfl (y_load1 Tryd.isAgg23 rfl rfl) rfl rfl (gj_yes rfl rfl rfl (y_move rfl) rfl rfl (gj_yes rfl rfl rfl (y_sub rfl rfl (by have := hg79; simp at this; omega)) rfl rfl (gj_yes rfl rfl rfl (y_ixR (reads_sl) Tryd.underlying23 Tryd.sizeOf3 rfl rfl (⟨by have := hg79; simp at this; omega, by have := hg79; simp at this; omega⟩)) rfl rfl (gj_yes rfl rfl rfl (y_ld0 (reads_sl) Tryd.isAgg3 rfl (geq 0 (by have := hg79; simp at this; omega)) rfl) rfl rfl (gj_yes rfl rfl rfl (y_fa fa44_2 rfl) rfl rfl (gj_yes rfl rfl rfl (y_load1 Tryd.isAgg23 rfl rfl) rfl rfl (gj_yes rfl rfl rfl (y_move rfl) rfl rfl (gj_yes rfl rfl rfl (y_ixR (reads_sl) Tryd.underlying23 Tryd.sizeOf3 rfl rfl (⟨by omega, by omega⟩)) rfl rfl (gj_yes rfl rfl rfl (y_ld0 (reads_sl) Tryd.isAgg3 rfl (hx) rfl) rfl rfl (gj_yes rfl rfl rfl (y_lss rfl rfl) rfl rfl (gj_nil rfl))))))))))))) (gj_yes rfl rfl rfl (y_or rfl rfl rfl) rfl rfl (gj_nil rfl)))))) ?_
    refine gj_step (y_and rfl rfl rfl) rfl rfl rfl (gj_step (y_assign rfl) rfl rfl rfl (?_))
    refine gj_nil ?_
    refine ej_blk (ej_th ?_)
    refine cj_regionG (gj_step (y_move rfl) rfl rfl rfl (gj_step (y_add rfl rfl (by omega)) rfl rfl rfl (gj_step (y_assign rfl) rfl rfl rfl (gj_nil ?_))))
    refine ej_nx (k + 1, ok && (btw 0 x 36500 && decide (prevOf d.closed k < x))) (by simp only; omega) ⟨by omega, ?_⟩ ⟨by rw [← asc_R]; rfl, rfl, rfl, rfl, trivial⟩
    rw [← hl, Bool.and_assoc]
  · have h64b := h64
    try simp only [sxb] at h64
    rw [List.drop_of_length_le (by omega), ref_deal, ascOk, Bool.and_true] at hl
    subst hl
    refine cj_exit (ej_then_exit (ej_then_exit (ej_blk_hit (ej_th (cj_seq (cj_seq ?_))))))
    refine cj_regionG (gj_step (y_move rfl) rfl rfl rfl (gj_step (y_not rfl) rfl rfl rfl (gj_nil ?_)))
    refine ej_th ?_
    refine cj_cond rfl (fun h95 => ?_) (fun h95 => ?_)
    · have h95b := h95
      try simp only [sxb] at h95
      refine cj_seq ?_
      refine cj_regionG (gj_step (y_assign rfl) rfl rfl rfl (gj_nil ?_))
      refine ej_th (cj_ret (ej_then_ret ?_))
      refine ej_ret1 rfl Tryd.results37 rfl (fun w' hp => ⟨?_, hp.below⟩)
      have : badDeal d = true := by simpa using h95
      rw [this]; rfl
    · have h95b := h95
      try simp only [sxb] at h95
      refine cj_skip (ej_th (cj_seq ?_))
      refine cj_regionG (gj_step (y_assign rfl) rfl rfl rfl (gj_nil ?_))
      refine ej_th (cj_ret ?_)
      refine ej_ret1 rfl Tryd.results37 rfl (fun w' hp => ⟨?_, hp.below⟩)
      have : badDeal d = false := by simpa using h95
      rw [this]; rfl

theorem k_rKeep (d : Deal) (Ac : Option Addr) (cc : Nat) (u : Int) (w : World) (hc : Rd w 1 enInt Ac d.closed) : Calls Tryd.prog 25 #[.agg #[.int .i64 d.lr, .int .i64 d.lc, .int .i64 d.tr, .int .i64 d.tf, .int .i64 d.te, .int .i64 d.tt, .int .i64 d.tg, .slice Ac d.closed.length cc, .int .i64 d.start, .int .i64 d.sum], .int .i64 u] w (fun e w' => ∃ A c, e = .returned (.tuple #[.slice A (KeepN d u).length c, .int .i64 (KeepE d u)]) ∧ Grow w w' ∧ Res w w' 1 enInt A (KeepN d u)) := by
  refine enter_pure (args := [.agg #[.int .i64 d.lr, .int .i64 d.lc, .int .i64 d.tr, .int .i64 d.tf, .int .i64 d.te, .int .i64 d.tt, .int .i64 d.tg, .slice Ac d.closed.length cc, .int .i64 d.start, .int .i64 d.sum], .int .i64 u]) [sl (fun b => b < w.heap.size) 1 enInt Ac d.closed] Tryd.func25 rfl (by rw [Tryd.ntmps25]; simp) (fun g hg => by simp at hg; subst hg; exact ⟨hc, fun _ h => h⟩) ?_
  refine cj_seq (cj_region ?_)
  refine oj_box rfl rfl rfl (fun b2 => ?_)
  refine oj_step (y_assign rfl) rfl rfl rfl ?_
  refine oj_step (y_assign rfl) rfl rfl rfl ?_
  refine oj_nil ?_
  refine ej_th (cj_seq (cj_seq ?_))
  refine cj_regionG ?_
  refine gj_step (y_loadN Tryd.isAgg44 Tryd.sizeOf44 rfl) rfl rfl rfl (?_)
  refine gj_step (y_call Tryd.call37 rfl (fun w hp => k_rCheck _ _ _ w hp.rd)) rfl rfl rfl ?_
  refine gj_step (y_assign rfl) rfl rfl rfl (?_)
  refine gj_nil ?_
  refine ej_th (cj_seq ?_)
  refine cj_regionG (gj_step (y_move rfl) rfl rfl rfl (gj_step (y_neq rfl rfl) rfl rfl rfl (gj_nil ?_)))
  refine ej_th ?_
  refine cj_cond rfl (fun h13 => ?_) (fun h13 => ?_)
  · have h13b := h13
    try simp only [sxb] at h13
    rw [errD_ne] at h13
    refine cj_seq ?_
    refine cj_regionG (gj_step (y_move rfl) rfl rfl rfl (gj_step (y_assign rfl) rfl rfl rfl (gj_step (y_assign rfl) rfl rfl rfl (gj_nil ?_))))
    refine ej_th (cj_ret (ej_then_ret ?_))
    have h1 : KeepN d u = [] := by simp [KeepN, h13]
    have h2 : KeepE d u = 23 := by simp [KeepE, h13]
    rw [h1, h2]
    exact ej_ret2 rfl Tryd.results25 rfl rfl (fun w' hp => ⟨none, 0, by rw [h13]; rfl, hp.below, Res.nil⟩)
  · have h13b := h13
    try simp only [sxb] at h13
    rw [errD_eq] at h13
    have hd := badDeal_no h13
    refine cj_skip (ej_th (cj_seq (cj_seq ?_)))
    refine cj_regionG ?_
    refine gj_step (y_fa fa44_3 rfl) rfl rfl rfl (gj_step (y_load1 Tryd.isAgg3 rfl rfl) rfl rfl rfl (gj_step (y_move rfl) rfl rfl rfl (?_)))
    refine gj_step (y_call Tryd.call26 rfl (fun w hp => k_From _ _ _ w)) rfl rfl rfl ?_
    refine gj_step (y_not rfl) rfl rfl rfl (?_)
    refine gj_nil ?_
    refine ej_th ?_
    refine cj_cond rfl (fun h19 => ?_) (fun h19 => ?_)
    · have h19b := h19
      try simp only [sxb] at h19
      have hb : btw d.start u 36500 = false := not_t h19b
      refine cj_seq ?_
      refine cj_regionG (gj_step (y_assign rfl) rfl rfl rfl (gj_step (y_assign rfl) rfl rfl rfl (gj_nil ?_)))
      refine ej_th (cj_ret (ej_then_ret ?_))
      have h1 : KeepN d u = [] := by simp [KeepN, h13, hb]
      have h2 : KeepE d u = 7 := by simp [KeepE, h13, hb]
      rw [h1, h2]
      exact ej_ret2 rfl Tryd.results25 rfl rfl (fun w' hp => ⟨none, 0, rfl, hp.below, Res.nil⟩)
    · have h19b := h19
      try simp only [sxb] at h19
      have hb : btw d.start u 36500 = true := not_f h19b
      have hb2 := hb
      simp only [btw, Bool.and_eq_true, decide_eq_true_eq] at hb2
      have hst := hd.start
      have htt := hd.tt
      have htg := hd.tg
      have hkr := keepL_rk hd u
      refine cj_skip (ej_th (cj_seq ?_))
      refine cj_ownNil 3 1 enInt ?_
      refine cj_regionG (gj_step (y_assign rfl) rfl rfl rfl (gj_nil ?_))
      refine ej_th (cj_seq ?_)
      refine cj_regionG (gj_step (y_assign rfl) rfl rfl rfl (gj_nil ?_))
      refine ej_th (cj_seq (cj_seq ?_))
      refine cj_regionG (gj_step (y_fa fa44_3 rfl) rfl rfl rfl (gj_step (y_load1 Tryd.isAgg3 rfl rfl) rfl rfl rfl (gj_step (y_add rfl rfl (by omega)) rfl rfl rfl (gj_step (y_assign rfl) rfl rfl rfl (gj_nil ?_)))))
      refine ej_th (cj_block ?_)
      refine cj_lpi (X := Nat × Int × Int × Option Addr × Nat × List Int) [(1, _), (2, _), (4, _), (5, _)] (fun ⟨m, day, age, A, c, out⟩ => m ≤ (u - d.start).toNat ∧ day = u - m + 1 ∧ (0 ≤ age ∧ age + m ≤ 36501) ∧ out.length + m ≤ 36500 ∧ rkF d m day age out = rkL d u) (fun ⟨m, day, age, A, c, out⟩ => [(7, .slice A out.length c), (8, .int .i64 age), (9, .int .i64 day)]) (fun ⟨m, day, age, A, c, out⟩ => [ow 3 1 enInt A c out, ownB b2 (cellsB 44 (encDeal d Ac cc))]) (fun ⟨m, day, age, A, c, out⟩ => [sl (fun b => b < w.heap.size) 1 enInt Ac d.closed]) (fun ⟨m, day, age, A, c, out⟩ => m) ((u - d.start).toNat, d.start + 1, 0, none, 0, []) (⟨Nat.le_refl _, by omega, by omega, by simp; omega, rfl⟩) ⟨rfl, rfl, rfl, rfl, rfl, rfl, rfl, trivial⟩ ?_
      rintro ⟨m, day, age, A, c, out⟩ ⟨hm, hday, hag, hol, hl⟩
      dsimp only [List.cons_append, List.nil_append]
      refine cj_seq (cj_seq ?_)
      refine cj_regionG (gj_step (y_move rfl) rfl rfl rfl (gj_step (y_move rfl) rfl rfl rfl (gj_step (y_leq rfl rfl) rfl rfl rfl (gj_nil ?_))))
      refine ej_th ?_
      refine cj_cond rfl (fun h25 => ?_) (fun h25 => ?_)
      · have h25b := h25
        try simp only [sxb] at h25
        obtain ⟨m, rfl⟩ : ∃ m0, m = m0 + 1 := ⟨m - 1, by omega⟩
        rw [rkF] at hl
        refine cj_skip (ej_th (cj_seq (cj_block (cj_seq (cj_seq ?_)))))
        refine cj_regionG ?_
        refine gj_step (y_fa fa44_2 rfl) rfl rfl rfl (gj_step (y_load1 Tryd.isAgg23 rfl rfl) rfl rfl rfl (gj_step (y_move rfl) rfl rfl rfl (?_)))
        refine gj_step (y_call Tryd.call41 rfl (fun w hp => k_Seek _ _ _ _ w hp.rd)) rfl rfl rfl ?_
        refine gj_step (y_geq rfl rfl) rfl rfl rfl (?_)
        refine gj_nil ?_
        refine ej_th ?_
        refine cj_cond rfl (fun h32 => ?_) (fun h32 => ?_)
        · have h32b := h32
          try simp only [sxb] at h32
          rw [if_pos h32] at hl
          refine cj_exit (ej_then_exit (ej_blk_hit (ej_th ?_)))
          refine cj_regionG (gj_step (y_move rfl) rfl rfl rfl (gj_step (y_add rfl rfl (by omega)) rfl rfl rfl (gj_step (y_assign rfl) rfl rfl rfl (gj_nil ?_))))
          exact ej_nx (m, day + 1, age, A, c, out) (by simp only; omega) ⟨by first | omega | (simp only; omega), by first | omega | (simp only; omega), by first | omega | (simp only; omega), by first | omega | (simp only; omega), hl⟩ ⟨rfl, rfl, rfl, rfl, rfl, rfl, rfl, trivial⟩
        · have h32b := h32
          try simp only [sxb] at h32
          rw [if_neg (by omega)] at hl
          refine cj_skip (ej_th (cj_seq ?_))
          refine cj_regionG (gj_step (y_move rfl) rfl rfl rfl (gj_step (y_add rfl rfl (by omega)) rfl rfl rfl (gj_step (y_assign rfl) rfl rfl rfl (gj_nil ?_))))
          refine ej_th (cj_seq ?_)
          refine cj_regionG (gj_step (y_move rfl) rfl rfl rfl (gj_step (y_fa fa44_1 rfl) rfl rfl rfl (gj_step (y_fa fa42_3 rfl) rfl rfl rfl (gj_step (y_load1 Tryd.isAgg3 rfl rfl) rfl rfl rfl (gj_step (y_fa fa44_1 rfl) rfl rfl rfl (gj_step (y_fa fa42_4 rfl) rfl rfl rfl (gj_step (y_load1 Tryd.isAgg3 rfl rfl) rfl rfl rfl (gj_step (y_add rfl rfl (by omega)) rfl rfl rfl (gj_step (y_gtr rfl rfl) rfl rfl rfl (gj_nil ?_))))))))))
          refine ej_th ?_
          refine cj_cond rfl (fun h43 => ?_) (fun h43 => ?_)
          · have h43b := h43
            try simp only [sxb] at h43
            rw [if_pos h43] at hl
            refine cj_seq (cj_region ?_)
            refine oj_step (y_move rfl) rfl rfl rfl ?_
            refine oj_step (y_move rfl) rfl rfl rfl ?_
            refine oj_step (y_sub rfl rfl (by omega)) rfl rfl rfl ?_
            refine oj_buildSlice [.int .i64 0] Tryd.underlying23 Tryd.sizeOf3 Tryd.zeroValue3 rfl rfl (by kernel_rfl) rfl rfl (fun b47 => ?_)
            refine oj_append  el23 (fun _ => rfl) enInt_one rfl rfl rfl (reads_lit [day - 1] (fun _ => rfl) rfl) (by simp [maxLen]; omega) (by simp; omega) rfl (fun A48 c48 => ?_)
            refine oj_step (y_assign rfl) rfl rfl rfl ?_
            refine oj_nil ?_
            refine ej_th ?_
            refine cj_regionG (gj_step (y_assign rfl) rfl rfl rfl (gj_nil ?_))
            refine ej_blk (ej_th ?_)
            refine cj_regionG (gj_step (y_move rfl) rfl rfl rfl (gj_step (y_add rfl rfl (by omega)) rfl rfl rfl (gj_step (y_assign rfl) rfl rfl rfl (gj_nil ?_))))
            exact ej_nx (m, day + 1, 1, A48, c48, out ++ [day - 1]) (by simp only; omega) ⟨by first | omega | (simp only; omega), by first | omega | (simp only; omega), by first | omega | (simp only; omega), by simp; omega, hl⟩ ⟨rfl, rfl, rfl, rfl, rfl, rfl, rfl, trivial⟩
          · have h43b := h43
            try simp only [sxb] at h43
            rw [if_neg (by omega)] at hl
            refine cj_skip (ej_blk (ej_th ?_))
            refine cj_regionG (gj_step (y_move rfl) rfl rfl rfl (gj_step (y_add rfl rfl (by omega)) rfl rfl rfl (gj_step (y_assign rfl) rfl rfl rfl (gj_nil ?_))))
            exact ej_nx (m, day + 1, age + 1, A, c, out) (by simp only; omega) ⟨by first | omega | (simp only; omega), by first | omega | (simp only; omega), by first | omega | (simp only; omega), by first | omega | (simp only; omega), hl⟩ ⟨rfl, rfl, rfl, rfl, rfl, rfl, rfl, trivial⟩
      · have h25b := h25
        try simp only [sxb] at h25
        obtain rfl : m = 0 := by omega
        rw [rkF] at hl
        subst hl
        refine cj_exit (ej_then_exit (ej_then_exit (ej_blk_hit (ej_th (cj_seq (cj_seq ?_))))))
        refine cj_regionG (gj_step (y_move rfl) rfl rfl rfl (gj_step (y_lenA Tryd.underlying23 rfl) rfl rfl rfl (gj_step (y_gtr rfl rfl) rfl rfl rfl (gj_nil ?_))))
        refine ej_th ?_
        refine cj_cond rfl (fun h51 => ?_) (fun h51 => ?_)
        · have h51b := h51
          try simp only [sxb] at h51
          refine cj_seq ?_
          refine cj_regionG (gj_step (y_assign rfl) rfl rfl rfl (gj_step (y_assign rfl) rfl rfl rfl (gj_nil ?_)))
          refine ej_th (cj_ret (ej_then_ret ?_))
          rw [← hkr] at h51
          have h1 : KeepN d u = [] := by simp only [KeepN, h13, hb, Bool.false_eq_true, if_false, if_true]; rw [if_pos (by omega)]
          have h2 : KeepE d u = 3 := by simp only [KeepE, h13, hb, Bool.false_eq_true, if_false, if_true]; rw [if_pos (by omega)]
          rw [h1, h2]
          exact ej_ret2 rfl Tryd.results25 rfl rfl (fun w' hp => ⟨none, 0, rfl, hp.below, Res.nil⟩)
        · have h51b := h51
          try simp only [sxb] at h51
          refine cj_skip (ej_th (cj_seq ?_))
          refine cj_regionG (gj_step (y_move rfl) rfl rfl rfl (gj_step (y_assign rfl) rfl rfl rfl (gj_step (y_assign rfl) rfl rfl rfl (gj_nil ?_))))
          refine ej_th (cj_ret ?_)
          have h51' := h51
          rw [← hkr] at h51'
          have h1 : KeepN d u = rkL d u := by simp only [KeepN, h13, hb, Bool.false_eq_true, if_false, if_true]; rw [if_neg (by omega), hkr]
          have h2 : KeepE d u = 0 := by simp only [KeepE, h13, hb, Bool.false_eq_true, if_false, if_true]; rw [if_neg (by omega)]
          rw [h1, h2]
          exact ej_ret2 rfl Tryd.results25 rfl rfl (fun w' hp => ⟨A, c, rfl, hp.below, hp.res (fun _ => rfl) (by unfold maxLen; omega)⟩)

theorem k_LoanKeeps (d : Deal) (Ac : Option Addr) (cc : Nat) (u : Int) (w : World) (hc : Rd w 1 enInt Ac d.closed) (hG : Gl w 0 WAYS) : Calls Tryd.prog 4 #[.agg #[.int .i64 d.lr, .int .i64 d.lc, .int .i64 d.tr, .int .i64 d.tf, .int .i64 d.te, .int .i64 d.tt, .int .i64 d.tg, .slice Ac d.closed.length cc, .int .i64 d.start, .int .i64 d.sum], .int .i64 u] w (fun e w' => e = .returned (.bool true) ∧ Grow w w') := by
  refine enter_pure (args := [.agg #[.int .i64 d.lr, .int .i64 d.lc, .int .i64 d.tr, .int .i64 d.tf, .int .i64 d.te, .int .i64 d.tt, .int .i64 d.tg, .slice Ac d.closed.length cc, .int .i64 d.start, .int .i64 d.sum], .int .i64 u]) [sl (fun b => b < w.heap.size) 1 enInt Ac d.closed, gl 0 WAYS] Tryd.func4 rfl (by rw [Tryd.ntmps4]; simp) (fun g hg => by simp at hg; rcases hg with rfl | rfl; exact ⟨hc, fun _ h => h⟩; exact ⟨hG.1, fun b hb => by have : b = 0 := hb; rw [this]; exact hG.2⟩) ?_
  refine cj_seq (cj_region ?_)
  refine oj_box rfl rfl rfl (fun b2 => ?_)
  refine oj_step (y_assign rfl) rfl rfl rfl ?_
  refine oj_nil ?_
  refine ej_th (cj_seq (cj_region ?_))
  refine oj_step (y_loadN Tryd.isAgg44 Tryd.sizeOf44 rfl) rfl rfl rfl ?_
  refine oj_step (y_move rfl) rfl rfl rfl ?_
  refine oj_callS (fun A c => .tuple #[.slice A (KeepN d u).length c, .int .i64 (KeepE d u)]) 1 enInt (KeepN d u) Tryd.call24 rfl (fun w hp => k_Keep d Ac cc u w hp.rd) rfl (fun A12 c12 fp12 hfp12 => ?_)
  refine oj_step (y_move rfl) rfl rfl rfl ?_
  refine oj_step (y_extract rfl rfl) rfl rfl rfl ?_
  refine oj_step (y_extract rfl rfl) rfl rfl rfl ?_
  refine oj_step (y_assign rfl) rfl rfl rfl ?_
  refine oj_step (y_assign rfl) rfl rfl rfl ?_
  refine oj_nil ?_
  refine ej_th (cj_seq (cj_region ?_))
  refine oj_step (y_loadN Tryd.isAgg44 Tryd.sizeOf44 rfl) rfl rfl rfl ?_
  refine oj_step (y_move rfl) rfl rfl rfl ?_
  refine oj_callS (fun A c => .tuple #[.slice A (KeepN d u).length c, .int .i64 (KeepE d u)]) 1 enInt (KeepN d u) Tryd.call25 rfl (fun w hp => k_rKeep d Ac cc u w hp.rd) rfl (fun A18 c18 fp18 hfp18 => ?_)
  refine oj_step (y_move rfl) rfl rfl rfl ?_
  refine oj_step (y_extract rfl rfl) rfl rfl rfl ?_
  refine oj_step (y_extract rfl rfl) rfl rfl rfl ?_
  refine oj_step (y_assign rfl) rfl rfl rfl ?_
  refine oj_step (y_assign rfl) rfl rfl rfl ?_
  refine oj_nil ?_
  refine ej_th (cj_seq ?_)
  refine cj_regionG ?_
  refine gj_step (y_move rfl) rfl rfl rfl (gj_step (y_move rfl) rfl rfl rfl (?_))
  refine gj_step (y_call Tryd.call18 rfl (fun w hp => k_Same (KeepN d u) (KeepN d u) A12 A18 c12 c18 w hp.rd hp.rd)) rfl rfl rfl ?_
  refine gj_step (y_move rfl) rfl rfl rfl (?_)
  refine gj_g 3 24 27 rfl rfl rfl rfl (fun hg24 => gj_yes rfl rfl rfl (y_move rfl) rfl rfl (gj_yes rfl rfl rfl (y_move rfl) rfl rfl (gj_yes rfl rfl rfl (y_eql rfl rfl) rfl rfl (gj_nil rfl)))) ?_
  refine gj_step (y_and rfl rfl rfl) rfl rfl rfl (gj_step (y_move rfl) rfl rfl rfl (?_))
  refine gj_g 1 29 30 rfl rfl rfl rfl (fun hg29 => gj_yes rfl rfl rfl (y_call Tryd.call23 rfl (fun w hp => k_works w hp.glo)) rfl rfl (gj_nil rfl)) ?_
  refine gj_step (y_and rfl rfl rfl) rfl rfl rfl (gj_step (y_assign rfl) rfl rfl rfl (?_))
  refine gj_nil ?_
  refine ej_th (cj_ret ?_)
  exact ej_ret1 rfl Tryd.results4 rfl (fun w' hp => ⟨by simp, hp.below⟩)

theorem k_tardy (d : Deal) (Ac : Option Addr) (cc : Nat) (u : Int) (ls : List Int) (Al : Option Addr) (cl : Nat) (w : World) (hc : Rd w 1 enInt Ac d.closed) (hl0 : Rd w 1 enInt Al ls) (hd : DealOk d) (hu : d.start ≤ u ∧ u ≤ 36500) : Calls Tryd.prog 33 #[.agg #[.int .i64 d.lr, .int .i64 d.lc, .int .i64 d.tr, .int .i64 d.tf, .int .i64 d.te, .int .i64 d.tt, .int .i64 d.tg, .slice Ac d.closed.length cc, .int .i64 d.start, .int .i64 d.sum], .int .i64 u, .slice Al ls.length cl] w (fun e w' => e = .returned (.bool (tardyB d u ls)) ∧ Grow w w') := by
  have htt := hd.tt
  have htg := hd.tg
  have hst := hd.start
  refine enter_pure (args := [.agg #[.int .i64 d.lr, .int .i64 d.lc, .int .i64 d.tr, .int .i64 d.tf, .int .i64 d.te, .int .i64 d.tt, .int .i64 d.tg, .slice Ac d.closed.length cc, .int .i64 d.start, .int .i64 d.sum], .int .i64 u, .slice Al ls.length cl]) [sl (fun b => b < w.heap.size) 1 enInt Ac d.closed, sl (fun b => b < w.heap.size) 1 enInt Al ls] Tryd.func33 rfl (by rw [Tryd.ntmps33]; simp) (fun g hg => by simp at hg; rcases hg with rfl | rfl; exact ⟨hc, fun _ h => h⟩; exact ⟨hl0, fun _ h => h⟩) ?_
  refine cj_seq (cj_region ?_)
  refine oj_box rfl rfl rfl (fun b3 => ?_)
  refine oj_step (y_assign rfl) rfl rfl rfl ?_
  refine oj_nil ?_
  refine ej_th (cj_seq ?_)
  refine cj_regionG (gj_step (y_assign rfl) rfl rfl rfl (gj_nil ?_))
  refine ej_th (cj_seq (cj_seq ?_))
  refine cj_regionG (gj_step (y_fa fa44_3 rfl) rfl rfl rfl (gj_step (y_load1 Tryd.isAgg3 rfl rfl) rfl rfl rfl (gj_step (y_assign rfl) rfl rfl rfl (gj_nil ?_))))
  refine ej_th (cj_block ?_)
  refine cj_lpic (X := Nat × Int × Int) [(1, _), (2, _), (3, _)] (fun ⟨m, t, age⟩ => t = u - m + 1 ∧ m ≤ (u + 1 - d.start).toNat ∧ (0 ≤ age ∧ age + m ≤ 36501) ∧ tdF d ls m t age = tardyB d u ls) (fun ⟨m, t, age⟩ => [(7, .int .i64 age), (8, .int .i64 t)]) (fun ⟨m, t, age⟩ => m) ((u + 1 - d.start).toNat, d.start, 0) (⟨by omega, Nat.le_refl _, by omega, rfl⟩) ⟨rfl, rfl, rfl, rfl, rfl, trivial⟩ ?_
  rintro ⟨m, t, age⟩ ⟨ht, hm, hag, hl⟩
  dsimp only [List.cons_append, List.nil_append]
  refine cj_seq (cj_seq ?_)
  refine cj_regionG (gj_step (y_move rfl) rfl rfl rfl (gj_step (y_move rfl) rfl rfl rfl (gj_step (y_leq rfl rfl) rfl rfl rfl (gj_nil ?_))))
  refine ej_th ?_
  refine cj_cond rfl (fun h13 => ?_) (fun h13 => ?_)
  · have h13b := h13
    try simp only [sxb] at h13
    obtain ⟨m, rfl⟩ : ∃ m0, m = m0 + 1 := ⟨m - 1, by omega⟩
    rw [tdF] at hl
    refine cj_skip (ej_th (cj_seq (cj_block ?_)))
    refine cj_cutic (X := Int) [(8, _), (1, _), (2, _), (3, _)] ⟨rfl, rfl, rfl, rfl, trivial⟩ (fun a => a = agd d t age) (fun a => [(7, .int .i64 a)]) ?_ ?_
    · refine cj_seq ?_
      refine cj_regionG ?_
      refine gj_step (y_move rfl) rfl rfl rfl (gj_step (y_fa fa44_3 rfl) rfl rfl rfl (gj_step (y_load1 Tryd.isAgg3 rfl rfl) rfl rfl rfl (gj_step (y_gtr rfl rfl) rfl rfl rfl (gj_step (y_move rfl) rfl rfl rfl (?_)))))
      refine gj_g 5 20 25 rfl rfl rfl rfl (fun hg20 => gj_yes rfl rfl rfl (y_fa fa44_2 rfl) rfl rfl (gj_yes rfl rfl rfl (y_load1 Tryd.isAgg23 rfl rfl) rfl rfl (gj_yes rfl rfl rfl (y_move rfl) rfl rfl (gj_yes rfl rfl rfl (y_call Tryd.call41 rfl (fun w hp => k_Seek d.closed t Ac cc w hp.rd)) rfl rfl (gj_yes rfl rfl rfl (y_lss rfl rfl) rfl rfl (gj_nil rfl)))))) ?_
      refine gj_step (y_and rfl rfl rfl) rfl rfl rfl (?_)
      refine gj_nil ?_
      refine ej_th ?_
      refine cj_cond rfl (fun h26 => ?_) (fun h26 => ?_)
      · have h26b := h26
        try simp only [sxb] at h26
        refine cj_regionG (gj_step (y_move rfl) rfl rfl rfl (gj_step (y_add rfl rfl (by omega)) rfl rfl rfl (gj_step (y_assign rfl) rfl rfl rfl (gj_nil ?_))))
        exact ej_ct (age + 1) (by unfold agd; rw [if_pos (by simpa using h26b)]) ⟨rfl, rfl, rfl, rfl, rfl, trivial⟩
      · have h26b := h26
        try simp only [sxb] at h26
        refine cj_skip ?_
        exact ej_ct age (by unfold agd; rw [if_neg (by rw [show (decide (d.start < t) && decide (seek d.closed t 0 < 0)) = false from h26b]; simp)]) ⟨rfl, rfl, rfl, rfl, rfl, trivial⟩
    · rintro a ha
      dsimp only [List.cons_append, List.nil_append]
      have ha1 : a ≤ age + 1 ∧ age ≤ a := by rw [ha]; unfold agd; split <;> omega
      rw [← ha] at hl
      refine cj_seq (cj_seq ?_)
      refine cj_regionG (gj_step (y_move rfl) rfl rfl rfl (gj_step (y_fa fa44_1 rfl) rfl rfl rfl (gj_step (y_fa fa42_3 rfl) rfl rfl rfl (gj_step (y_load1 Tryd.isAgg3 rfl rfl) rfl rfl rfl (gj_step (y_fa fa44_1 rfl) rfl rfl rfl (gj_step (y_fa fa42_4 rfl) rfl rfl rfl (gj_step (y_load1 Tryd.isAgg3 rfl rfl) rfl rfl rfl (gj_step (y_add rfl rfl (by omega)) rfl rfl rfl (gj_step (y_gtr rfl rfl) rfl rfl rfl (gj_nil ?_))))))))))
      refine ej_th ?_
      refine cj_cond rfl (fun h37 => ?_) (fun h37 => ?_)
      · have h37b := h37
        try simp only [sxb] at h37
        rw [if_pos h37] at hl
        refine cj_seq ?_
        refine cj_regionG (gj_step (y_assign rfl) rfl rfl rfl (gj_nil ?_))
        refine ej_th (cj_ret (ej_then_ret (ej_blk_ret (ej_then_ret (ej_then_ret (ej_blk_ret (ej_then_ret ?_)))))))
        exact ej_ret1 rfl Tryd.results33 rfl (fun w' hp => ⟨by rw [← hl], hp.below⟩)
      · have h37b := h37
        try simp only [sxb] at h37
        rw [if_neg (by omega)] at hl
        refine cj_skip (ej_th (cj_seq ?_))
        refine cj_regionG ?_
        refine gj_step (y_move rfl) rfl rfl rfl (gj_step (y_move rfl) rfl rfl rfl (?_))
        refine gj_step (y_call Tryd.call41 rfl (fun w hp => k_Seek ls t Al cl w hp.rd)) rfl rfl rfl ?_
        refine gj_step (y_geq rfl rfl) rfl rfl rfl (?_)
        refine gj_nil ?_
        refine ej_th ?_
        refine cj_cond rfl (fun h41 => ?_) (fun h41 => ?_)
        · have h41b := h41
          try simp only [sxb] at h41
          refine cj_regionG (gj_step (y_assign rfl) rfl rfl rfl (gj_nil ?_))
          refine ej_blk (ej_th ?_)
          refine cj_regionG (gj_step (y_move rfl) rfl rfl rfl (gj_step (y_add rfl rfl (by omega)) rfl rfl rfl (gj_step (y_assign rfl) rfl rfl rfl (gj_nil ?_))))
          rw [if_pos h41] at hl
          exact ej_nx (m, t + 1, 0) (by simp only; omega) ⟨by first | omega | (simp only; omega), by first | omega | (simp only; omega), by first | omega | (simp only; omega), hl⟩ ⟨rfl, rfl, rfl, rfl, rfl, trivial⟩
        · have h41b := h41
          try simp only [sxb] at h41
          refine cj_skip (ej_blk (ej_th ?_))
          refine cj_regionG (gj_step (y_move rfl) rfl rfl rfl (gj_step (y_add rfl rfl (by omega)) rfl rfl rfl (gj_step (y_assign rfl) rfl rfl rfl (gj_nil ?_))))
          rw [if_neg (by omega)] at hl
          exact ej_nx (m, t + 1, a) (by simp only; omega) ⟨by first | omega | (simp only; omega), by first | omega | (simp only; omega), by first | omega | (simp only; omega), hl⟩ ⟨rfl, rfl, rfl, rfl, rfl, trivial⟩
  · have h13b := h13
    try simp only [sxb] at h13
    obtain rfl : m = 0 := by omega
    rw [tdF] at hl
    refine cj_exit (ej_then_exit (ej_then_exit (ej_blk_hit (ej_th (cj_seq ?_)))))
    refine cj_regionG (gj_step (y_assign rfl) rfl rfl rfl (gj_nil ?_))
    refine ej_th (cj_ret ?_)
    exact ej_ret1 rfl Tryd.results33 rfl (fun w' hp => ⟨by rw [← hl], hp.below⟩)

theorem k_LoanFewest (d : Deal) (Ac : Option Addr) (cc : Nat) (u : Int) (ls : List Int) (Al : Option Addr) (cl : Nat) (w : World) (hc : Rd w 1 enInt Ac d.closed) (hl0 : Rd w 1 enInt Al ls) (hG : Gl w 0 WAYS) : Calls Tryd.prog 9 #[.agg #[.int .i64 d.lr, .int .i64 d.lc, .int .i64 d.tr, .int .i64 d.tf, .int .i64 d.te, .int .i64 d.tt, .int .i64 d.tg, .slice Ac d.closed.length cc, .int .i64 d.start, .int .i64 d.sum], .int .i64 u, .slice Al ls.length cl] w (fun e w' => e = .returned (.bool true) ∧ Grow w w') := by
  refine enter_pure (args := [.agg #[.int .i64 d.lr, .int .i64 d.lc, .int .i64 d.tr, .int .i64 d.tf, .int .i64 d.te, .int .i64 d.tt, .int .i64 d.tg, .slice Ac d.closed.length cc, .int .i64 d.start, .int .i64 d.sum], .int .i64 u, .slice Al ls.length cl]) [sl (fun b => b < w.heap.size) 1 enInt Ac d.closed, sl (fun b => b < w.heap.size) 1 enInt Al ls, gl 0 WAYS] Tryd.func9 rfl (by rw [Tryd.ntmps9]; simp) (fun g hg => by simp at hg; rcases hg with rfl | rfl | rfl; exact ⟨hc, fun _ h => h⟩; exact ⟨hl0, fun _ h => h⟩; exact ⟨hG.1, fun b hb => by have : b = 0 := hb; rw [this]; exact hG.2⟩) ?_
  refine cj_seq (cj_region ?_)
  refine oj_box rfl rfl rfl (fun b3 => ?_)
  refine oj_step (y_assign rfl) rfl rfl rfl ?_
  refine oj_nil ?_
  refine ej_th (cj_seq (cj_region ?_))
  refine oj_step (y_loadN Tryd.isAgg44 Tryd.sizeOf44 rfl) rfl rfl rfl ?_
  refine oj_step (y_move rfl) rfl rfl rfl ?_
  refine oj_callS (fun A c => .tuple #[.slice A (KeepN d u).length c, .int .i64 (KeepE d u)]) 1 enInt (KeepN d u) Tryd.call24 rfl (fun w hp => k_Keep d Ac cc u w hp.rd) rfl (fun A17 c17 fp17 hfp17 => ?_)
  refine oj_step (y_move rfl) rfl rfl rfl ?_
  refine oj_step (y_extract rfl rfl) rfl rfl rfl ?_
  refine oj_step (y_extract rfl rfl) rfl rfl rfl ?_
  refine oj_step (y_assign rfl) rfl rfl rfl ?_
  refine oj_step (y_assign rfl) rfl rfl rfl ?_
  refine oj_nil ?_
  refine ej_th (cj_seq (cj_seq ?_))
  refine cj_regionG (gj_step (y_move rfl) rfl rfl rfl (gj_step (y_neq rfl rfl) rfl rfl rfl (gj_step (y_move rfl) rfl rfl rfl (gj_g 2 22 24 rfl rfl rfl rfl (fun hg22 => gj_yes rfl rfl rfl (y_move rfl) rfl rfl (gj_yes rfl rfl rfl (y_neq rfl rfl) rfl rfl (gj_nil rfl))) (gj_step (y_and rfl rfl rfl) rfl rfl rfl (gj_nil ?_))))))
  refine ej_th ?_
  refine cj_cond rfl (fun h25 => ?_) (fun h25 => ?_)
  · have h25b := h25
    try simp only [sxb] at h25
    have hk0 := keepE_no h25.1
    rw [hk0]
    refine cj_seq ?_
    refine cj_regionG ?_
    refine gj_step (y_move rfl) rfl rfl rfl (gj_step (y_lenA Tryd.underlying23 rfl) rfl rfl rfl (gj_step (y_eql rfl rfl) rfl rfl rfl (gj_step (y_move rfl) rfl rfl rfl (?_))))
    refine gj_g 1 29 30 rfl rfl rfl rfl (fun hg29 => gj_yes rfl rfl rfl (y_call Tryd.call23 rfl (fun w hp => k_works w hp.glo)) rfl rfl (gj_nil rfl)) ?_
    refine gj_step (y_and rfl rfl rfl) rfl rfl rfl (gj_step (y_assign rfl) rfl rfl rfl (?_))
    refine gj_nil ?_
    refine ej_th (cj_ret (ej_then_ret ?_))
    exact ej_ret1 rfl Tryd.results9 rfl (fun w' hp => ⟨by simp, hp.below⟩)
  · have h25b := h25
    try simp only [sxb] at h25
    obtain ⟨hb, hu, hk⟩ := keepE_ok h25
    have hd := badDeal_no hb
    have htt := hd.tt
    have htg := hd.tg
    have hst := hd.start
    have hkl : (KeepN d u).length ≤ 32 := by
      rcases hk with ⟨_, h2, h3⟩ | ⟨_, h2, h3⟩
      · rw [h2]; exact h3
      · rw [h2]; exact Nat.zero_le _
    refine cj_skip (ej_th (cj_seq (cj_seq ?_)))
    refine cj_regionG ?_
    refine gj_step (y_fa fa44_3 rfl) rfl rfl rfl (gj_step (y_load1 Tryd.isAgg3 rfl rfl) rfl rfl rfl (?_))
    refine gj_step (y_call Tryd.call26 rfl (fun w hp => k_From _ _ _ w)) rfl rfl rfl ?_
    refine gj_step (y_not rfl) rfl rfl rfl (gj_step (y_move rfl) rfl rfl rfl (?_))
    refine gj_g 5 36 41 rfl rfl rfl rfl (fun hg36 => gj_yes rfl rfl rfl (y_fa fa44_3 rfl) rfl rfl (gj_yes rfl rfl rfl (y_load1 Tryd.isAgg3 rfl rfl) rfl rfl (gj_yes rfl rfl rfl (y_move rfl) rfl rfl (gj_yes rfl rfl rfl (y_call Tryd.call26 rfl (fun w hp => k_From _ _ _ w)) rfl rfl (gj_yes rfl rfl rfl (y_not rfl) rfl rfl (gj_nil rfl)))))) ?_
    refine gj_step (y_or rfl rfl rfl) rfl rfl rfl (gj_step (y_move rfl) rfl rfl rfl (?_))
    refine gj_g 8 43 51 rfl rfl rfl rfl (fun hg43 => gj_yes rfl rfl rfl (y_move rfl) rfl rfl (gj_yes rfl rfl rfl (y_eql rfl rfl) rfl rfl (gj_yes rfl rfl rfl (y_move rfl) rfl rfl (gj_g 4 46 50 rfl rfl rfl rfl (fun hg46 => gj_yes rfl rfl rfl (y_loadN Tryd.isAgg44 Tryd.sizeOf44 rfl) rfl rfl (gj_yes rfl rfl rfl (y_move rfl) rfl rfl (gj_yes rfl rfl rfl (y_move rfl) rfl rfl (gj_yes rfl rfl rfl (y_call Tryd.call33 rfl (fun w hp => k_tardy d Ac cc u (KeepN d u) A17 c17 w hp.rd hp.rd hd hu)) rfl rfl (gj_nil rfl))))) (gj_yes rfl rfl rfl (y_and rfl rfl rfl) rfl rfl (gj_nil rfl)))))) ?_
    refine gj_step (y_or rfl rfl rfl) rfl rfl rfl (?_)
    refine gj_nil ?_
    refine ej_th ?_
    refine cj_cond rfl (fun h52 => ?_) (fun h52 => ?_)
    · simp only [sxb] at h52
      exfalso
      rcases h52 with h | h
      · omega
      · rcases hk with ⟨_, h2, h3⟩ | ⟨h1, h2, h3⟩
        · rw [h2, tardy_keep hd u hu.1] at h; exact absurd h.2 (by simp)
        · omega
    · have h52b := h52
      try simp only [sxb] at h52
      refine cj_skip (ej_th (cj_seq ?_))
      refine cj_ownNil 68 3 encAct ?_
      refine cj_regionG (gj_step (y_assign rfl) rfl rfl rfl (gj_nil ?_))
      refine ej_th (cj_seq (cj_seq ?_))
      refine cj_regionG (gj_step (y_assign rfl) rfl rfl rfl (gj_nil ?_))
      refine ej_th (cj_block ?_)
      refine cj_lpi (X := Nat × Option Addr × Nat × List Act1) [(1, _), (2, _), (3, _), (6, _), (7, _), (8, _)] (fun ⟨i, A, c, xs⟩ => i ≤ (KeepN d u).length ∧ xs = ((KeepN d u).take i).map rnOf) (fun ⟨i, A, c, xs⟩ => [(9, .slice A xs.length c), (10, .int .i64 i)]) (fun ⟨i, A, c, xs⟩ => [ow 68 3 encAct A c xs, ownB b3 (cellsB 44 (encDeal d Ac cc))]) (fun ⟨i, A, c, xs⟩ => [sl fp17 1 enInt A17 (KeepN d u), sl (fun b => b < w.heap.size) 1 enInt Ac d.closed, sl (fun b => b < w.heap.size) 1 enInt Al ls, gl 0 WAYS]) (fun ⟨i, A, c, xs⟩ => (KeepN d u).length - i) (0, none, 0, []) (⟨Nat.zero_le _, rfl⟩) ⟨rfl, rfl, rfl, rfl, rfl, rfl, rfl, rfl, trivial⟩ ?_
      rintro ⟨i, A, c, xs⟩ ⟨hi, hxs⟩
      dsimp only [List.cons_append, List.nil_append]
      refine cj_seq (cj_seq ?_)
      refine cj_regionG (gj_step (y_move rfl) rfl rfl rfl (gj_step (y_move rfl) rfl rfl rfl (gj_step (y_lenA Tryd.underlying23 rfl) rfl rfl rfl (gj_step (y_lss rfl rfl) rfl rfl rfl (gj_nil ?_)))))
      refine ej_th ?_
      refine cj_cond rfl (fun h56 => ?_) (fun h56 => ?_)
      · have h56b := h56
        try simp only [sxb] at h56
        obtain ⟨x, hx⟩ : ∃ x, (KeepN d u)[i]? = some x := ⟨_, List.getElem?_eq_getElem (by omega)⟩
        have htk : ((KeepN d u).take (i + 1)).map rnOf = ((KeepN d u).take i).map rnOf ++ [(⟨x, 2, 0⟩ : Act1)] := by rw [List.take_add_one, hx]; simp [rnOf]
        have hil : xs.length = i := by rw [hxs]; simp; omega
        refine cj_skip (ej_th (cj_seq (cj_block (cj_region ?_))))
        refine oj_step (y_move rfl) rfl rfl rfl ?_
        refine oj_step (y_move rfl) rfl rfl rfl ?_
        refine oj_step (y_move rfl) rfl rfl rfl ?_
        refine oj_step (y_ixR (reads_sl) Tryd.underlying23 Tryd.sizeOf3 rfl rfl (⟨by omega, by omega⟩)) rfl rfl rfl ?_
        refine oj_step (y_ld0 (reads_sl) Tryd.isAgg3 rfl (hx) rfl) rfl rfl rfl ?_
        refine oj_step (y_build (cs := [.int .i64 x, .int .i64 2, .int .i64 0]) st68 rfl (by kernel_rfl)) rfl rfl rfl ?_
        refine oj_buildSlice (cs := [.int .i64 x, .int .i64 2, .int .i64 0]) [.int .i64 0, .int .i64 0, .int .i64 0] Tryd.underlying69 Tryd.sizeOf68 Tryd.zeroValue68 rfl rfl (by kernel_rfl) (by kernel_rfl) rfl (fun b65 => ?_)
        refine oj_append  el69 (fun _ => rfl) encAct_one rfl rfl rfl (reads_lit [(⟨x, 2, 0⟩ : Act1)] (fun _ => rfl) rfl) (by simp [maxLen]; omega) (by simp; omega) rfl (fun A66 c66 => ?_)
        refine oj_step (y_assign rfl) rfl rfl rfl ?_
        refine oj_nil ?_
        refine ej_blk (ej_th ?_)
        refine cj_regionG (gj_step (y_move rfl) rfl rfl rfl (gj_step (y_add rfl rfl (by omega)) rfl rfl rfl (gj_step (y_assign rfl) rfl rfl rfl (gj_nil ?_))))
        exact ej_nx (i + 1, A66, c66, xs ++ [(⟨x, 2, 0⟩ : Act1)]) (by simp only; omega) ⟨by first | omega | (simp only; omega), by rw [hxs]; exact htk.symm⟩ ⟨rfl, rfl, rfl, rfl, rfl, rfl, rfl, rfl, trivial⟩
      · have h56b := h56
        try simp only [sxb] at h56
        obtain rfl : i = (KeepN d u).length := by omega
        rw [List.take_length] at hxs
        subst hxs
        have hol : ((KeepN d u).map rnOf).length = (KeepN d u).length := by simp
        refine cj_exit (ej_then_exit (ej_then_exit (ej_blk_hit (ej_th (cj_seq (cj_seq (cj_region ?_)))))))
        refine oj_step (y_loadN Tryd.isAgg44 Tryd.sizeOf44 rfl) rfl rfl rfl ?_
        refine oj_step (y_move rfl) rfl rfl rfl ?_
        refine oj_step (y_move rfl) rfl rfl rfl ?_
        refine oj_step (y_call Tryd.call32 rfl (fun w hp => k_Owe d Ac cc ((KeepN d u).map rnOf) A c u w hp.rd (hp.rdO (fun _ => rfl) (by unfold maxLen; simp; omega)) hp.glo)) rfl rfl rfl ?_
        refine oj_step (y_move rfl) rfl rfl rfl ?_
        refine oj_step (y_extract rfl rfl) rfl rfl rfl ?_
        refine oj_step (y_extract rfl rfl) rfl rfl rfl ?_
        refine oj_alloc Tryd.zeroValue64 rfl rfl (fun b11 => ?_)
        refine oj_store rfl rfl rfl rfl Tryd.sizeOf64 rfl ?_
        refine oj_step (y_assign rfl) rfl rfl rfl ?_
        refine oj_nil ?_
        refine ej_th (cj_seq ?_)
        refine cj_regionG (gj_step (y_move rfl) rfl rfl rfl (gj_step (y_eql rfl rfl) rfl rfl rfl (gj_step (y_move rfl) rfl rfl rfl (gj_g 14 76 90 rfl rfl rfl rfl (fun hg76 => gj_yes rfl rfl rfl (y_move rfl) rfl rfl (gj_yes rfl rfl rfl (y_neq rfl rfl) rfl rfl (gj_yes rfl rfl rfl (y_move rfl) rfl rfl (gj_g 10 79 89 rfl rfl rfl rfl (fun hg79 => gj_yes rfl rfl rfl (y_fa fa64_3 rfl) rfl rfl (gj_yes rfl rfl rfl (y_load1 Tryd.isAgg3 rfl rfl) rfl rfl (gj_yes rfl rfl rfl (y_fa fa44_1 rfl) rfl rfl (gj_yes rfl rfl rfl (y_fa fa42_3 rfl) rfl rfl (gj_yes rfl rfl rfl (y_load1 Tryd.isAgg3 rfl rfl) rfl rfl (gj_yes rfl rfl rfl (y_fa fa44_1 rfl) rfl rfl (gj_yes rfl rfl rfl (y_fa fa42_4 rfl) rfl rfl (gj_yes rfl rfl rfl (y_load1 Tryd.isAgg3 rfl rfl) rfl rfl (gj_yes rfl rfl rfl (y_add rfl rfl (by omega)) rfl rfl (gj_yes rfl rfl rfl (y_gtr rfl rfl) rfl rfl (gj_nil rfl))))))))))) (gj_yes rfl rfl rfl (y_or rfl rfl rfl) rfl rfl (gj_nil rfl)))))) (gj_step (y_and rfl rfl rfl) rfl rfl rfl (gj_nil ?_))))))
        refine ej_th ?_
        refine cj_cond rfl (fun h91 => ?_) (fun h91 => ?_)
        · simp only [sxb] at h91
          exfalso
          rcases hk with ⟨_, h2, h3⟩ | ⟨h1, h2, h3⟩
          · obtain ⟨k1, k2⟩ := keep_owe hd hb u hu h3
            rw [h2] at h91
            omega
          · omega
        · have h91b := h91
          try simp only [sxb] at h91
          refine cj_skip (ej_th (cj_seq ?_))
          refine cj_regionG (gj_step (y_move rfl) rfl rfl rfl (gj_step (y_eql rfl rfl) rfl rfl rfl (gj_step (y_move rfl) rfl rfl rfl (gj_g 5 94 99 rfl rfl rfl rfl (fun hg94 => gj_yes rfl rfl rfl (y_move rfl) rfl rfl (gj_yes rfl rfl rfl (y_lenA Tryd.underlying23 rfl) rfl rfl (gj_yes rfl rfl rfl (y_move rfl) rfl rfl (gj_yes rfl rfl rfl (y_lenA Tryd.underlying23 rfl) rfl rfl (gj_yes rfl rfl rfl (y_lss rfl rfl) rfl rfl (gj_nil rfl)))))) (gj_step (y_and rfl rfl rfl) rfl rfl rfl (gj_step (y_move rfl) rfl rfl rfl (gj_g 7 101 108 rfl rfl rfl rfl (fun hg101 => gj_yes rfl rfl rfl (y_move rfl) rfl rfl (gj_yes rfl rfl rfl (y_eql rfl rfl) rfl rfl (gj_yes rfl rfl rfl (y_move rfl) rfl rfl (gj_g 3 104 107 rfl rfl rfl rfl (fun hg104 => gj_yes rfl rfl rfl (y_move rfl) rfl rfl (gj_yes rfl rfl rfl (y_lenA Tryd.underlying23 rfl) rfl rfl (gj_yes rfl rfl rfl (y_leq rfl rfl) rfl rfl (gj_nil rfl)))) (gj_yes rfl rfl rfl (y_and rfl rfl rfl) rfl rfl (gj_nil rfl)))))) (gj_step (y_or rfl rfl rfl) rfl rfl rfl (gj_step (y_assign rfl) rfl rfl rfl (gj_nil ?_))))))))))
          refine ej_th (cj_seq ?_)
          refine cj_regionG ?_
          refine gj_step (y_move rfl) rfl rfl rfl (gj_step (y_not rfl) rfl rfl rfl (gj_step (y_move rfl) rfl rfl rfl (?_)))
          refine gj_g 4 112 116 rfl rfl rfl rfl (fun hg112 => gj_yes rfl rfl rfl (y_loadN Tryd.isAgg44 Tryd.sizeOf44 rfl) rfl rfl (gj_yes rfl rfl rfl (y_move rfl) rfl rfl (gj_yes rfl rfl rfl (y_move rfl) rfl rfl (gj_yes rfl rfl rfl (y_call Tryd.call33 rfl (fun w hp => k_tardy d Ac cc u ls Al cl w hp.rd hp.rd hd hu)) rfl rfl (gj_nil rfl))))) ?_
          refine gj_step (y_or rfl rfl rfl) rfl rfl rfl (gj_step (y_move rfl) rfl rfl rfl (?_))
          refine gj_g 1 118 119 rfl rfl rfl rfl (fun hg118 => gj_yes rfl rfl rfl (y_call Tryd.call23 rfl (fun w hp => k_works w hp.glo)) rfl rfl (gj_nil rfl)) ?_
          refine gj_step (y_and rfl rfl rfl) rfl rfl rfl (gj_step (y_assign rfl) rfl rfl rfl (?_))
          refine gj_nil ?_
          refine ej_th (cj_ret ?_)
          refine ej_ret1 rfl Tryd.results9 rfl (fun w' hp => ⟨?_, hp.below⟩)
          have key : (((KeepE d u == 0) && decide ((ls.length : Int) < (KeepN d u).length)) || ((KeepE d u == 3) && decide ((ls.length : Int) ≤ 32))) = true → tardyB d u ls = true := by
            intro h
            cases ht : tardyB d u ls
            · have hf := fewest hd u hu.1 ls ht
              simp only [sxb] at h
              rcases hk with ⟨h1, h2, h3⟩ | ⟨h1, h2, h3⟩
              · rw [h2] at h; omega
              · omega
            · rfl
          rw [Bool.and_true]
          cases hq : (((KeepE d u == 0) && decide ((ls.length : Int) < (KeepN d u).length)) || ((KeepE d u == 3) && decide ((ls.length : Int) ≤ 32)))
          · rfl
          · rw [key hq]; rfl

end Go.Proofs.YtafmgkiddhappaaDoor
