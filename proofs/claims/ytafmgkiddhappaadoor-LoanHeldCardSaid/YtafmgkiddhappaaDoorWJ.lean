/- Walks of functions of the program. -/
import Derived.Test.YtafmgkiddhappaaDoorWI
import Derived.Test.YtafmgkiddhappaaDoorPJ
namespace Go.Proofs.YtafmgkiddhappaaDoor
open Go.Sx Go.RowKit
set_option maxRecDepth 20000
theorem k_valid1 (n : Int) (w : World)  : Calls Tryd.prog 142 #[.agg #[], .int .i64 n] w (fun e w' => e = .returned (.bool (btw 1 n 1073741824)) ∧ Grow w w') := by
  refine enter_pure (args := [.agg #[], .int .i64 n]) [] Tryd.func142 rfl (by rw [Tryd.ntmps142]; simp) (by simp) ?_
  refine cj_seq (cj_region ?_)
  refine oj_box rfl rfl rfl (fun b2 => ?_)
  refine oj_step (y_assign rfl) rfl rfl rfl ?_
  refine oj_nil ?_
  refine ej_th (cj_seq ?_)
  refine cj_regionG ?_
  refine gj_step (y_move rfl) rfl rfl rfl (?_)
  refine gj_step (y_call Tryd.call54 rfl (fun w hp => k_within _ _ _ w)) rfl rfl rfl ?_
  refine gj_step (y_assign rfl) rfl rfl rfl (?_)
  refine gj_nil ?_
  refine ej_th (cj_ret ?_)
  exact ej_ret1 rfl Tryd.results142 rfl (fun w' hp => ⟨rfl, hp.below⟩)

theorem k_valid2 (n : Int) (w : World)  : Calls Tryd.prog 143 #[.agg #[], .int .i64 n] w (fun e w' => e = .returned (.bool (n == 0)) ∧ Grow w w') := by
  refine enter_pure (args := [.agg #[], .int .i64 n]) [] Tryd.func143 rfl (by rw [Tryd.ntmps143]; simp) (by simp) ?_
  refine cj_seq (cj_region ?_)
  refine oj_box rfl rfl rfl (fun b2 => ?_)
  refine oj_step (y_assign rfl) rfl rfl rfl ?_
  refine oj_nil ?_
  refine ej_th (cj_seq ?_)
  refine cj_regionG (gj_step (y_move rfl) rfl rfl rfl (gj_step (y_eql rfl rfl) rfl rfl rfl (gj_step (y_assign rfl) rfl rfl rfl (gj_nil ?_))))
  refine ej_th (cj_ret ?_)
  exact ej_ret1 rfl Tryd.results143 rfl (fun w' hp => ⟨rfl, hp.below⟩)

theorem k_valid3 (n : Int) (w : World)  : Calls Tryd.prog 144 #[.agg #[], .int .i64 n] w (fun e w' => e = .returned (.bool (btw 1 n 366)) ∧ Grow w w') := by
  refine enter_pure (args := [.agg #[], .int .i64 n]) [] Tryd.func144 rfl (by rw [Tryd.ntmps144]; simp) (by simp) ?_
  refine cj_seq (cj_region ?_)
  refine oj_box rfl rfl rfl (fun b2 => ?_)
  refine oj_step (y_assign rfl) rfl rfl rfl ?_
  refine oj_nil ?_
  refine ej_th (cj_seq ?_)
  refine cj_regionG ?_
  refine gj_step (y_move rfl) rfl rfl rfl (?_)
  refine gj_step (y_call Tryd.call54 rfl (fun w hp => k_within _ _ _ w)) rfl rfl rfl ?_
  refine gj_step (y_assign rfl) rfl rfl rfl (?_)
  refine gj_nil ?_
  refine ej_th (cj_ret ?_)
  exact ej_ret1 rfl Tryd.results144 rfl (fun w' hp => ⟨rfl, hp.below⟩)

theorem k_valid4 (n : Int) (w : World)  : Calls Tryd.prog 145 #[.agg #[], .int .i64 n] w (fun e w' => e = .returned (.bool (n == 0)) ∧ Grow w w') := by
  refine enter_pure (args := [.agg #[], .int .i64 n]) [] Tryd.func145 rfl (by rw [Tryd.ntmps145]; simp) (by simp) ?_
  refine cj_seq (cj_region ?_)
  refine oj_box rfl rfl rfl (fun b2 => ?_)
  refine oj_step (y_assign rfl) rfl rfl rfl ?_
  refine oj_nil ?_
  refine ej_th (cj_seq ?_)
  refine cj_regionG (gj_step (y_move rfl) rfl rfl rfl (gj_step (y_eql rfl rfl) rfl rfl rfl (gj_step (y_assign rfl) rfl rfl rfl (gj_nil ?_))))
  refine ej_th (cj_ret ?_)
  exact ej_ret1 rfl Tryd.results145 rfl (fun w' hp => ⟨rfl, hp.below⟩)

theorem k_deedOf (a : Act1) (w : World)  : Calls Tryd.prog 101 #[.agg #[.int .i64 a.day, .int .i64 a.kind, .int .i64 a.n]] w (fun e w' => e = .returned (deedV a.kind) ∧ Grow w w') := by
  refine enter_pure (args := [.agg #[.int .i64 a.day, .int .i64 a.kind, .int .i64 a.n]]) [] Tryd.func101 rfl (by rw [Tryd.ntmps101]; simp) (by simp) ?_
  refine cj_seq (cj_region ?_)
  refine oj_box rfl rfl rfl (fun b1 => ?_)
  refine oj_step (y_assign rfl) rfl rfl rfl ?_
  refine oj_nil ?_
  refine ej_th (cj_seq (cj_seq ?_))
  refine cj_regionG (gj_step (y_fa fa68_1 rfl) rfl rfl rfl (gj_step (y_load1 Tryd.isAgg3 rfl rfl) rfl rfl rfl (gj_nil ?_)))
  refine ej_th (cj_block (cj_seq ?_))
  refine cj_regionG (gj_step (y_eql rfl rfl) rfl rfl rfl (gj_step (y_assign rfl) rfl rfl rfl (gj_nil ?_)))
  refine ej_th ?_
  refine cj_cond rfl (fun h5 => ?_) (fun h5 => ?_)
  · have h5b := h5
    try simp only [sxb] at h5
    refine cj_seq ?_
    refine cj_regionG (gj_step (y_build st191 rfl rfl) rfl rfl rfl (gj_step (y_iface rfl (by kernel_rfl)) rfl rfl rfl (gj_step (y_assign rfl) rfl rfl rfl (gj_nil ?_))))
    refine ej_th (cj_ret (ej_blk_ret (ej_then_ret ?_)))
    refine ej_ret1 rfl Tryd.results101 rfl (fun w' hp => ⟨?_, hp.below⟩)
    rw [deedV, if_pos h5]
  · have h5b := h5
    try simp only [sxb] at h5
    refine cj_seq ?_
    refine cj_regionG (gj_step (y_eql rfl rfl) rfl rfl rfl (gj_step (y_assign rfl) rfl rfl rfl (gj_nil ?_)))
    refine ej_th ?_
    refine cj_cond rfl (fun h9 => ?_) (fun h9 => ?_)
    · have h9b := h9
      try simp only [sxb] at h9
      refine cj_seq ?_
      refine cj_regionG (gj_step (y_build st192 rfl rfl) rfl rfl rfl (gj_step (y_iface rfl (by kernel_rfl)) rfl rfl rfl (gj_step (y_assign rfl) rfl rfl rfl (gj_nil ?_))))
      refine ej_th (cj_ret (ej_blk_ret (ej_then_ret ?_)))
      refine ej_ret1 rfl Tryd.results101 rfl (fun w' hp => ⟨?_, hp.below⟩)
      rw [deedV, if_neg h5, if_pos h9]
    · have h9b := h9
      try simp only [sxb] at h9
      refine cj_seq ?_
      refine cj_regionG (gj_step (y_eql rfl rfl) rfl rfl rfl (gj_step (y_assign rfl) rfl rfl rfl (gj_nil ?_)))
      refine ej_th ?_
      refine cj_cond rfl (fun h13 => ?_) (fun h13 => ?_)
      · have h13b := h13
        try simp only [sxb] at h13
        refine cj_seq ?_
        refine cj_regionG (gj_step (y_build st193 rfl rfl) rfl rfl rfl (gj_step (y_iface rfl (by kernel_rfl)) rfl rfl rfl (gj_step (y_assign rfl) rfl rfl rfl (gj_nil ?_))))
        refine ej_th (cj_ret (ej_blk_ret (ej_then_ret ?_)))
        refine ej_ret1 rfl Tryd.results101 rfl (fun w' hp => ⟨?_, hp.below⟩)
        rw [deedV, if_neg h5, if_neg h9, if_pos h13]
      · have h13b := h13
        try simp only [sxb] at h13
        refine cj_seq ?_
        refine cj_regionG (gj_step (y_eql rfl rfl) rfl rfl rfl (gj_step (y_assign rfl) rfl rfl rfl (gj_nil ?_)))
        refine ej_th ?_
        refine cj_cond rfl (fun h17 => ?_) (fun h17 => ?_)
        · have h17b := h17
          try simp only [sxb] at h17
          refine cj_seq ?_
          refine cj_regionG (gj_step (y_build st194 rfl rfl) rfl rfl rfl (gj_step (y_iface rfl (by kernel_rfl)) rfl rfl rfl (gj_step (y_assign rfl) rfl rfl rfl (gj_nil ?_))))
          refine ej_th (cj_ret (ej_blk_ret (ej_then_ret ?_)))
          refine ej_ret1 rfl Tryd.results101 rfl (fun w' hp => ⟨?_, hp.below⟩)
          rw [deedV, if_neg h5, if_neg h9, if_neg h13, if_pos h17]
        · have h17b := h17
          try simp only [sxb] at h17
          refine cj_skip (ej_blk (ej_th (cj_seq ?_)))
          refine cj_regionG (gj_step (y_assign rfl) rfl rfl rfl (gj_nil ?_))
          refine ej_th (cj_ret ?_)
          refine ej_ret1 rfl Tryd.results101 rfl (fun w' hp => ⟨?_, hp.below⟩)
          rw [deedV, if_neg h5, if_neg h9, if_neg h13, if_neg h17]

theorem deed_nil0 (m : Nat) (w : World) : (do eqGuard .eql 166 (.tmp m) (.const .nilIface) .nilIface .nilIface; binOp .eql 166 .nilIface .nilIface : Sem Value).run Tryd.prog w = .ok (.bool true) w := by kernel_rfl
theorem deed_nil (k : Int) (m : Nat) (w : World) : (do eqGuard .eql 166 (.tmp m) (.const .nilIface) (deedV k) .nilIface; binOp .eql 166 (deedV k) .nilIface : Sem Value).run Tryd.prog w = .ok (.bool (isNilK k)) w := by
  cases h : isNilK k
  · rcases kinds h with rfl | rfl | rfl | rfl <;> kernel_rfl
  · have := not_t h
    simp only [Bool.and_eq_false_iff, decide_eq_false_iff_not] at this
    have e : deedV k = .nilIface := by unfold deedV; rw [if_neg (by omega), if_neg (by omega), if_neg (by omega), if_neg (by omega)]
    rw [e]
    exact deed_nil0 m w
theorem deed_call (k n : Int) (h : isNilK k = false) : ∃ f u, (∀ args w, (callMethod (deedV k) "lombard/loan.valid" args).run Tryd.prog w = .ok (.enter f (#[u] ++ args)) w) ∧ ∀ w, Calls Tryd.prog f (#[u] ++ [.int .i64 n].toArray) w (fun e w' => e = .returned (.bool (okKind k n)) ∧ Grow w w') := by
  rcases kinds h with rfl | rfl | rfl | rfl
  · exact ⟨142, .agg #[], fun _ _ => by kernel_rfl, fun w => k_valid1 n w⟩
  · exact ⟨143, .agg #[], fun _ _ => by kernel_rfl, fun w => k_valid2 n w⟩
  · exact ⟨144, .agg #[], fun _ _ => by kernel_rfl, fun w => k_valid3 n w⟩
  · exact ⟨145, .agg #[], fun _ _ => by kernel_rfl, fun w => k_valid4 n w⟩

theorem k_acts (d : Deal) (Ac : Option Addr) (cc : Nat) (l : List Act1) (Al : Option Addr) (cl : Nat) (w : World) (hl0 : Rd w 3 encAct Al l) : Calls Tryd.prog 87 #[.agg #[.int .i64 d.lr, .int .i64 d.lc, .int .i64 d.tr, .int .i64 d.tf, .int .i64 d.te, .int .i64 d.tt, .int .i64 d.tg, .slice Ac d.closed.length cc, .int .i64 d.start, .int .i64 d.sum], .slice Al l.length cl] w (fun e w' => e = .returned (.bool (actsOk d l)) ∧ Grow w w') := by
  have hlen := hl0.len
  refine enter_pure (args := [.agg #[.int .i64 d.lr, .int .i64 d.lc, .int .i64 d.tr, .int .i64 d.tf, .int .i64 d.te, .int .i64 d.tt, .int .i64 d.tg, .slice Ac d.closed.length cc, .int .i64 d.start, .int .i64 d.sum], .slice Al l.length cl]) [sl (fun b => b < w.heap.size) 3 encAct Al l] Tryd.func87 rfl (by rw [Tryd.ntmps87]; simp) (fun g hg => by simp at hg; subst hg; exact ⟨hl0, fun _ h => h⟩) ?_
  refine cj_seq (cj_region ?_)
  refine oj_box rfl rfl rfl (fun b2 => ?_)
  refine oj_step (y_assign rfl) rfl rfl rfl ?_
  refine oj_nil ?_
  refine ej_th (cj_seq ?_)
  refine cj_regionG (gj_step (y_fa fa44_3 rfl) rfl rfl rfl (gj_step (y_load1 Tryd.isAgg3 rfl rfl) rfl rfl rfl (gj_step (y_assign rfl) rfl rfl rfl (gj_nil ?_))))
  refine ej_th (cj_seq (cj_seq ?_))
  refine cj_regionG (gj_step (y_move rfl) rfl rfl rfl (gj_step (y_lenA Tryd.underlying69 rfl) rfl rfl rfl (gj_step (y_move rfl) rfl rfl rfl (gj_nil ?_))))
  refine ej_th (cj_block ?_)
  refine cj_lpc (X := Nat × Int) (fun ⟨k, last⟩ => k ≤ l.length ∧ actsF last (pkOf l k) (l.drop k) = actsF d.start 0 l) (fun ⟨k, last⟩ => [(1, .slice Al l.length cl), (5, .int .i64 last), (11, .slice Al l.length cl), (12, .int .i64 l.length), (13, .int .i64 k)]) (fun ⟨k, last⟩ => l.length - k) (0, d.start) (⟨Nat.zero_le _, rfl⟩) ⟨rfl, rfl, rfl, rfl, rfl, trivial⟩ ?_
  rintro ⟨k, last⟩ ⟨hk, hl⟩
  refine cj_seq ?_
  refine cj_regionG (gj_step (y_lss rfl rfl) rfl rfl rfl (gj_nil ?_))
  refine ej_th (cj_seq ?_)
  refine cj_cond rfl (fun h14 => ?_) (fun h14 => ?_)
  · have h14b := h14
    try simp only [sxb] at h14
    obtain ⟨a, hx⟩ : ∃ a, l[k]? = some a := ⟨_, List.getElem?_eq_getElem (by omega)⟩
    rw [actsF_drop l k a last hx] at hl
    refine cj_skip (ej_th (cj_seq (cj_block (cj_seq (cj_region ?_)))))
    refine oj_step (y_move rfl) rfl rfl rfl ?_
    refine oj_step (y_ixR (reads_sl) Tryd.underlying69 Tryd.sizeOf68 rfl rfl (⟨by omega, by omega⟩)) rfl rfl rfl ?_
    refine oj_step (y_ldW (reads_sl) Tryd.isAgg68 Tryd.sizeOf68 rfl (hx) (fun _ => rfl)) rfl rfl rfl ?_
    refine oj_alloc Tryd.zeroValue68 rfl rfl (fun b7 => ?_)
    refine oj_step (y_assign rfl) rfl rfl rfl ?_
    refine oj_store rfl rfl rfl rfl Tryd.sizeOf68 rfl ?_
    refine oj_nil ?_
    refine ej_th (cj_seq ?_)
    refine cj_regionG ?_
    refine gj_step (y_loadN Tryd.isAgg68 Tryd.sizeOf68 rfl) rfl rfl rfl (?_)
    refine gj_step (y_call Tryd.call101 rfl (fun w hp => k_deedOf a w)) rfl rfl rfl ?_
    refine gj_step (y_assign rfl) rfl rfl rfl (?_)
    refine gj_nil ?_
    refine ej_th (cj_seq (cj_seq ?_))
    refine cj_regionG ?_
    refine gj_step (y_move rfl) rfl rfl rfl (gj_step (y_binO rfl rfl (fun w => deed_nil a.kind _ w)) rfl rfl rfl (gj_step (y_move rfl) rfl rfl rfl (?_)))
    refine gj_g 5 22 27 rfl rfl rfl rfl (fun hg22 => gj_yes rfl rfl rfl (y_move rfl) rfl rfl (gj_yes rfl rfl rfl (y_fa fa68_2 rfl) rfl rfl (gj_yes rfl rfl rfl (y_load1 Tryd.isAgg3 rfl rfl) rfl rfl (gj_yes rfl rfl rfl (y_invokeG rfl rfl (by obtain ⟨f, u, h1, h2⟩ := deed_call a.kind a.n hg22; exact ⟨f, u, h1, fun w _ => h2 w⟩)) rfl rfl (gj_yes rfl rfl rfl (y_not rfl) rfl rfl (gj_nil rfl)))))) ?_
    refine gj_step (y_or rfl rfl rfl) rfl rfl rfl (gj_step (y_move rfl) rfl rfl rfl (?_))
    refine gj_g 5 29 34 rfl rfl rfl rfl (fun hg29 => gj_yes rfl rfl rfl (y_fa0 fa68_0 rfl) rfl rfl (gj_yes rfl rfl rfl (y_load1 Tryd.isAgg3 rfl rfl) rfl rfl (gj_yes rfl rfl rfl (y_move rfl) rfl rfl (gj_yes rfl rfl rfl (y_call Tryd.call54 rfl (fun w hp => k_within _ _ _ w)) rfl rfl (gj_yes rfl rfl rfl (y_not rfl) rfl rfl (gj_nil rfl)))))) ?_
    refine gj_step (y_or rfl rfl rfl) rfl rfl rfl (gj_step (y_move rfl) rfl rfl rfl (?_))
    refine gj_g 11 36 47 rfl rfl rfl rfl (fun hg36 => gj_yes rfl rfl rfl (y_move rfl) rfl rfl (gj_yes rfl rfl rfl (y_gtr rfl rfl) rfl rfl (gj_yes rfl rfl rfl (y_move rfl) rfl rfl (gj_g 7 39 46 rfl rfl rfl rfl (fun hg39 => gj_yes rfl rfl rfl (y_move rfl) rfl rfl (gj_yes rfl rfl rfl (y_move rfl) rfl rfl (gj_yes rfl rfl rfl (y_sub rfl rfl (by have := of_decide_eq_true hg39; omega)) rfl rfl (gj_yes rfl rfl rfl (y_ixR (reads_sl) Tryd.underlying69 Tryd.sizeOf68 rfl rfl (⟨by have := of_decide_eq_true hg39; omega, by have := of_decide_eq_true hg39; omega⟩)) rfl rfl (gj_yes rfl rfl rfl (y_faE fa68_1 rfl) rfl rfl (gj_yes rfl rfl rfl (y_ld1 (reads_sl) Tryd.isAgg3 rfl (geq default (by have := of_decide_eq_true hg39; omega)) rfl) rfl rfl (gj_yes rfl rfl rfl (y_eql rfl rfl) rfl rfl (gj_nil rfl)))))))) (gj_yes rfl rfl rfl (y_and rfl rfl rfl) rfl rfl (gj_nil rfl)))))) ?_
    refine gj_step (y_or rfl rfl rfl) rfl rfl rfl (?_)
    refine gj_nil ?_
    refine ej_th ?_
    refine cj_cond rfl (fun h48 => ?_) (fun h48 => ?_)
    · have h48b := h48
      try simp only [sxb] at h48
      have hstep : okAct last (pkOf l k) a = false := not_t ((act_V l k last a).symm.trans h48b)
      refine cj_seq ?_
      refine cj_regionG (gj_step (y_assign rfl) rfl rfl rfl (gj_nil ?_))
      refine ej_th (cj_ret (ej_then_ret (ej_blk_ret (ej_then_ret (ej_then_ret (ej_blk_ret (ej_then_ret ?_)))))))
      refine ej_ret1 rfl Tryd.results87 rfl (fun w' hp => ⟨?_, hp.below⟩)
      rw [actsOk, ← hl, hstep]; rfl
    · have h48b := h48
      try simp only [sxb] at h48
      have hstep : okAct last (pkOf l k) a = true := not_f ((act_V l k last a).symm.trans h48b)
      refine cj_skip (ej_th ?_)
      refine cj_regionG (gj_step (y_fa0 fa68_0 rfl) rfl rfl rfl (gj_step (y_load1 Tryd.isAgg3 rfl rfl) rfl rfl rfl (gj_step (y_assign rfl) rfl rfl rfl (gj_nil ?_))))
      refine ej_blk (ej_th ?_)
      refine cj_regionG (gj_step (y_add rfl rfl (by omega)) rfl rfl rfl (gj_step (y_move rfl) rfl rfl rfl (gj_nil ?_)))
      exact ej_nx (k + 1, a.day) (by simp only; omega) ⟨by omega, by rw [← hl, hstep, Bool.true_and]⟩ ⟨rfl, rfl, rfl, rfl, rfl, trivial⟩
  · have h14b := h14
    try simp only [sxb] at h14
    refine cj_exit (ej_then_exit (ej_then_exit (ej_blk_hit (ej_th (cj_seq ?_)))))
    refine cj_regionG (gj_step (y_move rfl) rfl rfl rfl (gj_step (y_lenA Tryd.underlying69 rfl) rfl rfl rfl (gj_step (y_leq rfl rfl) rfl rfl rfl (gj_step (y_assign rfl) rfl rfl rfl (gj_nil ?_)))))
    refine ej_th (cj_ret ?_)
    refine ej_ret1 rfl Tryd.results87 rfl (fun w' hp => ⟨?_, hp.below⟩)
    rw [List.drop_of_length_le (by omega)] at hl
    rw [actsOk, ← hl]; rfl

end Go.Proofs.YtafmgkiddhappaaDoor
