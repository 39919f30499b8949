/- Walks of functions of the program. -/
import Derived.Test.YtafmgkiddhappaaDoorWG
namespace Go.Proofs.YtafmgkiddhappaaDoor
open Go.Sx Go.RowKit
set_option maxRecDepth 20000
theorem k_open (d : Deal) (Ac : Option Addr) (cc : Nat) (w : World)  : Calls Tryd.prog 63 #[.agg #[.int .i64 d.lr, .int .i64 d.lc, .int .i64 d.tr, .int .i64 d.tf, .int .i64 d.te, .int .i64 d.tt, .int .i64 d.tg, .slice Ac d.closed.length cc, .int .i64 d.start, .int .i64 d.sum]] w (fun e w' => e = .returned (.agg (encLn d Ac cc (openL d)).toArray) ∧ Grow w w') := by
  refine enter_pure (args := [.agg #[.int .i64 d.lr, .int .i64 d.lc, .int .i64 d.tr, .int .i64 d.tf, .int .i64 d.te, .int .i64 d.tt, .int .i64 d.tg, .slice Ac d.closed.length cc, .int .i64 d.start, .int .i64 d.sum]]) [] Tryd.func63 rfl (by rw [Tryd.ntmps63]; simp) (by simp) ?_
  refine cj_seq (cj_region ?_)
  refine oj_box rfl rfl rfl (fun b1 => ?_)
  refine oj_alloc Tryd.zeroValue121 rfl rfl (fun b2 => ?_)
  refine oj_nil ?_
  refine ej_th (cj_seq (cj_region ?_))
  refine oj_step (y_fa fa44_4 rfl) rfl rfl rfl ?_
  refine oj_step (y_load1 Tryd.isAgg3 rfl rfl) rfl rfl rfl ?_
  refine oj_step (y_build (cs := [.int .i64 d.sum, .int .i64 0, .int .i64 0, .int .i64 0, .bool true]) st64 rfl (by kernel_rfl)) rfl rfl rfl ?_
  refine oj_step (y_loadN Tryd.isAgg44 Tryd.sizeOf44 rfl) rfl rfl rfl ?_
  refine oj_step (y_fa fa44_3 rfl) rfl rfl rfl ?_
  refine oj_step (y_load1 Tryd.isAgg3 rfl rfl) rfl rfl rfl ?_
  refine oj_step (y_fa fa44_3 rfl) rfl rfl rfl ?_
  refine oj_step (y_load1 Tryd.isAgg3 rfl rfl) rfl rfl rfl ?_
  refine oj_step (y_build (cs := [.int .i64 d.sum, .int .i64 0, .int .i64 0, .int .i64 0, .bool true, .int .i64 0, .int .i64 0, .int .i64 0, .int .i64 0, .int .i64 d.lr, .int .i64 d.lc, .int .i64 d.tr, .int .i64 d.tf, .int .i64 d.te, .int .i64 d.tt, .int .i64 d.tg, .slice Ac d.closed.length cc, .int .i64 d.start, .int .i64 d.sum, .int .i64 d.start, .int .i64 d.start]) st121 rfl (by kernel_rfl)) rfl rfl rfl ?_
  refine oj_store rfl rfl rfl rfl Tryd.sizeOf121 rfl ?_
  refine oj_nil ?_
  refine ej_th (cj_ret ?_)
  exact ej_retC1 rfl Tryd.results63 rfl (y_loadN Tryd.isAgg121 Tryd.sizeOf121 rfl) (fun w' hp => ⟨rfl, hp.below⟩)

theorem k_limit (d : Deal) (Ac : Option Addr) (cc : Nat) (x : Ln) (w : World) (hd : DealOk d) (hx : LOk x) : Calls Tryd.prog 73 #[.agg #[.int .i64 x.pr, .int .i64 x.ch, .int .i64 x.pd, .int .i64 x.ag, .bool x.op, .int .i64 x.all, .int .i64 x.dear, .int .i64 x.days, .int .i64 x.fees, .int .i64 d.lr, .int .i64 d.lc, .int .i64 d.tr, .int .i64 d.tf, .int .i64 d.te, .int .i64 d.tt, .int .i64 d.tg, .slice Ac d.closed.length cc, .int .i64 d.start, .int .i64 d.sum, .int .i64 x.day, .int .i64 x.held]] w (fun e w' => e = .returned (.int .i64 (limitOf d x)) ∧ Grow w w') := by
  obtain ⟨h1, h2, h3⟩ := hx.lim hd
  refine enter_pure (args := [.agg #[.int .i64 x.pr, .int .i64 x.ch, .int .i64 x.pd, .int .i64 x.ag, .bool x.op, .int .i64 x.all, .int .i64 x.dear, .int .i64 x.days, .int .i64 x.fees, .int .i64 d.lr, .int .i64 d.lc, .int .i64 d.tr, .int .i64 d.tf, .int .i64 d.te, .int .i64 d.tt, .int .i64 d.tg, .slice Ac d.closed.length cc, .int .i64 d.start, .int .i64 d.sum, .int .i64 x.day, .int .i64 x.held]]) [] Tryd.func73 rfl (by rw [Tryd.ntmps73]; simp) (by simp) ?_
  refine cj_seq (cj_region ?_)
  refine oj_box rfl rfl rfl (fun b1 => ?_)
  refine oj_step (y_assign rfl) rfl rfl rfl ?_
  refine oj_nil ?_
  refine ej_th (cj_seq ?_)
  refine cj_regionG (gj_step (y_fa fa121_1 rfl) rfl rfl rfl (gj_step (y_fa0 fa119_0 rfl) rfl rfl rfl (gj_step (y_load1 Tryd.isAgg3 rfl rfl) rfl rfl rfl (gj_step (y_fa fa121_2 rfl) rfl rfl rfl (gj_step (y_fa0 fa44_0 rfl) rfl rfl rfl (gj_step (y_fa0 fa40_0 rfl) rfl rfl rfl (gj_step (y_load1 Tryd.isAgg3 rfl rfl) rfl rfl rfl (gj_step (y_mul rfl rfl (by omega)) rfl rfl rfl (gj_step (y_quo rfl rfl (⟨by omega, by omega, by omega⟩)) rfl rfl rfl (gj_step (y_fa fa121_2 rfl) rfl rfl rfl (gj_step (y_fa fa44_4 rfl) rfl rfl rfl (gj_step (y_load1 Tryd.isAgg3 rfl rfl) rfl rfl rfl (gj_step (y_fa fa121_2 rfl) rfl rfl rfl (gj_step (y_fa0 fa44_0 rfl) rfl rfl rfl (gj_step (y_fa fa40_1 rfl) rfl rfl rfl (gj_step (y_load1 Tryd.isAgg3 rfl rfl) rfl rfl rfl (gj_step (y_mul rfl rfl (by omega)) rfl rfl rfl (gj_step (y_quo rfl rfl (⟨by omega, by omega, by omega⟩)) rfl rfl rfl (gj_step (y_min rfl rfl) rfl rfl rfl (gj_step (y_assign rfl) rfl rfl rfl (gj_nil ?_)))))))))))))))))))))
  refine ej_th (cj_ret ?_)
  exact ej_ret1 rfl Tryd.results73 rfl (fun w' hp => ⟨rfl, hp.below⟩)

theorem k_charge (d : Deal) (Ac : Option Addr) (cc : Nat) (x : Ln) (w : World) (hd : DealOk d) (hx : LOk x) : Calls Tryd.prog 86 #[.agg #[.int .i64 x.pr, .int .i64 x.ch, .int .i64 x.pd, .int .i64 x.ag, .bool x.op, .int .i64 x.all, .int .i64 x.dear, .int .i64 x.days, .int .i64 x.fees, .int .i64 d.lr, .int .i64 d.lc, .int .i64 d.tr, .int .i64 d.tf, .int .i64 d.te, .int .i64 d.tt, .int .i64 d.tg, .slice Ac d.closed.length cc, .int .i64 d.start, .int .i64 d.sum, .int .i64 x.day, .int .i64 x.held]] w (fun e w' => e = .returned (.int .i64 (chargeOf d x)) ∧ Grow w w') := by
  obtain ⟨h1, h2, h3⟩ := hx.lim hd
  have h4 := hx.fees
  refine enter_pure (args := [.agg #[.int .i64 x.pr, .int .i64 x.ch, .int .i64 x.pd, .int .i64 x.ag, .bool x.op, .int .i64 x.all, .int .i64 x.dear, .int .i64 x.days, .int .i64 x.fees, .int .i64 d.lr, .int .i64 d.lc, .int .i64 d.tr, .int .i64 d.tf, .int .i64 d.te, .int .i64 d.tt, .int .i64 d.tg, .slice Ac d.closed.length cc, .int .i64 d.start, .int .i64 d.sum, .int .i64 x.day, .int .i64 x.held]]) [] Tryd.func86 rfl (by rw [Tryd.ntmps86]; simp) (by simp) ?_
  refine cj_seq (cj_region ?_)
  refine oj_box rfl rfl rfl (fun b1 => ?_)
  refine oj_step (y_assign rfl) rfl rfl rfl ?_
  refine oj_nil ?_
  refine ej_th (cj_seq ?_)
  refine cj_draw (by kernel_rfl) (by kernel_rfl) ?_
  refine gj_step (y_fa fa121_1 rfl) rfl rfl rfl (gj_step (y_fa fa119_1 rfl) rfl rfl rfl (gj_step (y_load1 Tryd.isAgg3 rfl rfl) rfl rfl rfl (gj_step (y_fa fa121_2 rfl) rfl rfl rfl (gj_step (y_fa fa44_1 rfl) rfl rfl rfl (gj_step (y_fa0 fa42_0 rfl) rfl rfl rfl (gj_step (y_load1 Tryd.isAgg3 rfl rfl) rfl rfl rfl (gj_step (y_mul rfl rfl (by omega)) rfl rfl rfl (gj_step (y_quo rfl rfl (⟨by omega, by omega, by omega⟩)) rfl rfl rfl (gj_step (y_fa fa121_1 rfl) rfl rfl rfl (gj_step (y_fa fa119_3 rfl) rfl rfl rfl (gj_step (y_load1 Tryd.isAgg3 rfl rfl) rfl rfl rfl (gj_step (y_add rfl rfl (by omega)) rfl rfl rfl (gj_step (y_loadN Tryd.isAgg121 Tryd.sizeOf121 rfl) rfl rfl rfl (?_))))))))))))))
  refine gj_step (y_call Tryd.call73 rfl (fun w hp => k_limit d Ac cc x w hd hx)) rfl rfl rfl ?_
  refine gj_step (y_min rfl rfl) rfl rfl rfl (gj_step (y_assign rfl) rfl rfl rfl (?_))
  refine gj_nil ?_
  refine ej_th (cj_ret ?_)
  exact ej_ret1 rfl Tryd.results86 rfl (fun w' hp => ⟨rfl, hp.below⟩)

theorem k_counts (d : Deal) (Ac : Option Addr) (cc : Nat) (x : Ln) (day : Int) (w : World) (hc : Rd w 1 enInt Ac d.closed) : Calls Tryd.prog 85 #[.agg #[.int .i64 x.pr, .int .i64 x.ch, .int .i64 x.pd, .int .i64 x.ag, .bool x.op, .int .i64 x.all, .int .i64 x.dear, .int .i64 x.days, .int .i64 x.fees, .int .i64 d.lr, .int .i64 d.lc, .int .i64 d.tr, .int .i64 d.tf, .int .i64 d.te, .int .i64 d.tt, .int .i64 d.tg, .slice Ac d.closed.length cc, .int .i64 d.start, .int .i64 d.sum, .int .i64 x.day, .int .i64 x.held], .int .i64 day] w (fun e w' => e = .returned (.bool (countsB d x day)) ∧ Grow w w') := by
  refine enter_pure (args := [.agg #[.int .i64 x.pr, .int .i64 x.ch, .int .i64 x.pd, .int .i64 x.ag, .bool x.op, .int .i64 x.all, .int .i64 x.dear, .int .i64 x.days, .int .i64 x.fees, .int .i64 d.lr, .int .i64 d.lc, .int .i64 d.tr, .int .i64 d.tf, .int .i64 d.te, .int .i64 d.tt, .int .i64 d.tg, .slice Ac d.closed.length cc, .int .i64 d.start, .int .i64 d.sum, .int .i64 x.day, .int .i64 x.held], .int .i64 day]) [sl (fun b => b < w.heap.size) 1 enInt Ac d.closed] Tryd.func85 rfl (by rw [Tryd.ntmps85]; simp) (fun g hg => by simp at hg; subst hg; exact ⟨hc, fun _ h => h⟩) ?_
  refine cj_seq (cj_region ?_)
  refine oj_box rfl rfl rfl (fun b2 => ?_)
  refine oj_step (y_assign rfl) rfl rfl rfl ?_
  refine oj_nil ?_
  refine ej_th (cj_seq ?_)
  refine cj_regionG ?_
  refine gj_step (y_fa0 fa121_0 rfl) rfl rfl rfl (gj_step (y_fa fa64_4 rfl) rfl rfl rfl (gj_step (y_load1 Tryd.isAgg4 rfl rfl) rfl rfl rfl (gj_step (y_move rfl) rfl rfl rfl (?_))))
  refine gj_g 4 8 12 rfl rfl rfl rfl (fun hg8 => gj_yes rfl rfl rfl (y_move rfl) rfl rfl (gj_yes rfl rfl rfl (y_fa fa121_4 rfl) rfl rfl (gj_yes rfl rfl rfl (y_load1 Tryd.isAgg3 rfl rfl) rfl rfl (gj_yes rfl rfl rfl (y_gtr rfl rfl) rfl rfl (gj_nil rfl))))) ?_
  refine gj_step (y_and rfl rfl rfl) rfl rfl rfl (gj_step (y_move rfl) rfl rfl rfl (?_))
  refine gj_g 6 14 20 rfl rfl rfl rfl (fun hg14 => gj_yes rfl rfl rfl (y_fa fa121_2 rfl) rfl rfl (gj_yes rfl rfl rfl (y_fa fa44_2 rfl) rfl rfl (gj_yes rfl rfl rfl (y_load1 Tryd.isAgg23 rfl rfl) rfl rfl (gj_yes rfl rfl rfl (y_move rfl) rfl rfl (gj_yes rfl rfl rfl (y_call Tryd.call100 rfl (fun w hp => k_Contains _ _ _ _ w hp.rd)) rfl rfl (gj_yes rfl rfl rfl (y_not rfl) rfl rfl (gj_nil rfl))))))) ?_
  refine gj_step (y_and rfl rfl rfl) rfl rfl rfl (gj_step (y_assign rfl) rfl rfl rfl (?_))
  refine gj_nil ?_
  refine ej_th (cj_ret ?_)
  exact ej_ret1 rfl Tryd.results85 rfl (fun w' hp => ⟨rfl, hp.below⟩)

theorem k_over (d : Deal) (Ac : Option Addr) (cc : Nat) (x : Ln) (w : World) (hd : DealOk d) : Calls Tryd.prog 65 #[.agg #[.int .i64 x.pr, .int .i64 x.ch, .int .i64 x.pd, .int .i64 x.ag, .bool x.op, .int .i64 x.all, .int .i64 x.dear, .int .i64 x.days, .int .i64 x.fees, .int .i64 d.lr, .int .i64 d.lc, .int .i64 d.tr, .int .i64 d.tf, .int .i64 d.te, .int .i64 d.tt, .int .i64 d.tg, .slice Ac d.closed.length cc, .int .i64 d.start, .int .i64 d.sum, .int .i64 x.day, .int .i64 x.held]] w (fun e w' => e = .returned (.bool (overB d x)) ∧ Grow w w') := by
  have h1 := hd.tt
  have h2 := hd.tg
  refine enter_pure (args := [.agg #[.int .i64 x.pr, .int .i64 x.ch, .int .i64 x.pd, .int .i64 x.ag, .bool x.op, .int .i64 x.all, .int .i64 x.dear, .int .i64 x.days, .int .i64 x.fees, .int .i64 d.lr, .int .i64 d.lc, .int .i64 d.tr, .int .i64 d.tf, .int .i64 d.te, .int .i64 d.tt, .int .i64 d.tg, .slice Ac d.closed.length cc, .int .i64 d.start, .int .i64 d.sum, .int .i64 x.day, .int .i64 x.held]]) [] Tryd.func65 rfl (by rw [Tryd.ntmps65]; simp) (by simp) ?_
  refine cj_seq (cj_region ?_)
  refine oj_box rfl rfl rfl (fun b1 => ?_)
  refine oj_step (y_assign rfl) rfl rfl rfl ?_
  refine oj_nil ?_
  refine ej_th (cj_seq ?_)
  refine cj_regionG (gj_step (y_fa0 fa121_0 rfl) rfl rfl rfl (gj_step (y_fa fa64_3 rfl) rfl rfl rfl (gj_step (y_load1 Tryd.isAgg3 rfl rfl) rfl rfl rfl (gj_step (y_fa fa121_2 rfl) rfl rfl rfl (gj_step (y_fa fa44_1 rfl) rfl rfl rfl (gj_step (y_fa fa42_3 rfl) rfl rfl rfl (gj_step (y_load1 Tryd.isAgg3 rfl rfl) rfl rfl rfl (gj_step (y_fa fa121_2 rfl) rfl rfl rfl (gj_step (y_fa fa44_1 rfl) rfl rfl rfl (gj_step (y_fa fa42_4 rfl) rfl rfl rfl (gj_step (y_load1 Tryd.isAgg3 rfl rfl) rfl rfl rfl (gj_step (y_add rfl rfl (by omega)) rfl rfl rfl (gj_step (y_gtr rfl rfl) rfl rfl rfl (gj_step (y_assign rfl) rfl rfl rfl (gj_nil ?_)))))))))))))))
  refine ej_th (cj_ret ?_)
  exact ej_ret1 rfl Tryd.results65 rfl (fun w' hp => ⟨rfl, hp.below⟩)

theorem k_to (d : Deal) (Ac : Option Addr) (cc : Nat) (x : Ln) (b : Nat) (day : Int) (w : World) (hob : w.heap[b]? = some (cellsB 121 (encLn d Ac cc x))) (hc : RdX w b 1 enInt Ac d.closed) (hd : DealOk d) (hx : LOk x) (hday : day ≤ 36500) : Calls Tryd.prog 64 #[.pointer (some ⟨b, 0, none⟩), .int .i64 day] w (fun e w' => e = .returned (.tuple #[]) ∧ Mut (ownB b (cellsB 121 (encLn d Ac cc x))) w w' ∧ w'.heap[b]? = some (cellsB 121 (encLn d Ac cc (toL d x day)))) := by
  refine enter_own (args := [.pointer (some ⟨b, 0, none⟩), .int .i64 day]) b (cellsB 121 (encLn d Ac cc x)) [sl (fun i => i < w.heap.size ∧ i ≠ b) 1 enInt Ac d.closed] Tryd.func64 rfl (by rw [Tryd.ntmps64]; simp) hob (fun g hg => by simp at hg; subst hg; exact ⟨hc, fun _ h => h⟩) ?_
  refine cj_seq (cj_region ?_)
  refine oj_step (y_move rfl) rfl rfl rfl ?_
  refine oj_step (y_nil rfl) rfl rfl rfl ?_
  refine oj_step (y_fa fa121_1 rfl) rfl rfl rfl ?_
  refine oj_step (y_loadN Tryd.isAgg119 Tryd.sizeOf119 rfl) rfl rfl rfl ?_
  refine oj_alloc Tryd.zeroValue119 rfl rfl (fun b4 => ?_)
  refine oj_store rfl rfl rfl rfl Tryd.sizeOf119 rfl ?_
  refine oj_nil ?_
  refine ej_th (cj_seq (cj_block ?_))
  refine cj_lp (X := Ln) (fun y => LOk y ∧ goN d (day - y.day).toNat y = goN d (day - x.day).toNat x) (fun y => [(0, .pointer (some ⟨b, 0, none⟩)), (1, .int .i64 day), (4, .pointer (some ⟨b4, 0, none⟩))]) (fun y => [ownB b4 (cellsB 119 [.int .i64 x.all, .int .i64 x.dear, .int .i64 x.days, .int .i64 x.fees]), ownB b (cellsB 121 (encLn d Ac cc y))]) (fun y => [sl (fun i => i < w.heap.size ∧ i ≠ b) 1 enInt Ac d.closed]) (fun y => (day - y.day).toNat) x (⟨hx, rfl⟩) ⟨rfl, rfl, rfl, trivial⟩ ?_
  rintro y ⟨hy, hl⟩
  have hy0 := hy
  refine cj_seq (cj_seq ?_)
  refine cj_regionG (gj_step (y_move rfl) rfl rfl rfl (gj_step (y_nil rfl) rfl rfl rfl (gj_step (y_fa fa121_3 rfl) rfl rfl rfl (gj_step (y_load1 Tryd.isAgg3 rfl rfl) rfl rfl rfl (gj_step (y_move rfl) rfl rfl rfl (gj_step (y_lss rfl rfl) rfl rfl rfl (gj_nil ?_)))))))
  refine ej_th ?_
  refine cj_cond rfl (fun h14 => ?_) (fun h14 => ?_)
  · have h14b := h14
    try simp only [sxb] at h14
    have hs := hy.step (d := d) (by omega)
    obtain ⟨g1, g2, g3, g4, g5, g6, g7, g8, g9⟩ := hy
    rw [show (day - y.day).toNat = (day - (y.day + 1)).toNat + 1 by omega, goN] at hl
    refine cj_skip (ej_th (cj_seq (cj_block (cj_seq (cj_seq ?_)))))
    refine cj_draw (by kernel_rfl) (by kernel_rfl) ?_
    refine gj_step (y_move rfl) rfl rfl rfl (gj_step (y_nil rfl) rfl rfl rfl (gj_step (y_loadN Tryd.isAgg121 Tryd.sizeOf121 rfl) rfl rfl rfl (gj_step (y_move rfl) rfl rfl rfl (gj_step (y_nil rfl) rfl rfl rfl (gj_step (y_fa fa121_3 rfl) rfl rfl rfl (gj_step (y_load1 Tryd.isAgg3 rfl rfl) rfl rfl rfl (gj_step (y_add rfl rfl (by omega)) rfl rfl rfl (?_))))))))
    refine gj_step (y_call Tryd.call85 rfl (fun w hp => k_counts d Ac cc y (y.day + 1) w hp.rd)) rfl rfl rfl ?_
    refine gj_step (y_not rfl) rfl rfl rfl (?_)
    refine gj_nil ?_
    refine ej_th ?_
    refine cj_cond rfl (fun h31 => ?_) (fun h31 => ?_)
    · have h31b := h31
      try simp only [sxb] at h31
      have hcb : countsB d y (y.day + 1) = false := not_t h31b
      refine cj_exit (ej_then_exit (ej_blk_hit (ej_th (cj_region ?_))))
      refine oj_step (y_move rfl) rfl rfl rfl ?_
      refine oj_step (y_nil rfl) rfl rfl rfl ?_
      refine oj_step (y_fa fa121_3 rfl) rfl rfl rfl ?_
      refine oj_step (y_load1 Tryd.isAgg3 rfl rfl) rfl rfl rfl ?_
      refine oj_step (y_add rfl rfl (by omega)) rfl rfl rfl ?_
      refine oj_step (y_nil rfl) rfl rfl rfl ?_
      refine oj_step (y_fa fa121_3 rfl) rfl rfl rfl ?_
      refine oj_store rfl rfl rfl rfl Tryd.sizeOf3 rfl ?_
      refine oj_nil ?_
      have he : stepDay d y = { y with day := y.day + 1 } := by simp [stepDay, hcb]
      rw [he] at hs hl
      exact ej_nx { y with day := y.day + 1 } (by simp only; omega) ⟨hs, hl⟩ ⟨rfl, rfl, rfl, trivial⟩
    · have h31b := h31
      try simp only [sxb] at h31
      have hcb : countsB d y (y.day + 1) = true := not_f h31b
      refine cj_skip (ej_th (cj_seq (cj_region ?_)))
      refine oj_step (y_move rfl) rfl rfl rfl ?_
      refine oj_step (y_nil rfl) rfl rfl rfl ?_
      refine oj_step (y_fa fa121_1 rfl) rfl rfl rfl ?_
      refine oj_step (y_fa fa119_2 rfl) rfl rfl rfl ?_
      refine oj_step (y_load1 Tryd.isAgg3 rfl rfl) rfl rfl rfl ?_
      refine oj_step (y_add rfl rfl (by omega)) rfl rfl rfl ?_
      refine oj_step (y_nil rfl) rfl rfl rfl ?_
      refine oj_step (y_fa fa121_1 rfl) rfl rfl rfl ?_
      refine oj_step (y_fa fa119_2 rfl) rfl rfl rfl ?_
      refine oj_store rfl rfl rfl rfl Tryd.sizeOf3 rfl ?_
      refine oj_nil ?_
      refine ej_th (cj_seq (cj_region ?_))
      refine oj_step (y_move rfl) rfl rfl rfl ?_
      refine oj_step (y_nil rfl) rfl rfl rfl ?_
      refine oj_step (y_fa0 fa121_0 rfl) rfl rfl rfl ?_
      refine oj_step (y_fa fa64_3 rfl) rfl rfl rfl ?_
      refine oj_step (y_load1 Tryd.isAgg3 rfl rfl) rfl rfl rfl ?_
      refine oj_step (y_add rfl rfl (by omega)) rfl rfl rfl ?_
      refine oj_step (y_nil rfl) rfl rfl rfl ?_
      refine oj_step (y_fa0 fa121_0 rfl) rfl rfl rfl ?_
      refine oj_step (y_fa fa64_3 rfl) rfl rfl rfl ?_
      refine oj_store rfl rfl rfl rfl Tryd.sizeOf3 rfl ?_
      refine oj_nil ?_
      refine ej_th (cj_seq ?_)
      refine cj_plan 15 (by kernel_rfl) (by kernel_rfl) ?_
      refine pl_y 0 rfl (y_move rfl) rfl rfl rfl rfl (by kernel_rfl) ?_
      refine pl_y 1 rfl (y_nil rfl) rfl rfl rfl rfl (by kernel_rfl) ?_
      refine pl_y 2 rfl (y_fa fa121_1 rfl) rfl rfl rfl rfl (by kernel_rfl) ?_
      refine pl_y 3 rfl (y_fa0 fa119_0 rfl) rfl rfl rfl rfl (by kernel_rfl) ?_
      refine pl_y 4 rfl (y_load1 Tryd.isAgg3 rfl rfl) rfl rfl rfl rfl (by kernel_rfl) ?_
      refine pl_y 5 rfl (y_move rfl) rfl rfl rfl rfl (by kernel_rfl) ?_
      refine pl_y 6 rfl (y_nil rfl) rfl rfl rfl rfl (by kernel_rfl) ?_
      refine pl_y 7 rfl (y_fa0 fa121_0 rfl) rfl rfl rfl rfl (by kernel_rfl) ?_
      refine pl_y 8 rfl (y_fa0 fa64_0 rfl) rfl rfl rfl rfl (by kernel_rfl) ?_
      refine pl_y 9 rfl (y_load1 Tryd.isAgg3 rfl rfl) rfl rfl rfl rfl (by kernel_rfl) ?_
      refine pl_y 10 rfl (y_add rfl rfl (by omega)) rfl rfl rfl rfl (by kernel_rfl) ?_
      refine pl_y 11 rfl (y_nil rfl) rfl rfl rfl rfl (by kernel_rfl) ?_
      refine pl_y 12 rfl (y_fa fa121_1 rfl) rfl rfl rfl rfl (by kernel_rfl) ?_
      refine pl_y 13 rfl (y_fa0 fa119_0 rfl) rfl rfl rfl rfl (by kernel_rfl) ?_
      refine pl_w1 14 (by kernel_rfl) rfl rfl (pl_fire rfl rfl rfl (by kernel_rfl) ?_)
      refine oj_store rfl rfl rfl rfl Tryd.sizeOf3 rfl ?_
      refine oj_nil ?_
      refine ej_pl (lt_w (by kernel_rfl) (lt_y (y_fa fa121_1 rfl) rfl (lt_y (y_nil rfl) rfl (lt_w (by kernel_rfl) (lt_w (by kernel_rfl) (lt_w (by kernel_rfl) (lt_w (by kernel_rfl) (lt_w (by kernel_rfl) (lt_w (by kernel_rfl) (lt_w (by kernel_rfl) (lt_w (by kernel_rfl) (lt_w (by kernel_rfl) (lt_w (by kernel_rfl) (lt_w (by kernel_rfl) (lt_nil))))))))))))))) ?_
      refine pl_end (by kernel_rfl) ?_
      refine ej_th (cj_seq ?_)
      refine cj_draw (by kernel_rfl) (by kernel_rfl) (gj_step (y_move rfl) rfl rfl rfl (gj_step (y_nil rfl) rfl rfl rfl (gj_step (y_fa fa121_1 rfl) rfl rfl rfl (gj_step (y_fa fa119_2 rfl) rfl rfl rfl (gj_step (y_load1 Tryd.isAgg3 rfl rfl) rfl rfl rfl (gj_step (y_move rfl) rfl rfl rfl (gj_step (y_nil rfl) rfl rfl rfl (gj_step (y_fa fa121_2 rfl) rfl rfl rfl (gj_step (y_fa fa44_1 rfl) rfl rfl rfl (gj_step (y_fa fa42_1 rfl) rfl rfl rfl (gj_step (y_load1 Tryd.isAgg3 rfl rfl) rfl rfl rfl (gj_step (y_gtr rfl rfl) rfl rfl rfl (gj_nil ?_)))))))))))))
      refine ej_th ?_
      refine cj_cond rfl (fun h75 => ?_) (fun h75 => ?_)
      · have h75b := h75
        try simp only [sxb] at h75
        refine cj_plan 15 (by kernel_rfl) (by kernel_rfl) ?_
        refine pl_y 0 rfl (y_move rfl) rfl rfl rfl rfl (by kernel_rfl) ?_
        refine pl_y 1 rfl (y_nil rfl) rfl rfl rfl rfl (by kernel_rfl) ?_
        refine pl_y 2 rfl (y_fa fa121_1 rfl) rfl rfl rfl rfl (by kernel_rfl) ?_
        refine pl_y 3 rfl (y_fa fa119_1 rfl) rfl rfl rfl rfl (by kernel_rfl) ?_
        refine pl_y 4 rfl (y_load1 Tryd.isAgg3 rfl rfl) rfl rfl rfl rfl (by kernel_rfl) ?_
        refine pl_y 5 rfl (y_move rfl) rfl rfl rfl rfl (by kernel_rfl) ?_
        refine pl_y 6 rfl (y_nil rfl) rfl rfl rfl rfl (by kernel_rfl) ?_
        refine pl_y 7 rfl (y_fa0 fa121_0 rfl) rfl rfl rfl rfl (by kernel_rfl) ?_
        refine pl_y 8 rfl (y_fa0 fa64_0 rfl) rfl rfl rfl rfl (by kernel_rfl) ?_
        refine pl_y 9 rfl (y_load1 Tryd.isAgg3 rfl rfl) rfl rfl rfl rfl (by kernel_rfl) ?_
        refine pl_y 10 rfl (y_add rfl rfl (by omega)) rfl rfl rfl rfl (by kernel_rfl) ?_
        refine pl_y 11 rfl (y_nil rfl) rfl rfl rfl rfl (by kernel_rfl) ?_
        refine pl_y 12 rfl (y_fa fa121_1 rfl) rfl rfl rfl rfl (by kernel_rfl) ?_
        refine pl_y 13 rfl (y_fa fa119_1 rfl) rfl rfl rfl rfl (by kernel_rfl) ?_
        refine pl_w1 14 (by kernel_rfl) rfl rfl (pl_fire rfl rfl rfl (by kernel_rfl) ?_)
        refine oj_store rfl rfl rfl rfl Tryd.sizeOf3 rfl ?_
        refine oj_nil ?_
        refine ej_pl (lt_w (by kernel_rfl) (lt_y (y_fa fa121_1 rfl) rfl (lt_y (y_nil rfl) rfl (lt_w (by kernel_rfl) (lt_w (by kernel_rfl) (lt_w (by kernel_rfl) (lt_w (by kernel_rfl) (lt_w (by kernel_rfl) (lt_w (by kernel_rfl) (lt_w (by kernel_rfl) (lt_w (by kernel_rfl) (lt_w (by kernel_rfl) (lt_w (by kernel_rfl) (lt_w (by kernel_rfl) (lt_nil))))))))))))))) ?_
        refine pl_end (by kernel_rfl) ?_
        refine ej_blk (ej_th (cj_region ?_))
        refine oj_step (y_move rfl) rfl rfl rfl ?_
        refine oj_step (y_nil rfl) rfl rfl rfl ?_
        refine oj_step (y_fa fa121_3 rfl) rfl rfl rfl ?_
        refine oj_step (y_load1 Tryd.isAgg3 rfl rfl) rfl rfl rfl ?_
        refine oj_step (y_add rfl rfl (by omega)) rfl rfl rfl ?_
        refine oj_step (y_nil rfl) rfl rfl rfl ?_
        refine oj_step (y_fa fa121_3 rfl) rfl rfl rfl ?_
        refine oj_store rfl rfl rfl rfl Tryd.sizeOf3 rfl ?_
        refine oj_nil ?_
        have he : stepDay d y = { y with days := y.days + 1, ag := y.ag + 1, all := y.all + y.pr, dear := y.dear + y.pr, day := y.day + 1 } := by simp [stepDay, counted, hcb, show d.tf < y.days + 1 by omega]
        rw [he] at hs hl
        exact ej_nx { y with days := y.days + 1, ag := y.ag + 1, all := y.all + y.pr, dear := y.dear + y.pr, day := y.day + 1 } (by simp only; omega) ⟨hs, hl⟩ ⟨rfl, rfl, rfl, trivial⟩
      · have h75b := h75
        try simp only [sxb] at h75
        refine cj_skip (ej_blk (ej_th (cj_region ?_)))
        refine oj_step (y_move rfl) rfl rfl rfl ?_
        refine oj_step (y_nil rfl) rfl rfl rfl ?_
        refine oj_step (y_fa fa121_3 rfl) rfl rfl rfl ?_
        refine oj_step (y_load1 Tryd.isAgg3 rfl rfl) rfl rfl rfl ?_
        refine oj_step (y_add rfl rfl (by omega)) rfl rfl rfl ?_
        refine oj_step (y_nil rfl) rfl rfl rfl ?_
        refine oj_step (y_fa fa121_3 rfl) rfl rfl rfl ?_
        refine oj_store rfl rfl rfl rfl Tryd.sizeOf3 rfl ?_
        refine oj_nil ?_
        have he : stepDay d y = { y with days := y.days + 1, ag := y.ag + 1, all := y.all + y.pr, day := y.day + 1 } := by simp [stepDay, counted, hcb, show ¬ d.tf < y.days + 1 by omega]
        rw [he] at hs hl
        exact ej_nx { y with days := y.days + 1, ag := y.ag + 1, all := y.all + y.pr, day := y.day + 1 } (by simp only; omega) ⟨hs, hl⟩ ⟨rfl, rfl, rfl, trivial⟩
  · have h14b := h14
    try simp only [sxb] at h14
    rw [show (day - y.day).toNat = 0 by omega, goN] at hl
    refine cj_exit (ej_then_exit (ej_then_exit (ej_blk_hit (ej_th (cj_seq ?_)))))
    refine cj_draw (by kernel_rfl) (by kernel_rfl) (gj_step (y_move rfl) rfl rfl rfl (gj_step (y_nil rfl) rfl rfl rfl (gj_step (y_fa fa121_1 rfl) rfl rfl rfl (gj_step (y_loadN Tryd.isAgg119 Tryd.sizeOf119 rfl) rfl rfl rfl (gj_step (y_loadN Tryd.isAgg119 Tryd.sizeOf119 rfl) rfl rfl rfl (gj_step (y_bin rfl rfl (fun x y w => ne119 _ _ _ _ _ _ _ _ x y w)) rfl rfl rfl (gj_nil ?_)))))))
    refine ej_th ?_
    refine cj_cond rfl (fun h95 => ?_) (fun h95 => ?_)
    · have h95b := h95
      try simp only [sxb] at h95
      refine cj_region ?_
      refine oj_step (y_move rfl) rfl rfl rfl ?_
      refine oj_step (y_move rfl) rfl rfl rfl ?_
      refine oj_step (y_nil rfl) rfl rfl rfl ?_
      refine oj_step (y_loadN Tryd.isAgg121 Tryd.sizeOf121 rfl) rfl rfl rfl ?_
      refine oj_step (y_call Tryd.call86 rfl (fun w hp => k_charge d Ac cc y w hd hy0)) rfl rfl rfl ?_
      refine oj_step (y_nil rfl) rfl rfl rfl ?_
      refine oj_step (y_fa0 fa121_0 rfl) rfl rfl rfl ?_
      refine oj_step (y_fa fa64_1 rfl) rfl rfl rfl ?_
      refine oj_store rfl rfl rfl rfl Tryd.sizeOf3 rfl ?_
      refine oj_nil ?_
      have ht : toL d x day = { y with ch := chargeOf d y } := by unfold toL; rw [← hl, if_pos (show sumsNe y x = true from h95b)]
      rw [ht]
      exact ej_end0 rfl Tryd.results64 (fun w' hp => ⟨rfl, hp.mut, hp.own1⟩)
    · have h95b := h95
      try simp only [sxb] at h95
      refine cj_skip ?_
      have ht : toL d x day = y := by unfold toL; rw [← hl, if_neg (by rw [show sumsNe y x = false from h95b]; simp)]
      rw [ht]
      exact ej_end0 rfl Tryd.results64 (fun w' hp => ⟨rfl, hp.mut, hp.own1⟩)

end Go.Proofs.YtafmgkiddhappaaDoor
