/- Walks of functions of the program. -/
import Derived.Test.YtafmgkiddhappaaDoorWH
import Derived.Test.YtafmgkiddhappaaDoorPI
namespace Go.Proofs.YtafmgkiddhappaaDoor
open Go.Sx Go.RowKit
set_option maxRecDepth 20000
theorem k_renew (d : Deal) (Ac : Option Addr) (cc : Nat) (x : Ln) (b : Nat) (n : Int) (w : World) (hob : w.heap[b]? = some (cellsB 121 (encLn d Ac cc x))) (hd : DealOk d) (hx : LOk x) (hf : x.fees ≤ 999990000) : Calls Tryd.prog 66 #[.pointer (some ⟨b, 0, none⟩), .int .i64 n] w (fun e w' => e = .returned (.int .i64 0) ∧ Mut (ownB b (cellsB 121 (encLn d Ac cc x))) w w' ∧ w'.heap[b]? = some (cellsB 121 (encLn d Ac cc (renewL d x)))) := by
  have h1 := hx.fees
  have h2 := hd.te
  have hx2 := feeL_ok hd hx hf
  refine enter_own (args := [.pointer (some ⟨b, 0, none⟩), .int .i64 n]) b (cellsB 121 (encLn d Ac cc x)) [] Tryd.func66 rfl (by rw [Tryd.ntmps66]; simp) hob (by simp) ?_
  refine cj_seq ?_
  refine cj_regionG (gj_step (y_assign rfl) rfl rfl rfl (gj_nil ?_))
  refine ej_th (cj_seq ?_)
  refine cj_plan 16 (by kernel_rfl) (by kernel_rfl) ?_
  refine pl_y 0 rfl (y_move rfl) rfl rfl rfl rfl (by kernel_rfl) ?_
  refine pl_y 1 rfl (y_nil rfl) rfl rfl rfl rfl (by kernel_rfl) ?_
  refine pl_y 2 rfl (y_fa fa121_1 rfl) rfl rfl rfl rfl (by kernel_rfl) ?_
  refine pl_y 3 rfl (y_fa fa119_3 rfl) rfl rfl rfl rfl (by kernel_rfl) ?_
  refine pl_y 4 rfl (y_load1 Tryd.isAgg3 rfl rfl) rfl rfl rfl rfl (by kernel_rfl) ?_
  refine pl_y 5 rfl (y_move rfl) rfl rfl rfl rfl (by kernel_rfl) ?_
  refine pl_y 6 rfl (y_nil rfl) rfl rfl rfl rfl (by kernel_rfl) ?_
  refine pl_y 7 rfl (y_fa fa121_2 rfl) rfl rfl rfl rfl (by kernel_rfl) ?_
  refine pl_y 8 rfl (y_fa fa44_1 rfl) rfl rfl rfl rfl (by kernel_rfl) ?_
  refine pl_y 9 rfl (y_fa fa42_2 rfl) rfl rfl rfl rfl (by kernel_rfl) ?_
  refine pl_y 10 rfl (y_load1 Tryd.isAgg3 rfl rfl) rfl rfl rfl rfl (by kernel_rfl) ?_
  refine pl_y 11 rfl (y_add rfl rfl (by omega)) rfl rfl rfl rfl (by kernel_rfl) ?_
  refine pl_y 12 rfl (y_nil rfl) rfl rfl rfl rfl (by kernel_rfl) ?_
  refine pl_y 13 rfl (y_fa fa121_1 rfl) rfl rfl rfl rfl (by kernel_rfl) ?_
  refine pl_y 14 rfl (y_fa fa119_3 rfl) rfl rfl rfl rfl (by kernel_rfl) ?_
  refine pl_w1 15 (by kernel_rfl) rfl rfl (pl_fire rfl rfl rfl (by kernel_rfl) ?_)
  refine oj_store rfl rfl rfl rfl Tryd.sizeOf3 rfl ?_
  refine oj_nil ?_
  refine ej_pl (lt_w (by kernel_rfl) (lt_y (y_fa fa121_1 rfl) rfl (lt_y (y_nil rfl) rfl (lt_w (by kernel_rfl) (lt_w (by kernel_rfl) (lt_w (by kernel_rfl) (lt_w (by kernel_rfl) (lt_w (by kernel_rfl) (lt_w (by kernel_rfl) (lt_w (by kernel_rfl) (lt_w (by kernel_rfl) (lt_w (by kernel_rfl) (lt_w (by kernel_rfl) (lt_w (by kernel_rfl) (lt_w (by kernel_rfl) (lt_nil)))))))))))))))) ?_
  refine pl_end (by kernel_rfl) ?_
  refine ej_th (cj_seq (cj_region ?_))
  refine oj_step (y_move rfl) rfl rfl rfl ?_
  refine oj_step (y_move rfl) rfl rfl rfl ?_
  refine oj_step (y_nil rfl) rfl rfl rfl ?_
  refine oj_step (y_loadN Tryd.isAgg121 Tryd.sizeOf121 rfl) rfl rfl rfl ?_
  refine oj_step (y_call Tryd.call86 rfl (fun w hp => k_charge d Ac cc (feeL d x) w hd hx2)) rfl rfl rfl ?_
  refine oj_step (y_nil rfl) rfl rfl rfl ?_
  refine oj_step (y_fa0 fa121_0 rfl) rfl rfl rfl ?_
  refine oj_step (y_fa fa64_1 rfl) rfl rfl rfl ?_
  refine oj_store rfl rfl rfl rfl Tryd.sizeOf3 rfl ?_
  refine oj_nil ?_
  refine ej_th (cj_seq (cj_region ?_))
  refine oj_step (y_move rfl) rfl rfl rfl ?_
  refine oj_step (y_move rfl) rfl rfl rfl ?_
  refine oj_step (y_move rfl) rfl rfl rfl ?_
  refine oj_step (y_nil rfl) rfl rfl rfl ?_
  refine oj_step (y_fa0 fa121_0 rfl) rfl rfl rfl ?_
  refine oj_step (y_fa fa64_1 rfl) rfl rfl rfl ?_
  refine oj_step (y_load1 Tryd.isAgg3 rfl rfl) rfl rfl rfl ?_
  refine oj_step (y_nil rfl) rfl rfl rfl ?_
  refine oj_step (y_fa0 fa121_0 rfl) rfl rfl rfl ?_
  refine oj_step (y_fa fa64_2 rfl) rfl rfl rfl ?_
  refine oj_store rfl rfl rfl rfl Tryd.sizeOf3 rfl ?_
  refine oj_step (y_nil rfl) rfl rfl rfl ?_
  refine oj_step (y_fa0 fa121_0 rfl) rfl rfl rfl ?_
  refine oj_step (y_fa fa64_3 rfl) rfl rfl rfl ?_
  refine oj_store rfl rfl rfl rfl Tryd.sizeOf3 rfl ?_
  refine oj_nil ?_
  refine ej_th (cj_seq ?_)
  refine cj_regionG (gj_step (y_assign rfl) rfl rfl rfl (gj_nil ?_))
  refine ej_th (cj_ret ?_)
  exact ej_ret1 rfl Tryd.results66 rfl (fun w' hp => ⟨rfl, hp.mut, hp.own1⟩)

theorem k_pay (d : Deal) (Ac : Option Addr) (cc : Nat) (x : Ln) (b : Nat) (n : Int) (w : World) (hob : w.heap[b]? = some (cellsB 121 (encLn d Ac cc x))) (hx : LOk x) (hn : 1 ≤ n ∧ n ≤ 1073741824) : Calls Tryd.prog 147 #[.pointer (some ⟨b, 0, none⟩), .int .i64 n] w (fun e w' => e = .returned (.int .i64 (payE x n)) ∧ Mut (ownB b (cellsB 121 (encLn d Ac cc x))) w w' ∧ w'.heap[b]? = some (cellsB 121 (encLn d Ac cc (payL x n)))) := by
  obtain ⟨g1, g2, g3, g4, g5, g6, g7, g8, g9⟩ := hx
  refine enter_own (args := [.pointer (some ⟨b, 0, none⟩), .int .i64 n]) b (cellsB 121 (encLn d Ac cc x)) [] Tryd.func147 rfl (by rw [Tryd.ntmps147]; simp) hob (by simp) ?_
  refine cj_seq ?_
  refine cj_regionG (gj_step (y_assign rfl) rfl rfl rfl (gj_nil ?_))
  refine ej_th (cj_seq ?_)
  refine cj_draw (by kernel_rfl) (by kernel_rfl) (gj_step (y_move rfl) rfl rfl rfl (gj_step (y_nil rfl) rfl rfl rfl (gj_step (y_fa0 fa121_0 rfl) rfl rfl rfl (gj_step (y_fa fa64_1 rfl) rfl rfl rfl (gj_step (y_load1 Tryd.isAgg3 rfl rfl) rfl rfl rfl (gj_step (y_move rfl) rfl rfl rfl (gj_step (y_nil rfl) rfl rfl rfl (gj_step (y_fa0 fa121_0 rfl) rfl rfl rfl (gj_step (y_fa fa64_2 rfl) rfl rfl rfl (gj_step (y_load1 Tryd.isAgg3 rfl rfl) rfl rfl rfl (gj_step (y_sub rfl rfl (by omega)) rfl rfl rfl (gj_step (y_assign rfl) rfl rfl rfl (gj_nil ?_)))))))))))))
  refine ej_th (cj_seq (cj_seq ?_))
  refine cj_regionG (gj_step (y_move rfl) rfl rfl rfl (gj_step (y_move rfl) rfl rfl rfl (gj_step (y_move rfl) rfl rfl rfl (gj_step (y_nil rfl) rfl rfl rfl (gj_step (y_fa0 fa121_0 rfl) rfl rfl rfl (gj_step (y_fa0 fa64_0 rfl) rfl rfl rfl (gj_step (y_load1 Tryd.isAgg3 rfl rfl) rfl rfl rfl (gj_step (y_add rfl rfl (by omega)) rfl rfl rfl (gj_step (y_geq rfl rfl) rfl rfl rfl (gj_nil ?_))))))))))
  refine ej_th ?_
  refine cj_cond rfl (fun h25 => ?_) (fun h25 => ?_)
  · have h25b := h25
    try simp only [sxb] at h25
    refine cj_seq ?_
    refine cj_regionG (gj_step (y_assign rfl) rfl rfl rfl (gj_nil ?_))
    refine ej_th (cj_ret (ej_then_ret ?_))
    rw [payE, payL, if_pos h25, if_pos h25]
    exact ej_ret1 rfl Tryd.results147 rfl (fun w' hp => ⟨rfl, hp.mut, hp.own1⟩)
  · have h25b := h25
    try simp only [sxb] at h25
    refine cj_skip (ej_th (cj_seq (cj_region ?_)))
    refine oj_step (y_move rfl) rfl rfl rfl ?_
    refine oj_step (y_nil rfl) rfl rfl rfl ?_
    refine oj_step (y_fa0 fa121_0 rfl) rfl rfl rfl ?_
    refine oj_step (y_fa fa64_2 rfl) rfl rfl rfl ?_
    refine oj_step (y_load1 Tryd.isAgg3 rfl rfl) rfl rfl rfl ?_
    refine oj_step (y_move rfl) rfl rfl rfl ?_
    refine oj_step (y_move rfl) rfl rfl rfl ?_
    refine oj_step (y_min rfl rfl) rfl rfl rfl ?_
    refine oj_step (y_add rfl rfl (by omega)) rfl rfl rfl ?_
    refine oj_step (y_nil rfl) rfl rfl rfl ?_
    refine oj_step (y_fa0 fa121_0 rfl) rfl rfl rfl ?_
    refine oj_step (y_fa fa64_2 rfl) rfl rfl rfl ?_
    refine oj_store rfl rfl rfl rfl Tryd.sizeOf3 rfl ?_
    refine oj_nil ?_
    refine ej_th (cj_seq (cj_region ?_))
    refine oj_step (y_move rfl) rfl rfl rfl ?_
    refine oj_step (y_nil rfl) rfl rfl rfl ?_
    refine oj_step (y_fa0 fa121_0 rfl) rfl rfl rfl ?_
    refine oj_step (y_fa0 fa64_0 rfl) rfl rfl rfl ?_
    refine oj_step (y_load1 Tryd.isAgg3 rfl rfl) rfl rfl rfl ?_
    refine oj_step (y_move rfl) rfl rfl rfl ?_
    refine oj_step (y_move rfl) rfl rfl rfl ?_
    refine oj_step (y_sub rfl rfl (by omega)) rfl rfl rfl ?_
    refine oj_step (y_max rfl rfl) rfl rfl rfl ?_
    refine oj_step (y_sub rfl rfl (by omega)) rfl rfl rfl ?_
    refine oj_step (y_nil rfl) rfl rfl rfl ?_
    refine oj_step (y_fa0 fa121_0 rfl) rfl rfl rfl ?_
    refine oj_step (y_fa0 fa64_0 rfl) rfl rfl rfl ?_
    refine oj_store rfl rfl rfl rfl Tryd.sizeOf3 rfl ?_
    refine oj_nil ?_
    refine ej_th (cj_seq ?_)
    refine cj_regionG (gj_step (y_assign rfl) rfl rfl rfl (gj_nil ?_))
    refine ej_th (cj_ret ?_)
    rw [payE, payL, if_neg (by omega), if_neg (by omega)]
    exact ej_ret1 rfl Tryd.results147 rfl (fun w' hp => ⟨rfl, hp.mut, hp.own1⟩)

theorem k_hold (d : Deal) (Ac : Option Addr) (cc : Nat) (x : Ln) (b : Nat) (n : Int) (w : World) (hob : w.heap[b]? = some (cellsB 121 (encLn d Ac cc x))) (hx : LOk x) (hn : 1 ≤ n ∧ n ≤ 366) : Calls Tryd.prog 148 #[.pointer (some ⟨b, 0, none⟩), .int .i64 n] w (fun e w' => e = .returned (.int .i64 (holdE x)) ∧ Mut (ownB b (cellsB 121 (encLn d Ac cc x))) w w' ∧ w'.heap[b]? = some (cellsB 121 (encLn d Ac cc (holdL x n)))) := by
  have g2 := hx.day
  refine enter_own (args := [.pointer (some ⟨b, 0, none⟩), .int .i64 n]) b (cellsB 121 (encLn d Ac cc x)) [] Tryd.func148 rfl (by rw [Tryd.ntmps148]; simp) hob (by simp) ?_
  refine cj_seq ?_
  refine cj_regionG (gj_step (y_assign rfl) rfl rfl rfl (gj_nil ?_))
  refine ej_th (cj_seq (cj_seq ?_))
  refine cj_draw (by kernel_rfl) (by kernel_rfl) (gj_step (y_move rfl) rfl rfl rfl (gj_step (y_nil rfl) rfl rfl rfl (gj_step (y_fa fa121_3 rfl) rfl rfl rfl (gj_step (y_load1 Tryd.isAgg3 rfl rfl) rfl rfl rfl (gj_step (y_add rfl rfl (by omega)) rfl rfl rfl (gj_step (y_move rfl) rfl rfl rfl (gj_step (y_nil rfl) rfl rfl rfl (gj_step (y_fa fa121_4 rfl) rfl rfl rfl (gj_step (y_load1 Tryd.isAgg3 rfl rfl) rfl rfl rfl (gj_step (y_leq rfl rfl) rfl rfl rfl (gj_nil ?_)))))))))))
  refine ej_th ?_
  refine cj_cond rfl (fun h14 => ?_) (fun h14 => ?_)
  · have h14b := h14
    try simp only [sxb] at h14
    refine cj_seq ?_
    refine cj_regionG (gj_step (y_assign rfl) rfl rfl rfl (gj_nil ?_))
    refine ej_th (cj_ret (ej_then_ret ?_))
    rw [holdE, holdL, if_pos h14, if_pos h14]
    exact ej_ret1 rfl Tryd.results148 rfl (fun w' hp => ⟨rfl, hp.mut, hp.own1⟩)
  · have h14b := h14
    try simp only [sxb] at h14
    refine cj_skip (ej_th (cj_seq (cj_region ?_)))
    refine oj_step (y_move rfl) rfl rfl rfl ?_
    refine oj_step (y_move rfl) rfl rfl rfl ?_
    refine oj_step (y_nil rfl) rfl rfl rfl ?_
    refine oj_step (y_fa fa121_3 rfl) rfl rfl rfl ?_
    refine oj_step (y_load1 Tryd.isAgg3 rfl rfl) rfl rfl rfl ?_
    refine oj_step (y_move rfl) rfl rfl rfl ?_
    refine oj_step (y_add rfl rfl (by omega)) rfl rfl rfl ?_
    refine oj_step (y_nil rfl) rfl rfl rfl ?_
    refine oj_step (y_fa fa121_4 rfl) rfl rfl rfl ?_
    refine oj_store rfl rfl rfl rfl Tryd.sizeOf3 rfl ?_
    refine oj_nil ?_
    refine ej_th (cj_seq ?_)
    refine cj_regionG (gj_step (y_assign rfl) rfl rfl rfl (gj_nil ?_))
    refine ej_th (cj_ret ?_)
    rw [holdE, holdL, if_neg (by omega), if_neg (by omega)]
    exact ej_ret1 rfl Tryd.results148 rfl (fun w' hp => ⟨rfl, hp.mut, hp.own1⟩)

theorem k_redeem (d : Deal) (Ac : Option Addr) (cc : Nat) (x : Ln) (b : Nat) (n : Int) (w : World) (hob : w.heap[b]? = some (cellsB 121 (encLn d Ac cc x)))  : Calls Tryd.prog 149 #[.pointer (some ⟨b, 0, none⟩), .int .i64 n] w (fun e w' => e = .returned (.int .i64 0) ∧ Mut (ownB b (cellsB 121 (encLn d Ac cc x))) w w' ∧ w'.heap[b]? = some (cellsB 121 (encLn d Ac cc (redeemL x)))) := by
  refine enter_own (args := [.pointer (some ⟨b, 0, none⟩), .int .i64 n]) b (cellsB 121 (encLn d Ac cc x)) [] Tryd.func149 rfl (by rw [Tryd.ntmps149]; simp) hob (by simp) ?_
  refine cj_seq ?_
  refine cj_regionG (gj_step (y_assign rfl) rfl rfl rfl (gj_nil ?_))
  refine ej_th (cj_seq (cj_region ?_))
  refine oj_step (y_move rfl) rfl rfl rfl ?_
  refine oj_step (y_move rfl) rfl rfl rfl ?_
  refine oj_step (y_move rfl) rfl rfl rfl ?_
  refine oj_step (y_move rfl) rfl rfl rfl ?_
  refine oj_step (y_nil rfl) rfl rfl rfl ?_
  refine oj_step (y_fa0 fa121_0 rfl) rfl rfl rfl ?_
  refine oj_step (y_fa fa64_1 rfl) rfl rfl rfl ?_
  refine oj_step (y_load1 Tryd.isAgg3 rfl rfl) rfl rfl rfl ?_
  refine oj_step (y_nil rfl) rfl rfl rfl ?_
  refine oj_step (y_fa0 fa121_0 rfl) rfl rfl rfl ?_
  refine oj_step (y_fa fa64_2 rfl) rfl rfl rfl ?_
  refine oj_store rfl rfl rfl rfl Tryd.sizeOf3 rfl ?_
  refine oj_step (y_nil rfl) rfl rfl rfl ?_
  refine oj_step (y_fa0 fa121_0 rfl) rfl rfl rfl ?_
  refine oj_step (y_fa0 fa64_0 rfl) rfl rfl rfl ?_
  refine oj_store rfl rfl rfl rfl Tryd.sizeOf3 rfl ?_
  refine oj_step (y_nil rfl) rfl rfl rfl ?_
  refine oj_step (y_fa0 fa121_0 rfl) rfl rfl rfl ?_
  refine oj_step (y_fa fa64_4 rfl) rfl rfl rfl ?_
  refine oj_store rfl rfl rfl rfl Tryd.sizeOf4 rfl ?_
  refine oj_nil ?_
  refine ej_th (cj_seq ?_)
  refine cj_regionG (gj_step (y_assign rfl) rfl rfl rfl (gj_nil ?_))
  refine ej_th (cj_ret ?_)
  exact ej_ret1 rfl Tryd.results149 rfl (fun w' hp => ⟨rfl, hp.mut, hp.own1⟩)

theorem k_Keep (d : Deal) (Ac : Option Addr) (cc : Nat) (until_ : Int) (w : World) (hc : Rd w 1 enInt Ac d.closed) : Calls Tryd.prog 24 #[.agg #[.int .i64 d.lr, .int .i64 d.lc, .int .i64 d.tr, .int .i64 d.tf, .int .i64 d.te, .int .i64 d.tt, .int .i64 d.tg, .slice Ac d.closed.length cc, .int .i64 d.start, .int .i64 d.sum], .int .i64 until_] w (fun e w' => ∃ A c, e = .returned (.tuple #[.slice A (KeepN d until_).length c, .int .i64 (KeepE d until_)]) ∧ Grow w w' ∧ Res w w' 1 enInt A (KeepN d until_)) := by
  refine enter_pure (args := [.agg #[.int .i64 d.lr, .int .i64 d.lc, .int .i64 d.tr, .int .i64 d.tf, .int .i64 d.te, .int .i64 d.tt, .int .i64 d.tg, .slice Ac d.closed.length cc, .int .i64 d.start, .int .i64 d.sum], .int .i64 until_]) [sl (fun b => b < w.heap.size) 1 enInt Ac d.closed] Tryd.func24 rfl (by rw [Tryd.ntmps24]; simp) (fun g hg => by simp at hg; subst hg; exact ⟨hc, fun _ h => h⟩) ?_
  refine cj_seq (cj_region ?_)
  refine oj_box rfl rfl rfl (fun b2 => ?_)
  refine oj_step (y_assign rfl) rfl rfl rfl ?_
  refine oj_step (y_assign rfl) rfl rfl rfl ?_
  refine oj_nil ?_
  refine ej_th (cj_seq (cj_seq ?_))
  refine cj_regionG ?_
  refine gj_step (y_loadN Tryd.isAgg44 Tryd.sizeOf44 rfl) rfl rfl rfl (?_)
  refine gj_step (y_call Tryd.call31 rfl (fun w hp => k_Check _ _ _ w hp.rd)) rfl rfl rfl ?_
  refine gj_step (y_assign rfl) rfl rfl rfl (?_)
  refine gj_nil ?_
  refine ej_th (cj_seq ?_)
  refine cj_regionG (gj_step (y_move rfl) rfl rfl rfl (gj_step (y_neq rfl rfl) rfl rfl rfl (gj_nil ?_)))
  refine ej_th ?_
  refine cj_cond rfl (fun h13 => ?_) (fun h13 => ?_)
  · have h13b := h13
    try simp only [sxb] at h13
    rw [errD_ne] at h13
    refine cj_seq ?_
    refine cj_regionG (gj_step (y_move rfl) rfl rfl rfl (gj_step (y_assign rfl) rfl rfl rfl (gj_step (y_assign rfl) rfl rfl rfl (gj_nil ?_))))
    refine ej_th (cj_ret (ej_then_ret ?_))
    have h1 : KeepN d until_ = [] := by simp [KeepN, h13]
    have h2 : KeepE d until_ = 23 := by simp [KeepE, h13]
    rw [h1, h2]
    exact ej_ret2 rfl Tryd.results24 rfl rfl (fun w' hp => ⟨none, 0, by rw [h13]; rfl, hp.below, Res.nil⟩)
  · have h13b := h13
    try simp only [sxb] at h13
    rw [errD_eq] at h13
    have hd := badDeal_no h13
    refine cj_skip (ej_th (cj_seq (cj_seq ?_)))
    refine cj_regionG ?_
    refine gj_step (y_move rfl) rfl rfl rfl (gj_step (y_fa fa44_3 rfl) rfl rfl rfl (gj_step (y_load1 Tryd.isAgg3 rfl rfl) rfl rfl rfl (?_)))
    refine gj_step (y_call Tryd.call54 rfl (fun w hp => k_within _ _ _ w)) rfl rfl rfl ?_
    refine gj_step (y_not rfl) rfl rfl rfl (?_)
    refine gj_nil ?_
    refine ej_th ?_
    refine cj_cond rfl (fun h19 => ?_) (fun h19 => ?_)
    · have h19b := h19
      try simp only [sxb] at h19
      have hb : btw d.start until_ 36500 = false := not_t h19b
      refine cj_seq ?_
      refine cj_regionG (gj_step (y_assign rfl) rfl rfl rfl (gj_step (y_assign rfl) rfl rfl rfl (gj_nil ?_)))
      refine ej_th (cj_ret (ej_then_ret ?_))
      have h1 : KeepN d until_ = [] := by simp [KeepN, h13, hb]
      have h2 : KeepE d until_ = 7 := by simp [KeepE, h13, hb]
      rw [h1, h2]
      exact ej_ret2 rfl Tryd.results24 rfl rfl (fun w' hp => ⟨none, 0, rfl, hp.below, Res.nil⟩)
    · have h19b := h19
      try simp only [sxb] at h19
      have hb : btw d.start until_ 36500 = true := not_f h19b
      have hb2 := hb
      simp only [btw, Bool.and_eq_true, decide_eq_true_eq] at hb2
      have hst := hd.start
      have htt := hd.tt
      have htg := hd.tg
      have hte := hd.te
      refine cj_skip (ej_th (cj_seq ?_))
      refine cj_ownNil 3 1 enInt ?_
      refine cj_regionG (gj_step (y_assign rfl) rfl rfl rfl (gj_nil ?_))
      refine ej_th (cj_seq (cj_region ?_))
      refine oj_step (y_loadN Tryd.isAgg44 Tryd.sizeOf44 rfl) rfl rfl rfl ?_
      refine oj_step (y_call Tryd.call63 rfl (fun w hp => k_open d Ac cc w)) rfl rfl rfl ?_
      refine oj_alloc Tryd.zeroValue121 rfl rfl (fun b8 => ?_)
      refine oj_store rfl rfl rfl rfl Tryd.sizeOf121 rfl ?_
      refine oj_nil ?_
      refine ej_th (cj_seq (cj_block ?_))
      refine cj_lp (X := Ln × Nat × Option Addr × Nat × List Int) (fun ⟨x, n, A, c, out⟩ => LOk x ∧ x.fees ≤ 10000 * out.length ∧ out.length + keepMu until_ x ≤ 73001 ∧ keepMu until_ x ≤ n ∧ keepF d until_ n x out = keepL d until_) (fun ⟨x, n, A, c, out⟩ => [(1, .int .i64 until_), (7, .slice A out.length c), (8, .pointer (some ⟨b8, 0, none⟩))]) (fun ⟨x, n, A, c, out⟩ => [ownB b8 (cellsB 121 (encLn d Ac cc x)), ow 3 1 enInt A c out]) (fun ⟨x, n, A, c, out⟩ => [sl (fun b => b < w.heap.size) 1 enInt Ac d.closed]) (fun ⟨x, n, A, c, out⟩ => keepMu until_ x) (openL d, keepMu until_ (openL d), none, 0, []) (⟨openL_ok hd, by simp [openL], by simp [keepMu, openL]; omega, Nat.le_refl _, rfl⟩) ⟨rfl, rfl, rfl, trivial⟩ ?_
      rintro ⟨x, n, A, c, out⟩ ⟨hx, hfe, hlo, hnn, hl⟩
      have hxd := hx.day
      refine cj_seq (cj_seq ?_)
      refine cj_regionG (gj_step (y_fa fa121_3 rfl) rfl rfl rfl (gj_step (y_load1 Tryd.isAgg3 rfl rfl) rfl rfl rfl (gj_step (y_move rfl) rfl rfl rfl (gj_step (y_lss rfl rfl) rfl rfl rfl (gj_nil ?_)))))
      refine ej_th ?_
      refine cj_cond rfl (fun h25 => ?_) (fun h25 => ?_)
      · have h25b := h25
        try simp only [sxb] at h25
        have hmu : 1 ≤ keepMu until_ x := by unfold keepMu; omega
        obtain ⟨n, rfl⟩ : ∃ n', n = n' + 1 := ⟨n - 1, by omega⟩
        have ht1 := toL_one d x
        have ht2 := toL_one_ag d x
        have ht3 := toL_one_fees d x
        have hty := toL_ok hd hx (show x.day + 1 ≤ 36500 by omega)
        rw [keepF, if_neg (by omega)] at hl
        refine cj_skip (ej_th (cj_block (cj_seq (cj_region ?_))))
        refine oj_step (y_loadN Tryd.isAgg121 Tryd.sizeOf121 rfl) rfl rfl rfl ?_
        refine oj_alloc Tryd.zeroValue121 rfl rfl (fun b9 => ?_)
        refine oj_store rfl rfl rfl rfl Tryd.sizeOf121 rfl ?_
        refine oj_nil ?_
        refine ej_th (cj_seq (cj_seq (cj_region ?_)))
        refine oj_step (y_fa fa121_3 rfl) rfl rfl rfl ?_
        refine oj_step (y_load1 Tryd.isAgg3 rfl rfl) rfl rfl rfl ?_
        refine oj_step (y_add rfl rfl (by omega)) rfl rfl rfl ?_
        refine oj_callM (X := Unit) (b := b8) (fun _ => .tuple #[]) (fun _ => cellsB 121 (encLn d Ac cc (toL d x (x.day + 1)))) Tryd.call64 rfl (fun w hp => (k_to d Ac cc x b8 (x.day + 1) w hp.own1 hp.rdX hd hx (by omega)).mono (fun e w2 ⟨h1, h2, h3⟩ => ⟨(), h1, h2, h3⟩)) rfl (fun _ => ?_)
        obtain ⟨y, hy⟩ : ∃ y, y = toL d x (x.day + 1) := ⟨_, rfl⟩
        rw [← hy] at ht1 ht2 ht3 hty hl ⊢
        refine oj_nil ?_
        refine ej_th (cj_seq ?_)
        refine cj_regionG ?_
        refine gj_step (y_loadN Tryd.isAgg121 Tryd.sizeOf121 rfl) rfl rfl rfl (?_)
        refine gj_step (y_call Tryd.call65 rfl (fun w hp => k_over d Ac cc y w hd)) rfl rfl rfl ?_
        refine gj_step (y_not rfl) rfl rfl rfl (?_)
        refine gj_nil ?_
        refine ej_th ?_
        refine cj_cond rfl (fun h33 => ?_) (fun h33 => ?_)
        · have h33b := h33
          try simp only [sxb] at h33
          have ho : overB d y = false := not_t h33b
          refine cj_exit (ej_then_exit (ej_blk_hit ?_))
          rw [if_neg (by rw [ho]; simp)] at hl
          have hm : keepMu until_ y < keepMu until_ x := by unfold keepMu; split <;> split <;> omega
          exact ej_nx (y, n, A, c, out) (by simp only; omega) ⟨hty, by rw [ht3]; exact hfe, by omega, by omega, hl⟩ ⟨rfl, rfl, rfl, trivial⟩
        · have h33b := h33
          try simp only [sxb] at h33
          have ho : overB d y = true := not_f h33b
          refine cj_skip (ej_th (cj_seq (cj_region ?_)))
          refine oj_step (y_move rfl) rfl rfl rfl ?_
          refine oj_step (y_fa fa121_3 rfl) rfl rfl rfl ?_
          refine oj_step (y_load1 Tryd.isAgg3 rfl rfl) rfl rfl rfl ?_
          refine oj_buildSlice [.int .i64 0] Tryd.underlying23 Tryd.sizeOf3 Tryd.zeroValue3 rfl rfl (by kernel_rfl) rfl rfl (fun b37 => ?_)
          refine oj_append  el23 (fun _ => rfl) enInt_one rfl rfl rfl (reads_lit [x.day] (fun _ => rfl) rfl) (by simp [maxLen]; omega) (by simp; omega) rfl (fun A38 c38 => ?_)
          refine oj_step (y_assign rfl) rfl rfl rfl ?_
          refine oj_nil ?_
          refine ej_th (cj_seq (cj_region ?_))
          refine oj_callM (X := Unit) (b := b9) (fun _ => .int .i64 0) (fun _ => cellsB 121 (encLn d Ac cc (renewL d x))) Tryd.call66 rfl (fun w hp => (k_renew d Ac cc x b9 0 w hp.own1 hd hx (by omega)).mono (fun e w2 ⟨h1, h2, h3⟩ => ⟨(), h1, h2, h3⟩)) rfl (fun _ => ?_)
          obtain ⟨z, hz⟩ : ∃ z, z = renewL d x := ⟨_, rfl⟩
          rw [← hz] at hl ⊢
          refine oj_nil ?_
          refine ej_th (cj_region ?_)
          refine oj_step (y_loadN Tryd.isAgg121 Tryd.sizeOf121 rfl) rfl rfl rfl ?_
          refine oj_store rfl rfl rfl rfl Tryd.sizeOf121 rfl ?_
          refine oj_nil ?_
          refine ej_blk ?_
          rw [if_pos (by rw [ho])] at hl
          have hzd : z.day = x.day := by rw [hz]; rfl
          have hza : z.ag = 0 := by rw [hz]; rfl
          have hzf : z.fees = x.fees + d.te := by rw [hz]; rfl
          have hag : x.ag ≠ 0 := by
            have : d.tt + d.tg < y.ag := of_decide_eq_true ho
            omega
          have hm : keepMu until_ z < keepMu until_ x := by unfold keepMu; rw [if_pos hza, if_neg hag, hzd]; omega
          have hzok : LOk z := by rw [hz]; exact renewL_ok hd hx (by omega)
          exact ej_nx (z, n, A38, c38, out ++ [x.day]) (by simp only; omega) ⟨hzok, by rw [hzf]; simp only [List.length_append, List.length_singleton]; omega, by simp only [List.length_append, List.length_singleton]; omega, by omega, hl⟩ ⟨rfl, rfl, rfl, trivial⟩
      · have h25b := h25
        try simp only [sxb] at h25
        refine cj_exit (ej_then_exit (ej_then_exit (ej_blk_hit (ej_th (cj_seq (cj_seq ?_))))))
        refine cj_regionG (gj_step (y_move rfl) rfl rfl rfl (gj_step (y_lenA Tryd.underlying23 rfl) rfl rfl rfl (gj_step (y_gtr rfl rfl) rfl rfl rfl (gj_nil ?_))))
        refine ej_th ?_
        refine cj_cond rfl (fun h43 => ?_) (fun h43 => ?_)
        · have h43b := h43
          try simp only [sxb] at h43
          refine cj_seq ?_
          refine cj_regionG (gj_step (y_assign rfl) rfl rfl rfl (gj_step (y_assign rfl) rfl rfl rfl (gj_nil ?_)))
          refine ej_th (cj_ret (ej_then_ret ?_))
          rw [keepF_end _ _ _ _ _ (by omega)] at hl
          subst hl
          have h1 : KeepN d until_ = [] := by simp only [KeepN, h13, hb, Bool.false_eq_true, if_false, if_true]; rw [if_pos (by omega)]
          have h2 : KeepE d until_ = 3 := by simp only [KeepE, h13, hb, Bool.false_eq_true, if_false, if_true]; rw [if_pos (by omega)]
          rw [h1, h2]
          exact ej_ret2 rfl Tryd.results24 rfl rfl (fun w' hp => ⟨none, 0, rfl, hp.below, Res.nil⟩)
        · have h43b := h43
          try simp only [sxb] at h43
          refine cj_skip (ej_th (cj_seq ?_))
          refine cj_regionG (gj_step (y_move rfl) rfl rfl rfl (gj_step (y_assign rfl) rfl rfl rfl (gj_step (y_assign rfl) rfl rfl rfl (gj_nil ?_))))
          refine ej_th (cj_ret ?_)
          rw [keepF_end _ _ _ _ _ (by omega)] at hl
          subst hl
          have h1 : KeepN d until_ = keepL d until_ := by simp only [KeepN, h13, hb, Bool.false_eq_true, if_false, if_true]; rw [if_neg (by omega)]
          have h2 : KeepE d until_ = 0 := by simp only [KeepE, h13, hb, Bool.false_eq_true, if_false, if_true]; rw [if_neg (by omega)]
          rw [h1, h2]
          exact ej_ret2 rfl Tryd.results24 rfl rfl (fun w' hp => ⟨A, c, rfl, hp.below, hp.res (fun _ => rfl) (by unfold maxLen; omega)⟩)

end Go.Proofs.YtafmgkiddhappaaDoor
