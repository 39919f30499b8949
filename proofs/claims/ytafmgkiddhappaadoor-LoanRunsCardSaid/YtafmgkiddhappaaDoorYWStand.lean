/- Walks of functions of the program. -/
import Derived.Test.YtafmgkiddhappaaDoorYWLaw
import Derived.Test.YtafmgkiddhappaaDoorYWKeep
import Derived.Test.YtafmgkiddhappaaDoorYPStand
import Derived.Test.YtafmgkiddhappaaDoorZSb
import Derived.Test.YtafmgkiddhappaaDoorYTyStand
namespace Go.Proofs.YtafmgkiddhappaaDoor
open Go.Sx Go.RowKit
set_option maxRecDepth 20000
theorem k_rlegal (d : Deal) (Ac : Option Addr) (cc : Nat) (x : Ln) (ren hr : Int) (b : Nat) (w : World) (hob : w.heap[b]? = some (cellsB 156 (encS d Ac cc x ren hr))) (hd : DealOk d) (hx : LOk x) : Calls Tryd.prog 74 #[.pointer (some ⟨b, 0, none⟩)] w (fun e w' => e = .returned (.int .i64 (limitOf d x)) ∧ Grow w w') := by
  obtain ⟨h1, h2, h3⟩ := hx.lim hd
  refine enter_pure (args := [.pointer (some ⟨b, 0, none⟩)]) [ownB b (cellsB 156 (encS d Ac cc x ren hr))] Tryd.func74 rfl (by rw [Tryd.ntmps74]; simp) (fun g hg => by simp at hg; subst hg; exact ⟨hob, fun i hi => by have : i = b := hi; subst this; exact (Array.getElem?_eq_some_iff.1 hob).1⟩) ?_
  refine cj_seq ?_
  refine cj_regionG (gj_step (y_assign rfl) rfl rfl rfl (gj_nil ?_))
  refine ej_th (cj_seq ?_)
  refine cj_draw (by kernel_rfl) (by kernel_rfl) ?_
  refine gj_step (y_move rfl) rfl rfl rfl (gj_step (y_nil rfl) rfl rfl rfl (gj_step (y_fa fa156_5 rfl) rfl rfl rfl (gj_step (y_loadS1 Tryd.isAgg3 rfl rfl) rfl rfl rfl (gj_step (y_move rfl) rfl rfl rfl (gj_step (y_nil rfl) rfl rfl rfl (gj_step (y_fa0 fa156_0 rfl) rfl rfl rfl (gj_step (y_fa0 fa44_0 rfl) rfl rfl rfl (gj_step (y_fa0 fa40_0 rfl) rfl rfl rfl (gj_step (y_loadS1 Tryd.isAgg3 rfl rfl) rfl rfl rfl (gj_step (y_mul rfl rfl (by omega)) rfl rfl rfl (?_)))))))))))
  refine gj_step (y_call Tryd.call29 rfl (fun w hp => k_Down _ _ w (by omega) (by omega))) rfl rfl rfl ?_
  refine gj_step (y_move rfl) rfl rfl rfl (gj_step (y_nil rfl) rfl rfl rfl (gj_step (y_fa0 fa156_0 rfl) rfl rfl rfl (gj_step (y_fa fa44_4 rfl) rfl rfl rfl (gj_step (y_loadS1 Tryd.isAgg3 rfl rfl) rfl rfl rfl (gj_step (y_move rfl) rfl rfl rfl (gj_step (y_nil rfl) rfl rfl rfl (gj_step (y_fa0 fa156_0 rfl) rfl rfl rfl (gj_step (y_fa0 fa44_0 rfl) rfl rfl rfl (gj_step (y_fa fa40_1 rfl) rfl rfl rfl (gj_step (y_loadS1 Tryd.isAgg3 rfl rfl) rfl rfl rfl (gj_step (y_mul rfl rfl (by omega)) rfl rfl rfl (?_))))))))))))
  refine gj_step (y_call Tryd.call29 rfl (fun w hp => k_Down _ _ w (by omega) (by omega))) rfl rfl rfl ?_
  refine gj_step (y_min rfl rfl) rfl rfl rfl (gj_step (y_assign rfl) rfl rfl rfl (?_))
  refine gj_nil ?_
  refine ej_th (cj_ret ?_)
  exact ej_ret1 rfl Tryd.results74 rfl (fun w' hp => ⟨rfl, hp.below⟩)

theorem k_rcharge (d : Deal) (Ac : Option Addr) (cc : Nat) (x : Ln) (ren hr : Int) (b : Nat) (w : World) (hob : w.heap[b]? = some (cellsB 156 (encS d Ac cc x ren hr))) (hd : DealOk d) (hx : LOk x) (hfe : x.fees = ren * d.te) : Calls Tryd.prog 93 #[.pointer (some ⟨b, 0, none⟩)] w (fun e w' => e = .returned (.int .i64 (chargeOf d x)) ∧ Grow w w') := by
  obtain ⟨h1, h2, h3⟩ := hx.lim hd
  have hff := hx.fees
  rw [hfe] at hff
  refine enter_pure (args := [.pointer (some ⟨b, 0, none⟩)]) [ownB b (cellsB 156 (encS d Ac cc x ren hr))] Tryd.func93 rfl (by rw [Tryd.ntmps93]; simp) (fun g hg => by simp at hg; subst hg; exact ⟨hob, fun i hi => by have : i = b := hi; subst this; exact (Array.getElem?_eq_some_iff.1 hob).1⟩) ?_
  refine cj_seq ?_
  refine cj_regionG (gj_step (y_assign rfl) rfl rfl rfl (gj_nil ?_))
  refine ej_th (cj_seq ?_)
  refine cj_draw (by kernel_rfl) (by kernel_rfl) ?_
  refine gj_step (y_move rfl) rfl rfl rfl (gj_step (y_nil rfl) rfl rfl rfl (gj_step (y_fa fa156_4 rfl) rfl rfl rfl (gj_step (y_loadS1 Tryd.isAgg3 rfl rfl) rfl rfl rfl (gj_step (y_move rfl) rfl rfl rfl (gj_step (y_nil rfl) rfl rfl rfl (gj_step (y_fa0 fa156_0 rfl) rfl rfl rfl (gj_step (y_fa fa44_1 rfl) rfl rfl rfl (gj_step (y_fa0 fa42_0 rfl) rfl rfl rfl (gj_step (y_loadS1 Tryd.isAgg3 rfl rfl) rfl rfl rfl (gj_step (y_mul rfl rfl (by omega)) rfl rfl rfl (?_)))))))))))
  refine gj_step (y_call Tryd.call29 rfl (fun w hp => k_Down _ _ w (by omega) (by omega))) rfl rfl rfl ?_
  refine gj_step (y_move rfl) rfl rfl rfl (gj_step (y_nil rfl) rfl rfl rfl (gj_step (y_fa fa156_6 rfl) rfl rfl rfl (gj_step (y_loadS1 Tryd.isAgg3 rfl rfl) rfl rfl rfl (gj_step (y_move rfl) rfl rfl rfl (gj_step (y_nil rfl) rfl rfl rfl (gj_step (y_fa0 fa156_0 rfl) rfl rfl rfl (gj_step (y_fa fa44_1 rfl) rfl rfl rfl (gj_step (y_fa fa42_2 rfl) rfl rfl rfl (gj_step (y_loadS1 Tryd.isAgg3 rfl rfl) rfl rfl rfl (gj_step (y_mul rfl rfl (by omega)) rfl rfl rfl (gj_step (y_add rfl rfl (by omega)) rfl rfl rfl (gj_step (y_move rfl) rfl rfl rfl (?_)))))))))))))
  refine gj_step (y_call Tryd.call74 rfl (fun w hp => k_rlegal d Ac cc x ren hr b w hp.bs hd hx)) rfl rfl rfl ?_
  refine gj_step (y_min rfl rfl) rfl rfl rfl (gj_step (y_assign rfl) rfl rfl rfl (?_))
  refine gj_nil ?_
  refine ej_th (cj_ret ?_)
  exact ej_ret1 rfl Tryd.results93 rfl (fun w' hp => ⟨by rw [chargeOf, hfe], hp.below⟩)

theorem k_rchargeC (d : Deal) (Ac : Option Addr) (cc : Nat) (x : Ln) (ren hr : Int) (b : Nat) (w : World) (hob : w.heap[b]? = some (cellsB 156 (encS d Ac cc x ren hr))) (hd : DealOk d) (hx : LOk x) (hrs : RS d x ren hr) : Calls Tryd.prog 93 #[.pointer (some ⟨b, 0, none⟩)] w (fun e w' => e = .returned (.int .i64 x.ch) ∧ Grow w w') := by
  rw [show x.ch = chargeOf d x from hrs.ch]
  exact k_rcharge d Ac cc x ren hr b w hob hd hx hrs.fees
theorem k_raccount (d : Deal) (Ac : Option Addr) (cc : Nat) (x : Ln) (ren hr : Int) (b : Nat) (w : World) (hob : w.heap[b]? = some (cellsB 156 (encS d Ac cc x ren hr))) (hd : DealOk d) (hx : LOk x) (hrs : RS d x ren hr) : Calls Tryd.prog 72 #[.pointer (some ⟨b, 0, none⟩)] w (fun e w' => e = .returned (.agg (encAcc x.acc).toArray) ∧ Grow w w') := by
  refine enter_pure (args := [.pointer (some ⟨b, 0, none⟩)]) [ownB b (cellsB 156 (encS d Ac cc x ren hr))] Tryd.func72 rfl (by rw [Tryd.ntmps72]; simp) (fun g hg => by simp at hg; subst hg; exact ⟨hob, fun i hi => by have : i = b := hi; subst this; exact (Array.getElem?_eq_some_iff.1 hob).1⟩) ?_
  refine cj_seq (cj_region ?_)
  refine oj_alloc Tryd.zeroValue64 rfl rfl (fun b2 => ?_)
  refine oj_nil ?_
  refine ej_th (cj_seq (cj_region ?_))
  refine oj_step (y_move rfl) rfl rfl rfl ?_
  refine oj_step (y_nil rfl) rfl rfl rfl ?_
  refine oj_step (y_fa fa156_1 rfl) rfl rfl rfl ?_
  refine oj_step (y_loadSN Tryd.isAgg64 Tryd.sizeOf64 rfl) rfl rfl rfl ?_
  refine oj_alloc Tryd.zeroValue64 rfl rfl (fun b3 => ?_)
  refine oj_store rfl rfl rfl rfl Tryd.sizeOf64 rfl ?_
  refine oj_nil ?_
  refine ej_th (cj_seq (cj_region ?_))
  refine oj_step (y_move rfl) rfl rfl rfl ?_
  refine oj_step (y_call Tryd.call93 rfl (fun w hp => k_rchargeC d Ac cc x ren hr b w hp.bs hd hx hrs)) rfl rfl rfl ?_
  refine oj_step (y_fa fa64_1 rfl) rfl rfl rfl ?_
  refine oj_store rfl rfl rfl rfl Tryd.sizeOf3 rfl ?_
  refine oj_nil ?_
  refine ej_th (cj_seq (cj_region ?_))
  refine oj_step (y_loadN Tryd.isAgg64 Tryd.sizeOf64 rfl) rfl rfl rfl ?_
  refine oj_store rfl rfl rfl rfl Tryd.sizeOf64 rfl ?_
  refine oj_nil ?_
  refine ej_th (cj_ret ?_)
  exact ej_retC1 rfl Tryd.results72 rfl (y_loadN Tryd.isAgg64 Tryd.sizeOf64 rfl) (fun w' hp => ⟨rfl, hp.below⟩)

theorem k_rto (d : Deal) (Ac : Option Addr) (cc : Nat) (x : Ln) (ren hr : Int) (b : Nat) (day : Int) (w : World) (hob : w.heap[b]? = some (cellsB 156 (encS d Ac cc x ren hr))) (hc : RdX w b 1 enInt Ac d.closed) (hx : LOk x) (hh : HR x hr) (hday : day ≤ 36500) : Calls Tryd.prog 92 #[.pointer (some ⟨b, 0, none⟩), .int .i64 day] w (fun e w' => e = .returned (.tuple #[]) ∧ Mut (ownB b (cellsB 156 (encS d Ac cc x ren hr))) w w' ∧ w'.heap[b]? = some (cellsB 156 (encS d Ac cc (toL d x day) ren hr))) := by
  refine enter_own (args := [.pointer (some ⟨b, 0, none⟩), .int .i64 day]) b (cellsB 156 (encS d Ac cc x ren hr)) [sl (fun i => i < w.heap.size ∧ i ≠ b) 1 enInt Ac d.closed] Tryd.func92 rfl (by rw [Tryd.ntmps92]; simp) hob (fun g hg => by simp at hg; subst hg; exact ⟨hc, fun _ h => h⟩) ?_
  refine cj_block ?_
  refine cj_lpi (X := Ln) [(0, _), (1, _)] (fun y => LOk y ∧ HR y hr ∧ goN d (day - y.day).toNat y = goN d (day - x.day).toNat x) (fun y => []) (fun y => [ownB b (cellsB 156 (encS d Ac cc y ren hr))]) (fun y => [sl (fun i => i < w.heap.size ∧ i ≠ b) 1 enInt Ac d.closed]) (fun y => (day - y.day).toNat) x (⟨hx, hh, rfl⟩) ⟨rfl, rfl, trivial⟩ ?_
  rintro y ⟨hy, hyh, hl⟩
  dsimp only [List.cons_append, List.nil_append]
  refine cj_seq (cj_seq ?_)
  refine cj_regionG (gj_step (y_move rfl) rfl rfl rfl (gj_step (y_nil rfl) rfl rfl rfl (gj_step (y_fa fa156_2 rfl) rfl rfl rfl (gj_step (y_load1 Tryd.isAgg3 rfl rfl) rfl rfl rfl (gj_step (y_move rfl) rfl rfl rfl (gj_step (y_lss rfl rfl) rfl rfl rfl (gj_nil ?_)))))))
  refine ej_th ?_
  refine cj_cond rfl (fun h10 => ?_) (fun h10 => ?_)
  · have h10b := h10
    try simp only [sxb] at h10
    have hs := hy.step (d := d) (by omega)
    have hsh := hyh.step (d := d)
    have hcr := counts_ref (d := d) hyh hy.day.1
    obtain ⟨g1, g2, g3, g4, g5, g6, g7, g8, g9⟩ := hy
    rw [show (day - y.day).toNat = (day - (y.day + 1)).toNat + 1 by omega, goN] at hl
    refine cj_skip (ej_th (cj_block (cj_seq (cj_region ?_))))
    refine oj_step (y_move rfl) rfl rfl rfl ?_
    refine oj_step (y_nil rfl) rfl rfl rfl ?_
    refine oj_step (y_fa fa156_2 rfl) rfl rfl rfl ?_
    refine oj_step (y_load1 Tryd.isAgg3 rfl rfl) rfl rfl rfl ?_
    refine oj_step (y_add rfl rfl (by omega)) rfl rfl rfl ?_
    refine oj_step (y_nil rfl) rfl rfl rfl ?_
    refine oj_step (y_fa fa156_2 rfl) rfl rfl rfl ?_
    refine oj_store rfl rfl rfl rfl Tryd.sizeOf3 rfl ?_
    refine oj_nil ?_
    refine ej_th (cj_seq (cj_seq ?_))
    refine cj_draw (by kernel_rfl) (by kernel_rfl) ?_
    refine gj_step (y_move rfl) rfl rfl rfl (gj_step (y_nil rfl) rfl rfl rfl (gj_step (y_fa fa156_1 rfl) rfl rfl rfl (gj_step (y_fa fa64_4 rfl) rfl rfl rfl (gj_step (y_load1 Tryd.isAgg4 rfl rfl) rfl rfl rfl (gj_step (y_not rfl) rfl rfl rfl (gj_step (y_move rfl) rfl rfl rfl (?_)))))))
    refine gj_g 9 24 33 rfl rfl rfl rfl (fun hg24 => gj_yes rfl rfl rfl (y_move rfl) rfl rfl (gj_yes rfl rfl rfl (y_nil rfl) rfl rfl (gj_yes rfl rfl rfl (y_fa fa156_2 rfl) rfl rfl (gj_yes rfl rfl rfl (y_load1 Tryd.isAgg3 rfl rfl) rfl rfl (gj_yes rfl rfl rfl (y_move rfl) rfl rfl (gj_yes rfl rfl rfl (y_nil rfl) rfl rfl (gj_yes rfl rfl rfl (y_fa fa156_7 rfl) rfl rfl (gj_yes rfl rfl rfl (y_load1 Tryd.isAgg3 rfl rfl) rfl rfl (gj_yes rfl rfl rfl (y_leq rfl rfl) rfl rfl (gj_nil rfl)))))))))) ?_
    refine gj_step (y_or rfl rfl rfl) rfl rfl rfl (gj_step (y_move rfl) rfl rfl rfl (?_))
    refine gj_g 11 35 46 rfl rfl rfl rfl (fun hg35 => gj_yes rfl rfl rfl (y_move rfl) rfl rfl (gj_yes rfl rfl rfl (y_nil rfl) rfl rfl (gj_yes rfl rfl rfl (y_fa0 fa156_0 rfl) rfl rfl (gj_yes rfl rfl rfl (y_fa fa44_2 rfl) rfl rfl (gj_yes rfl rfl rfl (y_load1 Tryd.isAgg23 rfl rfl) rfl rfl (gj_yes rfl rfl rfl (y_move rfl) rfl rfl (gj_yes rfl rfl rfl (y_nil rfl) rfl rfl (gj_yes rfl rfl rfl (y_fa fa156_2 rfl) rfl rfl (gj_yes rfl rfl rfl (y_load1 Tryd.isAgg3 rfl rfl) rfl rfl (gj_yes rfl rfl rfl (y_call Tryd.call41 rfl (fun w hp => k_Seek d.closed (y.day + 1) Ac cc w hp.rd)) rfl rfl (gj_yes rfl rfl rfl (y_geq rfl rfl) rfl rfl (gj_nil rfl)))))))))))) ?_
    refine gj_step (y_or rfl rfl rfl) rfl rfl rfl (?_)
    refine gj_nil ?_
    refine ej_th ?_
    refine cj_cond rfl (fun h47 => ?_) (fun h47 => ?_)
    · have h47b := h47
      try simp only [sxb] at h47
      have hcb : countsB d y (y.day + 1) = false := not_t (hcr.symm.trans h47b)
      refine cj_exit (ej_then_exit (ej_blk_hit ?_))
      have he : stepDay d y = { y with day := y.day + 1 } := by simp [stepDay, hcb]
      rw [he] at hs hl hsh
      exact ej_nx { y with day := y.day + 1 } (by simp only; omega) ⟨hs, hsh, hl⟩ ⟨rfl, rfl, trivial⟩
    · have h47b := h47
      try simp only [sxb] at h47
      have hcb : countsB d y (y.day + 1) = true := not_f (hcr.symm.trans h47b)
      refine cj_skip (ej_th (cj_seq (cj_region ?_)))
      refine oj_step (y_move rfl) rfl rfl rfl ?_
      refine oj_step (y_nil rfl) rfl rfl rfl ?_
      refine oj_step (y_fa fa156_3 rfl) rfl rfl rfl ?_
      refine oj_step (y_load1 Tryd.isAgg3 rfl rfl) rfl rfl rfl ?_
      refine oj_step (y_add rfl rfl (by omega)) rfl rfl rfl ?_
      refine oj_step (y_nil rfl) rfl rfl rfl ?_
      refine oj_step (y_fa fa156_3 rfl) rfl rfl rfl ?_
      refine oj_store rfl rfl rfl rfl Tryd.sizeOf3 rfl ?_
      refine oj_nil ?_
      refine ej_th (cj_seq (cj_region ?_))
      refine oj_step (y_move rfl) rfl rfl rfl ?_
      refine oj_step (y_nil rfl) rfl rfl rfl ?_
      refine oj_step (y_fa fa156_1 rfl) rfl rfl rfl ?_
      refine oj_step (y_loadN Tryd.isAgg64 Tryd.sizeOf64 rfl) rfl rfl rfl ?_
      refine oj_alloc Tryd.zeroValue64 rfl rfl (fun b4 => ?_)
      refine oj_store rfl rfl rfl rfl Tryd.sizeOf64 rfl ?_
      refine oj_nil ?_
      refine ej_th (cj_seq (cj_region ?_))
      refine oj_step (y_fa fa64_3 rfl) rfl rfl rfl ?_
      refine oj_step (y_load1 Tryd.isAgg3 rfl rfl) rfl rfl rfl ?_
      refine oj_step (y_add rfl rfl (by omega)) rfl rfl rfl ?_
      refine oj_step (y_fa fa64_3 rfl) rfl rfl rfl ?_
      refine oj_store rfl rfl rfl rfl Tryd.sizeOf3 rfl ?_
      refine oj_nil ?_
      refine ej_th (cj_seq (cj_region ?_))
      refine oj_step (y_move rfl) rfl rfl rfl ?_
      refine oj_step (y_loadN Tryd.isAgg64 Tryd.sizeOf64 rfl) rfl rfl rfl ?_
      refine oj_step (y_nil rfl) rfl rfl rfl ?_
      refine oj_step (y_fa fa156_1 rfl) rfl rfl rfl ?_
      refine oj_store rfl rfl rfl rfl Tryd.sizeOf64 rfl ?_
      refine oj_nil ?_
      refine ej_th (cj_seq ?_)
      refine cj_plan 13 (by kernel_rfl) (by kernel_rfl) ?_
      refine pl_y 0 rfl (y_move rfl) rfl rfl rfl rfl (by kernel_rfl) ?_
      refine pl_y 1 rfl (y_nil rfl) rfl rfl rfl rfl (by kernel_rfl) ?_
      refine pl_y 2 rfl (y_fa fa156_5 rfl) rfl rfl rfl rfl (by kernel_rfl) ?_
      refine pl_y 3 rfl (y_load1 Tryd.isAgg3 rfl rfl) rfl rfl rfl rfl (by kernel_rfl) ?_
      refine pl_y 4 rfl (y_move rfl) rfl rfl rfl rfl (by kernel_rfl) ?_
      refine pl_y 5 rfl (y_nil rfl) rfl rfl rfl rfl (by kernel_rfl) ?_
      refine pl_y 6 rfl (y_fa fa156_1 rfl) rfl rfl rfl rfl (by kernel_rfl) ?_
      refine pl_y 7 rfl (y_fa0 fa64_0 rfl) rfl rfl rfl rfl (by kernel_rfl) ?_
      refine pl_y 8 rfl (y_load1 Tryd.isAgg3 rfl rfl) rfl rfl rfl rfl (by kernel_rfl) ?_
      refine pl_y 9 rfl (y_add rfl rfl (by omega)) rfl rfl rfl rfl (by kernel_rfl) ?_
      refine pl_y 10 rfl (y_nil rfl) rfl rfl rfl rfl (by kernel_rfl) ?_
      refine pl_y 11 rfl (y_fa fa156_5 rfl) rfl rfl rfl rfl (by kernel_rfl) ?_
      refine pl_w1 12 (by kernel_rfl) rfl rfl (pl_fire rfl rfl rfl (by kernel_rfl) ?_)
      refine oj_store rfl rfl rfl rfl Tryd.sizeOf3 rfl ?_
      refine oj_nil ?_
      refine ej_pl (lt_w (by kernel_rfl) (lt_y (y_nil rfl) rfl (lt_w (by kernel_rfl) (lt_w (by kernel_rfl) (lt_w (by kernel_rfl) (lt_w (by kernel_rfl) (lt_w (by kernel_rfl) (lt_w (by kernel_rfl) (lt_w (by kernel_rfl) (lt_w (by kernel_rfl) (lt_w (by kernel_rfl) (lt_w (by kernel_rfl) (lt_nil))))))))))))) ?_
      refine pl_end (by kernel_rfl) ?_
      refine ej_th (cj_seq ?_)
      refine cj_draw (by kernel_rfl) (by kernel_rfl) (gj_step (y_move rfl) rfl rfl rfl (gj_step (y_nil rfl) rfl rfl rfl (gj_step (y_fa fa156_3 rfl) rfl rfl rfl (gj_step (y_load1 Tryd.isAgg3 rfl rfl) rfl rfl rfl (gj_step (y_move rfl) rfl rfl rfl (gj_step (y_nil rfl) rfl rfl rfl (gj_step (y_fa0 fa156_0 rfl) rfl rfl rfl (gj_step (y_fa fa44_1 rfl) rfl rfl rfl (gj_step (y_fa fa42_1 rfl) rfl rfl rfl (gj_step (y_load1 Tryd.isAgg3 rfl rfl) rfl rfl rfl (gj_step (y_gtr rfl rfl) rfl rfl rfl (gj_nil ?_))))))))))))
      refine ej_th ?_
      refine cj_cond rfl (fun h89 => ?_) (fun h89 => ?_)
      · have h89b := h89
        try simp only [sxb] at h89
        refine cj_plan 13 (by kernel_rfl) (by kernel_rfl) ?_
        refine pl_y 0 rfl (y_move rfl) rfl rfl rfl rfl (by kernel_rfl) ?_
        refine pl_y 1 rfl (y_nil rfl) rfl rfl rfl rfl (by kernel_rfl) ?_
        refine pl_y 2 rfl (y_fa fa156_4 rfl) rfl rfl rfl rfl (by kernel_rfl) ?_
        refine pl_y 3 rfl (y_load1 Tryd.isAgg3 rfl rfl) rfl rfl rfl rfl (by kernel_rfl) ?_
        refine pl_y 4 rfl (y_move rfl) rfl rfl rfl rfl (by kernel_rfl) ?_
        refine pl_y 5 rfl (y_nil rfl) rfl rfl rfl rfl (by kernel_rfl) ?_
        refine pl_y 6 rfl (y_fa fa156_1 rfl) rfl rfl rfl rfl (by kernel_rfl) ?_
        refine pl_y 7 rfl (y_fa0 fa64_0 rfl) rfl rfl rfl rfl (by kernel_rfl) ?_
        refine pl_y 8 rfl (y_load1 Tryd.isAgg3 rfl rfl) rfl rfl rfl rfl (by kernel_rfl) ?_
        refine pl_y 9 rfl (y_add rfl rfl (by omega)) rfl rfl rfl rfl (by kernel_rfl) ?_
        refine pl_y 10 rfl (y_nil rfl) rfl rfl rfl rfl (by kernel_rfl) ?_
        refine pl_y 11 rfl (y_fa fa156_4 rfl) rfl rfl rfl rfl (by kernel_rfl) ?_
        refine pl_w1 12 (by kernel_rfl) rfl rfl (pl_fire rfl rfl rfl (by kernel_rfl) ?_)
        refine oj_store rfl rfl rfl rfl Tryd.sizeOf3 rfl ?_
        refine oj_nil ?_
        refine ej_pl (lt_w (by kernel_rfl) (lt_y (y_nil rfl) rfl (lt_w (by kernel_rfl) (lt_w (by kernel_rfl) (lt_w (by kernel_rfl) (lt_w (by kernel_rfl) (lt_w (by kernel_rfl) (lt_w (by kernel_rfl) (lt_w (by kernel_rfl) (lt_w (by kernel_rfl) (lt_w (by kernel_rfl) (lt_w (by kernel_rfl) (lt_nil))))))))))))) ?_
        refine pl_end (by kernel_rfl) ?_
        refine ej_blk ?_
        have he : stepDay d y = { y with days := y.days + 1, ag := y.ag + 1, all := y.all + y.pr, dear := y.dear + y.pr, day := y.day + 1 } := by simp [stepDay, counted, hcb, show d.tf < y.days + 1 by omega]
        rw [he] at hs hl hsh
        exact ej_nx { y with days := y.days + 1, ag := y.ag + 1, all := y.all + y.pr, dear := y.dear + y.pr, day := y.day + 1 } (by simp only; omega) ⟨hs, hsh, hl⟩ ⟨rfl, rfl, trivial⟩
      · have h89b := h89
        try simp only [sxb] at h89
        refine cj_skip (ej_blk ?_)
        have he : stepDay d y = { y with days := y.days + 1, ag := y.ag + 1, all := y.all + y.pr, day := y.day + 1 } := by simp [stepDay, counted, hcb, show ¬ d.tf < y.days + 1 by omega]
        rw [he] at hs hl hsh
        exact ej_nx { y with days := y.days + 1, ag := y.ag + 1, all := y.all + y.pr, day := y.day + 1 } (by simp only; omega) ⟨hs, hsh, hl⟩ ⟨rfl, rfl, trivial⟩
  · have h10b := h10
    try simp only [sxb] at h10
    rw [show (day - y.day).toNat = 0 by omega, goN] at hl
    subst hl
    rw [← encS_toL]
    refine cj_exit (ej_then_exit (ej_then_exit (ej_blk_hit ?_)))
    exact ej_end0 rfl Tryd.results92 (fun w' hp => ⟨rfl, hp.mut, hp.own1⟩)

theorem k_rbegin (d : Deal) (Ac : Option Addr) (cc : Nat) (w : World)  : Calls Tryd.prog 90 #[.agg #[.int .i64 d.lr, .int .i64 d.lc, .int .i64 d.tr, .int .i64 d.tf, .int .i64 d.te, .int .i64 d.tt, .int .i64 d.tg, .slice Ac d.closed.length cc, .int .i64 d.start, .int .i64 d.sum]] w (fun e w' => ∃ i : Nat, e = .returned (.pointer (some ⟨i, 0, none⟩)) ∧ Grow w w' ∧ (∀ g ∈ [ownB i (cellsB 156 (encS d Ac cc (openL d) 0 0))], g.P w' ∧ ∀ b, g.fp b → w.heap.size ≤ b ∧ b < w'.heap.size) ∧ [ownB i (cellsB 156 (encS d Ac cc (openL d) 0 0))].Pairwise (fun f g => ∀ b, f.fp b → ¬ g.fp b) ∧ (∀ g ∈ ([] : List Fact), g.P w' ∧ ∀ b, g.fp b → w.heap.size ≤ b ∧ b < w'.heap.size ∧ ∀ o ∈ [ownB i (cellsB 156 (encS d Ac cc (openL d) 0 0))], ¬ o.fp b)) := by
  refine enter_pure (args := [.agg #[.int .i64 d.lr, .int .i64 d.lc, .int .i64 d.tr, .int .i64 d.tf, .int .i64 d.te, .int .i64 d.tt, .int .i64 d.tg, .slice Ac d.closed.length cc, .int .i64 d.start, .int .i64 d.sum]]) [] Tryd.func90 rfl (by rw [Tryd.ntmps90]; simp) (by simp) ?_
  refine cj_seq (cj_region ?_)
  refine oj_box rfl rfl rfl (fun b1 => ?_)
  refine oj_step (y_assign rfl) rfl rfl rfl ?_
  refine oj_nil ?_
  refine ej_th (cj_seq (cj_region ?_))
  refine oj_step (y_loadN Tryd.isAgg44 Tryd.sizeOf44 rfl) rfl rfl rfl ?_
  refine oj_step (y_fa fa44_4 rfl) rfl rfl rfl ?_
  refine oj_step (y_load1 Tryd.isAgg3 rfl rfl) rfl rfl rfl ?_
  refine oj_step (y_build (cs := [.int .i64 d.sum, .int .i64 0, .int .i64 0, .int .i64 0, .bool true]) st64 rfl (by kernel_rfl)) rfl rfl rfl ?_
  refine oj_step (y_fa fa44_3 rfl) rfl rfl rfl ?_
  refine oj_step (y_load1 Tryd.isAgg3 rfl rfl) rfl rfl rfl ?_
  refine oj_step (y_build (cs := [.int .i64 d.lr, .int .i64 d.lc, .int .i64 d.tr, .int .i64 d.tf, .int .i64 d.te, .int .i64 d.tt, .int .i64 d.tg, .slice Ac d.closed.length cc, .int .i64 d.start, .int .i64 d.sum, .int .i64 d.sum, .int .i64 0, .int .i64 0, .int .i64 0, .bool true, .int .i64 d.start, .int .i64 0, .int .i64 0, .int .i64 0, .int .i64 0, .int .i64 0]) st156 rfl (by kernel_rfl)) rfl rfl rfl ?_
  refine oj_box rfl rfl rfl (fun b10 => ?_)
  refine oj_step (y_assign rfl) rfl rfl rfl ?_
  refine oj_nil ?_
  refine ej_th (cj_ret ?_)
  exact ej_ret1 rfl Tryd.results90 rfl (fun w' hp => ⟨b10, rfl, hp.below, fun g hg => by
    simp only [List.mem_singleton] at hg
    subst hg
    exact hp.newB, List.pairwise_singleton .., by simp⟩)

theorem k_ract (d : Deal) (Ac : Option Addr) (cc : Nat) (x : Ln) (ren hr : Int) (b : Nat) (a : Act1) (w : World) (hob : w.heap[b]? = some (cellsB 156 (encS d Ac cc x ren hr))) (hc : RdX w b 1 enInt Ac d.closed) (hd : DealOk d) (hx : LOk x) (hrs : RS d x ren hr) (hren : ren ≤ 40) (hok : okKind a.kind a.n = true) (hday : a.day ≤ 36500) : Calls Tryd.prog 91 #[.pointer (some ⟨b, 0, none⟩), .agg #[.int .i64 a.day, .int .i64 a.kind, .int .i64 a.n]] w (fun e w' => ∃ p : Ln × Int × Int, e = .returned (.int .i64 (actR d x a)) ∧ Mut (ownB b (cellsB 156 (encS d Ac cc x ren hr))) w w' ∧ w'.heap[b]? = some (cellsB 156 (encS d Ac cc p.1 p.2.1 p.2.2)) ∧ (actR d x a = 0 → p.1 = actL d (toL d x a.day) a ∧ RS d p.1 p.2.1 p.2.2 ∧ p.2.1 ≤ ren + 1)) := by
  have htt := hd.tt
  have htg := hd.tg
  have hfb := fees_bd hd hrs
  have hrn := hrs.ren
  have hty := toL_ok hd hx hday
  have hts := hrs.toL a.day
  have hki := okKind_iff.1 hok
  refine enter_own (args := [.pointer (some ⟨b, 0, none⟩), .agg #[.int .i64 a.day, .int .i64 a.kind, .int .i64 a.n]]) b (cellsB 156 (encS d Ac cc x ren hr)) [sl (fun i => i < w.heap.size ∧ i ≠ b) 1 enInt Ac d.closed] Tryd.func91 rfl (by rw [Tryd.ntmps91]; simp) hob (fun g hg => by simp at hg; subst hg; exact ⟨hc, fun _ h => h⟩) ?_
  refine cj_seq (cj_region ?_)
  refine oj_box rfl rfl rfl (fun b3 => ?_)
  refine oj_step (y_assign rfl) rfl rfl rfl ?_
  refine oj_nil ?_
  refine ej_th (cj_seq (cj_region ?_))
  refine oj_step (y_move rfl) rfl rfl rfl ?_
  refine oj_step (y_fa0 fa68_0 rfl) rfl rfl rfl ?_
  refine oj_step (y_load1 Tryd.isAgg3 rfl rfl) rfl rfl rfl ?_
  refine oj_callM (X := Unit) (b := b) (fun _ => .tuple #[]) (fun _ => cellsB 156 (encS d Ac cc (toL d x a.day) ren hr)) Tryd.call92 rfl (fun w hp => (k_rto d Ac cc x ren hr b a.day w hp.own1 hp.rdX hx hrs.held hday).mono (fun e w2 ⟨h1, h2, h3⟩ => ⟨(), h1, h2, h3⟩)) rfl (fun _ => ?_)
  have hA : actR d x a = if overB d (toL d x a.day) then 25 else actE d (toL d x a.day) a := rfl
  obtain ⟨y, hy⟩ : ∃ y, y = toL d x a.day := ⟨_, rfl⟩
  rw [← hy] at hty hts hA ⊢
  obtain ⟨g1, g2, g3, g4, g5, g6, g7, g8, g9⟩ := id hty
  have hfy := hts.fees
  refine oj_nil ?_
  refine ej_th (cj_seq (cj_seq ?_))
  refine cj_draw (by kernel_rfl) (by kernel_rfl) (gj_step (y_move rfl) rfl rfl rfl (gj_step (y_nil rfl) rfl rfl rfl (gj_step (y_fa fa156_1 rfl) rfl rfl rfl (gj_step (y_fa fa64_3 rfl) rfl rfl rfl (gj_step (y_load1 Tryd.isAgg3 rfl rfl) rfl rfl rfl (gj_step (y_move rfl) rfl rfl rfl (gj_step (y_nil rfl) rfl rfl rfl (gj_step (y_fa0 fa156_0 rfl) rfl rfl rfl (gj_step (y_fa fa44_1 rfl) rfl rfl rfl (gj_step (y_fa fa42_3 rfl) rfl rfl rfl (gj_step (y_load1 Tryd.isAgg3 rfl rfl) rfl rfl rfl (gj_step (y_move rfl) rfl rfl rfl (gj_step (y_nil rfl) rfl rfl rfl (gj_step (y_fa0 fa156_0 rfl) rfl rfl rfl (gj_step (y_fa fa44_1 rfl) rfl rfl rfl (gj_step (y_fa fa42_4 rfl) rfl rfl rfl (gj_step (y_load1 Tryd.isAgg3 rfl rfl) rfl rfl rfl (gj_step (y_add rfl rfl (by omega)) rfl rfl rfl (gj_step (y_gtr rfl rfl) rfl rfl rfl (gj_nil ?_))))))))))))))))))))
  refine ej_th ?_
  refine cj_cond rfl (fun h30 => ?_) (fun h30 => ?_)
  · have h30b := h30
    try simp only [sxb] at h30
    refine cj_seq ?_
    refine cj_regionG (gj_step (y_assign rfl) rfl rfl rfl (gj_nil ?_))
    refine ej_th (cj_ret (ej_then_ret ?_))
    have hE : actR d x a = 25 := by rw [hA, if_pos (by exact decide_eq_true h30)]
    exact ej_ret1 rfl Tryd.results91 rfl (fun w' hp => ⟨(y, ren, hr), by rw [hE], hp.mut, hp.own1, fun h => by rw [hE] at h; exact absurd h (by decide)⟩)
  · have h30b := h30
    try simp only [sxb] at h30
    have hov : overB d y = false := decide_eq_false (by omega)
    refine cj_skip (ej_th (cj_seq (cj_region ?_)))
    refine oj_step (y_move rfl) rfl rfl rfl ?_
    refine oj_step (y_nil rfl) rfl rfl rfl ?_
    refine oj_step (y_fa fa156_1 rfl) rfl rfl rfl ?_
    refine oj_step (y_loadN Tryd.isAgg64 Tryd.sizeOf64 rfl) rfl rfl rfl ?_
    refine oj_alloc Tryd.zeroValue64 rfl rfl (fun b5 => ?_)
    refine oj_store rfl rfl rfl rfl Tryd.sizeOf64 rfl ?_
    refine oj_nil ?_
    refine ej_th (cj_seq ?_)
    refine cj_draw (by kernel_rfl) (by kernel_rfl) ?_
    refine gj_step (y_move rfl) rfl rfl rfl (?_)
    refine gj_step (y_call Tryd.call93 rfl (fun w hp => k_rchargeC d Ac cc y ren hr b w hp.own1 hd hty hts)) rfl rfl rfl ?_
    refine gj_step (y_fa fa64_2 rfl) rfl rfl rfl (gj_step (y_load1 Tryd.isAgg3 rfl rfl) rfl rfl rfl (gj_step (y_sub rfl rfl (by omega)) rfl rfl rfl (gj_step (y_assign rfl) rfl rfl rfl (?_))))
    refine gj_nil ?_
    refine ej_th (cj_seq (cj_seq ?_))
    refine cj_regionG (gj_step (y_fa fa68_1 rfl) rfl rfl rfl (gj_step (y_load1 Tryd.isAgg3 rfl rfl) rfl rfl rfl (gj_nil ?_)))
    refine ej_th (cj_block (cj_seq ?_))
    refine cj_regionG (gj_step (y_eql rfl rfl) rfl rfl rfl (gj_step (y_assign rfl) rfl rfl rfl (gj_nil ?_)))
    refine ej_th ?_
    refine cj_cond rfl (fun h47 => ?_) (fun h47 => ?_)
    · have h47b := h47
      try simp only [sxb] at h47
      refine cj_seq (cj_seq ?_)
      refine cj_regionG (gj_step (y_fa fa68_2 rfl) rfl rfl rfl (gj_step (y_load1 Tryd.isAgg3 rfl rfl) rfl rfl rfl (gj_step (y_move rfl) rfl rfl rfl (gj_step (y_fa0 fa64_0 rfl) rfl rfl rfl (gj_step (y_load1 Tryd.isAgg3 rfl rfl) rfl rfl rfl (gj_step (y_add rfl rfl (by omega)) rfl rfl rfl (gj_step (y_geq rfl rfl) rfl rfl rfl (gj_nil ?_))))))))
      refine ej_th ?_
      refine cj_cond rfl (fun h55 => ?_) (fun h55 => ?_)
      · have h55b := h55
        try simp only [sxb] at h55
        have hE6 : payE y a.n = 6 := by unfold payE; rw [if_pos (by omega)]
        refine cj_seq ?_
        refine cj_regionG (gj_step (y_assign rfl) rfl rfl rfl (gj_nil ?_))
        refine ej_th (cj_ret (ej_then_ret (ej_blk_ret (ej_then_ret ?_))))
        have hE : actR d x a = 6 := by rw [hA, if_neg (by rw [hov]; simp)]; unfold actE; rw [if_pos h47, hE6]
        exact ej_ret1 rfl Tryd.results91 rfl (fun w' hp => ⟨(y, ren, hr), by rw [hE], hp.mut, hp.own1, fun h => by rw [hE] at h; exact absurd h (by decide)⟩)
      · have h55b := h55
        try simp only [sxb] at h55
        have hE0 : payE y a.n = 0 := by unfold payE; rw [if_neg (by omega)]
        have hpl : payL y a.n = { y with pd := y.pd + min a.n (y.ch - y.pd), pr := y.pr - (a.n - min a.n (y.ch - y.pd)) } := by unfold payL; rw [if_neg (by omega)]; simp only [Ln.mk.injEq, and_true]; omega
        refine cj_skip (ej_th (cj_seq ?_))
        refine cj_regionG (gj_step (y_fa fa68_2 rfl) rfl rfl rfl (gj_step (y_load1 Tryd.isAgg3 rfl rfl) rfl rfl rfl (gj_step (y_move rfl) rfl rfl rfl (gj_step (y_min rfl rfl) rfl rfl rfl (gj_step (y_assign rfl) rfl rfl rfl (gj_nil ?_))))))
        refine ej_th ?_
        refine cj_plan 15 (by kernel_rfl) (by kernel_rfl) ?_
        refine pl_y 0 rfl (y_fa fa64_2 rfl) rfl rfl rfl rfl (by kernel_rfl) ?_
        refine pl_y 1 rfl (y_load1 Tryd.isAgg3 rfl rfl) rfl rfl rfl rfl (by kernel_rfl) ?_
        refine pl_y 2 rfl (y_move rfl) rfl rfl rfl rfl (by kernel_rfl) ?_
        refine pl_y 3 rfl (y_add rfl rfl (by omega)) rfl rfl rfl rfl (by kernel_rfl) ?_
        refine pl_y 4 rfl (y_fa0 fa64_0 rfl) rfl rfl rfl rfl (by kernel_rfl) ?_
        refine pl_y 5 rfl (y_load1 Tryd.isAgg3 rfl rfl) rfl rfl rfl rfl (by kernel_rfl) ?_
        refine pl_y 6 rfl (y_fa fa68_2 rfl) rfl rfl rfl rfl (by kernel_rfl) ?_
        refine pl_y 7 rfl (y_load1 Tryd.isAgg3 rfl rfl) rfl rfl rfl rfl (by kernel_rfl) ?_
        refine pl_y 8 rfl (y_move rfl) rfl rfl rfl rfl (by kernel_rfl) ?_
        refine pl_y 9 rfl (y_sub rfl rfl (by omega)) rfl rfl rfl rfl (by kernel_rfl) ?_
        refine pl_y 10 rfl (y_sub rfl rfl (by omega)) rfl rfl rfl rfl (by kernel_rfl) ?_
        refine pl_y 11 rfl (y_fa fa64_2 rfl) rfl rfl rfl rfl (by kernel_rfl) ?_
        refine pl_w1 12 (by kernel_rfl) rfl rfl (pl_fire rfl rfl rfl (by kernel_rfl) ?_)
        refine oj_store rfl rfl rfl rfl Tryd.sizeOf3 rfl ?_
        refine oj_nil ?_
        refine ej_pl (lt_w (by kernel_rfl) (lt_y (y_sub rfl rfl (by omega)) rfl (lt_y (y_sub rfl rfl (by omega)) rfl (lt_y (y_move rfl) rfl (lt_y (y_load1 Tryd.isAgg3 rfl rfl) rfl (lt_y (y_fa fa68_2 rfl) rfl (lt_w (by kernel_rfl) (lt_w (by kernel_rfl) (lt_w (by kernel_rfl) (lt_w (by kernel_rfl) (lt_w (by kernel_rfl) (lt_w (by kernel_rfl) (lt_nil))))))))))))) ?_
        refine pl_y 13 rfl (y_fa0 fa64_0 rfl) rfl rfl rfl rfl (by kernel_rfl) ?_
        refine pl_w1 14 (by kernel_rfl) rfl rfl (pl_fire rfl rfl rfl (by kernel_rfl) ?_)
        refine oj_store rfl rfl rfl rfl Tryd.sizeOf3 rfl ?_
        refine oj_nil ?_
        refine ej_pl (lt_w (by kernel_rfl) (lt_w (by kernel_rfl) (lt_w (by kernel_rfl) (lt_w (by kernel_rfl) (lt_w (by kernel_rfl) (lt_w (by kernel_rfl) (lt_w (by kernel_rfl) (lt_w (by kernel_rfl) (lt_w (by kernel_rfl) (lt_w (by kernel_rfl) (lt_w (by kernel_rfl) (lt_w (by kernel_rfl) (lt_w (by kernel_rfl) (lt_nil)))))))))))))) ?_
        refine pl_end (by kernel_rfl) ?_
        refine ej_blk (ej_th (cj_seq (cj_region ?_)))
        refine oj_step (y_move rfl) rfl rfl rfl ?_
        refine oj_step (y_loadN Tryd.isAgg64 Tryd.sizeOf64 rfl) rfl rfl rfl ?_
        refine oj_step (y_nil rfl) rfl rfl rfl ?_
        refine oj_step (y_fa fa156_1 rfl) rfl rfl rfl ?_
        refine oj_store rfl rfl rfl rfl Tryd.sizeOf64 rfl ?_
        refine oj_nil ?_
        refine ej_th (cj_seq ?_)
        refine cj_regionG (gj_step (y_assign rfl) rfl rfl rfl (gj_nil ?_))
        refine ej_th (cj_ret ?_)
        have hE : actR d x a = 0 := by rw [hA, if_neg (by rw [hov]; simp)]; unfold actE; rw [if_pos h47, hE0]
        have hP : ({ y with pd := y.pd + min a.n (y.ch - y.pd), pr := y.pr - (a.n - min a.n (y.ch - y.pd)) } : Ln) = actL d y a := by unfold actL; rw [if_pos h47, hpl]
        have hR : RS d { y with pd := y.pd + min a.n (y.ch - y.pd), pr := y.pr - (a.n - min a.n (y.ch - y.pd)) } ren hr := ⟨hts.ch.trans (charge_congr rfl rfl rfl), hts.fees, hts.ren, hts.held⟩
        exact ej_ret1 rfl Tryd.results91 rfl (fun w' hp => ⟨({ y with pd := y.pd + min a.n (y.ch - y.pd), pr := y.pr - (a.n - min a.n (y.ch - y.pd)) }, ren, hr), by rw [hE], hp.mut, hp.own1, fun _ => ⟨hP, hR, by simp only; omega⟩⟩)
    · have h47b := h47
      try simp only [sxb] at h47
      refine cj_seq ?_
      refine cj_regionG (gj_step (y_eql rfl rfl) rfl rfl rfl (gj_step (y_assign rfl) rfl rfl rfl (gj_nil ?_)))
      refine ej_th ?_
      refine cj_cond rfl (fun h73 => ?_) (fun h73 => ?_)
      · have h73b := h73
        try simp only [sxb] at h73
        refine cj_seq (cj_region ?_)
        refine oj_step (y_move rfl) rfl rfl rfl ?_
        refine oj_step (y_nil rfl) rfl rfl rfl ?_
        refine oj_step (y_fa fa156_6 rfl) rfl rfl rfl ?_
        refine oj_step (y_load1 Tryd.isAgg3 rfl rfl) rfl rfl rfl ?_
        refine oj_step (y_add rfl rfl (by omega)) rfl rfl rfl ?_
        refine oj_step (y_nil rfl) rfl rfl rfl ?_
        refine oj_step (y_fa fa156_6 rfl) rfl rfl rfl ?_
        refine oj_store rfl rfl rfl rfl Tryd.sizeOf3 rfl ?_
        refine oj_nil ?_
        refine ej_th (cj_region ?_)
        refine oj_step (y_move rfl) rfl rfl rfl ?_
        refine oj_step (y_call Tryd.call93 rfl (fun w hp => k_rcharge d Ac cc (feeL d y) (ren + 1) hr b w (show w.heap[b]? = some (cellsB 156 (encS d Ac cc y (ren + 1) hr)) from hp.own1) hd (feeL_ok hd hty (by omega)) (by show y.fees + d.te = _; rw [hfy, Int.add_mul, Int.one_mul]))) rfl rfl rfl ?_
        refine oj_step (y_fa fa64_2 rfl) rfl rfl rfl ?_
        refine oj_store rfl rfl rfl rfl Tryd.sizeOf3 rfl ?_
        refine oj_step (y_fa fa64_3 rfl) rfl rfl rfl ?_
        refine oj_store rfl rfl rfl rfl Tryd.sizeOf3 rfl ?_
        refine oj_nil ?_
        refine ej_blk (ej_th (cj_seq (cj_region ?_)))
        refine oj_step (y_move rfl) rfl rfl rfl ?_
        refine oj_step (y_loadN Tryd.isAgg64 Tryd.sizeOf64 rfl) rfl rfl rfl ?_
        refine oj_step (y_nil rfl) rfl rfl rfl ?_
        refine oj_step (y_fa fa156_1 rfl) rfl rfl rfl ?_
        refine oj_store rfl rfl rfl rfl Tryd.sizeOf64 rfl ?_
        refine oj_nil ?_
        refine ej_th (cj_seq ?_)
        refine cj_regionG (gj_step (y_assign rfl) rfl rfl rfl (gj_nil ?_))
        refine ej_th (cj_ret ?_)
        have hE : actR d x a = 0 := by rw [hA, if_neg (by rw [hov]; simp)]; unfold actE; rw [if_neg (by omega), if_neg (by omega)]
        have hP : renewL d y = actL d y a := by unfold actL; rw [if_neg (by omega), if_pos h73]
        have hR : RS d (renewL d y) (ren + 1) hr := ⟨renew_ch d y, by show y.fees + d.te = _; rw [hfy, Int.add_mul, Int.one_mul], by omega, hts.held⟩
        exact ej_ret1 rfl Tryd.results91 rfl (fun w' hp => ⟨(renewL d y, ren + 1, hr), by rw [hE], hp.mut, hp.own1, fun _ => ⟨hP, hR, by simp only; omega⟩⟩)
      · have h73b := h73
        try simp only [sxb] at h73
        refine cj_seq ?_
        refine cj_regionG (gj_step (y_eql rfl rfl) rfl rfl rfl (gj_step (y_assign rfl) rfl rfl rfl (gj_nil ?_)))
        refine ej_th ?_
        refine cj_cond rfl (fun h86 => ?_) (fun h86 => ?_)
        · have h86b := h86
          try simp only [sxb] at h86
          refine cj_seq (cj_seq ?_)
          refine cj_draw (by kernel_rfl) (by kernel_rfl) (gj_step (y_move rfl) rfl rfl rfl (gj_step (y_nil rfl) rfl rfl rfl (gj_step (y_fa fa156_7 rfl) rfl rfl rfl (gj_step (y_load1 Tryd.isAgg3 rfl rfl) rfl rfl rfl (gj_step (y_move rfl) rfl rfl rfl (gj_step (y_nil rfl) rfl rfl rfl (gj_step (y_fa fa156_2 rfl) rfl rfl rfl (gj_step (y_load1 Tryd.isAgg3 rfl rfl) rfl rfl rfl (gj_step (y_gtr rfl rfl) rfl rfl rfl (gj_nil ?_))))))))))
          refine ej_th ?_
          refine cj_cond rfl (fun h96 => ?_) (fun h96 => ?_)
          · have h96b := h96
            try simp only [sxb] at h96
            refine cj_seq ?_
            refine cj_regionG (gj_step (y_assign rfl) rfl rfl rfl (gj_nil ?_))
            refine ej_th (cj_ret (ej_then_ret (ej_blk_ret (ej_then_ret ?_))))
            have hhd : y.day + 1 ≤ y.held := by have := hts.held; unfold HR at this; omega
            have hE : actR d x a = 26 := by rw [hA, if_neg (by rw [hov]; simp)]; unfold actE holdE; rw [if_neg (by omega), if_pos h86, if_pos hhd]
            exact ej_ret1 rfl Tryd.results91 rfl (fun w' hp => ⟨(y, ren, hr), by rw [hE], hp.mut, hp.own1, fun h => by rw [hE] at h; exact absurd h (by decide)⟩)
          · have h96b := h96
            try simp only [sxb] at h96
            refine cj_skip (ej_th ?_)
            refine cj_plan 11 (by kernel_rfl) (by kernel_rfl) ?_
            refine pl_y 0 rfl (y_move rfl) rfl rfl rfl rfl (by kernel_rfl) ?_
            refine pl_y 1 rfl (y_move rfl) rfl rfl rfl rfl (by kernel_rfl) ?_
            refine pl_y 2 rfl (y_nil rfl) rfl rfl rfl rfl (by kernel_rfl) ?_
            refine pl_y 3 rfl (y_fa fa156_2 rfl) rfl rfl rfl rfl (by kernel_rfl) ?_
            refine pl_y 4 rfl (y_load1 Tryd.isAgg3 rfl rfl) rfl rfl rfl rfl (by kernel_rfl) ?_
            refine pl_y 5 rfl (y_fa fa68_2 rfl) rfl rfl rfl rfl (by kernel_rfl) ?_
            refine pl_y 6 rfl (y_load1 Tryd.isAgg3 rfl rfl) rfl rfl rfl rfl (by kernel_rfl) ?_
            refine pl_y 7 rfl (y_add rfl rfl (by omega)) rfl rfl rfl rfl (by kernel_rfl) ?_
            refine pl_y 8 rfl (y_nil rfl) rfl rfl rfl rfl (by kernel_rfl) ?_
            refine pl_y 9 rfl (y_fa fa156_7 rfl) rfl rfl rfl rfl (by kernel_rfl) ?_
            refine pl_w1 10 (by kernel_rfl) rfl rfl (pl_fire rfl rfl rfl (by kernel_rfl) ?_)
            refine oj_store rfl rfl rfl rfl Tryd.sizeOf3 rfl ?_
            refine oj_nil ?_
            refine ej_pl (lt_w (by kernel_rfl) (lt_y (y_nil rfl) rfl (lt_w (by kernel_rfl) (lt_w (by kernel_rfl) (lt_w (by kernel_rfl) (lt_w (by kernel_rfl) (lt_w (by kernel_rfl) (lt_w (by kernel_rfl) (lt_w (by kernel_rfl) (lt_w (by kernel_rfl) (lt_nil))))))))))) ?_
            refine pl_end (by kernel_rfl) ?_
            refine ej_blk (ej_th (cj_seq (cj_region ?_)))
            refine oj_step (y_move rfl) rfl rfl rfl ?_
            refine oj_step (y_loadN Tryd.isAgg64 Tryd.sizeOf64 rfl) rfl rfl rfl ?_
            refine oj_step (y_nil rfl) rfl rfl rfl ?_
            refine oj_step (y_fa fa156_1 rfl) rfl rfl rfl ?_
            refine oj_store rfl rfl rfl rfl Tryd.sizeOf64 rfl ?_
            refine oj_nil ?_
            refine ej_th (cj_seq ?_)
            refine cj_regionG (gj_step (y_assign rfl) rfl rfl rfl (gj_nil ?_))
            refine ej_th (cj_ret ?_)
            have hhd : ¬ y.day + 1 ≤ y.held := by have := hts.held; unfold HR at this; omega
            have hE : actR d x a = 0 := by rw [hA, if_neg (by rw [hov]; simp)]; unfold actE holdE; rw [if_neg (by omega), if_pos h86, if_neg hhd]
            have hP : ({ y with held := y.day + a.n } : Ln) = actL d y a := by unfold actL holdL; rw [if_neg (by omega), if_neg (by omega), if_pos h86, if_neg hhd]
            have hR : RS d { y with held := y.day + a.n } ren (y.day + a.n) := ⟨hts.ch.trans (charge_congr rfl rfl rfl), hts.fees, hts.ren, .inl rfl⟩
            exact ej_ret1 rfl Tryd.results91 rfl (fun w' hp => ⟨({ y with held := y.day + a.n }, ren, y.day + a.n), by rw [hE], hp.mut, hp.own1, fun _ => ⟨hP, hR, by simp only; omega⟩⟩)
        · have h86b := h86
          try simp only [sxb] at h86
          refine cj_region ?_
          refine oj_step (y_move rfl) rfl rfl rfl ?_
          refine oj_step (y_call Tryd.call93 rfl (fun w hp => k_rchargeC d Ac cc y ren hr b w hp.own1 hd hty hts)) rfl rfl rfl ?_
          refine oj_step (y_fa fa64_2 rfl) rfl rfl rfl ?_
          refine oj_store rfl rfl rfl rfl Tryd.sizeOf3 rfl ?_
          refine oj_step (y_fa0 fa64_0 rfl) rfl rfl rfl ?_
          refine oj_store rfl rfl rfl rfl Tryd.sizeOf3 rfl ?_
          refine oj_step (y_fa fa64_4 rfl) rfl rfl rfl ?_
          refine oj_store rfl rfl rfl rfl Tryd.sizeOf4 rfl ?_
          refine oj_nil ?_
          refine ej_blk (ej_th (cj_seq (cj_region ?_)))
          refine oj_step (y_move rfl) rfl rfl rfl ?_
          refine oj_step (y_loadN Tryd.isAgg64 Tryd.sizeOf64 rfl) rfl rfl rfl ?_
          refine oj_step (y_nil rfl) rfl rfl rfl ?_
          refine oj_step (y_fa fa156_1 rfl) rfl rfl rfl ?_
          refine oj_store rfl rfl rfl rfl Tryd.sizeOf64 rfl ?_
          refine oj_nil ?_
          refine ej_th (cj_seq ?_)
          refine cj_regionG (gj_step (y_assign rfl) rfl rfl rfl (gj_nil ?_))
          refine ej_th (cj_ret ?_)
          have hE : actR d x a = 0 := by rw [hA, if_neg (by rw [hov]; simp)]; unfold actE; rw [if_neg (by omega), if_neg (by omega)]
          have hP : redeemL y = actL d y a := by unfold actL; rw [if_neg (by omega), if_neg (by omega), if_neg (by omega)]
          have hR : RS d (redeemL y) ren hr := ⟨redeem_ch hts.ch, hts.fees, hts.ren, hts.held⟩
          exact ej_ret1 rfl Tryd.results91 rfl (fun w' hp => ⟨(redeemL y, ren, hr), by rw [hE], hp.mut, hp.own1, fun _ => ⟨hP, hR, by simp only; omega⟩⟩)

theorem k_racts (d : Deal) (Ac : Option Addr) (cc : Nat) (l : List Act1) (Al : Option Addr) (cl : Nat) (w : World) (hc : Rd w 1 enInt Ac d.closed) (hl0 : Rd w 3 encAct Al l) : Calls Tryd.prog 89 #[.agg #[.int .i64 d.lr, .int .i64 d.lc, .int .i64 d.tr, .int .i64 d.tf, .int .i64 d.te, .int .i64 d.tt, .int .i64 d.tg, .slice Ac d.closed.length cc, .int .i64 d.start, .int .i64 d.sum], .slice Al l.length cl] w (fun e w' => e = .returned (.bool (actsOk d l)) ∧ Grow w w') := by
  have hlen := hl0.len
  refine enter_pure (args := [.agg #[.int .i64 d.lr, .int .i64 d.lc, .int .i64 d.tr, .int .i64 d.tf, .int .i64 d.te, .int .i64 d.tt, .int .i64 d.tg, .slice Ac d.closed.length cc, .int .i64 d.start, .int .i64 d.sum], .slice Al l.length cl]) [sl (fun b => b < w.heap.size) 1 enInt Ac d.closed, sl (fun b => b < w.heap.size) 3 encAct Al l] Tryd.func89 rfl (by rw [Tryd.ntmps89]; simp) (fun g hg => by simp at hg; rcases hg with rfl | rfl; exact ⟨hc, fun _ h => h⟩; exact ⟨hl0, fun _ h => h⟩) ?_
  refine cj_seq (cj_region ?_)
  refine oj_box rfl rfl rfl (fun b2 => ?_)
  refine oj_step (y_assign rfl) rfl rfl rfl ?_
  refine oj_nil ?_
  refine ej_th (cj_seq ?_)
  refine cj_regionG (gj_step (y_fa fa44_3 rfl) rfl rfl rfl (gj_step (y_load1 Tryd.isAgg3 rfl rfl) rfl rfl rfl (gj_step (y_assign rfl) rfl rfl rfl (gj_nil ?_))))
  refine ej_th (cj_seq (cj_seq ?_))
  refine cj_regionG (gj_step (y_assign rfl) rfl rfl rfl (gj_nil ?_))
  refine ej_th (cj_block ?_)
  refine cj_lpic (X := Nat × Int) [(1, _)] (fun ⟨k, last⟩ => k ≤ l.length ∧ actsF last (pkOf l k) (l.drop k) = actsF d.start 0 l) (fun ⟨k, last⟩ => [(5, .int .i64 last), (6, .int .i64 k)]) (fun ⟨k, last⟩ => l.length - k) (0, d.start) (⟨Nat.zero_le _, rfl⟩) ⟨rfl, rfl, rfl, trivial⟩ ?_
  rintro ⟨k, last⟩ ⟨hk, hl⟩
  dsimp only [List.cons_append, List.nil_append]
  refine cj_seq (cj_seq ?_)
  refine cj_regionG (gj_step (y_move rfl) rfl rfl rfl (gj_step (y_move rfl) rfl rfl rfl (gj_step (y_lenA Tryd.underlying69 rfl) rfl rfl rfl (gj_step (y_lss rfl rfl) rfl rfl rfl (gj_nil ?_)))))
  refine ej_th ?_
  refine cj_cond rfl (fun h13 => ?_) (fun h13 => ?_)
  · have h13b := h13
    try simp only [sxb] at h13
    obtain ⟨a, hx⟩ : ∃ a, l[k]? = some a := ⟨_, List.getElem?_eq_getElem (by omega)⟩
    rw [actsF_drop l k a last hx] at hl
    refine cj_skip (ej_th (cj_seq (cj_block (cj_seq (cj_region ?_)))))
    refine oj_step (y_move rfl) rfl rfl rfl ?_
    refine oj_step (y_move rfl) rfl rfl rfl ?_
    refine oj_step (y_ixR (reads_sl) Tryd.underlying69 Tryd.sizeOf68 rfl rfl (⟨by omega, by omega⟩)) rfl rfl rfl ?_
    refine oj_step (y_ldW (reads_sl) Tryd.isAgg68 Tryd.sizeOf68 rfl (hx) (fun _ => rfl)) rfl rfl rfl ?_
    refine oj_alloc Tryd.zeroValue68 rfl rfl (fun b7 => ?_)
    refine oj_store rfl rfl rfl rfl Tryd.sizeOf68 rfl ?_
    refine oj_nil ?_
    refine ej_th (cj_seq (cj_seq ?_))
    refine cj_regionG ?_
    refine gj_step (y_move rfl) rfl rfl rfl (gj_step (y_fa0 fa68_0 rfl) rfl rfl rfl (gj_step (y_load1 Tryd.isAgg3 rfl rfl) rfl rfl rfl (?_)))
    refine gj_step (y_call Tryd.call26 rfl (fun w hp => k_From _ _ _ w)) rfl rfl rfl ?_
    refine gj_step (y_not rfl) rfl rfl rfl (gj_step (y_move rfl) rfl rfl rfl (?_))
    refine gj_g 11 25 36 rfl rfl rfl rfl (fun hg25 => gj_yes rfl rfl rfl (y_move rfl) rfl rfl (gj_yes rfl rfl rfl (y_gtr rfl rfl) rfl rfl (gj_yes rfl rfl rfl (y_move rfl) rfl rfl (gj_g 7 28 35 rfl rfl rfl rfl (fun hg28 => gj_yes rfl rfl rfl (y_move rfl) rfl rfl (gj_yes rfl rfl rfl (y_move rfl) rfl rfl (gj_yes rfl rfl rfl (y_sub rfl rfl (by have := of_decide_eq_true hg28; omega)) rfl rfl (gj_yes rfl rfl rfl (y_ixR (reads_sl) Tryd.underlying69 Tryd.sizeOf68 rfl rfl (⟨by have := of_decide_eq_true hg28; omega, by have := of_decide_eq_true hg28; omega⟩)) rfl rfl (gj_yes rfl rfl rfl (y_faE fa68_1 rfl) rfl rfl (gj_yes rfl rfl rfl (y_ld1 (reads_sl) Tryd.isAgg3 rfl (geq default (by have := of_decide_eq_true hg28; omega)) rfl) rfl rfl (gj_yes rfl rfl rfl (y_eql rfl rfl) rfl rfl (gj_nil rfl)))))))) (gj_yes rfl rfl rfl (y_and rfl rfl rfl) rfl rfl (gj_nil rfl)))))) ?_
    refine gj_step (y_or rfl rfl rfl) rfl rfl rfl (?_)
    refine gj_nil ?_
    refine ej_th ?_
    refine cj_cond rfl (fun h37 => ?_) (fun h37 => ?_)
    · have h37b := h37
      try simp only [sxb] at h37
      have hstep : okAct last (pkOf l k) a = false := okAct_R ((act_R l k last a).symm.trans h37b)
      refine cj_seq ?_
      refine cj_regionG (gj_step (y_assign rfl) rfl rfl rfl (gj_nil ?_))
      refine ej_th (cj_ret (ej_then_ret (ej_blk_ret (ej_then_ret (ej_then_ret (ej_blk_ret (ej_then_ret ?_)))))))
      exact ej_ret1 rfl Tryd.results89 rfl (fun w' hp => ⟨by rw [actsOk, ← hl, hstep]; rfl, hp.below⟩)
    · have h37b := h37
      try simp only [sxb] at h37
      obtain ⟨hbd, hpk⟩ := okAct_S ((act_R l k last a).symm.trans h37b)
      refine cj_skip (ej_th (cj_seq ?_))
      refine cj_regionG (gj_step (y_fa0 fa68_0 rfl) rfl rfl rfl (gj_step (y_load1 Tryd.isAgg3 rfl rfl) rfl rfl rfl (gj_step (y_assign rfl) rfl rfl rfl (gj_nil ?_))))
      refine ej_th (cj_seq ?_)
      refine cj_regionG (gj_step (y_fa fa68_1 rfl) rfl rfl rfl (gj_step (y_load1 Tryd.isAgg3 rfl rfl) rfl rfl rfl (gj_nil ?_)))
      refine ej_th (cj_block (cj_seq ?_))
      refine cj_regionG (gj_step (y_eql rfl rfl) rfl rfl rfl (gj_step (y_assign rfl) rfl rfl rfl (gj_nil ?_)))
      refine ej_th ?_
      refine cj_cond rfl (fun h42 => ?_) (fun h42 => ?_)
      · have h42b := h42
        try simp only [sxb] at h42
        refine cj_seq ?_
        refine cj_regionG ?_
        refine gj_step (y_fa fa68_2 rfl) rfl rfl rfl (gj_step (y_load1 Tryd.isAgg3 rfl rfl) rfl rfl rfl (?_))
        refine gj_step (y_call Tryd.call26 rfl (fun w hp => k_From _ _ _ w)) rfl rfl rfl ?_
        refine gj_step (y_not rfl) rfl rfl rfl (?_)
        refine gj_nil ?_
        refine ej_th ?_
        refine cj_cond rfl (fun h47 => ?_) (fun h47 => ?_)
        · have h47b := h47
          try simp only [sxb] at h47
          refine cj_seq ?_
          refine cj_regionG (gj_step (y_assign rfl) rfl rfl rfl (gj_nil ?_))
          refine ej_th (cj_ret (ej_blk_ret (ej_blk_ret (ej_then_ret (ej_then_ret (ej_blk_ret (ej_then_ret ?_)))))))
          exact ej_ret1 rfl Tryd.results89 rfl (fun w' hp => ⟨by rw [actsOk, ← hl, okAct_false (by rw [okKind_iff]; omega)]; rfl, hp.below⟩)
        · have h47b := h47
          try simp only [sxb] at h47
          refine cj_skip (ej_blk (ej_blk (ej_th ?_)))
          refine cj_regionG (gj_step (y_move rfl) rfl rfl rfl (gj_step (y_add rfl rfl (by omega)) rfl rfl rfl (gj_step (y_assign rfl) rfl rfl rfl (gj_nil ?_))))
          exact ej_nx (k + 1, a.day) (by simp only; omega) ⟨by first | omega | (simp only; omega), by rw [← hl, okAct_true (okKind_iff.2 (by omega)) hbd hpk, Bool.true_and]⟩ ⟨rfl, rfl, rfl, trivial⟩
      · have h42b := h42
        try simp only [sxb] at h42
        refine cj_seq ?_
        refine cj_regionG (gj_step (y_eql rfl rfl) rfl rfl rfl (gj_step (y_assign rfl) rfl rfl rfl (gj_nil ?_)))
        refine ej_th ?_
        refine cj_cond rfl (fun h48 => ?_) (fun h48 => ?_)
        · have h48b := h48
          try simp only [sxb] at h48
          refine cj_seq ?_
          refine cj_regionG ?_
          refine gj_step (y_fa fa68_2 rfl) rfl rfl rfl (gj_step (y_load1 Tryd.isAgg3 rfl rfl) rfl rfl rfl (?_))
          refine gj_step (y_call Tryd.call26 rfl (fun w hp => k_From _ _ _ w)) rfl rfl rfl ?_
          refine gj_step (y_not rfl) rfl rfl rfl (?_)
          refine gj_nil ?_
          refine ej_th ?_
          refine cj_cond rfl (fun h53 => ?_) (fun h53 => ?_)
          · have h53b := h53
            try simp only [sxb] at h53
            refine cj_seq ?_
            refine cj_regionG (gj_step (y_assign rfl) rfl rfl rfl (gj_nil ?_))
            refine ej_th (cj_ret (ej_blk_ret (ej_blk_ret (ej_then_ret (ej_then_ret (ej_blk_ret (ej_then_ret ?_)))))))
            exact ej_ret1 rfl Tryd.results89 rfl (fun w' hp => ⟨by rw [actsOk, ← hl, okAct_false (by rw [okKind_iff]; omega)]; rfl, hp.below⟩)
          · have h53b := h53
            try simp only [sxb] at h53
            refine cj_skip (ej_blk (ej_blk (ej_th ?_)))
            refine cj_regionG (gj_step (y_move rfl) rfl rfl rfl (gj_step (y_add rfl rfl (by omega)) rfl rfl rfl (gj_step (y_assign rfl) rfl rfl rfl (gj_nil ?_))))
            exact ej_nx (k + 1, a.day) (by simp only; omega) ⟨by first | omega | (simp only; omega), by rw [← hl, okAct_true (okKind_iff.2 (by omega)) hbd hpk, Bool.true_and]⟩ ⟨rfl, rfl, rfl, trivial⟩
        · have h48b := h48
          try simp only [sxb] at h48
          refine cj_seq (cj_seq ?_)
          refine cj_regionG (gj_step (y_eql rfl rfl) rfl rfl rfl (gj_step (y_assign rfl) rfl rfl rfl (gj_nil ?_)))
          refine ej_th ?_
          refine cj_cond rfl (fun h54 => ?_) (fun h54 => ?_)
          · have h54b := h54
            try simp only [sxb] at h54
            refine cj_skip (ej_th ?_)
            refine cj_cond rfl (fun h54 => ?_) (fun h54 => ?_)
            · have h54b := h54
              try simp only [sxb] at h54
              refine cj_seq ?_
              refine cj_regionG (gj_step (y_fa fa68_2 rfl) rfl rfl rfl (gj_step (y_load1 Tryd.isAgg3 rfl rfl) rfl rfl rfl (gj_step (y_neq rfl rfl) rfl rfl rfl (gj_nil ?_))))
              refine ej_th ?_
              refine cj_cond rfl (fun h59 => ?_) (fun h59 => ?_)
              · have h59b := h59
                try simp only [sxb] at h59
                refine cj_seq ?_
                refine cj_regionG (gj_step (y_assign rfl) rfl rfl rfl (gj_nil ?_))
                refine ej_th (cj_ret (ej_blk_ret (ej_blk_ret (ej_then_ret (ej_then_ret (ej_blk_ret (ej_then_ret ?_)))))))
                exact ej_ret1 rfl Tryd.results89 rfl (fun w' hp => ⟨by rw [actsOk, ← hl, okAct_false (by rw [okKind_iff]; omega)]; rfl, hp.below⟩)
              · have h59b := h59
                try simp only [sxb] at h59
                refine cj_skip (ej_blk (ej_blk (ej_th ?_)))
                refine cj_regionG (gj_step (y_move rfl) rfl rfl rfl (gj_step (y_add rfl rfl (by omega)) rfl rfl rfl (gj_step (y_assign rfl) rfl rfl rfl (gj_nil ?_))))
                exact ej_nx (k + 1, a.day) (by simp only; omega) ⟨by first | omega | (simp only; omega), by rw [← hl, okAct_true (okKind_iff.2 (by omega)) hbd hpk, Bool.true_and]⟩ ⟨rfl, rfl, rfl, trivial⟩
            · have h54b := h54
              try simp only [sxb] at h54
              refine cj_seq ?_
              refine cj_regionG (gj_step (y_assign rfl) rfl rfl rfl (gj_nil ?_))
              refine ej_th (cj_ret (ej_blk_ret (ej_blk_ret (ej_then_ret (ej_then_ret (ej_blk_ret (ej_then_ret ?_)))))))
              exact ej_ret1 rfl Tryd.results89 rfl (fun w' hp => ⟨by rw [actsOk, ← hl, okAct_false (by rw [okKind_iff]; omega)]; rfl, hp.below⟩)
          · have h54b := h54
            try simp only [sxb] at h54
            refine cj_regionG (gj_step (y_eql rfl rfl) rfl rfl rfl (gj_step (y_assign rfl) rfl rfl rfl (gj_nil ?_)))
            refine ej_th ?_
            refine cj_cond rfl (fun h54 => ?_) (fun h54 => ?_)
            · have h54b := h54
              try simp only [sxb] at h54
              refine cj_seq ?_
              refine cj_regionG (gj_step (y_fa fa68_2 rfl) rfl rfl rfl (gj_step (y_load1 Tryd.isAgg3 rfl rfl) rfl rfl rfl (gj_step (y_neq rfl rfl) rfl rfl rfl (gj_nil ?_))))
              refine ej_th ?_
              refine cj_cond rfl (fun h59 => ?_) (fun h59 => ?_)
              · have h59b := h59
                try simp only [sxb] at h59
                refine cj_seq ?_
                refine cj_regionG (gj_step (y_assign rfl) rfl rfl rfl (gj_nil ?_))
                refine ej_th (cj_ret (ej_blk_ret (ej_blk_ret (ej_then_ret (ej_then_ret (ej_blk_ret (ej_then_ret ?_)))))))
                exact ej_ret1 rfl Tryd.results89 rfl (fun w' hp => ⟨by rw [actsOk, ← hl, okAct_false (by rw [okKind_iff]; omega)]; rfl, hp.below⟩)
              · have h59b := h59
                try simp only [sxb] at h59
                refine cj_skip (ej_blk (ej_blk (ej_th ?_)))
                refine cj_regionG (gj_step (y_move rfl) rfl rfl rfl (gj_step (y_add rfl rfl (by omega)) rfl rfl rfl (gj_step (y_assign rfl) rfl rfl rfl (gj_nil ?_))))
                exact ej_nx (k + 1, a.day) (by simp only; omega) ⟨by first | omega | (simp only; omega), by rw [← hl, okAct_true (okKind_iff.2 (by omega)) hbd hpk, Bool.true_and]⟩ ⟨rfl, rfl, rfl, trivial⟩
            · have h54b := h54
              try simp only [sxb] at h54
              refine cj_seq ?_
              refine cj_regionG (gj_step (y_assign rfl) rfl rfl rfl (gj_nil ?_))
              refine ej_th (cj_ret (ej_blk_ret (ej_blk_ret (ej_then_ret (ej_then_ret (ej_blk_ret (ej_then_ret ?_)))))))
              exact ej_ret1 rfl Tryd.results89 rfl (fun w' hp => ⟨by rw [actsOk, ← hl, okAct_false (by rw [okKind_iff]; omega)]; rfl, hp.below⟩)
  · have h13b := h13
    try simp only [sxb] at h13
    refine cj_exit (ej_then_exit (ej_then_exit (ej_blk_hit (ej_th (cj_seq ?_)))))
    refine cj_regionG (gj_step (y_move rfl) rfl rfl rfl (gj_step (y_lenA Tryd.underlying69 rfl) rfl rfl rfl (gj_step (y_leq rfl rfl) rfl rfl rfl (gj_step (y_assign rfl) rfl rfl rfl (gj_nil ?_)))))
    refine ej_th (cj_ret ?_)
    exact ej_ret1 rfl Tryd.results89 rfl (fun w' hp => ⟨by rw [List.drop_of_length_le (by omega)] at hl; rw [actsOk, ← hl]; rfl, hp.below⟩)

theorem k_rrun_no (d : Deal) (Ac : Option Addr) (cc : Nat) (l : List Act1) (Al : Option Addr) (cl : Nat) (w : World) (hc : Rd w 1 enInt Ac d.closed) (hl0 : Rd w 3 encAct Al l) (hE : RunE d l ≠ 0) : Calls Tryd.prog 70 #[.agg #[.int .i64 d.lr, .int .i64 d.lc, .int .i64 d.tr, .int .i64 d.tf, .int .i64 d.te, .int .i64 d.tt, .int .i64 d.tg, .slice Ac d.closed.length cc, .int .i64 d.start, .int .i64 d.sum], .slice Al l.length cl] w (fun e w' => e = .returned (.tuple #[.pointer none, .slice none 0 0, .int .i64 (RunN d l), .int .i64 (RunE d l)]) ∧ Grow w w') := by
  have hlen := hl0.len
  refine enter_pure (args := [.agg #[.int .i64 d.lr, .int .i64 d.lc, .int .i64 d.tr, .int .i64 d.tf, .int .i64 d.te, .int .i64 d.tt, .int .i64 d.tg, .slice Ac d.closed.length cc, .int .i64 d.start, .int .i64 d.sum], .slice Al l.length cl]) [sl (fun b => b < w.heap.size) 1 enInt Ac d.closed, sl (fun b => b < w.heap.size) 3 encAct Al l] Tryd.func70 rfl (by rw [Tryd.ntmps70]; simp) (fun g hg => by simp at hg; rcases hg with rfl | rfl; exact ⟨hc, fun _ h => h⟩; exact ⟨hl0, fun _ h => h⟩) ?_
  refine cj_seq (cj_region ?_)
  refine oj_box rfl rfl rfl (fun b2 => ?_)
  refine oj_step (y_assign rfl) rfl rfl rfl ?_
  refine oj_step (y_assign rfl) rfl rfl rfl ?_
  refine oj_step (y_assign rfl) rfl rfl rfl ?_
  refine oj_step (y_assign rfl) rfl rfl rfl ?_
  refine oj_nil ?_
  refine ej_th (cj_seq (cj_seq ?_))
  refine cj_regionG ?_
  refine gj_step (y_loadN Tryd.isAgg44 Tryd.sizeOf44 rfl) rfl rfl rfl (?_)
  refine gj_step (y_call Tryd.call37 rfl (fun w hp => k_rCheck d Ac cc w hp.rd)) rfl rfl rfl ?_
  refine gj_step (y_assign rfl) rfl rfl rfl (?_)
  refine gj_nil ?_
  refine ej_th (cj_seq ?_)
  refine cj_regionG (gj_step (y_move rfl) rfl rfl rfl (gj_step (y_neq rfl rfl) rfl rfl rfl (gj_nil ?_)))
  refine ej_th ?_
  refine cj_cond rfl (fun h16 => ?_) (fun h16 => ?_)
  · have h16b := h16
    try simp only [sxb] at h16
    rw [errD_ne] at h16
    refine cj_seq ?_
    refine cj_regionG (gj_step (y_move rfl) rfl rfl rfl (gj_step (y_assign rfl) rfl rfl rfl (gj_step (y_assign rfl) rfl rfl rfl (gj_step (y_assign rfl) rfl rfl rfl (gj_step (y_assign rfl) rfl rfl rfl (gj_nil ?_))))))
    refine ej_th (cj_ret (ej_then_ret ?_))
    have hna : askOk d l = false := by rw [askOk, h16]; rfl
    have e1 : RunE d l = 23 := by simp [RunE, hna, askE, h16]
    have e2 : RunN d l = 0 := by simp [RunN, hna]
    rw [e1, e2, h16]
    exact ej_ret4 rfl Tryd.results70 rfl rfl rfl rfl (fun w' hp => ⟨rfl, hp.below⟩)
  · have h16b := h16
    try simp only [sxb] at h16
    rw [errD_eq] at h16
    have hd := badDeal_no h16
    refine cj_skip (ej_th (cj_seq (cj_seq ?_)))
    refine cj_regionG ?_
    refine gj_step (y_loadN Tryd.isAgg44 Tryd.sizeOf44 rfl) rfl rfl rfl (gj_step (y_move rfl) rfl rfl rfl (?_))
    refine gj_step (y_call Tryd.call89 rfl (fun w hp => k_racts d Ac cc l Al cl w hp.rd hp.rd)) rfl rfl rfl ?_
    refine gj_step (y_not rfl) rfl rfl rfl (?_)
    refine gj_nil ?_
    refine ej_th ?_
    refine cj_cond rfl (fun h21 => ?_) (fun h21 => ?_)
    · have h21b := h21
      try simp only [sxb] at h21
      have hac : actsOk d l = false := h21
      refine cj_seq ?_
      refine cj_regionG (gj_step (y_assign rfl) rfl rfl rfl (gj_step (y_assign rfl) rfl rfl rfl (gj_step (y_assign rfl) rfl rfl rfl (gj_step (y_assign rfl) rfl rfl rfl (gj_nil ?_)))))
      refine ej_th (cj_ret (ej_then_ret ?_))
      have hna : askOk d l = false := by rw [askOk, h16, hac]; rfl
      have e1 : RunE d l = 24 := by simp [RunE, hna, askE, h16, hac]
      have e2 : RunN d l = 0 := by simp [RunN, hna]
      rw [e1, e2]
      exact ej_ret4 rfl Tryd.results70 rfl rfl rfl rfl (fun w' hp => ⟨rfl, hp.below⟩)
    · have h21b := h21
      try simp only [sxb] at h21
      have hac : actsOk d l = true := h21
      obtain ⟨ham, hal⟩ := actsOk_mem hac
      have hask : askOk d l = true := by rw [askOk, h16, hac]; rfl
      refine cj_skip (ej_th (cj_seq (cj_region ?_)))
      refine oj_step (y_loadN Tryd.isAgg44 Tryd.sizeOf44 rfl) rfl rfl rfl ?_
      refine oj_call (X := Nat) (fun i => .pointer (some ⟨i, 0, none⟩)) (fun i => [ownB i (cellsB 156 (encS d Ac cc (openL d) 0 0))]) (fun _ => []) Tryd.call90 rfl (fun w hp => k_rbegin d Ac cc w) rfl (fun b9 => ?_)
      dsimp only [List.nil_append, List.cons_append]
      refine oj_step (y_assign rfl) rfl rfl rfl ?_
      refine oj_nil ?_
      refine ej_th (cj_seq ?_)
      refine cj_ownNil 64 5 encAcc ?_
      refine cj_regionG (gj_step (y_assign rfl) rfl rfl rfl (gj_nil ?_))
      refine ej_th (cj_seq (cj_seq ?_))
      refine cj_regionG (gj_step (y_assign rfl) rfl rfl rfl (gj_nil ?_))
      refine ej_th (cj_block ?_)
      refine cj_lpi (X := Nat × Ln × Int × Int × Option Addr × Nat × List Acc) [(1, _), (9, _)] (fun ⟨k, x, ren, hr_, A, c, out⟩ => k ≤ l.length ∧ LOk x ∧ RS d x ren hr_ ∧ ren ≤ k ∧ out.length = k ∧ runF d k x out k 0 (l.drop k) = runL d l) (fun ⟨k, x, ren, hr_, A, c, out⟩ => [(10, .slice A out.length c), (11, .int .i64 k)]) (fun ⟨k, x, ren, hr_, A, c, out⟩ => [ow 64 5 encAcc A c out, ownB b9 (cellsB 156 (encS d Ac cc x ren hr_)), ownB b2 (cellsB 44 (encDeal d Ac cc))]) (fun ⟨k, x, ren, hr_, A, c, out⟩ => [sl (fun b => b < w.heap.size) 1 enInt Ac d.closed, sl (fun b => b < w.heap.size) 3 encAct Al l]) (fun ⟨k, x, ren, hr_, A, c, out⟩ => l.length - k) (0, openL d, 0, 0, none, 0, []) (⟨Nat.zero_le _, openL_ok hd, open_rs hd, Int.le_refl _, rfl, rfl⟩) ⟨rfl, rfl, rfl, rfl, trivial⟩ ?_
      rintro ⟨k, x, ren, hr_, A, c, out⟩ ⟨hk, hx, hrs, hrk, hol, hl⟩
      dsimp only [List.cons_append, List.nil_append]
      refine cj_seq (cj_seq ?_)
      refine cj_regionG (gj_step (y_move rfl) rfl rfl rfl (gj_step (y_move rfl) rfl rfl rfl (gj_step (y_lenA Tryd.underlying69 rfl) rfl rfl rfl (gj_step (y_lss rfl rfl) rfl rfl rfl (gj_nil ?_)))))
      refine ej_th ?_
      refine cj_cond rfl (fun h27 => ?_) (fun h27 => ?_)
      · have h27b := h27
        try simp only [sxb] at h27
        obtain ⟨a, hxa⟩ : ∃ a, l[k]? = some a := ⟨_, List.getElem?_eq_getElem (by omega)⟩
        have hka := ham a (List.mem_of_getElem? hxa)
        rw [runF_drop d l k a _ _ _ _ _ hxa] at hl
        have hren := hrs.ren
        refine cj_skip (ej_th (cj_seq (cj_block (cj_seq (cj_seq (cj_region ?_))))))
        refine oj_step (y_move rfl) rfl rfl rfl ?_
        refine oj_step (y_move rfl) rfl rfl rfl ?_
        refine oj_step (y_move rfl) rfl rfl rfl ?_
        refine oj_step (y_ixR (reads_sl) Tryd.underlying69 Tryd.sizeOf68 rfl rfl (⟨by omega, by omega⟩)) rfl rfl rfl ?_
        refine oj_step (y_ldW (reads_sl) Tryd.isAgg68 Tryd.sizeOf68 rfl (hxa) (fun _ => rfl)) rfl rfl rfl ?_
        refine oj_callM (X := { p : Ln × Int × Int // actR d x a = 0 → p.1 = actL d (toL d x a.day) a ∧ RS d p.1 p.2.1 p.2.2 ∧ p.2.1 ≤ ren + 1 }) (b := b9) (fun _ => .int .i64 (actR d x a)) (fun p => cellsB 156 (encS d Ac cc p.1.1 p.1.2.1 p.1.2.2)) Tryd.call91 rfl (fun w hp => (k_ract d Ac cc x ren hr_ b9 a w hp.own1 hp.rdX hd hx hrs (by omega) hka.1 hka.2).mono (fun e w2 ⟨p, h1, h2, h3, h4⟩ => ⟨⟨p, h4⟩, h1, h2, h3⟩)) rfl ?_
        rintro ⟨⟨z, ren2, hr2⟩, hz⟩
        dsimp only at hz ⊢
        refine oj_step (y_assign rfl) rfl rfl rfl ?_
        refine oj_nil ?_
        refine ej_th (cj_seq ?_)
        refine cj_regionG (gj_step (y_move rfl) rfl rfl rfl (gj_step (y_neq rfl rfl) rfl rfl rfl (gj_nil ?_)))
        refine ej_th ?_
        refine cj_cond rfl (fun h37 => ?_) (fun h37 => ?_)
        · have h37b := h37
          try simp only [sxb] at h37
          refine cj_seq ?_
          refine cj_regionG (gj_step (y_move rfl) rfl rfl rfl (gj_step (y_move rfl) rfl rfl rfl (gj_step (y_assign rfl) rfl rfl rfl (gj_step (y_assign rfl) rfl rfl rfl (gj_step (y_assign rfl) rfl rfl rfl (gj_step (y_assign rfl) rfl rfl rfl (gj_nil ?_)))))))
          refine ej_th (cj_ret (ej_then_ret (ej_blk_ret (ej_then_ret (ej_then_ret (ej_blk_ret (ej_then_ret ?_)))))))
          have hre := run_err h37 k out k 0 (l.drop (k + 1))
          rw [runF, hl] at hre
          have e1 : RunE d l = actR d x a := by rw [RunE, if_pos hask]; exact hre.2
          have e2 : RunN d l = k := by rw [RunN, if_pos hask]; exact hre.1
          rw [e1, e2]
          exact ej_ret4 rfl Tryd.results70 rfl rfl rfl rfl (fun w' hp => ⟨rfl, hp.below⟩)
        · have h37b := h37
          try simp only [sxb] at h37
          obtain ⟨hz1, hz2, hz3⟩ := hz h37
          obtain ⟨hov, h0⟩ := actR_ok h37
          rw [hov, if_neg (by simp), if_pos h0, ← hz1] at hl
          have hfe := hrs.fees
          have hfb := fees_bd hd hrs
          have hzok : LOk z := by rw [hz1]; exact actL_ok hd (toL_ok hd hx hka.2) hka.1 (by rw [toL_fees]; omega)
          rw [show ((k : Int) + 1) = ((k + 1 : Nat) : Int) by omega] at hl
          refine cj_skip (ej_th (cj_region ?_))
          refine oj_step (y_move rfl) rfl rfl rfl ?_
          refine oj_step (y_move rfl) rfl rfl rfl ?_
          refine oj_step (y_call Tryd.call72 rfl (fun w hp => k_raccount d Ac cc z ren2 hr2 b9 w hp.own1 hd hzok hz2)) rfl rfl rfl ?_
          refine oj_buildSlice (cs := [.int .i64 z.pr, .int .i64 z.ch, .int .i64 z.pd, .int .i64 z.ag, .bool z.op]) [.int .i64 0, .int .i64 0, .int .i64 0, .int .i64 0, .bool false] Tryd.underlying74 Tryd.sizeOf64 Tryd.zeroValue64 rfl rfl (by kernel_rfl) (by kernel_rfl) rfl (fun b43 => ?_)
          refine oj_append  el74 (fun _ => rfl) encAcc_one rfl rfl rfl (reads_lit [z.acc] (fun _ => rfl) rfl) (by simp [maxLen]; omega) (by simp; omega) rfl (fun A44 c44 => ?_)
          refine oj_step (y_assign rfl) rfl rfl rfl ?_
          refine oj_nil ?_
          refine ej_blk (ej_th ?_)
          refine cj_regionG (gj_step (y_move rfl) rfl rfl rfl (gj_step (y_add rfl rfl (by omega)) rfl rfl rfl (gj_step (y_assign rfl) rfl rfl rfl (gj_nil ?_))))
          exact ej_nx (k + 1, z, ren2, hr2, A44, c44, out ++ [z.acc]) (by simp only; omega) ⟨by first | omega | (simp only; omega), hzok, hz2, by simp only; omega, by simp; omega, hl⟩ ⟨rfl, rfl, rfl, rfl, trivial⟩
      · exfalso
        simp only [sxb] at h27
        rw [List.drop_of_length_le (by omega), runF_nil] at hl
        exact hE (by rw [RunE, if_pos hask, ← hl])

theorem k_rrun_ok (d : Deal) (Ac : Option Addr) (cc : Nat) (l : List Act1) (Al : Option Addr) (cl : Nat) (w : World) (hc : Rd w 1 enInt Ac d.closed) (hl0 : Rd w 3 encAct Al l) (hE : RunE d l = 0) : Calls Tryd.prog 70 #[.agg #[.int .i64 d.lr, .int .i64 d.lc, .int .i64 d.tr, .int .i64 d.tf, .int .i64 d.te, .int .i64 d.tt, .int .i64 d.tg, .slice Ac d.closed.length cc, .int .i64 d.start, .int .i64 d.sum], .slice Al l.length cl] w (fun e w' => ∃ p : Nat × Option Addr × Nat × Int × Int, e = .returned (.tuple #[.pointer (some ⟨p.1, 0, none⟩), .slice p.2.1 (RunO d l).length p.2.2.1, .int .i64 l.length, .int .i64 0]) ∧ Grow w w' ∧ ((ownB p.1 (cellsB 156 (encS d Ac cc (exec d (openL d) l) p.2.2.2.1 p.2.2.2.2))).P w' ∧ ∀ i, (ownB p.1 (cellsB 156 (encS d Ac cc (exec d (openL d) l) p.2.2.2.1 p.2.2.2.2))).fp i → w.heap.size ≤ i ∧ i < w'.heap.size) ∧ (sl (fun i => w.heap.size ≤ i ∧ i < w'.heap.size ∧ i ≠ p.1) 5 encAcc p.2.1 (RunO d l)).P w' ∧ RS d (exec d (openL d) l) p.2.2.2.1 p.2.2.2.2) := by
  have hlen := hl0.len
  refine enter_pure (args := [.agg #[.int .i64 d.lr, .int .i64 d.lc, .int .i64 d.tr, .int .i64 d.tf, .int .i64 d.te, .int .i64 d.tt, .int .i64 d.tg, .slice Ac d.closed.length cc, .int .i64 d.start, .int .i64 d.sum], .slice Al l.length cl]) [sl (fun b => b < w.heap.size) 1 enInt Ac d.closed, sl (fun b => b < w.heap.size) 3 encAct Al l] Tryd.func70 rfl (by rw [Tryd.ntmps70]; simp) (fun g hg => by simp at hg; rcases hg with rfl | rfl; exact ⟨hc, fun _ h => h⟩; exact ⟨hl0, fun _ h => h⟩) ?_
  refine cj_seq (cj_region ?_)
  refine oj_box rfl rfl rfl (fun b2 => ?_)
  refine oj_step (y_assign rfl) rfl rfl rfl ?_
  refine oj_step (y_assign rfl) rfl rfl rfl ?_
  refine oj_step (y_assign rfl) rfl rfl rfl ?_
  refine oj_step (y_assign rfl) rfl rfl rfl ?_
  refine oj_nil ?_
  refine ej_th (cj_seq (cj_seq ?_))
  refine cj_regionG ?_
  refine gj_step (y_loadN Tryd.isAgg44 Tryd.sizeOf44 rfl) rfl rfl rfl (?_)
  refine gj_step (y_call Tryd.call37 rfl (fun w hp => k_rCheck d Ac cc w hp.rd)) rfl rfl rfl ?_
  refine gj_step (y_assign rfl) rfl rfl rfl (?_)
  refine gj_nil ?_
  refine ej_th (cj_seq ?_)
  refine cj_regionG (gj_step (y_move rfl) rfl rfl rfl (gj_step (y_neq rfl rfl) rfl rfl rfl (gj_nil ?_)))
  refine ej_th ?_
  refine cj_cond rfl (fun h16 => ?_) (fun h16 => ?_)
  · exfalso
    have hna : askOk d l = false := by rw [askOk, (by simp only [sxb] at h16; rw [errD_ne] at h16; exact h16 : badDeal d = true)]; rfl
    rw [RunE, hna] at hE
    exact absurd hE (by simpa using askE_ne hna)
  · have h16b := h16
    try simp only [sxb] at h16
    rw [errD_eq] at h16
    have hd := badDeal_no h16
    refine cj_skip (ej_th (cj_seq (cj_seq ?_)))
    refine cj_regionG ?_
    refine gj_step (y_loadN Tryd.isAgg44 Tryd.sizeOf44 rfl) rfl rfl rfl (gj_step (y_move rfl) rfl rfl rfl (?_))
    refine gj_step (y_call Tryd.call89 rfl (fun w hp => k_racts d Ac cc l Al cl w hp.rd hp.rd)) rfl rfl rfl ?_
    refine gj_step (y_not rfl) rfl rfl rfl (?_)
    refine gj_nil ?_
    refine ej_th ?_
    refine cj_cond rfl (fun h21 => ?_) (fun h21 => ?_)
    · exfalso
      have hac : actsOk d l = false := not_t h21
      have hna : askOk d l = false := by rw [askOk, h16, hac]; rfl
      rw [RunE, hna] at hE
      exact absurd hE (by simpa using askE_ne hna)
    · have h21b := h21
      try simp only [sxb] at h21
      have hac : actsOk d l = true := h21
      obtain ⟨ham, hal⟩ := actsOk_mem hac
      have hask : askOk d l = true := by rw [askOk, h16, hac]; rfl
      refine cj_skip (ej_th (cj_seq (cj_region ?_)))
      refine oj_step (y_loadN Tryd.isAgg44 Tryd.sizeOf44 rfl) rfl rfl rfl ?_
      refine oj_call (X := Nat) (fun i => .pointer (some ⟨i, 0, none⟩)) (fun i => [ownB i (cellsB 156 (encS d Ac cc (openL d) 0 0))]) (fun _ => []) Tryd.call90 rfl (fun w hp => k_rbegin d Ac cc w) rfl (fun b9 => ?_)
      dsimp only [List.nil_append, List.cons_append]
      refine oj_step (y_assign rfl) rfl rfl rfl ?_
      refine oj_nil ?_
      refine ej_th (cj_seq ?_)
      refine cj_ownNil 64 5 encAcc ?_
      refine cj_regionG (gj_step (y_assign rfl) rfl rfl rfl (gj_nil ?_))
      refine ej_th (cj_seq (cj_seq ?_))
      refine cj_regionG (gj_step (y_assign rfl) rfl rfl rfl (gj_nil ?_))
      refine ej_th (cj_block ?_)
      refine cj_lpi (X := Nat × Ln × Int × Int × Option Addr × Nat × List Acc) [(1, _), (9, _)] (fun ⟨k, x, ren, hr_, A, c, out⟩ => k ≤ l.length ∧ LOk x ∧ RS d x ren hr_ ∧ ren ≤ k ∧ out.length = k ∧ runF d k x out k 0 (l.drop k) = runL d l) (fun ⟨k, x, ren, hr_, A, c, out⟩ => [(10, .slice A out.length c), (11, .int .i64 k)]) (fun ⟨k, x, ren, hr_, A, c, out⟩ => [ow 64 5 encAcc A c out, ownB b9 (cellsB 156 (encS d Ac cc x ren hr_)), ownB b2 (cellsB 44 (encDeal d Ac cc))]) (fun ⟨k, x, ren, hr_, A, c, out⟩ => [sl (fun b => b < w.heap.size) 1 enInt Ac d.closed, sl (fun b => b < w.heap.size) 3 encAct Al l]) (fun ⟨k, x, ren, hr_, A, c, out⟩ => l.length - k) (0, openL d, 0, 0, none, 0, []) (⟨Nat.zero_le _, openL_ok hd, open_rs hd, Int.le_refl _, rfl, rfl⟩) ⟨rfl, rfl, rfl, rfl, trivial⟩ ?_
      rintro ⟨k, x, ren, hr_, A, c, out⟩ ⟨hk, hx, hrs, hrk, hol, hl⟩
      dsimp only [List.cons_append, List.nil_append]
      refine cj_seq (cj_seq ?_)
      refine cj_regionG (gj_step (y_move rfl) rfl rfl rfl (gj_step (y_move rfl) rfl rfl rfl (gj_step (y_lenA Tryd.underlying69 rfl) rfl rfl rfl (gj_step (y_lss rfl rfl) rfl rfl rfl (gj_nil ?_)))))
      refine ej_th ?_
      refine cj_cond rfl (fun h27 => ?_) (fun h27 => ?_)
      · have h27b := h27
        try simp only [sxb] at h27
        obtain ⟨a, hxa⟩ : ∃ a, l[k]? = some a := ⟨_, List.getElem?_eq_getElem (by omega)⟩
        have hka := ham a (List.mem_of_getElem? hxa)
        rw [runF_drop d l k a _ _ _ _ _ hxa] at hl
        have hren := hrs.ren
        refine cj_skip (ej_th (cj_seq (cj_block (cj_seq (cj_seq (cj_region ?_))))))
        refine oj_step (y_move rfl) rfl rfl rfl ?_
        refine oj_step (y_move rfl) rfl rfl rfl ?_
        refine oj_step (y_move rfl) rfl rfl rfl ?_
        refine oj_step (y_ixR (reads_sl) Tryd.underlying69 Tryd.sizeOf68 rfl rfl (⟨by omega, by omega⟩)) rfl rfl rfl ?_
        refine oj_step (y_ldW (reads_sl) Tryd.isAgg68 Tryd.sizeOf68 rfl (hxa) (fun _ => rfl)) rfl rfl rfl ?_
        refine oj_callM (X := { p : Ln × Int × Int // actR d x a = 0 → p.1 = actL d (toL d x a.day) a ∧ RS d p.1 p.2.1 p.2.2 ∧ p.2.1 ≤ ren + 1 }) (b := b9) (fun _ => .int .i64 (actR d x a)) (fun p => cellsB 156 (encS d Ac cc p.1.1 p.1.2.1 p.1.2.2)) Tryd.call91 rfl (fun w hp => (k_ract d Ac cc x ren hr_ b9 a w hp.own1 hp.rdX hd hx hrs (by omega) hka.1 hka.2).mono (fun e w2 ⟨p, h1, h2, h3, h4⟩ => ⟨⟨p, h4⟩, h1, h2, h3⟩)) rfl ?_
        rintro ⟨⟨z, ren2, hr2⟩, hz⟩
        dsimp only at hz ⊢
        refine oj_step (y_assign rfl) rfl rfl rfl ?_
        refine oj_nil ?_
        refine ej_th (cj_seq ?_)
        refine cj_regionG (gj_step (y_move rfl) rfl rfl rfl (gj_step (y_neq rfl rfl) rfl rfl rfl (gj_nil ?_)))
        refine ej_th ?_
        refine cj_cond rfl (fun h37 => ?_) (fun h37 => ?_)
        · exfalso
          have h37' : actR d x a ≠ 0 := by simpa using h37
          have hre := run_err h37' k out k 0 (l.drop (k + 1))
          rw [runF, hl] at hre
          rw [RunE, if_pos hask] at hE
          exact h37' (hre.2.symm.trans hE)
        · have h37b := h37
          try simp only [sxb] at h37
          obtain ⟨hz1, hz2, hz3⟩ := hz h37
          obtain ⟨hov, h0⟩ := actR_ok h37
          rw [hov, if_neg (by simp), if_pos h0, ← hz1] at hl
          have hfe := hrs.fees
          have hfb := fees_bd hd hrs
          have hzok : LOk z := by rw [hz1]; exact actL_ok hd (toL_ok hd hx hka.2) hka.1 (by rw [toL_fees]; omega)
          rw [show ((k : Int) + 1) = ((k + 1 : Nat) : Int) by omega] at hl
          refine cj_skip (ej_th (cj_region ?_))
          refine oj_step (y_move rfl) rfl rfl rfl ?_
          refine oj_step (y_move rfl) rfl rfl rfl ?_
          refine oj_step (y_call Tryd.call72 rfl (fun w hp => k_raccount d Ac cc z ren2 hr2 b9 w hp.own1 hd hzok hz2)) rfl rfl rfl ?_
          refine oj_buildSlice (cs := [.int .i64 z.pr, .int .i64 z.ch, .int .i64 z.pd, .int .i64 z.ag, .bool z.op]) [.int .i64 0, .int .i64 0, .int .i64 0, .int .i64 0, .bool false] Tryd.underlying74 Tryd.sizeOf64 Tryd.zeroValue64 rfl rfl (by kernel_rfl) (by kernel_rfl) rfl (fun b43 => ?_)
          refine oj_append  el74 (fun _ => rfl) encAcc_one rfl rfl rfl (reads_lit [z.acc] (fun _ => rfl) rfl) (by simp [maxLen]; omega) (by simp; omega) rfl (fun A44 c44 => ?_)
          refine oj_step (y_assign rfl) rfl rfl rfl ?_
          refine oj_nil ?_
          refine ej_blk (ej_th ?_)
          refine cj_regionG (gj_step (y_move rfl) rfl rfl rfl (gj_step (y_add rfl rfl (by omega)) rfl rfl rfl (gj_step (y_assign rfl) rfl rfl rfl (gj_nil ?_))))
          exact ej_nx (k + 1, z, ren2, hr2, A44, c44, out ++ [z.acc]) (by simp only; omega) ⟨by first | omega | (simp only; omega), hzok, hz2, by simp only; omega, by simp; omega, hl⟩ ⟨rfl, rfl, rfl, rfl, trivial⟩
      · have h27b := h27
        try simp only [sxb] at h27
        rw [List.drop_of_length_le (by omega), runF_nil] at hl
        refine cj_exit (ej_then_exit (ej_then_exit (ej_blk_hit (ej_th (cj_seq ?_)))))
        refine cj_regionG (gj_step (y_move rfl) rfl rfl rfl (gj_step (y_move rfl) rfl rfl rfl (gj_step (y_move rfl) rfl rfl rfl (gj_step (y_lenA Tryd.underlying69 rfl) rfl rfl rfl (gj_step (y_assign rfl) rfl rfl rfl (gj_step (y_assign rfl) rfl rfl rfl (gj_step (y_assign rfl) rfl rfl rfl (gj_step (y_assign rfl) rfl rfl rfl (gj_nil ?_)))))))))
        refine ej_th (cj_ret ?_)
        obtain ⟨_, _, hO, hN, hr⟩ := run_ok hE
        rw [← hl] at hr
        have hxx : x = exec d (openL d) l := congrArg RunR.x hr
        have hoo : out = RunO d l := (congrArg RunR.out hr).trans hO.symm
        rw [hxx] at hrs ⊢
        rw [hoo] at hol ⊢
        exact ej_ret4 rfl Tryd.results70 rfl rfl rfl rfl (fun w' hp => ⟨(b9, A, c, ren, hr_), rfl, hp.below, hp.newB, hp.resX (b := b9) (ob := cellsB 156 (encS d Ac cc (exec d (openL d) l) ren hr_)) (A := A) (e := 64) (c := c) (fun _ => rfl) (by unfold maxLen; omega), hrs⟩)

end Go.Proofs.YtafmgkiddhappaaDoor
