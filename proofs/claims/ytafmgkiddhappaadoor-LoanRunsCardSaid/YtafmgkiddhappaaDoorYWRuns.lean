/- Walks of functions of the program. -/
import Derived.Test.YtafmgkiddhappaaDoorYWStand
import Derived.Test.YtafmgkiddhappaaDoorYTyRuns
namespace Go.Proofs.YtafmgkiddhappaaDoor
open Go.Sx Go.RowKit
set_option maxRecDepth 20000
theorem k_ron_no1 (d : Deal) (Ac : Option Addr) (cc : Nat) (l : List Act1) (Al : Option Addr) (cl : Nat) (n : Int) (w : World) (hc : Rd w 1 enInt Ac d.closed) (hl0 : Rd w 3 encAct Al l) (hE : RunE d l ≠ 0) : Calls Tryd.prog 71 #[.agg #[.int .i64 d.lr, .int .i64 d.lc, .int .i64 d.tr, .int .i64 d.tf, .int .i64 d.te, .int .i64 d.tt, .int .i64 d.tg, .slice Ac d.closed.length cc, .int .i64 d.start, .int .i64 d.sum], .slice Al l.length cl, .int .i64 n] w (fun e w' => e = .returned (.tuple #[.pointer none, .int .i64 (onE d l n)]) ∧ Grow w w') := by
  have e1 := on_run hE n
  rw [e1]
  refine enter_pure (args := [.agg #[.int .i64 d.lr, .int .i64 d.lc, .int .i64 d.tr, .int .i64 d.tf, .int .i64 d.te, .int .i64 d.tt, .int .i64 d.tg, .slice Ac d.closed.length cc, .int .i64 d.start, .int .i64 d.sum], .slice Al l.length cl, .int .i64 n]) [sl (fun b => b < w.heap.size) 1 enInt Ac d.closed, sl (fun b => b < w.heap.size) 3 encAct Al l] Tryd.func71 rfl (by rw [Tryd.ntmps71]; simp) (fun g hg => by simp at hg; rcases hg with rfl | rfl; exact ⟨hc, fun _ h => h⟩; exact ⟨hl0, fun _ h => h⟩) ?_
  refine cj_seq (cj_region ?_)
  refine oj_box rfl rfl rfl (fun b3 => ?_)
  refine oj_step (y_assign rfl) rfl rfl rfl ?_
  refine oj_step (y_assign rfl) rfl rfl rfl ?_
  refine oj_nil ?_
  refine ej_th (cj_seq ?_)
  refine cj_regionG ?_
  refine gj_step (y_loadN Tryd.isAgg44 Tryd.sizeOf44 rfl) rfl rfl rfl (gj_step (y_move rfl) rfl rfl rfl (?_))
  refine gj_step (y_call Tryd.call70 rfl (fun w hp => k_rrun_no d Ac cc l Al cl w hp.rd hp.rd hE)) rfl rfl rfl ?_
  refine gj_step (y_move rfl) rfl rfl rfl (gj_step (y_extract rfl rfl) rfl rfl rfl (gj_step (y_extract rfl rfl) rfl rfl rfl (gj_step (y_extract rfl rfl) rfl rfl rfl (gj_step (y_extract rfl rfl) rfl rfl rfl (gj_step (y_assign rfl) rfl rfl rfl (gj_step (y_assign rfl) rfl rfl rfl (gj_step (y_assign rfl) rfl rfl rfl (gj_step (y_assign rfl) rfl rfl rfl (?_)))))))))
  refine gj_nil ?_
  refine ej_th (cj_seq (cj_seq ?_))
  refine cj_regionG (gj_step (y_move rfl) rfl rfl rfl (gj_step (y_neq rfl rfl) rfl rfl rfl (gj_nil ?_)))
  refine ej_th ?_
  refine cj_cond rfl (fun h21 => ?_) (fun h21 => ?_)
  · have h21b := h21
    try simp only [sxb] at h21
    refine cj_seq ?_
    refine cj_regionG (gj_step (y_move rfl) rfl rfl rfl (gj_step (y_assign rfl) rfl rfl rfl (gj_step (y_assign rfl) rfl rfl rfl (gj_nil ?_))))
    refine ej_th (cj_ret (ej_then_ret ?_))
    exact ej_ret2 rfl Tryd.results71 rfl rfl (fun w' hp => ⟨rfl, hp.below⟩)
  · simp only [sxb] at h21
    exact absurd h21 hE

theorem k_ron_no2 (d : Deal) (Ac : Option Addr) (cc : Nat) (l : List Act1) (Al : Option Addr) (cl : Nat) (n : Int) (w : World) (hc : Rd w 1 enInt Ac d.closed) (hl0 : Rd w 3 encAct Al l) (hE : RunE d l = 0) (ho : onE d l n ≠ 0) : Calls Tryd.prog 71 #[.agg #[.int .i64 d.lr, .int .i64 d.lc, .int .i64 d.tr, .int .i64 d.tf, .int .i64 d.te, .int .i64 d.tt, .int .i64 d.tg, .slice Ac d.closed.length cc, .int .i64 d.start, .int .i64 d.sum], .slice Al l.length cl, .int .i64 n] w (fun e w' => e = .returned (.tuple #[.pointer none, .int .i64 (onE d l n)]) ∧ Grow w w') := by
  obtain ⟨ho1, ho2⟩ := on_range hE ho
  rw [ho1]
  refine enter_pure (args := [.agg #[.int .i64 d.lr, .int .i64 d.lc, .int .i64 d.tr, .int .i64 d.tf, .int .i64 d.te, .int .i64 d.tt, .int .i64 d.tg, .slice Ac d.closed.length cc, .int .i64 d.start, .int .i64 d.sum], .slice Al l.length cl, .int .i64 n]) [sl (fun b => b < w.heap.size) 1 enInt Ac d.closed, sl (fun b => b < w.heap.size) 3 encAct Al l] Tryd.func71 rfl (by rw [Tryd.ntmps71]; simp) (fun g hg => by simp at hg; rcases hg with rfl | rfl; exact ⟨hc, fun _ h => h⟩; exact ⟨hl0, fun _ h => h⟩) ?_
  refine cj_seq (cj_region ?_)
  refine oj_box rfl rfl rfl (fun b3 => ?_)
  refine oj_step (y_assign rfl) rfl rfl rfl ?_
  refine oj_step (y_assign rfl) rfl rfl rfl ?_
  refine oj_nil ?_
  refine ej_th (cj_seq (cj_region ?_))
  refine oj_step (y_loadN Tryd.isAgg44 Tryd.sizeOf44 rfl) rfl rfl rfl ?_
  refine oj_step (y_move rfl) rfl rfl rfl ?_
  refine oj_call (X := { p : Nat × Option Addr × Nat × Int × Int // RS d (exec d (openL d) l) p.2.2.2.1 p.2.2.2.2 }) (fun p => .tuple #[.pointer (some ⟨p.1.1, 0, none⟩), .slice p.1.2.1 (RunO d l).length p.1.2.2.1, .int .i64 l.length, .int .i64 0]) (fun p => [ownB p.1.1 (cellsB 156 (encS d Ac cc (exec d (openL d) l) p.1.2.2.2.1 p.1.2.2.2.2))]) (fun _ => []) Tryd.call70 rfl (fun w hp => (k_rrun_ok d Ac cc l Al cl w hp.rd hp.rd hE).mono (fun e w2 ⟨p, h1, h2, h3, h4, h5⟩ => ⟨⟨p, h5⟩, h1, h2, fun g hg => by
    simp only [List.mem_singleton] at hg
    subst hg
    exact h3, List.pairwise_singleton .., by simp⟩)) rfl ?_
  rintro ⟨⟨i15, A15, c15, ren, hr⟩, hrs⟩
  dsimp only [List.nil_append, List.cons_append] at hrs ⊢
  refine oj_step (y_move rfl) rfl rfl rfl ?_
  refine oj_step (y_extract rfl rfl) rfl rfl rfl ?_
  refine oj_step (y_extract rfl rfl) rfl rfl rfl ?_
  refine oj_step (y_extract rfl rfl) rfl rfl rfl ?_
  refine oj_step (y_extract rfl rfl) rfl rfl rfl ?_
  refine oj_step (y_assign rfl) rfl rfl rfl ?_
  refine oj_step (y_assign rfl) rfl rfl rfl ?_
  refine oj_step (y_assign rfl) rfl rfl rfl ?_
  refine oj_step (y_assign rfl) rfl rfl rfl ?_
  refine oj_nil ?_
  refine ej_th (cj_seq (cj_seq ?_))
  refine cj_regionG (gj_step (y_move rfl) rfl rfl rfl (gj_step (y_neq rfl rfl) rfl rfl rfl (gj_nil ?_)))
  refine ej_th ?_
  refine cj_cond rfl (fun h21 => ?_) (fun h21 => ?_)
  · exact absurd h21 (by decide)
  · have h21b := h21
    try simp only [sxb] at h21
    refine cj_skip (ej_th (cj_seq (cj_seq ?_)))
    refine cj_regionG ?_
    refine gj_step (y_move rfl) rfl rfl rfl (gj_step (y_nil rfl) rfl rfl rfl (gj_step (y_fa fa156_2 rfl) rfl rfl rfl (gj_step (y_load1 Tryd.isAgg3 rfl rfl) rfl rfl rfl (gj_step (y_move rfl) rfl rfl rfl (?_)))))
    refine gj_step (y_call Tryd.call26 rfl (fun w hp => k_From _ _ _ w)) rfl rfl rfl ?_
    refine gj_step (y_not rfl) rfl rfl rfl (?_)
    refine gj_nil ?_
    refine ej_th ?_
    refine cj_cond rfl (fun h29 => ?_) (fun h29 => ?_)
    · have h29b := h29
      try simp only [sxb] at h29
      refine cj_seq ?_
      refine cj_regionG (gj_step (y_assign rfl) rfl rfl rfl (gj_step (y_assign rfl) rfl rfl rfl (gj_nil ?_)))
      refine ej_th (cj_ret (ej_then_ret ?_))
      exact ej_ret2 rfl Tryd.results71 rfl rfl (fun w' hp => ⟨rfl, hp.below⟩)
    · exact absurd (show btw (exec d (openL d) l).day n 36500 = true from not_f h29) (by rw [ho2]; decide)

theorem k_ron_ok (d : Deal) (Ac : Option Addr) (cc : Nat) (l : List Act1) (Al : Option Addr) (cl : Nat) (n : Int) (w : World) (hc : Rd w 1 enInt Ac d.closed) (hl0 : Rd w 3 encAct Al l) (ho : onE d l n = 0) : Calls Tryd.prog 71 #[.agg #[.int .i64 d.lr, .int .i64 d.lc, .int .i64 d.tr, .int .i64 d.tf, .int .i64 d.te, .int .i64 d.tt, .int .i64 d.tg, .slice Ac d.closed.length cc, .int .i64 d.start, .int .i64 d.sum], .slice Al l.length cl, .int .i64 n] w (fun e w' => ∃ p : Nat × Int × Int, e = .returned (.tuple #[.pointer (some ⟨p.1, 0, none⟩), .int .i64 0]) ∧ Grow w w' ∧ ((ownB p.1 (cellsB 156 (encS d Ac cc (toL d (exec d (openL d) l) n) p.2.1 p.2.2))).P w' ∧ ∀ i, (ownB p.1 (cellsB 156 (encS d Ac cc (toL d (exec d (openL d) l) n) p.2.1 p.2.2))).fp i → w.heap.size ≤ i ∧ i < w'.heap.size) ∧ RS d (toL d (exec d (openL d) l) n) p.2.1 p.2.2) := by
  obtain ⟨q1, q2, q3, q4⟩ := on_ok ho
  obtain ⟨ha, hf, _, _, _⟩ := run_ok q1
  have hd := (ok_parts ha).1
  have hxo := toL_ok hd (run_good ha).ok q2.2
  have hE := q1
  refine enter_pure (args := [.agg #[.int .i64 d.lr, .int .i64 d.lc, .int .i64 d.tr, .int .i64 d.tf, .int .i64 d.te, .int .i64 d.tt, .int .i64 d.tg, .slice Ac d.closed.length cc, .int .i64 d.start, .int .i64 d.sum], .slice Al l.length cl, .int .i64 n]) [sl (fun b => b < w.heap.size) 1 enInt Ac d.closed, sl (fun b => b < w.heap.size) 3 encAct Al l] Tryd.func71 rfl (by rw [Tryd.ntmps71]; simp) (fun g hg => by simp at hg; rcases hg with rfl | rfl; exact ⟨hc, fun _ h => h⟩; exact ⟨hl0, fun _ h => h⟩) ?_
  refine cj_seq (cj_region ?_)
  refine oj_box rfl rfl rfl (fun b3 => ?_)
  refine oj_step (y_assign rfl) rfl rfl rfl ?_
  refine oj_step (y_assign rfl) rfl rfl rfl ?_
  refine oj_nil ?_
  refine ej_th (cj_seq (cj_region ?_))
  refine oj_step (y_loadN Tryd.isAgg44 Tryd.sizeOf44 rfl) rfl rfl rfl ?_
  refine oj_step (y_move rfl) rfl rfl rfl ?_
  refine oj_call (X := { p : Nat × Option Addr × Nat × Int × Int // RS d (exec d (openL d) l) p.2.2.2.1 p.2.2.2.2 }) (fun p => .tuple #[.pointer (some ⟨p.1.1, 0, none⟩), .slice p.1.2.1 (RunO d l).length p.1.2.2.1, .int .i64 l.length, .int .i64 0]) (fun p => [ownB p.1.1 (cellsB 156 (encS d Ac cc (exec d (openL d) l) p.1.2.2.2.1 p.1.2.2.2.2))]) (fun _ => []) Tryd.call70 rfl (fun w hp => (k_rrun_ok d Ac cc l Al cl w hp.rd hp.rd hE).mono (fun e w2 ⟨p, h1, h2, h3, h4, h5⟩ => ⟨⟨p, h5⟩, h1, h2, fun g hg => by
    simp only [List.mem_singleton] at hg
    subst hg
    exact h3, List.pairwise_singleton .., by simp⟩)) rfl ?_
  rintro ⟨⟨i15, A15, c15, ren, hr⟩, hrs⟩
  dsimp only [List.nil_append, List.cons_append] at hrs ⊢
  refine oj_step (y_move rfl) rfl rfl rfl ?_
  refine oj_step (y_extract rfl rfl) rfl rfl rfl ?_
  refine oj_step (y_extract rfl rfl) rfl rfl rfl ?_
  refine oj_step (y_extract rfl rfl) rfl rfl rfl ?_
  refine oj_step (y_extract rfl rfl) rfl rfl rfl ?_
  refine oj_step (y_assign rfl) rfl rfl rfl ?_
  refine oj_step (y_assign rfl) rfl rfl rfl ?_
  refine oj_step (y_assign rfl) rfl rfl rfl ?_
  refine oj_step (y_assign rfl) rfl rfl rfl ?_
  refine oj_nil ?_
  refine ej_th (cj_seq (cj_seq ?_))
  refine cj_regionG (gj_step (y_move rfl) rfl rfl rfl (gj_step (y_neq rfl rfl) rfl rfl rfl (gj_nil ?_)))
  refine ej_th ?_
  refine cj_cond rfl (fun h21 => ?_) (fun h21 => ?_)
  · exact absurd h21 (by decide)
  · have h21b := h21
    try simp only [sxb] at h21
    refine cj_skip (ej_th (cj_seq (cj_seq ?_)))
    refine cj_regionG ?_
    refine gj_step (y_move rfl) rfl rfl rfl (gj_step (y_nil rfl) rfl rfl rfl (gj_step (y_fa fa156_2 rfl) rfl rfl rfl (gj_step (y_load1 Tryd.isAgg3 rfl rfl) rfl rfl rfl (gj_step (y_move rfl) rfl rfl rfl (?_)))))
    refine gj_step (y_call Tryd.call26 rfl (fun w hp => k_From _ _ _ w)) rfl rfl rfl ?_
    refine gj_step (y_not rfl) rfl rfl rfl (?_)
    refine gj_nil ?_
    refine ej_th ?_
    refine cj_cond rfl (fun h29 => ?_) (fun h29 => ?_)
    · exact absurd h29 (by rw [show (decide ((exec d (openL d) l).day ≤ n) && decide (n ≤ 36500)) = true from by simp only [Bool.and_eq_true, decide_eq_true_eq]; exact q2]; decide)
    · have h29b := h29
      try simp only [sxb] at h29
      refine cj_skip (ej_th (cj_seq (cj_region ?_)))
      refine oj_step (y_move rfl) rfl rfl rfl ?_
      refine oj_step (y_move rfl) rfl rfl rfl ?_
      refine oj_callM (X := Unit) (b := i15) (fun _ => .tuple #[]) (fun _ => cellsB 156 (encS d Ac cc (toL d (exec d (openL d) l) n) ren hr)) Tryd.call92 rfl (fun w hp => (k_rto d Ac cc (exec d (openL d) l) ren hr i15 n w hp.own1 hp.rdX (run_good ha).ok hrs.held q2.2).mono (fun e w2 ⟨h1, h2, h3⟩ => ⟨(), h1, h2, h3⟩)) rfl (fun _ => ?_)
      refine oj_nil ?_
      refine ej_th (cj_seq ?_)
      refine cj_regionG (gj_step (y_move rfl) rfl rfl rfl (gj_step (y_assign rfl) rfl rfl rfl (gj_step (y_assign rfl) rfl rfl rfl (gj_nil ?_))))
      refine ej_th (cj_ret ?_)
      exact ej_ret2 rfl Tryd.results71 rfl rfl (fun w' hp => ⟨(i15, ren, hr), rfl, hp.below, hp.newB, hrs.toL n⟩)

theorem k_ron_no (d : Deal) (Ac : Option Addr) (cc : Nat) (l : List Act1) (Al : Option Addr) (cl : Nat) (n : Int) (w : World) (hc : Rd w 1 enInt Ac d.closed) (hl0 : Rd w 3 encAct Al l) (ho : onE d l n ≠ 0) : Calls Tryd.prog 71 #[.agg #[.int .i64 d.lr, .int .i64 d.lc, .int .i64 d.tr, .int .i64 d.tf, .int .i64 d.te, .int .i64 d.tt, .int .i64 d.tg, .slice Ac d.closed.length cc, .int .i64 d.start, .int .i64 d.sum], .slice Al l.length cl, .int .i64 n] w (fun e w' => e = .returned (.tuple #[.pointer none, .int .i64 (onE d l n)]) ∧ Grow w w') := by
  by_cases hE : RunE d l = 0
  · exact k_ron_no2 d Ac cc l Al cl n w hc hl0 hE ho
  · exact k_ron_no1 d Ac cc l Al cl n w hc hl0 hE

theorem k_rOwe_no (d : Deal) (Ac : Option Addr) (cc : Nat) (l : List Act1) (Al : Option Addr) (cl : Nat) (n : Int) (w : World) (hc : Rd w 1 enInt Ac d.closed) (hl0 : Rd w 3 encAct Al l) (ho : onE d l n ≠ 0) : Calls Tryd.prog 38 #[.agg #[.int .i64 d.lr, .int .i64 d.lc, .int .i64 d.tr, .int .i64 d.tf, .int .i64 d.te, .int .i64 d.tt, .int .i64 d.tg, .slice Ac d.closed.length cc, .int .i64 d.start, .int .i64 d.sum], .slice Al l.length cl, .int .i64 n] w (fun e w' => e = .returned (.tuple #[.agg (encAcc (OweA d l n)).toArray, .int .i64 (onE d l n)]) ∧ Grow w w') := by
  rw [on_no ho]
  refine enter_pure (args := [.agg #[.int .i64 d.lr, .int .i64 d.lc, .int .i64 d.tr, .int .i64 d.tf, .int .i64 d.te, .int .i64 d.tt, .int .i64 d.tg, .slice Ac d.closed.length cc, .int .i64 d.start, .int .i64 d.sum], .slice Al l.length cl, .int .i64 n]) [sl (fun b => b < w.heap.size) 1 enInt Ac d.closed, sl (fun b => b < w.heap.size) 3 encAct Al l] Tryd.func38 rfl (by rw [Tryd.ntmps38]; simp) (fun g hg => by simp at hg; rcases hg with rfl | rfl; exact ⟨hc, fun _ h => h⟩; exact ⟨hl0, fun _ h => h⟩) ?_
  refine cj_seq (cj_region ?_)
  refine oj_box rfl rfl rfl (fun b3 => ?_)
  refine oj_alloc Tryd.zeroValue64 rfl rfl (fun b6 => ?_)
  refine oj_step (y_assign rfl) rfl rfl rfl ?_
  refine oj_nil ?_
  refine ej_th (cj_seq ?_)
  refine cj_regionG ?_
  refine gj_step (y_loadN Tryd.isAgg44 Tryd.sizeOf44 rfl) rfl rfl rfl (gj_step (y_move rfl) rfl rfl rfl (gj_step (y_move rfl) rfl rfl rfl (?_)))
  refine gj_step (y_call Tryd.call71 rfl (fun w hp => k_ron_no d Ac cc l Al cl n w hp.rd hp.rd ho)) rfl rfl rfl ?_
  refine gj_step (y_move rfl) rfl rfl rfl (gj_step (y_extract rfl rfl) rfl rfl rfl (gj_step (y_extract rfl rfl) rfl rfl rfl (gj_step (y_assign rfl) rfl rfl rfl (gj_step (y_assign rfl) rfl rfl rfl (?_)))))
  refine gj_nil ?_
  refine ej_th (cj_seq (cj_seq ?_))
  refine cj_regionG (gj_step (y_move rfl) rfl rfl rfl (gj_step (y_neq rfl rfl) rfl rfl rfl (gj_nil ?_)))
  refine ej_th ?_
  refine cj_cond rfl (fun h18 => ?_) (fun h18 => ?_)
  · have h18b := h18
    try simp only [sxb] at h18
    refine cj_seq (cj_region ?_)
    refine oj_step (y_build st64 rfl rfl) rfl rfl rfl ?_
    refine oj_step (y_move rfl) rfl rfl rfl ?_
    refine oj_store rfl rfl rfl rfl Tryd.sizeOf64 rfl ?_
    refine oj_step (y_assign rfl) rfl rfl rfl ?_
    refine oj_nil ?_
    refine ej_th (cj_ret (ej_then_ret ?_))
    exact ej_retC2 rfl Tryd.results38 rfl (y_loadN Tryd.isAgg64 Tryd.sizeOf64 rfl) rfl (fun w' hp => ⟨rfl, hp.below⟩)
  · simp only [sxb] at h18
    exact absurd h18 ho

theorem k_rOwe_ok (d : Deal) (Ac : Option Addr) (cc : Nat) (l : List Act1) (Al : Option Addr) (cl : Nat) (n : Int) (w : World) (hc : Rd w 1 enInt Ac d.closed) (hl0 : Rd w 3 encAct Al l) (ho : onE d l n = 0) : Calls Tryd.prog 38 #[.agg #[.int .i64 d.lr, .int .i64 d.lc, .int .i64 d.tr, .int .i64 d.tf, .int .i64 d.te, .int .i64 d.tt, .int .i64 d.tg, .slice Ac d.closed.length cc, .int .i64 d.start, .int .i64 d.sum], .slice Al l.length cl, .int .i64 n] w (fun e w' => e = .returned (.tuple #[.agg (encAcc (OweA d l n)).toArray, .int .i64 (onE d l n)]) ∧ Grow w w') := by
  obtain ⟨q1, q2, q3, q4⟩ := on_ok ho
  obtain ⟨ha, hf, _, _, _⟩ := run_ok q1
  have hd := (ok_parts ha).1
  have hxo := toL_ok hd (run_good ha).ok q2.2
  rw [q3, ho]
  refine enter_pure (args := [.agg #[.int .i64 d.lr, .int .i64 d.lc, .int .i64 d.tr, .int .i64 d.tf, .int .i64 d.te, .int .i64 d.tt, .int .i64 d.tg, .slice Ac d.closed.length cc, .int .i64 d.start, .int .i64 d.sum], .slice Al l.length cl, .int .i64 n]) [sl (fun b => b < w.heap.size) 1 enInt Ac d.closed, sl (fun b => b < w.heap.size) 3 encAct Al l] Tryd.func38 rfl (by rw [Tryd.ntmps38]; simp) (fun g hg => by simp at hg; rcases hg with rfl | rfl; exact ⟨hc, fun _ h => h⟩; exact ⟨hl0, fun _ h => h⟩) ?_
  refine cj_seq (cj_region ?_)
  refine oj_box rfl rfl rfl (fun b3 => ?_)
  refine oj_alloc Tryd.zeroValue64 rfl rfl (fun b6 => ?_)
  refine oj_step (y_assign rfl) rfl rfl rfl ?_
  refine oj_nil ?_
  refine ej_th (cj_seq (cj_region ?_))
  refine oj_step (y_loadN Tryd.isAgg44 Tryd.sizeOf44 rfl) rfl rfl rfl ?_
  refine oj_step (y_move rfl) rfl rfl rfl ?_
  refine oj_step (y_move rfl) rfl rfl rfl ?_
  refine oj_call (X := { p : Nat × Int × Int // RS d (toL d (exec d (openL d) l) n) p.2.1 p.2.2 }) (fun p => .tuple #[.pointer (some ⟨p.1.1, 0, none⟩), .int .i64 0]) (fun p => [ownB p.1.1 (cellsB 156 (encS d Ac cc (toL d (exec d (openL d) l) n) p.1.2.1 p.1.2.2))]) (fun _ => []) Tryd.call71 rfl (fun w hp => (k_ron_ok d Ac cc l Al cl n w hp.rd hp.rd ho).mono (fun e w2 ⟨p, h1, h2, h3, h4⟩ => ⟨⟨p, h4⟩, h1, h2, fun g hg => by
    simp only [List.mem_singleton] at hg
    subst hg
    exact h3, List.pairwise_singleton .., by simp⟩)) rfl ?_
  rintro ⟨⟨i14, ren, hr⟩, hrs⟩
  dsimp only [List.nil_append, List.cons_append] at hrs ⊢
  refine oj_step (y_move rfl) rfl rfl rfl ?_
  refine oj_step (y_extract rfl rfl) rfl rfl rfl ?_
  refine oj_step (y_extract rfl rfl) rfl rfl rfl ?_
  refine oj_step (y_assign rfl) rfl rfl rfl ?_
  refine oj_step (y_assign rfl) rfl rfl rfl ?_
  refine oj_nil ?_
  refine ej_th (cj_seq (cj_seq ?_))
  refine cj_regionG (gj_step (y_move rfl) rfl rfl rfl (gj_step (y_neq rfl rfl) rfl rfl rfl (gj_nil ?_)))
  refine ej_th ?_
  refine cj_cond rfl (fun h18 => ?_) (fun h18 => ?_)
  · exact absurd h18 (by decide)
  · have h18b := h18
    try simp only [sxb] at h18
    refine cj_skip (ej_th (cj_seq (cj_region ?_)))
    refine oj_step (y_move rfl) rfl rfl rfl ?_
    refine oj_step (y_call Tryd.call72 rfl (fun w hp => k_raccount d Ac cc (toL d (exec d (openL d) l) n) ren hr i14 w hp.own1 hd hxo hrs)) rfl rfl rfl ?_
    refine oj_store rfl rfl rfl rfl Tryd.sizeOf64 rfl ?_
    refine oj_step (y_assign rfl) rfl rfl rfl ?_
    refine oj_nil ?_
    refine ej_th (cj_ret ?_)
    exact ej_retC2 rfl Tryd.results38 rfl (y_loadN Tryd.isAgg64 Tryd.sizeOf64 rfl) rfl (fun w' hp => ⟨rfl, hp.below⟩)

theorem k_rOwe (d : Deal) (Ac : Option Addr) (cc : Nat) (l : List Act1) (Al : Option Addr) (cl : Nat) (n : Int) (w : World) (hc : Rd w 1 enInt Ac d.closed) (hl0 : Rd w 3 encAct Al l) : Calls Tryd.prog 38 #[.agg #[.int .i64 d.lr, .int .i64 d.lc, .int .i64 d.tr, .int .i64 d.tf, .int .i64 d.te, .int .i64 d.tt, .int .i64 d.tg, .slice Ac d.closed.length cc, .int .i64 d.start, .int .i64 d.sum], .slice Al l.length cl, .int .i64 n] w (fun e w' => e = .returned (.tuple #[.agg (encAcc (OweA d l n)).toArray, .int .i64 (onE d l n)]) ∧ Grow w w') := by
  by_cases ho : onE d l n = 0
  · exact k_rOwe_ok d Ac cc l Al cl n w hc hl0 ho
  · exact k_rOwe_no d Ac cc l Al cl n w hc hl0 ho

theorem k_rLegal_no (d : Deal) (Ac : Option Addr) (cc : Nat) (l : List Act1) (Al : Option Addr) (cl : Nat) (n : Int) (w : World) (hc : Rd w 1 enInt Ac d.closed) (hl0 : Rd w 3 encAct Al l) (ho : onE d l n ≠ 0) : Calls Tryd.prog 40 #[.agg #[.int .i64 d.lr, .int .i64 d.lc, .int .i64 d.tr, .int .i64 d.tf, .int .i64 d.te, .int .i64 d.tt, .int .i64 d.tg, .slice Ac d.closed.length cc, .int .i64 d.start, .int .i64 d.sum], .slice Al l.length cl, .int .i64 n] w (fun e w' => e = .returned (.tuple #[.int .i64 (LegalN d l n), .int .i64 (onE d l n)]) ∧ Grow w w') := by
  rw [legal_no ho]
  refine enter_pure (args := [.agg #[.int .i64 d.lr, .int .i64 d.lc, .int .i64 d.tr, .int .i64 d.tf, .int .i64 d.te, .int .i64 d.tt, .int .i64 d.tg, .slice Ac d.closed.length cc, .int .i64 d.start, .int .i64 d.sum], .slice Al l.length cl, .int .i64 n]) [sl (fun b => b < w.heap.size) 1 enInt Ac d.closed, sl (fun b => b < w.heap.size) 3 encAct Al l] Tryd.func40 rfl (by rw [Tryd.ntmps40]; simp) (fun g hg => by simp at hg; rcases hg with rfl | rfl; exact ⟨hc, fun _ h => h⟩; exact ⟨hl0, fun _ h => h⟩) ?_
  refine cj_seq (cj_region ?_)
  refine oj_box rfl rfl rfl (fun b3 => ?_)
  refine oj_step (y_assign rfl) rfl rfl rfl ?_
  refine oj_step (y_assign rfl) rfl rfl rfl ?_
  refine oj_nil ?_
  refine ej_th (cj_seq ?_)
  refine cj_regionG ?_
  refine gj_step (y_loadN Tryd.isAgg44 Tryd.sizeOf44 rfl) rfl rfl rfl (gj_step (y_move rfl) rfl rfl rfl (gj_step (y_move rfl) rfl rfl rfl (?_)))
  refine gj_step (y_call Tryd.call71 rfl (fun w hp => k_ron_no d Ac cc l Al cl n w hp.rd hp.rd ho)) rfl rfl rfl ?_
  refine gj_step (y_move rfl) rfl rfl rfl (gj_step (y_extract rfl rfl) rfl rfl rfl (gj_step (y_extract rfl rfl) rfl rfl rfl (gj_step (y_assign rfl) rfl rfl rfl (gj_step (y_assign rfl) rfl rfl rfl (?_)))))
  refine gj_nil ?_
  refine ej_th (cj_seq (cj_seq ?_))
  refine cj_regionG (gj_step (y_move rfl) rfl rfl rfl (gj_step (y_neq rfl rfl) rfl rfl rfl (gj_nil ?_)))
  refine ej_th ?_
  refine cj_cond rfl (fun h18 => ?_) (fun h18 => ?_)
  · have h18b := h18
    try simp only [sxb] at h18
    refine cj_seq ?_
    refine cj_regionG (gj_step (y_move rfl) rfl rfl rfl (gj_step (y_assign rfl) rfl rfl rfl (gj_step (y_assign rfl) rfl rfl rfl (gj_nil ?_))))
    refine ej_th (cj_ret (ej_then_ret ?_))
    exact ej_ret2 rfl Tryd.results40 rfl rfl (fun w' hp => ⟨rfl, hp.below⟩)
  · simp only [sxb] at h18
    exact absurd h18 ho

theorem k_rLegal_ok (d : Deal) (Ac : Option Addr) (cc : Nat) (l : List Act1) (Al : Option Addr) (cl : Nat) (n : Int) (w : World) (hc : Rd w 1 enInt Ac d.closed) (hl0 : Rd w 3 encAct Al l) (ho : onE d l n = 0) : Calls Tryd.prog 40 #[.agg #[.int .i64 d.lr, .int .i64 d.lc, .int .i64 d.tr, .int .i64 d.tf, .int .i64 d.te, .int .i64 d.tt, .int .i64 d.tg, .slice Ac d.closed.length cc, .int .i64 d.start, .int .i64 d.sum], .slice Al l.length cl, .int .i64 n] w (fun e w' => e = .returned (.tuple #[.int .i64 (LegalN d l n), .int .i64 (onE d l n)]) ∧ Grow w w') := by
  obtain ⟨q1, q2, q3, q4⟩ := on_ok ho
  obtain ⟨ha, hf, _, _, _⟩ := run_ok q1
  have hd := (ok_parts ha).1
  have hxo := toL_ok hd (run_good ha).ok q2.2
  rw [q4, ho]
  refine enter_pure (args := [.agg #[.int .i64 d.lr, .int .i64 d.lc, .int .i64 d.tr, .int .i64 d.tf, .int .i64 d.te, .int .i64 d.tt, .int .i64 d.tg, .slice Ac d.closed.length cc, .int .i64 d.start, .int .i64 d.sum], .slice Al l.length cl, .int .i64 n]) [sl (fun b => b < w.heap.size) 1 enInt Ac d.closed, sl (fun b => b < w.heap.size) 3 encAct Al l] Tryd.func40 rfl (by rw [Tryd.ntmps40]; simp) (fun g hg => by simp at hg; rcases hg with rfl | rfl; exact ⟨hc, fun _ h => h⟩; exact ⟨hl0, fun _ h => h⟩) ?_
  refine cj_seq (cj_region ?_)
  refine oj_box rfl rfl rfl (fun b3 => ?_)
  refine oj_step (y_assign rfl) rfl rfl rfl ?_
  refine oj_step (y_assign rfl) rfl rfl rfl ?_
  refine oj_nil ?_
  refine ej_th (cj_seq (cj_region ?_))
  refine oj_step (y_loadN Tryd.isAgg44 Tryd.sizeOf44 rfl) rfl rfl rfl ?_
  refine oj_step (y_move rfl) rfl rfl rfl ?_
  refine oj_step (y_move rfl) rfl rfl rfl ?_
  refine oj_call (X := { p : Nat × Int × Int // RS d (toL d (exec d (openL d) l) n) p.2.1 p.2.2 }) (fun p => .tuple #[.pointer (some ⟨p.1.1, 0, none⟩), .int .i64 0]) (fun p => [ownB p.1.1 (cellsB 156 (encS d Ac cc (toL d (exec d (openL d) l) n) p.1.2.1 p.1.2.2))]) (fun _ => []) Tryd.call71 rfl (fun w hp => (k_ron_ok d Ac cc l Al cl n w hp.rd hp.rd ho).mono (fun e w2 ⟨p, h1, h2, h3, h4⟩ => ⟨⟨p, h4⟩, h1, h2, fun g hg => by
    simp only [List.mem_singleton] at hg
    subst hg
    exact h3, List.pairwise_singleton .., by simp⟩)) rfl ?_
  rintro ⟨⟨i14, ren, hr⟩, hrs⟩
  dsimp only [List.nil_append, List.cons_append] at hrs ⊢
  refine oj_step (y_move rfl) rfl rfl rfl ?_
  refine oj_step (y_extract rfl rfl) rfl rfl rfl ?_
  refine oj_step (y_extract rfl rfl) rfl rfl rfl ?_
  refine oj_step (y_assign rfl) rfl rfl rfl ?_
  refine oj_step (y_assign rfl) rfl rfl rfl ?_
  refine oj_nil ?_
  refine ej_th (cj_seq (cj_seq ?_))
  refine cj_regionG (gj_step (y_move rfl) rfl rfl rfl (gj_step (y_neq rfl rfl) rfl rfl rfl (gj_nil ?_)))
  refine ej_th ?_
  refine cj_cond rfl (fun h18 => ?_) (fun h18 => ?_)
  · exact absurd h18 (by decide)
  · have h18b := h18
    try simp only [sxb] at h18
    refine cj_skip (ej_th (cj_seq ?_))
    refine cj_regionG ?_
    refine gj_step (y_move rfl) rfl rfl rfl (?_)
    refine gj_step (y_call Tryd.call74 rfl (fun w hp => k_rlegal d Ac cc (toL d (exec d (openL d) l) n) ren hr i14 w hp.own1 hd hxo)) rfl rfl rfl ?_
    refine gj_step (y_assign rfl) rfl rfl rfl (gj_step (y_assign rfl) rfl rfl rfl (?_))
    refine gj_nil ?_
    refine ej_th (cj_ret ?_)
    exact ej_ret2 rfl Tryd.results40 rfl rfl (fun w' hp => ⟨rfl, hp.below⟩)

theorem k_rLegal (d : Deal) (Ac : Option Addr) (cc : Nat) (l : List Act1) (Al : Option Addr) (cl : Nat) (n : Int) (w : World) (hc : Rd w 1 enInt Ac d.closed) (hl0 : Rd w 3 encAct Al l) : Calls Tryd.prog 40 #[.agg #[.int .i64 d.lr, .int .i64 d.lc, .int .i64 d.tr, .int .i64 d.tf, .int .i64 d.te, .int .i64 d.tt, .int .i64 d.tg, .slice Ac d.closed.length cc, .int .i64 d.start, .int .i64 d.sum], .slice Al l.length cl, .int .i64 n] w (fun e w' => e = .returned (.tuple #[.int .i64 (LegalN d l n), .int .i64 (onE d l n)]) ∧ Grow w w') := by
  by_cases ho : onE d l n = 0
  · exact k_rLegal_ok d Ac cc l Al cl n w hc hl0 ho
  · exact k_rLegal_no d Ac cc l Al cl n w hc hl0 ho

theorem k_rRun_no (d : Deal) (Ac : Option Addr) (cc : Nat) (l : List Act1) (Al : Option Addr) (cl : Nat) (w : World) (hc : Rd w 1 enInt Ac d.closed) (hl0 : Rd w 3 encAct Al l) (hE : RunE d l ≠ 0) : Calls Tryd.prog 35 #[.agg #[.int .i64 d.lr, .int .i64 d.lc, .int .i64 d.tr, .int .i64 d.tf, .int .i64 d.te, .int .i64 d.tt, .int .i64 d.tg, .slice Ac d.closed.length cc, .int .i64 d.start, .int .i64 d.sum], .slice Al l.length cl] w (fun e w' => ∃ A c, e = .returned (.tuple #[.slice A (RunO d l).length c, .int .i64 (RunN d l), .int .i64 (RunE d l)]) ∧ Grow w w' ∧ Res w w' 5 encAcc A (RunO d l)) := by
  rw [runO_no hE]
  refine enter_pure (args := [.agg #[.int .i64 d.lr, .int .i64 d.lc, .int .i64 d.tr, .int .i64 d.tf, .int .i64 d.te, .int .i64 d.tt, .int .i64 d.tg, .slice Ac d.closed.length cc, .int .i64 d.start, .int .i64 d.sum], .slice Al l.length cl]) [sl (fun b => b < w.heap.size) 1 enInt Ac d.closed, sl (fun b => b < w.heap.size) 3 encAct Al l] Tryd.func35 rfl (by rw [Tryd.ntmps35]; simp) (fun g hg => by simp at hg; rcases hg with rfl | rfl; exact ⟨hc, fun _ h => h⟩; exact ⟨hl0, fun _ h => h⟩) ?_
  refine cj_seq (cj_region ?_)
  refine oj_box rfl rfl rfl (fun b2 => ?_)
  refine oj_step (y_assign rfl) rfl rfl rfl ?_
  refine oj_step (y_assign rfl) rfl rfl rfl ?_
  refine oj_step (y_assign rfl) rfl rfl rfl ?_
  refine oj_nil ?_
  refine ej_th (cj_seq ?_)
  refine cj_regionG ?_
  refine gj_step (y_loadN Tryd.isAgg44 Tryd.sizeOf44 rfl) rfl rfl rfl (gj_step (y_move rfl) rfl rfl rfl (?_))
  refine gj_step (y_call Tryd.call70 rfl (fun w hp => k_rrun_no d Ac cc l Al cl w hp.rd hp.rd hE)) rfl rfl rfl ?_
  refine gj_step (y_move rfl) rfl rfl rfl (gj_step (y_extract rfl rfl) rfl rfl rfl (gj_step (y_extract rfl rfl) rfl rfl rfl (gj_step (y_extract rfl rfl) rfl rfl rfl (gj_step (y_extract rfl rfl) rfl rfl rfl (gj_step (y_assign rfl) rfl rfl rfl (gj_step (y_assign rfl) rfl rfl rfl (gj_step (y_assign rfl) rfl rfl rfl (gj_step (y_assign rfl) rfl rfl rfl (?_)))))))))
  refine gj_nil ?_
  refine ej_th (cj_seq ?_)
  refine cj_regionG (gj_step (y_move rfl) rfl rfl rfl (gj_step (y_move rfl) rfl rfl rfl (gj_step (y_move rfl) rfl rfl rfl (gj_step (y_assign rfl) rfl rfl rfl (gj_step (y_assign rfl) rfl rfl rfl (gj_step (y_assign rfl) rfl rfl rfl (gj_nil ?_)))))))
  refine ej_th (cj_ret ?_)
  exact ej_ret3 rfl Tryd.results35 rfl rfl rfl (fun w' hp => ⟨none, 0, rfl, hp.below, Res.nil⟩)

theorem k_rRun_ok (d : Deal) (Ac : Option Addr) (cc : Nat) (l : List Act1) (Al : Option Addr) (cl : Nat) (w : World) (hc : Rd w 1 enInt Ac d.closed) (hl0 : Rd w 3 encAct Al l) (hE : RunE d l = 0) : Calls Tryd.prog 35 #[.agg #[.int .i64 d.lr, .int .i64 d.lc, .int .i64 d.tr, .int .i64 d.tf, .int .i64 d.te, .int .i64 d.tt, .int .i64 d.tg, .slice Ac d.closed.length cc, .int .i64 d.start, .int .i64 d.sum], .slice Al l.length cl] w (fun e w' => ∃ A c, e = .returned (.tuple #[.slice A (RunO d l).length c, .int .i64 (RunN d l), .int .i64 (RunE d l)]) ∧ Grow w w' ∧ Res w w' 5 encAcc A (RunO d l)) := by
  obtain ⟨_, _, _, hN, _⟩ := run_ok hE
  rw [hN, hE]
  refine enter_pure (args := [.agg #[.int .i64 d.lr, .int .i64 d.lc, .int .i64 d.tr, .int .i64 d.tf, .int .i64 d.te, .int .i64 d.tt, .int .i64 d.tg, .slice Ac d.closed.length cc, .int .i64 d.start, .int .i64 d.sum], .slice Al l.length cl]) [sl (fun b => b < w.heap.size) 1 enInt Ac d.closed, sl (fun b => b < w.heap.size) 3 encAct Al l] Tryd.func35 rfl (by rw [Tryd.ntmps35]; simp) (fun g hg => by simp at hg; rcases hg with rfl | rfl; exact ⟨hc, fun _ h => h⟩; exact ⟨hl0, fun _ h => h⟩) ?_
  refine cj_seq (cj_region ?_)
  refine oj_box rfl rfl rfl (fun b2 => ?_)
  refine oj_step (y_assign rfl) rfl rfl rfl ?_
  refine oj_step (y_assign rfl) rfl rfl rfl ?_
  refine oj_step (y_assign rfl) rfl rfl rfl ?_
  refine oj_nil ?_
  refine ej_th (cj_seq (cj_region ?_))
  refine oj_step (y_loadN Tryd.isAgg44 Tryd.sizeOf44 rfl) rfl rfl rfl ?_
  refine oj_step (y_move rfl) rfl rfl rfl ?_
  refine oj_call (X := { p : Nat × Option Addr × Nat × Nat × Nat // w.heap.size ≤ p.2.2.2.1 }) (fun p => .tuple #[.pointer (some ⟨p.1.1, 0, none⟩), .slice p.1.2.1 (RunO d l).length p.1.2.2.1, .int .i64 l.length, .int .i64 0]) (fun _ => []) (fun p => [sl (fun i => p.1.2.2.2.1 ≤ i ∧ i < p.1.2.2.2.2) 5 encAcc p.1.2.1 (RunO d l)]) Tryd.call70 rfl (fun w1 hp => (k_rrun_ok d Ac cc l Al cl w1 hp.rd hp.rd hE).mono (fun e w2 ⟨p, h1, h2, h3, h4, h5⟩ => ⟨⟨(p.1, p.2.1, p.2.2.1, w1.heap.size, w2.heap.size), hp.size⟩, h1, h2, by simp, by simp, fun g hg => by
    simp only [List.mem_singleton] at hg
    subst hg
    exact ⟨sl_fp h4 (fun i hi => ⟨hi.1, hi.2.1⟩), fun i hi => ⟨hi.1, hi.2, by simp⟩⟩⟩)) rfl ?_
  rintro ⟨⟨i14, A14, c14, s14, t14⟩, hs14⟩
  dsimp only [List.nil_append, List.cons_append] at hs14 ⊢
  refine oj_step (y_move rfl) rfl rfl rfl ?_
  refine oj_step (y_extract rfl rfl) rfl rfl rfl ?_
  refine oj_step (y_extract rfl rfl) rfl rfl rfl ?_
  refine oj_step (y_extract rfl rfl) rfl rfl rfl ?_
  refine oj_step (y_extract rfl rfl) rfl rfl rfl ?_
  refine oj_step (y_assign rfl) rfl rfl rfl ?_
  refine oj_step (y_assign rfl) rfl rfl rfl ?_
  refine oj_step (y_assign rfl) rfl rfl rfl ?_
  refine oj_step (y_assign rfl) rfl rfl rfl ?_
  refine oj_nil ?_
  refine ej_th (cj_seq ?_)
  refine cj_regionG (gj_step (y_move rfl) rfl rfl rfl (gj_step (y_move rfl) rfl rfl rfl (gj_step (y_move rfl) rfl rfl rfl (gj_step (y_assign rfl) rfl rfl rfl (gj_step (y_assign rfl) rfl rfl rfl (gj_step (y_assign rfl) rfl rfl rfl (gj_nil ?_)))))))
  refine ej_th (cj_ret ?_)
  exact ej_ret3 rfl Tryd.results35 rfl rfl rfl (fun w' hp => ⟨A14, c14, rfl, hp.below, hp.resS (fp := fun i => s14 ≤ i ∧ i < t14) (fun i hi => Nat.le_trans hs14 hi.1)⟩)

theorem k_rRun (d : Deal) (Ac : Option Addr) (cc : Nat) (l : List Act1) (Al : Option Addr) (cl : Nat) (w : World) (hc : Rd w 1 enInt Ac d.closed) (hl0 : Rd w 3 encAct Al l) : Calls Tryd.prog 35 #[.agg #[.int .i64 d.lr, .int .i64 d.lc, .int .i64 d.tr, .int .i64 d.tf, .int .i64 d.te, .int .i64 d.tt, .int .i64 d.tg, .slice Ac d.closed.length cc, .int .i64 d.start, .int .i64 d.sum], .slice Al l.length cl] w (fun e w' => ∃ A c, e = .returned (.tuple #[.slice A (RunO d l).length c, .int .i64 (RunN d l), .int .i64 (RunE d l)]) ∧ Grow w w' ∧ Res w w' 5 encAcc A (RunO d l)) := by
  by_cases hE : RunE d l = 0
  · exact k_rRun_ok d Ac cc l Al cl w hc hl0 hE
  · exact k_rRun_no d Ac cc l Al cl w hc hl0 hE

theorem k_accounts (xs ys : List Acc) (A B : Option Addr) (c c2 : Nat) (w : World) (hx : Rd w 5 encAcc A xs) (hy : Rd w 5 encAcc B ys) : Calls Tryd.prog 36 #[.slice A xs.length c, .slice B ys.length c2] w (fun e w' => e = .returned (.bool (decide (xs = ys))) ∧ Grow w w') := by
  have hlen := hx.len
  have hlen2 := hy.len
  refine enter_pure (args := [.slice A xs.length c, .slice B ys.length c2]) [sl (fun b => b < w.heap.size) 5 encAcc A xs, sl (fun b => b < w.heap.size) 5 encAcc B ys] Tryd.func36 rfl (by rw [Tryd.ntmps36]; simp) (fun g hg => by simp at hg; rcases hg with rfl | rfl; exact ⟨hx, fun _ h => h⟩; exact ⟨hy, fun _ h => h⟩) ?_
  refine cj_seq ?_
  refine cj_regionG (gj_step (y_assign rfl) rfl rfl rfl (gj_nil ?_))
  refine ej_th (cj_seq ?_)
  refine cj_regionG (gj_step (y_move rfl) rfl rfl rfl (gj_step (y_lenA Tryd.underlying74 rfl) rfl rfl rfl (gj_step (y_move rfl) rfl rfl rfl (gj_step (y_lenA Tryd.underlying74 rfl) rfl rfl rfl (gj_step (y_eql rfl rfl) rfl rfl rfl (gj_step (y_assign rfl) rfl rfl rfl (gj_nil ?_)))))))
  refine ej_th (cj_seq (cj_seq ?_))
  refine cj_regionG (gj_step (y_assign rfl) rfl rfl rfl (gj_nil ?_))
  refine ej_th (cj_block ?_)
  refine cj_lpic (X := Nat × Bool) [(0, _), (1, _), (4, _)] (fun ⟨k, ok⟩ => k ≤ xs.length ∧ ok = decide (xs.length = ys.length ∧ xs.take k = ys.take k)) (fun ⟨k, ok⟩ => [(5, .bool ok), (6, .int .i64 k)]) (fun ⟨k, ok⟩ => xs.length - k) (0, decide ((xs.length : Int) = ys.length)) (⟨Nat.zero_le _, by simp [Int.ofNat_inj]⟩) ⟨rfl, rfl, rfl, rfl, rfl, trivial⟩ ?_
  rintro ⟨k, ok⟩ ⟨hk, hl⟩
  dsimp only [List.cons_append, List.nil_append]
  refine cj_seq (cj_seq ?_)
  refine cj_regionG (gj_step (y_move rfl) rfl rfl rfl (gj_step (y_move rfl) rfl rfl rfl (gj_g 4 13 17 rfl rfl rfl rfl (fun hg13 => gj_yes rfl rfl rfl (y_move rfl) rfl rfl (gj_yes rfl rfl rfl (y_move rfl) rfl rfl (gj_yes rfl rfl rfl (y_lenA Tryd.underlying74 rfl) rfl rfl (gj_yes rfl rfl rfl (y_lss rfl rfl) rfl rfl (gj_nil rfl))))) (gj_step (y_and rfl rfl rfl) rfl rfl rfl (gj_nil ?_)))))
  refine ej_th ?_
  refine cj_cond rfl (fun h18 => ?_) (fun h18 => ?_)
  · have h18b := h18
    try simp only [sxb] at h18
    have hle : xs.length = ys.length := by
      have h := hl; rw [h18.1] at h; exact (of_decide_eq_true h.symm).1
    obtain ⟨x, hx'⟩ : ∃ x, xs[k]? = some x := ⟨_, List.getElem?_eq_getElem (by omega)⟩
    obtain ⟨y, hy'⟩ : ∃ y, ys[k]? = some y := ⟨_, List.getElem?_eq_getElem (by omega)⟩
    refine cj_skip (ej_th (cj_seq (cj_block ?_)))
    refine cj_draw (by kernel_rfl) (by kernel_rfl) (gj_step (y_move rfl) rfl rfl rfl (gj_step (y_move rfl) rfl rfl rfl (gj_step (y_ixR (reads_sl) Tryd.underlying74 Tryd.sizeOf64 rfl rfl (⟨by omega, by omega⟩)) rfl rfl rfl (gj_step (y_ldW (reads_sl) Tryd.isAgg64 Tryd.sizeOf64 rfl (hx') (fun _ => rfl)) rfl rfl rfl (gj_step (y_move rfl) rfl rfl rfl (gj_step (y_move rfl) rfl rfl rfl (gj_step (y_ixR (reads_sl) Tryd.underlying74 Tryd.sizeOf64 rfl rfl (⟨by omega, by omega⟩)) rfl rfl rfl (gj_step (y_ldW (reads_sl) Tryd.isAgg64 Tryd.sizeOf64 rfl (hy') (fun _ => rfl)) rfl rfl rfl (gj_step (y_bin rfl rfl (fun x y w => eq64 _ _ _ _ _ _ _ _ _ _ x y w)) rfl rfl rfl (gj_step (y_assign rfl) rfl rfl rfl (gj_nil ?_)))))))))))
    refine ej_blk (ej_th ?_)
    refine cj_regionG (gj_step (y_move rfl) rfl rfl rfl (gj_step (y_add rfl rfl (by omega)) rfl rfl rfl (gj_step (y_assign rfl) rfl rfl rfl (gj_nil ?_))))
    refine ej_nx (k + 1, decide (x = y)) (by simp only; omega) ⟨by omega, ?_⟩ ⟨by rw [acc_eq]; rfl, rfl, rfl, rfl, rfl, trivial⟩
    rw [h18.1] at hl
    have hl := of_decide_eq_true hl.symm
    exact decide_eq_decide.2 ⟨fun h => ⟨hl.1, (take_eq_succA hx' hy').2 ⟨hl.2, h⟩⟩, fun h => ((take_eq_succA hx' hy').1 h.2).2⟩
  · have h18b := h18
    try simp only [sxb] at h18
    refine cj_exit (ej_then_exit (ej_then_exit (ej_blk_hit (ej_th (cj_seq ?_)))))
    refine cj_regionG (gj_step (y_move rfl) rfl rfl rfl (gj_step (y_assign rfl) rfl rfl rfl (gj_nil ?_)))
    refine ej_th (cj_ret ?_)
    refine ej_ret1 rfl Tryd.results36 rfl (fun w' hp => ⟨?_, hp.below⟩)
    rw [hl]
    rcases h18 with h | h
    · rw [h] at hl
      have h1 := of_decide_eq_false hl.symm
      rw [decide_eq_false h1, decide_eq_false]
      rintro rfl
      exact h1 ⟨rfl, rfl⟩
    · rw [List.take_of_length_le (by omega)]
      congr 1
      refine congrArg _ (decide_eq_decide.2 ⟨fun h1 => ?_, ?_⟩)
      · rw [h1.2, List.take_of_length_le (by omega)]
      · rintro rfl
        exact ⟨rfl, (List.take_of_length_le (by omega)).symm⟩

theorem k_LoanRuns (d : Deal) (Ac : Option Addr) (cc : Nat) (l : List Act1) (Al : Option Addr) (cl : Nat) (n : Int) (w : World) (hc : Rd w 1 enInt Ac d.closed) (hl0 : Rd w 3 encAct Al l) (hG : Gl w 0 WAYS) : Calls Tryd.prog 10 #[.agg #[.int .i64 d.lr, .int .i64 d.lc, .int .i64 d.tr, .int .i64 d.tf, .int .i64 d.te, .int .i64 d.tt, .int .i64 d.tg, .slice Ac d.closed.length cc, .int .i64 d.start, .int .i64 d.sum], .slice Al l.length cl, .int .i64 n] w (fun e w' => e = .returned (.bool true) ∧ Grow w w') := by
  refine enter_pure (args := [.agg #[.int .i64 d.lr, .int .i64 d.lc, .int .i64 d.tr, .int .i64 d.tf, .int .i64 d.te, .int .i64 d.tt, .int .i64 d.tg, .slice Ac d.closed.length cc, .int .i64 d.start, .int .i64 d.sum], .slice Al l.length cl, .int .i64 n]) [sl (fun b => b < w.heap.size) 1 enInt Ac d.closed, sl (fun b => b < w.heap.size) 3 encAct Al l, gl 0 WAYS] Tryd.func10 rfl (by rw [Tryd.ntmps10]; simp) (fun g hg => by simp at hg; rcases hg with rfl | rfl | rfl; exact ⟨hc, fun _ h => h⟩; exact ⟨hl0, fun _ h => h⟩; exact ⟨hG.1, fun b hb => by have : b = 0 := hb; rw [this]; exact hG.2⟩) ?_
  refine cj_seq (cj_region ?_)
  refine oj_box rfl rfl rfl (fun b3 => ?_)
  refine oj_step (y_assign rfl) rfl rfl rfl ?_
  refine oj_nil ?_
  refine ej_th (cj_seq (cj_region ?_))
  refine oj_step (y_loadN Tryd.isAgg44 Tryd.sizeOf44 rfl) rfl rfl rfl ?_
  refine oj_step (y_move rfl) rfl rfl rfl ?_
  refine oj_callS (fun A c => .tuple #[.slice A (RunO d (l)).length c, .int .i64 (RunN d (l)), .int .i64 (RunE d (l))]) 5 encAcc (RunO d (l)) Tryd.call34 rfl (fun w hp => k_Run d Ac cc (l) Al cl w hp.rd (hp.rd) hp.glo) rfl (fun A18 c18 fp18 hfp18 => ?_)
  refine oj_step (y_move rfl) rfl rfl rfl ?_
  refine oj_step (y_extract rfl rfl) rfl rfl rfl ?_
  refine oj_step (y_extract rfl rfl) rfl rfl rfl ?_
  refine oj_step (y_extract rfl rfl) rfl rfl rfl ?_
  refine oj_step (y_assign rfl) rfl rfl rfl ?_
  refine oj_step (y_assign rfl) rfl rfl rfl ?_
  refine oj_step (y_assign rfl) rfl rfl rfl ?_
  refine oj_nil ?_
  refine ej_th (cj_seq (cj_region ?_))
  refine oj_step (y_loadN Tryd.isAgg44 Tryd.sizeOf44 rfl) rfl rfl rfl ?_
  refine oj_step (y_move rfl) rfl rfl rfl ?_
  refine oj_callS (fun A c => .tuple #[.slice A (RunO d (l)).length c, .int .i64 (RunN d (l)), .int .i64 (RunE d (l))]) 5 encAcc (RunO d (l)) Tryd.call35 rfl (fun w hp => k_rRun d Ac cc (l) Al cl w hp.rd (hp.rd)) rfl (fun A25 c25 fp25 hfp25 => ?_)
  refine oj_step (y_move rfl) rfl rfl rfl ?_
  refine oj_step (y_extract rfl rfl) rfl rfl rfl ?_
  refine oj_step (y_extract rfl rfl) rfl rfl rfl ?_
  refine oj_step (y_extract rfl rfl) rfl rfl rfl ?_
  refine oj_step (y_assign rfl) rfl rfl rfl ?_
  refine oj_step (y_assign rfl) rfl rfl rfl ?_
  refine oj_step (y_assign rfl) rfl rfl rfl ?_
  refine oj_nil ?_
  refine ej_th (cj_seq (cj_seq ?_))
  refine cj_draw (by kernel_rfl) (by kernel_rfl) ?_
  refine gj_step (y_move rfl) rfl rfl rfl (gj_step (y_move rfl) rfl rfl rfl (?_))
  refine gj_step (y_call Tryd.call36 rfl (fun w hp => k_accounts (RunO d l) (RunO d l) A18 A25 c18 c25 w hp.rd hp.rd)) rfl rfl rfl ?_
  refine gj_step (y_not rfl) rfl rfl rfl (gj_step (y_move rfl) rfl rfl rfl (?_))
  refine gj_g 3 33 36 rfl rfl rfl rfl (fun hg33 => gj_yes rfl rfl rfl (y_move rfl) rfl rfl (gj_yes rfl rfl rfl (y_move rfl) rfl rfl (gj_yes rfl rfl rfl (y_neq rfl rfl) rfl rfl (gj_nil rfl)))) ?_
  refine gj_step (y_or rfl rfl rfl) rfl rfl rfl (gj_step (y_move rfl) rfl rfl rfl (?_))
  refine gj_g 3 38 41 rfl rfl rfl rfl (fun hg38 => gj_yes rfl rfl rfl (y_move rfl) rfl rfl (gj_yes rfl rfl rfl (y_move rfl) rfl rfl (gj_yes rfl rfl rfl (y_neq rfl rfl) rfl rfl (gj_nil rfl)))) ?_
  refine gj_step (y_or rfl rfl rfl) rfl rfl rfl (gj_step (y_move rfl) rfl rfl rfl (?_))
  refine gj_g 5 43 48 rfl rfl rfl rfl (fun hg43 => gj_yes rfl rfl rfl (y_loadN Tryd.isAgg44 Tryd.sizeOf44 rfl) rfl rfl (gj_yes rfl rfl rfl (y_call Tryd.call31 rfl (fun w hp => k_Check d Ac cc w hp.rd)) rfl rfl (gj_yes rfl rfl rfl (y_loadN Tryd.isAgg44 Tryd.sizeOf44 rfl) rfl rfl (gj_yes rfl rfl rfl (y_call Tryd.call37 rfl (fun w hp => k_rCheck d Ac cc w hp.rd)) rfl rfl (gj_yes rfl rfl rfl (y_neq rfl rfl) rfl rfl (gj_nil rfl)))))) ?_
  refine gj_step (y_or rfl rfl rfl) rfl rfl rfl (?_)
  refine gj_nil ?_
  refine ej_th ?_
  refine cj_cond rfl (fun h49 => ?_) (fun h49 => ?_)
  · exact absurd h49 (by simp)
  · have h49b := h49
    try simp only [sxb] at h49
    refine cj_skip (ej_th (cj_seq (cj_region ?_)))
    refine oj_step (y_loadN Tryd.isAgg44 Tryd.sizeOf44 rfl) rfl rfl rfl ?_
    refine oj_step (y_move rfl) rfl rfl rfl ?_
    refine oj_step (y_move rfl) rfl rfl rfl ?_
    refine oj_step (y_call Tryd.call32 rfl (fun w hp => k_Owe d Ac cc l Al cl n w hp.rd hp.rd hp.glo)) rfl rfl rfl ?_
    refine oj_step (y_move rfl) rfl rfl rfl ?_
    refine oj_step (y_extract rfl rfl) rfl rfl rfl ?_
    refine oj_step (y_extract rfl rfl) rfl rfl rfl ?_
    refine oj_alloc Tryd.zeroValue64 rfl rfl (fun b13 => ?_)
    refine oj_store rfl rfl rfl rfl Tryd.sizeOf64 rfl ?_
    refine oj_step (y_assign rfl) rfl rfl rfl ?_
    refine oj_nil ?_
    refine ej_th (cj_seq (cj_region ?_))
    refine oj_step (y_loadN Tryd.isAgg44 Tryd.sizeOf44 rfl) rfl rfl rfl ?_
    refine oj_step (y_move rfl) rfl rfl rfl ?_
    refine oj_step (y_move rfl) rfl rfl rfl ?_
    refine oj_step (y_call Tryd.call38 rfl (fun w hp => k_rOwe d Ac cc l Al cl n w hp.rd hp.rd)) rfl rfl rfl ?_
    refine oj_step (y_move rfl) rfl rfl rfl ?_
    refine oj_step (y_extract rfl rfl) rfl rfl rfl ?_
    refine oj_step (y_extract rfl rfl) rfl rfl rfl ?_
    refine oj_alloc Tryd.zeroValue64 rfl rfl (fun b14 => ?_)
    refine oj_store rfl rfl rfl rfl Tryd.sizeOf64 rfl ?_
    refine oj_step (y_assign rfl) rfl rfl rfl ?_
    refine oj_nil ?_
    refine ej_th (cj_seq (cj_seq ?_))
    refine cj_regionG (gj_step (y_loadN Tryd.isAgg64 Tryd.sizeOf64 rfl) rfl rfl rfl (gj_step (y_loadN Tryd.isAgg64 Tryd.sizeOf64 rfl) rfl rfl rfl (gj_step (y_bin rfl rfl (fun x y w => ne64 _ _ _ _ _ _ _ _ _ _ x y w)) rfl rfl rfl (gj_step (y_move rfl) rfl rfl rfl (gj_g 3 67 70 rfl rfl rfl rfl (fun hg67 => gj_yes rfl rfl rfl (y_move rfl) rfl rfl (gj_yes rfl rfl rfl (y_move rfl) rfl rfl (gj_yes rfl rfl rfl (y_neq rfl rfl) rfl rfl (gj_nil rfl)))) (gj_step (y_or rfl rfl rfl) rfl rfl rfl (gj_nil ?_)))))))
    refine ej_th ?_
    refine cj_cond rfl (fun h71 => ?_) (fun h71 => ?_)
    · exact absurd h71 (by simp)
    · have h71b := h71
      try simp only [sxb] at h71
      refine cj_skip (ej_th (cj_seq ?_))
      refine cj_regionG ?_
      refine gj_step (y_loadN Tryd.isAgg44 Tryd.sizeOf44 rfl) rfl rfl rfl (gj_step (y_move rfl) rfl rfl rfl (gj_step (y_move rfl) rfl rfl rfl (?_)))
      refine gj_step (y_call Tryd.call39 rfl (fun w hp => k_Legal d Ac cc l Al cl n w hp.rd hp.rd hp.glo)) rfl rfl rfl ?_
      refine gj_step (y_move rfl) rfl rfl rfl (gj_step (y_extract rfl rfl) rfl rfl rfl (gj_step (y_extract rfl rfl) rfl rfl rfl (gj_step (y_assign rfl) rfl rfl rfl (gj_step (y_assign rfl) rfl rfl rfl (?_)))))
      refine gj_nil ?_
      refine ej_th (cj_seq ?_)
      refine cj_regionG ?_
      refine gj_step (y_loadN Tryd.isAgg44 Tryd.sizeOf44 rfl) rfl rfl rfl (gj_step (y_move rfl) rfl rfl rfl (gj_step (y_move rfl) rfl rfl rfl (?_)))
      refine gj_step (y_call Tryd.call40 rfl (fun w hp => k_rLegal d Ac cc l Al cl n w hp.rd hp.rd)) rfl rfl rfl ?_
      refine gj_step (y_move rfl) rfl rfl rfl (gj_step (y_extract rfl rfl) rfl rfl rfl (gj_step (y_extract rfl rfl) rfl rfl rfl (gj_step (y_assign rfl) rfl rfl rfl (gj_step (y_assign rfl) rfl rfl rfl (?_)))))
      refine gj_nil ?_
      refine ej_th (cj_seq ?_)
      refine cj_regionG ?_
      refine gj_step (y_move rfl) rfl rfl rfl (gj_step (y_move rfl) rfl rfl rfl (gj_step (y_eql rfl rfl) rfl rfl rfl (gj_step (y_move rfl) rfl rfl rfl (?_))))
      refine gj_g 3 89 92 rfl rfl rfl rfl (fun hg89 => gj_yes rfl rfl rfl (y_move rfl) rfl rfl (gj_yes rfl rfl rfl (y_move rfl) rfl rfl (gj_yes rfl rfl rfl (y_eql rfl rfl) rfl rfl (gj_nil rfl)))) ?_
      refine gj_step (y_and rfl rfl rfl) rfl rfl rfl (gj_step (y_move rfl) rfl rfl rfl (?_))
      refine gj_g 1 94 95 rfl rfl rfl rfl (fun hg94 => gj_yes rfl rfl rfl (y_call Tryd.call23 rfl (fun w hp => k_works w hp.glo)) rfl rfl (gj_nil rfl)) ?_
      refine gj_step (y_and rfl rfl rfl) rfl rfl rfl (gj_step (y_assign rfl) rfl rfl rfl (?_))
      refine gj_nil ?_
      refine ej_th (cj_ret ?_)
      exact ej_ret1 rfl Tryd.results10 rfl (fun w' hp => ⟨by simp, hp.below⟩)

end Go.Proofs.YtafmgkiddhappaaDoor
