/- Walks of functions of the program. -/
import Derived.Test.YtafmgkiddhappaaDoorZWb
import Derived.Test.YtafmgkiddhappaaDoorYPOnce
import Derived.Test.YtafmgkiddhappaaDoorZP
import Derived.Test.YtafmgkiddhappaaDoorZSb
import Derived.Test.YtafmgkiddhappaaDoorYTyKeep
import Derived.Test.YtafmgkiddhappaaDoorYTyFair
import Derived.Test.YtafmgkiddhappaaDoorYTyEarly
import Derived.Test.YtafmgkiddhappaaDoorYTyOnce
namespace Go.Proofs.YtafmgkiddhappaaDoor
open Go.Sx Go.RowKit
set_option maxRecDepth 20000
theorem k_Run_no (d : Deal) (Ac : Option Addr) (cc : Nat) (l : List Act1) (Al : Option Addr) (cl : Nat) (w : World) (hc : Rd w 1 enInt Ac d.closed) (hl0 : Rd w 3 encAct Al l) (hG : Gl w 0 WAYS) (ha : askOk d l = false) : Calls Tryd.prog 34 #[.agg #[.int .i64 d.lr, .int .i64 d.lc, .int .i64 d.tr, .int .i64 d.tf, .int .i64 d.te, .int .i64 d.tt, .int .i64 d.tg, .slice Ac d.closed.length cc, .int .i64 d.start, .int .i64 d.sum], .slice Al l.length cl] w (fun e w' => ∃ A c, e = .returned (.tuple #[.slice A (RunO d l).length c, .int .i64 (RunN d l), .int .i64 (RunE d l)]) ∧ Grow w w' ∧ Res w w' 5 encAcc A (RunO d l)) := by
  have h1 : RunO d l = [] := by simp [RunO, ha]
  have h2 : RunN d l = 0 := by simp [RunN, ha]
  have h3 : RunE d l = askE d l := by simp [RunE, ha]
  rw [h1, h2, h3]
  refine enter_pure (args := [.agg #[.int .i64 d.lr, .int .i64 d.lc, .int .i64 d.tr, .int .i64 d.tf, .int .i64 d.te, .int .i64 d.tt, .int .i64 d.tg, .slice Ac d.closed.length cc, .int .i64 d.start, .int .i64 d.sum], .slice Al l.length cl]) [sl (fun b => b < w.heap.size) 1 enInt Ac d.closed, sl (fun b => b < w.heap.size) 3 encAct Al l, gl 0 WAYS] Tryd.func34 rfl (by rw [Tryd.ntmps34]; simp) (fun g hg => by simp at hg; rcases hg with rfl | rfl | rfl; exact ⟨hc, fun _ h => h⟩; exact ⟨hl0, fun _ h => h⟩; exact ⟨hG.1, fun b hb => by have : b = 0 := hb; rw [this]; exact hG.2⟩) ?_
  refine cj_seq (cj_region ?_)
  refine oj_box rfl rfl rfl (fun b2 => ?_)
  refine oj_step (y_assign rfl) rfl rfl rfl ?_
  refine oj_step (y_assign rfl) rfl rfl rfl ?_
  refine oj_step (y_assign rfl) rfl rfl rfl ?_
  refine oj_nil ?_
  refine ej_th (cj_seq (cj_region ?_))
  refine oj_step (y_loadN Tryd.isAgg44 Tryd.sizeOf44 rfl) rfl rfl rfl ?_
  refine oj_step (y_move rfl) rfl rfl rfl ?_
  refine oj_step (y_call Tryd.call69 rfl (fun w hp => k_asked_no d Ac cc l Al cl w hp.rd hp.rd hp.glo ha)) rfl rfl rfl ?_
  refine oj_step (y_move rfl) rfl rfl rfl ?_
  refine oj_step (y_extract rfl rfl) rfl rfl rfl ?_
  refine oj_step (y_extract rfl rfl) rfl rfl rfl ?_
  refine oj_step (y_extract rfl rfl) rfl rfl rfl ?_
  refine oj_step (y_extract rfl rfl) rfl rfl rfl ?_
  refine oj_alloc Tryd.zeroValue121 rfl rfl (fun b7 => ?_)
  refine oj_store rfl rfl rfl rfl Tryd.sizeOf121 rfl ?_
  refine oj_step (y_assign rfl) rfl rfl rfl ?_
  refine oj_step (y_assign rfl) rfl rfl rfl ?_
  refine oj_step (y_assign rfl) rfl rfl rfl ?_
  refine oj_nil ?_
  refine ej_th (cj_seq (cj_seq ?_))
  refine cj_regionG (gj_step (y_move rfl) rfl rfl rfl (gj_step (y_neq rfl rfl) rfl rfl rfl (gj_nil ?_)))
  refine ej_th ?_
  refine cj_cond rfl (fun h20 => ?_) (fun h20 => ?_)
  · have h20b := h20
    try simp only [sxb] at h20
    refine cj_seq ?_
    refine cj_regionG (gj_step (y_move rfl) rfl rfl rfl (gj_step (y_move rfl) rfl rfl rfl (gj_step (y_assign rfl) rfl rfl rfl (gj_step (y_assign rfl) rfl rfl rfl (gj_step (y_assign rfl) rfl rfl rfl (gj_nil ?_))))))
    refine ej_th (cj_ret (ej_then_ret ?_))
    exact ej_ret3 rfl Tryd.results34 rfl rfl rfl (fun w' hp => ⟨none, 0, rfl, hp.below, Res.nil⟩)
  · exact absurd h20 (by simpa using askE_ne ha)

theorem k_Run_ok (d : Deal) (Ac : Option Addr) (cc : Nat) (l : List Act1) (Al : Option Addr) (cl : Nat) (w : World) (hc : Rd w 1 enInt Ac d.closed) (hl0 : Rd w 3 encAct Al l) (hG : Gl w 0 WAYS) (ha : askOk d l = true) : Calls Tryd.prog 34 #[.agg #[.int .i64 d.lr, .int .i64 d.lc, .int .i64 d.tr, .int .i64 d.tf, .int .i64 d.te, .int .i64 d.tt, .int .i64 d.tg, .slice Ac d.closed.length cc, .int .i64 d.start, .int .i64 d.sum], .slice Al l.length cl] w (fun e w' => ∃ A c, e = .returned (.tuple #[.slice A (RunO d l).length c, .int .i64 (RunN d l), .int .i64 (RunE d l)]) ∧ Grow w w' ∧ Res w w' 5 encAcc A (RunO d l)) := by
  have h2 : RunN d l = (runL d l).at_ := by simp [RunN, ha]
  have h3 : RunE d l = (runL d l).e := by simp [RunE, ha]
  rw [h2, h3]
  refine enter_pure (args := [.agg #[.int .i64 d.lr, .int .i64 d.lc, .int .i64 d.tr, .int .i64 d.tf, .int .i64 d.te, .int .i64 d.tt, .int .i64 d.tg, .slice Ac d.closed.length cc, .int .i64 d.start, .int .i64 d.sum], .slice Al l.length cl]) [sl (fun b => b < w.heap.size) 1 enInt Ac d.closed, sl (fun b => b < w.heap.size) 3 encAct Al l, gl 0 WAYS] Tryd.func34 rfl (by rw [Tryd.ntmps34]; simp) (fun g hg => by simp at hg; rcases hg with rfl | rfl | rfl; exact ⟨hc, fun _ h => h⟩; exact ⟨hl0, fun _ h => h⟩; exact ⟨hG.1, fun b hb => by have : b = 0 := hb; rw [this]; exact hG.2⟩) ?_
  refine cj_seq (cj_region ?_)
  refine oj_box rfl rfl rfl (fun b2 => ?_)
  refine oj_step (y_assign rfl) rfl rfl rfl ?_
  refine oj_step (y_assign rfl) rfl rfl rfl ?_
  refine oj_step (y_assign rfl) rfl rfl rfl ?_
  refine oj_nil ?_
  refine ej_th (cj_seq (cj_region ?_))
  refine oj_step (y_loadN Tryd.isAgg44 Tryd.sizeOf44 rfl) rfl rfl rfl ?_
  refine oj_step (y_move rfl) rfl rfl rfl ?_
  refine oj_callS (fun A c => .tuple #[.agg (encLn d Ac cc (runL d l).x).toArray, .slice A (runL d l).out.length c, .int .i64 (runL d l).at_, .int .i64 (runL d l).e]) 5 encAcc (runL d l).out Tryd.call69 rfl (fun w hp => k_asked_ok d Ac cc l Al cl w hp.rd hp.rd hp.glo ha) rfl (fun A14 c14 fp14 hfp14 => ?_)
  refine oj_step (y_move rfl) rfl rfl rfl ?_
  refine oj_step (y_extract rfl rfl) rfl rfl rfl ?_
  refine oj_step (y_extract rfl rfl) rfl rfl rfl ?_
  refine oj_step (y_extract rfl rfl) rfl rfl rfl ?_
  refine oj_step (y_extract rfl rfl) rfl rfl rfl ?_
  refine oj_alloc Tryd.zeroValue121 rfl rfl (fun b7 => ?_)
  refine oj_store rfl rfl rfl rfl Tryd.sizeOf121 rfl ?_
  refine oj_step (y_assign rfl) rfl rfl rfl ?_
  refine oj_step (y_assign rfl) rfl rfl rfl ?_
  refine oj_step (y_assign rfl) rfl rfl rfl ?_
  refine oj_nil ?_
  refine ej_th (cj_seq (cj_seq ?_))
  refine cj_regionG (gj_step (y_move rfl) rfl rfl rfl (gj_step (y_neq rfl rfl) rfl rfl rfl (gj_nil ?_)))
  refine ej_th ?_
  refine cj_cond rfl (fun h20 => ?_) (fun h20 => ?_)
  · have h20b := h20
    try simp only [sxb] at h20
    have h1 : RunO d l = [] := by simp [RunO, h20]
    rw [h1]
    refine cj_seq ?_
    refine cj_regionG (gj_step (y_move rfl) rfl rfl rfl (gj_step (y_move rfl) rfl rfl rfl (gj_step (y_assign rfl) rfl rfl rfl (gj_step (y_assign rfl) rfl rfl rfl (gj_step (y_assign rfl) rfl rfl rfl (gj_nil ?_))))))
    refine ej_th (cj_ret (ej_then_ret ?_))
    exact ej_ret3 rfl Tryd.results34 rfl rfl rfl (fun w' hp => ⟨none, 0, rfl, hp.below, Res.nil⟩)
  · have h20b := h20
    try simp only [sxb] at h20
    have h1 : RunO d l = (runL d l).out := by simp [RunO, ha, h20]
    rw [h1]
    refine cj_skip (ej_th (cj_seq ?_))
    refine cj_regionG (gj_step (y_move rfl) rfl rfl rfl (gj_step (y_move rfl) rfl rfl rfl (gj_step (y_assign rfl) rfl rfl rfl (gj_step (y_assign rfl) rfl rfl rfl (gj_step (y_assign rfl) rfl rfl rfl (gj_nil ?_))))))
    refine ej_th (cj_ret ?_)
    exact ej_ret3 rfl Tryd.results34 rfl rfl rfl (fun w' hp => ⟨A14, c14, by rw [h20], hp.below, hp.resS hfp14⟩)

theorem k_Run (d : Deal) (Ac : Option Addr) (cc : Nat) (l : List Act1) (Al : Option Addr) (cl : Nat) (w : World) (hc : Rd w 1 enInt Ac d.closed) (hl0 : Rd w 3 encAct Al l) (hG : Gl w 0 WAYS) : Calls Tryd.prog 34 #[.agg #[.int .i64 d.lr, .int .i64 d.lc, .int .i64 d.tr, .int .i64 d.tf, .int .i64 d.te, .int .i64 d.tt, .int .i64 d.tg, .slice Ac d.closed.length cc, .int .i64 d.start, .int .i64 d.sum], .slice Al l.length cl] w (fun e w' => ∃ A c, e = .returned (.tuple #[.slice A (RunO d l).length c, .int .i64 (RunN d l), .int .i64 (RunE d l)]) ∧ Grow w w' ∧ Res w w' 5 encAcc A (RunO d l)) := by
  cases ha : askOk d l
  · exact k_Run_no d Ac cc l Al cl w hc hl0 hG ha
  · exact k_Run_ok d Ac cc l Al cl w hc hl0 hG ha

theorem k_last (d : Deal) (Ac : Option Addr) (cc : Nat) (l : List Act1) (Al : Option Addr) (cl : Nat) (w : World) (hc : Rd w 1 enInt Ac d.closed) (hl0 : Rd w 3 encAct Al l) : Calls Tryd.prog 43 #[.agg #[.int .i64 d.lr, .int .i64 d.lc, .int .i64 d.tr, .int .i64 d.tf, .int .i64 d.te, .int .i64 d.tt, .int .i64 d.tg, .slice Ac d.closed.length cc, .int .i64 d.start, .int .i64 d.sum], .slice Al l.length cl] w (fun e w' => e = .returned (.int .i64 (lastD d l)) ∧ Grow w w') := by
  have hlen := hl0.len
  refine enter_pure (args := [.agg #[.int .i64 d.lr, .int .i64 d.lc, .int .i64 d.tr, .int .i64 d.tf, .int .i64 d.te, .int .i64 d.tt, .int .i64 d.tg, .slice Ac d.closed.length cc, .int .i64 d.start, .int .i64 d.sum], .slice Al l.length cl]) [sl (fun b => b < w.heap.size) 1 enInt Ac d.closed, sl (fun b => b < w.heap.size) 3 encAct Al l] Tryd.func43 rfl (by rw [Tryd.ntmps43]; simp) (fun g hg => by simp at hg; rcases hg with rfl | rfl; exact ⟨hc, fun _ h => h⟩; exact ⟨hl0, fun _ h => h⟩) ?_
  refine cj_seq (cj_region ?_)
  refine oj_box rfl rfl rfl (fun b2 => ?_)
  refine oj_step (y_assign rfl) rfl rfl rfl ?_
  refine oj_nil ?_
  refine ej_th (cj_seq (cj_seq ?_))
  refine cj_regionG (gj_step (y_move rfl) rfl rfl rfl (gj_step (y_lenA Tryd.underlying69 rfl) rfl rfl rfl (gj_step (y_eql rfl rfl) rfl rfl rfl (gj_nil ?_))))
  refine ej_th ?_
  refine cj_cond rfl (fun h7 => ?_) (fun h7 => ?_)
  · have h7b := h7
    try simp only [sxb] at h7
    refine cj_seq ?_
    refine cj_regionG (gj_step (y_fa fa44_3 rfl) rfl rfl rfl (gj_step (y_load1 Tryd.isAgg3 rfl rfl) rfl rfl rfl (gj_step (y_assign rfl) rfl rfl rfl (gj_nil ?_))))
    refine ej_th (cj_ret (ej_then_ret ?_))
    exact ej_ret1 rfl Tryd.results43 rfl (fun w' hp => ⟨by unfold lastD; rw [if_pos (by omega)], hp.below⟩)
  · have h7b := h7
    try simp only [sxb] at h7
    refine cj_skip (ej_th (cj_seq ?_))
    refine cj_regionG (gj_step (y_move rfl) rfl rfl rfl (gj_step (y_move rfl) rfl rfl rfl (gj_step (y_lenA Tryd.underlying69 rfl) rfl rfl rfl (gj_step (y_sub rfl rfl (by omega)) rfl rfl rfl (gj_step (y_ixR (reads_sl) Tryd.underlying69 Tryd.sizeOf68 rfl rfl (⟨by omega, by omega⟩)) rfl rfl rfl (gj_step (y_faE fa68_0 rfl) rfl rfl rfl (gj_step (y_ld1 (reads_sl) Tryd.isAgg3 rfl (geq default (by omega)) rfl) rfl rfl rfl (gj_step (y_assign rfl) rfl rfl rfl (gj_nil ?_)))))))))
    refine ej_th (cj_ret ?_)
    exact ej_ret1 rfl Tryd.results43 rfl (fun w' hp => ⟨by unfold lastD; rw [if_neg (by omega), show ((l.length : Int) - 1).toNat = l.length - 1 by omega], hp.below⟩)

set_option maxHeartbeats 4000000 in
theorem k_LoanOnce (d : Deal) (Ac : Option Addr) (cc : Nat) (l : List Act1) (Al : Option Addr) (cl : Nat) (n0 n1 n2 : Int) (w : World) (hc : Rd w 1 enInt Ac d.closed) (hl0 : Rd w 3 encAct Al l) (hG : Gl w 0 WAYS) (hsz : l.length * 24 ≤ 140737488351232) : Calls Tryd.prog 12 #[.agg #[.int .i64 d.lr, .int .i64 d.lc, .int .i64 d.tr, .int .i64 d.tf, .int .i64 d.te, .int .i64 d.tt, .int .i64 d.tg, .slice Ac d.closed.length cc, .int .i64 d.start, .int .i64 d.sum], .slice Al l.length cl, .agg #[.int .i64 n0, .int .i64 n1, .int .i64 n2]] w (fun e w' => e = .returned (.bool true) ∧ Grow w w') := by
  have hlen := hl0.len
  refine enter_pure (args := [.agg #[.int .i64 d.lr, .int .i64 d.lc, .int .i64 d.tr, .int .i64 d.tf, .int .i64 d.te, .int .i64 d.tt, .int .i64 d.tg, .slice Ac d.closed.length cc, .int .i64 d.start, .int .i64 d.sum], .slice Al l.length cl, .agg #[.int .i64 n0, .int .i64 n1, .int .i64 n2]]) [sl (fun b => b < w.heap.size) 1 enInt Ac d.closed, sl (fun b => b < w.heap.size) 3 encAct Al l, gl 0 WAYS] Tryd.func12 rfl (by rw [Tryd.ntmps12]; simp) (fun g hg => by simp at hg; rcases hg with rfl | rfl | rfl; exact ⟨hc, fun _ h => h⟩; exact ⟨hl0, fun _ h => h⟩; exact ⟨hG.1, fun b hb => by have : b = 0 := hb; rw [this]; exact hG.2⟩) ?_
  refine cj_seq (cj_region ?_)
  refine oj_box rfl rfl rfl (fun b3 => ?_)
  refine oj_box rfl rfl rfl (fun b5 => ?_)
  refine oj_step (y_assign rfl) rfl rfl rfl ?_
  refine oj_nil ?_
  refine ej_th (cj_seq (cj_region ?_))
  refine oj_step (y_loadN Tryd.isAgg44 Tryd.sizeOf44 rfl) rfl rfl rfl ?_
  refine oj_step (y_ixArr Tryd.underlying47 Tryd.sizeOf3 rfl rfl (by omega)) rfl rfl rfl ?_
  refine oj_step (y_load1 Tryd.isAgg3 rfl rfl) rfl rfl rfl ?_
  refine oj_step (y_call Tryd.call32 rfl (fun w hp => k_Owe d Ac cc [] none 0 n0 w hp.rd Rd.nil hp.glo)) rfl rfl rfl ?_
  refine oj_step (y_move rfl) rfl rfl rfl ?_
  refine oj_step (y_extract rfl rfl) rfl rfl rfl ?_
  refine oj_step (y_extract rfl rfl) rfl rfl rfl ?_
  refine oj_alloc Tryd.zeroValue64 rfl rfl (fun b7 => ?_)
  refine oj_store rfl rfl rfl rfl Tryd.sizeOf64 rfl ?_
  refine oj_step (y_assign rfl) rfl rfl rfl ?_
  refine oj_nil ?_
  refine ej_th (cj_seq (cj_seq ?_))
  refine cj_regionG (gj_step (y_move rfl) rfl rfl rfl (gj_step (y_neq rfl rfl) rfl rfl rfl (gj_nil ?_)))
  refine ej_th ?_
  refine cj_cond rfl (fun h32 => ?_) (fun h32 => ?_)
  · have h32b := h32
    try simp only [sxb] at h32
    skip
    refine cj_seq ?_
    refine cj_regionG ?_
    refine gj_step (y_move rfl) rfl rfl rfl (gj_step (y_eql rfl rfl) rfl rfl rfl (gj_step (y_move rfl) rfl rfl rfl (?_)))
    refine gj_g 2 35 37 rfl rfl rfl rfl (fun hg35 => gj_yes rfl rfl rfl (y_move rfl) rfl rfl (gj_yes rfl rfl rfl (y_eql rfl rfl) rfl rfl (gj_nil rfl))) ?_
    refine gj_step (y_or rfl rfl rfl) rfl rfl rfl (gj_step (y_move rfl) rfl rfl rfl (?_))
    refine gj_g 1 39 40 rfl rfl rfl rfl (fun hg39 => gj_yes rfl rfl rfl (y_call Tryd.call23 rfl (fun w hp => k_works w hp.glo)) rfl rfl (gj_nil rfl)) ?_
    refine gj_step (y_and rfl rfl rfl) rfl rfl rfl (gj_step (y_assign rfl) rfl rfl rfl (?_))
    refine gj_nil ?_
    refine ej_th (cj_ret (ej_then_ret ?_))
    exact ej_ret1 rfl Tryd.results12 rfl (fun w' hp => ⟨by have he := on_nil_err d n0 h32; rcases he with h | h <;> rw [h] <;> rfl, hp.below⟩)
  · have h32b := h32
    try simp only [sxb] at h32
    obtain ⟨_, hn0, _, _⟩ := on_ok h32
    have hask := (run_ok (on_ok h32).1).1
    have hb := (askOk_parts hask).1
    have hd := badDeal_no hb
    have hst := hd.start
    have hsum := hd.sum
    have hno : d.start ≤ n0 ∧ n0 ≤ 36500 := hn0
    have hB0 := owe_bd d [] n0
    refine cj_skip (ej_th (cj_seq ?_))
    refine cj_ownNil 68 3 encAct ?_
    refine cj_regionG (gj_step (y_assign rfl) rfl rfl rfl (gj_nil ?_))
    refine ej_th (cj_seq (cj_seq ?_))
    refine cj_regionG (gj_step (y_assign rfl) rfl rfl rfl (gj_nil ?_))
    refine ej_th (cj_block ?_)
    refine cj_lpi (X := Nat × Option Addr × Nat × List Act1) [(1, _), (3, _), (5, _), (6, _), (7, _), (8, _)] (fun ⟨k, A, c, xs⟩ => k ≤ l.length ∧ xs = rensOf (l.take k)) (fun ⟨k, A, c, xs⟩ => [(9, .slice A xs.length c), (10, .int .i64 k)]) (fun ⟨k, A, c, xs⟩ => [ow 68 3 encAct A c xs, ownB b7 (cellsB 64 (encAcc (OweA d [] n0))), ownB b5 (cellsB 47 [.int .i64 n0, .int .i64 n1, .int .i64 n2]), ownB b3 (cellsB 44 (encDeal d Ac cc))]) (fun ⟨k, A, c, xs⟩ => [sl (fun b => b < w.heap.size) 1 enInt Ac d.closed, sl (fun b => b < w.heap.size) 3 encAct Al l, gl 0 WAYS]) (fun ⟨k, A, c, xs⟩ => l.length - k) (0, none, 0, []) (⟨Nat.zero_le _, rfl⟩) ⟨rfl, rfl, rfl, rfl, rfl, rfl, rfl, rfl, trivial⟩ ?_
    rintro ⟨k, A, c, xs⟩ ⟨hk, hxs⟩
    dsimp only [List.cons_append, List.nil_append]
    have hxl : xs.length ≤ k := by rw [hxs]; exact Nat.le_trans (List.length_filter_le ..) (by simp; omega)
    refine cj_seq (cj_seq ?_)
    refine cj_regionG (gj_step (y_move rfl) rfl rfl rfl (gj_step (y_move rfl) rfl rfl rfl (gj_step (y_lenA Tryd.underlying69 rfl) rfl rfl rfl (gj_step (y_lss rfl rfl) rfl rfl rfl (gj_nil ?_)))))
    refine ej_th ?_
    refine cj_cond rfl (fun h45 => ?_) (fun h45 => ?_)
    · have h45b := h45
      try simp only [sxb] at h45
      obtain ⟨a, hx⟩ : ∃ a, l[k]? = some a := ⟨_, List.getElem?_eq_getElem (by omega)⟩
      have htk := rens_take hx
      refine cj_skip (ej_th (cj_seq (cj_block (cj_seq ?_))))
      refine cj_regionG (gj_step (y_move rfl) rfl rfl rfl (gj_step (y_move rfl) rfl rfl rfl (gj_step (y_ixR (reads_sl) Tryd.underlying69 Tryd.sizeOf68 rfl rfl (⟨by omega, by omega⟩)) rfl rfl rfl (gj_step (y_faE fa68_1 rfl) rfl rfl rfl (gj_step (y_ld1 (reads_sl) Tryd.isAgg3 rfl (hx) rfl) rfl rfl rfl (gj_step (y_eql rfl rfl) rfl rfl rfl (gj_nil ?_)))))))
      refine ej_th ?_
      refine cj_cond rfl (fun h53 => ?_) (fun h53 => ?_)
      · have h53b := h53
        try simp only [sxb] at h53
        rw [if_pos (by simp [isRen, h53])] at htk
        refine cj_region ?_
        refine oj_step (y_move rfl) rfl rfl rfl ?_
        refine oj_step (y_move rfl) rfl rfl rfl ?_
        refine oj_step (y_move rfl) rfl rfl rfl ?_
        refine oj_step (y_ixR (reads_sl) Tryd.underlying69 Tryd.sizeOf68 rfl rfl (⟨by omega, by omega⟩)) rfl rfl rfl ?_
        refine oj_step (y_ldW (reads_sl) Tryd.isAgg68 Tryd.sizeOf68 rfl (hx) (fun _ => rfl)) rfl rfl rfl ?_
        refine oj_buildSlice (cs := [.int .i64 a.day, .int .i64 a.kind, .int .i64 a.n]) [.int .i64 0, .int .i64 0, .int .i64 0] Tryd.underlying69 Tryd.sizeOf68 Tryd.zeroValue68 rfl rfl (by kernel_rfl) (by kernel_rfl) rfl (fun b59 => ?_)
        refine oj_append  el69 (fun _ => rfl) encAct_one rfl rfl rfl (reads_lit [a] (fun _ => rfl) rfl) (by simp [maxLen]; omega) (by simp; omega) rfl (fun A60 c60 => ?_)
        refine oj_step (y_assign rfl) rfl rfl rfl ?_
        refine oj_nil ?_
        refine ej_blk (ej_th ?_)
        refine cj_regionG (gj_step (y_move rfl) rfl rfl rfl (gj_step (y_add rfl rfl (by omega)) rfl rfl rfl (gj_step (y_assign rfl) rfl rfl rfl (gj_nil ?_))))
        exact ej_nx (k + 1, A60, c60, xs ++ [a]) (by simp only; omega) ⟨by first | omega | (simp only; omega), by rw [hxs]; exact htk.symm⟩ ⟨rfl, rfl, rfl, rfl, rfl, rfl, rfl, rfl, trivial⟩
      · have h53b := h53
        try simp only [sxb] at h53
        rw [if_neg (by simp [isRen, h53]), List.append_nil] at htk
        refine cj_skip (ej_blk (ej_th ?_))
        refine cj_regionG (gj_step (y_move rfl) rfl rfl rfl (gj_step (y_add rfl rfl (by omega)) rfl rfl rfl (gj_step (y_assign rfl) rfl rfl rfl (gj_nil ?_))))
        exact ej_nx (k + 1, A, c, xs) (by simp only; omega) ⟨by first | omega | (simp only; omega), by rw [hxs]; exact htk.symm⟩ ⟨rfl, rfl, rfl, rfl, rfl, rfl, rfl, rfl, trivial⟩
    · have h45b := h45
      try simp only [sxb] at h45
      obtain rfl : k = l.length := by omega
      rw [List.take_length] at hxs
      subst hxs
      have hrl : (rensOf l).length ≤ l.length := List.length_filter_le ..
      have hall : ∀ a ∈ rensOf l, isRen a = true := fun a ha => (List.mem_filter.1 ha).2
      have hfb := free_deal hb
      have hfree := on_none (d := ({ d with te := 0 } : Deal)) hfb (n := n0) hno
      have hB1 := owe_bd d (rensOf l) n0
      refine cj_exit (ej_then_exit (ej_then_exit (ej_blk_hit (ej_th (cj_seq (cj_region ?_))))))
      refine oj_step (y_loadN Tryd.isAgg44 Tryd.sizeOf44 rfl) rfl rfl rfl ?_
      refine oj_alloc Tryd.zeroValue44 rfl rfl (fun b11 => ?_)
      refine oj_store rfl rfl rfl rfl Tryd.sizeOf44 rfl ?_
      refine oj_nil ?_
      refine ej_th (cj_seq (cj_region ?_))
      refine oj_step (y_fa fa44_1 rfl) rfl rfl rfl ?_
      refine oj_step (y_fa fa42_2 rfl) rfl rfl rfl ?_
      refine oj_store rfl rfl rfl rfl Tryd.sizeOf3 rfl ?_
      refine oj_nil ?_
      refine ej_th (cj_seq (cj_region ?_))
      refine oj_step (y_loadN Tryd.isAgg44 Tryd.sizeOf44 rfl) rfl rfl rfl ?_
      refine oj_step (y_ixArr Tryd.underlying47 Tryd.sizeOf3 rfl rfl (by omega)) rfl rfl rfl ?_
      refine oj_step (y_load1 Tryd.isAgg3 rfl rfl) rfl rfl rfl ?_
      refine oj_step (y_call Tryd.call32 rfl (fun w hp => k_Owe ({ d with te := 0 } : Deal) Ac cc [] none 0 n0 w hp.rd Rd.nil hp.glo)) rfl rfl rfl ?_
      refine oj_step (y_move rfl) rfl rfl rfl ?_
      refine oj_step (y_extract rfl rfl) rfl rfl rfl ?_
      refine oj_step (y_extract rfl rfl) rfl rfl rfl ?_
      refine oj_alloc Tryd.zeroValue64 rfl rfl (fun b12 => ?_)
      refine oj_store rfl rfl rfl rfl Tryd.sizeOf64 rfl ?_
      refine oj_step (y_assign rfl) rfl rfl rfl ?_
      refine oj_nil ?_
      refine ej_th (cj_seq (cj_region ?_))
      refine oj_step (y_loadN Tryd.isAgg44 Tryd.sizeOf44 rfl) rfl rfl rfl ?_
      refine oj_step (y_move rfl) rfl rfl rfl ?_
      refine oj_step (y_ixArr Tryd.underlying47 Tryd.sizeOf3 rfl rfl (by omega)) rfl rfl rfl ?_
      refine oj_step (y_load1 Tryd.isAgg3 rfl rfl) rfl rfl rfl ?_
      refine oj_step (y_call Tryd.call32 rfl (fun w hp => k_Owe ({ d with te := 0 } : Deal) Ac cc (rensOf l) A c n0 w hp.rd (hp.rdO (fun _ => rfl) (by unfold maxLen; omega)) hp.glo)) rfl rfl rfl ?_
      refine oj_step (y_move rfl) rfl rfl rfl ?_
      refine oj_step (y_extract rfl rfl) rfl rfl rfl ?_
      refine oj_step (y_extract rfl rfl) rfl rfl rfl ?_
      refine oj_alloc Tryd.zeroValue64 rfl rfl (fun b13 => ?_)
      refine oj_store rfl rfl rfl rfl Tryd.sizeOf64 rfl ?_
      refine oj_step (y_assign rfl) rfl rfl rfl ?_
      refine oj_nil ?_
      refine ej_th (cj_seq (cj_seq ?_))
      refine cj_regionG (gj_step (y_move rfl) rfl rfl rfl (gj_step (y_neq rfl rfl) rfl rfl rfl (gj_step (y_move rfl) rfl rfl rfl (gj_g 9 81 90 rfl rfl rfl rfl (fun hg81 => gj_yes rfl rfl rfl (y_move rfl) rfl rfl (gj_yes rfl rfl rfl (y_eql rfl rfl) rfl rfl (gj_yes rfl rfl rfl (y_move rfl) rfl rfl (gj_g 5 84 89 rfl rfl rfl rfl (fun hg84 => gj_yes rfl rfl rfl (y_fa fa64_1 rfl) rfl rfl (gj_yes rfl rfl rfl (y_load1 Tryd.isAgg3 rfl rfl) rfl rfl (gj_yes rfl rfl rfl (y_fa fa64_1 rfl) rfl rfl (gj_yes rfl rfl rfl (y_load1 Tryd.isAgg3 rfl rfl) rfl rfl (gj_yes rfl rfl rfl (y_neq rfl rfl) rfl rfl (gj_nil rfl)))))) (gj_yes rfl rfl rfl (y_and rfl rfl rfl) rfl rfl (gj_nil rfl)))))) (gj_step (y_or rfl rfl rfl) rfl rfl rfl (gj_nil ?_))))))
      refine ej_th ?_
      refine cj_cond rfl (fun h91 => ?_) (fun h91 => ?_)
      · simp only [sxb] at h91
        exfalso
        rcases h91 with h | h
        · exact h hfree.1
        · have h1 := once_free hd hb hno hall h.1
          have h2 := once_free hd hb (l := []) hno (by simp) hfree.1
          exact h.2 (h1.trans h2.symm)
      · have h91b := h91
        try simp only [sxb] at h91
        refine cj_skip (ej_th (cj_seq (cj_region ?_)))
        refine oj_step (y_loadN Tryd.isAgg44 Tryd.sizeOf44 rfl) rfl rfl rfl ?_
        refine oj_step (y_move rfl) rfl rfl rfl ?_
        refine oj_step (y_ixArr Tryd.underlying47 Tryd.sizeOf3 rfl rfl (by omega)) rfl rfl rfl ?_
        refine oj_step (y_load1 Tryd.isAgg3 rfl rfl) rfl rfl rfl ?_
        refine oj_step (y_call Tryd.call32 rfl (fun w hp => k_Owe d Ac cc (rensOf l) A c n0 w hp.rd (hp.rdO (fun _ => rfl) (by unfold maxLen; omega)) hp.glo)) rfl rfl rfl ?_
        refine oj_step (y_move rfl) rfl rfl rfl ?_
        refine oj_step (y_extract rfl rfl) rfl rfl rfl ?_
        refine oj_step (y_extract rfl rfl) rfl rfl rfl ?_
        refine oj_alloc Tryd.zeroValue64 rfl rfl (fun b15 => ?_)
        refine oj_store rfl rfl rfl rfl Tryd.sizeOf64 rfl ?_
        refine oj_step (y_assign rfl) rfl rfl rfl ?_
        refine oj_nil ?_
        refine ej_th (cj_seq (cj_seq ?_))
        refine cj_regionG (gj_step (y_move rfl) rfl rfl rfl (gj_step (y_eql rfl rfl) rfl rfl rfl (gj_step (y_move rfl) rfl rfl rfl (gj_g 19 102 121 rfl rfl rfl rfl (fun hg102 => gj_yes rfl rfl rfl (y_fa fa64_1 rfl) rfl rfl (gj_yes rfl rfl rfl (y_load1 Tryd.isAgg3 rfl rfl) rfl rfl (gj_yes rfl rfl rfl (y_fa fa64_1 rfl) rfl rfl (gj_yes rfl rfl rfl (y_load1 Tryd.isAgg3 rfl rfl) rfl rfl (gj_yes rfl rfl rfl (y_lss rfl rfl) rfl rfl (gj_yes rfl rfl rfl (y_move rfl) rfl rfl (gj_g 12 108 120 rfl rfl rfl rfl (fun hg108 => gj_yes rfl rfl rfl (y_fa fa64_1 rfl) rfl rfl (gj_yes rfl rfl rfl (y_load1 Tryd.isAgg3 rfl rfl) rfl rfl (gj_yes rfl rfl rfl (y_fa fa64_1 rfl) rfl rfl (gj_yes rfl rfl rfl (y_load1 Tryd.isAgg3 rfl rfl) rfl rfl (gj_yes rfl rfl rfl (y_move rfl) rfl rfl (gj_yes rfl rfl rfl (y_lenA Tryd.underlying69 rfl) rfl rfl (gj_yes rfl rfl rfl (y_fa fa44_1 rfl) rfl rfl (gj_yes rfl rfl rfl (y_fa fa42_2 rfl) rfl rfl (gj_yes rfl rfl rfl (y_load1 Tryd.isAgg3 rfl rfl) rfl rfl (gj_yes rfl rfl rfl (y_mul rfl rfl (by have h1 := on_len (by simpa using hg102); have h2 := mul_bd (a := ((rensOf l).length : Int)) (b := d.te) (x := 32) (y := 10000) ⟨by omega, by omega⟩ hd.te; omega)) rfl rfl (gj_yes rfl rfl rfl (y_add rfl rfl (by have h1 := on_len (by simpa using hg102); have h2 := mul_bd (a := ((rensOf l).length : Int)) (b := d.te) (x := 32) (y := 10000) ⟨by omega, by omega⟩ hd.te; omega)) rfl rfl (gj_yes rfl rfl rfl (y_gtr rfl rfl) rfl rfl (gj_nil rfl))))))))))))) (gj_yes rfl rfl rfl (y_or rfl rfl rfl) rfl rfl (gj_nil rfl))))))))) (gj_step (y_and rfl rfl rfl) rfl rfl rfl (gj_nil ?_))))))
        refine ej_th ?_
        refine cj_cond rfl (fun h122 => ?_) (fun h122 => ?_)
        · simp only [sxb] at h122
          exfalso
          have h1 := once_fee hd hb hno hall h122.1
          omega
        · have h122b := h122
          try simp only [sxb] at h122
          refine cj_skip (ej_th (cj_seq ?_))
          have hr1 := ring_bd n1 (d.sum + 1000) (by omega)
          refine cj_regionG ?_
          refine gj_step (y_ixArr Tryd.underlying47 Tryd.sizeOf3 rfl rfl (by omega)) rfl rfl rfl (gj_step (y_load1 Tryd.isAgg3 rfl rfl) rfl rfl rfl (gj_step (y_fa fa44_4 rfl) rfl rfl rfl (gj_step (y_load1 Tryd.isAgg3 rfl rfl) rfl rfl rfl (gj_step (y_add rfl rfl (by omega)) rfl rfl rfl (?_)))))
          refine gj_step (y_call Tryd.call27 rfl (fun w hp => k_Ring _ _ w (by omega))) rfl rfl rfl ?_
          refine gj_step (y_add rfl rfl (by omega)) rfl rfl rfl (gj_step (y_assign rfl) rfl rfl rfl (?_))
          refine gj_nil ?_
          refine ej_th (cj_seq ?_)
          obtain ⟨pay, hpay⟩ : ∃ pay, pay = 2 + ringI n1 (d.sum + 1000) := ⟨_, rfl⟩
          rw [← hpay]
          refine cj_plan 11 (by kernel_rfl) (by kernel_rfl) ?_
          refine pl_y 1 rfl (y_move rfl) rfl rfl rfl rfl (by kernel_rfl) ?_
          refine pl_y 3 rfl (y_loadN Tryd.isAgg44 Tryd.sizeOf44 rfl) rfl rfl rfl rfl (by kernel_rfl) ?_
          refine pl_y 4 rfl (y_move rfl) rfl rfl rfl rfl (by kernel_rfl) ?_
          refine pl_y 6 rfl (y_move rfl) rfl rfl rfl rfl (by kernel_rfl) ?_
          refine pl_w1 0 (by kernel_rfl) rfl rfl (pl_fire rfl rfl rfl (by kernel_rfl) ?_)
          refine oj_buildSlice (cs := []) [] Tryd.underlying69 Tryd.sizeOf68 Tryd.zeroValue68 rfl rfl (by kernel_rfl) (by kernel_rfl) rfl (fun b130 => ?_)
          refine oj_litOw (b := b130) (e := 68) (c := 0) (sz := 3) (enc := encAct) [] rfl rfl rfl (by unfold maxLen; simp) ?_
          refine oj_nil ?_
          refine ej_pl (lt_y (y_move rfl) rfl (lt_y (y_move rfl) rfl (lt_y (y_loadN Tryd.isAgg44 Tryd.sizeOf44 rfl) rfl (lt_y (y_move rfl) rfl (lt_nil))))) ?_
          refine pl_w1 2 (by kernel_rfl) rfl rfl (pl_fire rfl rfl rfl (by kernel_rfl) ?_)
          refine oj_append (xs := ([] : List Act1)) (c := 0) el69 (fun _ => rfl) encAct_one rfl rfl rfl (reads_sl) (by simp [maxLen]; omega) (by simp; omega) rfl (fun A132 c132 => ?_)
          refine oj_nil ?_
          refine ej_pl (lt_y (y_move rfl) rfl (lt_y (y_move rfl) rfl (lt_y (y_loadN Tryd.isAgg44 Tryd.sizeOf44 rfl) rfl (lt_w (by kernel_rfl) (lt_nil))))) ?_
          refine pl_y 5 rfl (y_call Tryd.call43 rfl (fun w hp => k_last d Ac cc l Al cl w hp.rd hp.rd)) rfl rfl rfl rfl (by kernel_rfl) ?_
          refine pl_y 7 rfl (y_build (cs := [.int .i64 (lastD d l), .int .i64 1, .int .i64 pay]) st68 rfl (by kernel_rfl)) rfl rfl rfl rfl (by kernel_rfl) ?_
          refine pl_w1 8 (by kernel_rfl) rfl rfl (pl_fire rfl rfl rfl (by kernel_rfl) ?_)
          refine oj_buildSlice (cs := [.int .i64 (lastD d l), .int .i64 1, .int .i64 pay]) [.int .i64 0, .int .i64 0, .int .i64 0] Tryd.underlying69 Tryd.sizeOf68 Tryd.zeroValue68 rfl rfl (by kernel_rfl) (by kernel_rfl) rfl (fun b138 => ?_)
          refine oj_nil ?_
          refine ej_pl (lt_w (by kernel_rfl) (lt_y (y_call Tryd.call43 rfl (fun w hp => k_last d Ac cc l Al cl w hp.rd hp.rd)) rfl (lt_y (y_move rfl) rfl (lt_y (y_move rfl) rfl (lt_y (y_loadN Tryd.isAgg44 Tryd.sizeOf44 rfl) rfl (lt_y (y_move rfl) rfl (lt_nil))))))) ?_
          refine pl_w1 9 (by kernel_rfl) rfl rfl (pl_fire rfl rfl rfl (by kernel_rfl) ?_)
          refine oj_append  el69 (fun _ => rfl) encAct_one rfl rfl rfl (reads_lit [(⟨lastD d l, 1, pay⟩ : Act1)] (fun _ => rfl) rfl) (by simp [maxLen]; omega) (by simp; omega) rfl (fun A139 c139 => ?_)
          refine oj_nil ?_
          refine ej_pl (lt_y (y_build (cs := [.int .i64 (lastD d l), .int .i64 1, .int .i64 pay]) st68 rfl (by kernel_rfl)) rfl (lt_w (by kernel_rfl) (lt_y (y_move rfl) rfl (lt_y (y_move rfl) rfl (lt_y (y_loadN Tryd.isAgg44 Tryd.sizeOf44 rfl) rfl (lt_y (y_move rfl) rfl (lt_nil))))))) ?_
          refine pl_y 10 rfl (y_assign rfl) rfl rfl rfl rfl (by kernel_rfl) ?_
          refine pl_end (by kernel_rfl) ?_
          refine ej_th (cj_seq ?_)
          simp only [List.nil_append]
          have hr2 := ring_bd n2 (pay - 1) (by omega)
          refine cj_regionG ?_
          refine gj_step (y_ixArr Tryd.underlying47 Tryd.sizeOf3 rfl rfl (by omega)) rfl rfl rfl (gj_step (y_load1 Tryd.isAgg3 rfl rfl) rfl rfl rfl (gj_step (y_move rfl) rfl rfl rfl (gj_step (y_sub rfl rfl (by omega)) rfl rfl rfl (?_))))
          refine gj_step (y_call Tryd.call27 rfl (fun w hp => k_Ring _ _ w (by omega))) rfl rfl rfl ?_
          refine gj_step (y_add rfl rfl (by omega)) rfl rfl rfl (gj_step (y_assign rfl) rfl rfl rfl (?_))
          refine gj_nil ?_
          refine ej_th (cj_seq ?_)
          obtain ⟨part, hpart⟩ : ∃ part, part = 1 + ringI n2 (pay - 1) := ⟨_, rfl⟩
          rw [← hpart]
          refine cj_plan 18 (by kernel_rfl) (by kernel_rfl) ?_
          refine pl_y 1 rfl (y_move rfl) rfl rfl rfl rfl (by kernel_rfl) ?_
          refine pl_y 3 rfl (y_loadN Tryd.isAgg44 Tryd.sizeOf44 rfl) rfl rfl rfl rfl (by kernel_rfl) ?_
          refine pl_y 4 rfl (y_move rfl) rfl rfl rfl rfl (by kernel_rfl) ?_
          refine pl_y 6 rfl (y_move rfl) rfl rfl rfl rfl (by kernel_rfl) ?_
          refine pl_y 8 rfl (y_loadN Tryd.isAgg44 Tryd.sizeOf44 rfl) rfl rfl rfl rfl (by kernel_rfl) ?_
          refine pl_y 9 rfl (y_move rfl) rfl rfl rfl rfl (by kernel_rfl) ?_
          refine pl_y 11 rfl (y_move rfl) rfl rfl rfl rfl (by kernel_rfl) ?_
          refine pl_y 12 rfl (y_move rfl) rfl rfl rfl rfl (by kernel_rfl) ?_
          refine pl_y 13 rfl (y_sub rfl rfl (by omega)) rfl rfl rfl rfl (by kernel_rfl) ?_
          refine pl_w1 0 (by kernel_rfl) rfl rfl (pl_fire rfl rfl rfl (by kernel_rfl) ?_)
          refine oj_buildSlice (cs := []) [] Tryd.underlying69 Tryd.sizeOf68 Tryd.zeroValue68 rfl rfl (by kernel_rfl) (by kernel_rfl) rfl (fun b146 => ?_)
          refine oj_litOw (b := b146) (e := 68) (c := 0) (sz := 3) (enc := encAct) [] rfl rfl rfl (by unfold maxLen; simp) ?_
          refine oj_nil ?_
          refine ej_pl (lt_y (y_sub rfl rfl (by omega)) rfl (lt_y (y_move rfl) rfl (lt_y (y_move rfl) rfl (lt_y (y_move rfl) rfl (lt_y (y_loadN Tryd.isAgg44 Tryd.sizeOf44 rfl) rfl (lt_y (y_move rfl) rfl (lt_y (y_move rfl) rfl (lt_y (y_loadN Tryd.isAgg44 Tryd.sizeOf44 rfl) rfl (lt_y (y_move rfl) rfl (lt_nil)))))))))) ?_
          refine pl_w1 2 (by kernel_rfl) rfl rfl (pl_fire rfl rfl rfl (by kernel_rfl) ?_)
          refine oj_append (xs := ([] : List Act1)) (c := 0) el69 (fun _ => rfl) encAct_one rfl rfl rfl (reads_sl) (by simp [maxLen]; omega) (by simp; omega) rfl (fun A148 c148 => ?_)
          refine oj_nil ?_
          refine ej_pl (lt_y (y_sub rfl rfl (by omega)) rfl (lt_y (y_move rfl) rfl (lt_y (y_move rfl) rfl (lt_y (y_move rfl) rfl (lt_y (y_loadN Tryd.isAgg44 Tryd.sizeOf44 rfl) rfl (lt_y (y_move rfl) rfl (lt_y (y_move rfl) rfl (lt_y (y_loadN Tryd.isAgg44 Tryd.sizeOf44 rfl) rfl (lt_w (by kernel_rfl) (lt_nil)))))))))) ?_
          refine pl_y 5 rfl (y_call Tryd.call43 rfl (fun w hp => k_last d Ac cc l Al cl w hp.rd hp.rd)) rfl rfl rfl rfl (by kernel_rfl) ?_
          refine pl_y 7 rfl (y_build (cs := [.int .i64 (lastD d l), .int .i64 1, .int .i64 part]) st68 rfl (by kernel_rfl)) rfl rfl rfl rfl (by kernel_rfl) ?_
          refine pl_y 10 rfl (y_call Tryd.call43 rfl (fun w hp => k_last d Ac cc l Al cl w hp.rd hp.rd)) rfl rfl rfl rfl (by kernel_rfl) ?_
          refine pl_y 14 rfl (y_build (cs := [.int .i64 (lastD d l), .int .i64 1, .int .i64 (pay - part)]) st68 rfl (by kernel_rfl)) rfl rfl rfl rfl (by kernel_rfl) ?_
          refine pl_w1 15 (by kernel_rfl) rfl rfl (pl_fire rfl rfl rfl (by kernel_rfl) ?_)
          refine oj_buildSlice (cs := [.int .i64 (lastD d l), .int .i64 1, .int .i64 part, .int .i64 (lastD d l), .int .i64 1, .int .i64 (pay - part)]) [.int .i64 0, .int .i64 0, .int .i64 0, .int .i64 0, .int .i64 0, .int .i64 0] Tryd.underlying69 Tryd.sizeOf68 Tryd.zeroValue68 rfl rfl (by kernel_rfl) (by kernel_rfl) rfl (fun b161 => ?_)
          refine oj_nil ?_
          refine ej_pl (lt_w (by kernel_rfl) (lt_y (y_call Tryd.call43 rfl (fun w hp => k_last d Ac cc l Al cl w hp.rd hp.rd)) rfl (lt_w (by kernel_rfl) (lt_y (y_call Tryd.call43 rfl (fun w hp => k_last d Ac cc l Al cl w hp.rd hp.rd)) rfl (lt_y (y_sub rfl rfl (by omega)) rfl (lt_y (y_move rfl) rfl (lt_y (y_move rfl) rfl (lt_y (y_move rfl) rfl (lt_y (y_loadN Tryd.isAgg44 Tryd.sizeOf44 rfl) rfl (lt_y (y_move rfl) rfl (lt_y (y_move rfl) rfl (lt_y (y_loadN Tryd.isAgg44 Tryd.sizeOf44 rfl) rfl (lt_y (y_move rfl) rfl (lt_nil)))))))))))))) ?_
          refine pl_w1 16 (by kernel_rfl) rfl rfl (pl_fire rfl rfl rfl (by kernel_rfl) ?_)
          refine oj_append  el69 (fun _ => rfl) encAct_one rfl rfl rfl (reads_lit [(⟨lastD d l, 1, part⟩ : Act1), (⟨lastD d l, 1, pay - part⟩ : Act1)] (fun _ => rfl) rfl) (by simp [maxLen]; omega) (by simp; omega) rfl (fun A162 c162 => ?_)
          refine oj_nil ?_
          refine ej_pl (lt_y (y_build (cs := [.int .i64 (lastD d l), .int .i64 1, .int .i64 (pay - part)]) st68 rfl (by kernel_rfl)) rfl (lt_w (by kernel_rfl) (lt_y (y_build (cs := [.int .i64 (lastD d l), .int .i64 1, .int .i64 part]) st68 rfl (by kernel_rfl)) rfl (lt_y (y_call Tryd.call43 rfl (fun w hp => k_last d Ac cc l Al cl w hp.rd hp.rd)) rfl (lt_y (y_sub rfl rfl (by omega)) rfl (lt_y (y_move rfl) rfl (lt_y (y_move rfl) rfl (lt_y (y_move rfl) rfl (lt_y (y_loadN Tryd.isAgg44 Tryd.sizeOf44 rfl) rfl (lt_y (y_move rfl) rfl (lt_y (y_move rfl) rfl (lt_y (y_loadN Tryd.isAgg44 Tryd.sizeOf44 rfl) rfl (lt_y (y_move rfl) rfl (lt_nil)))))))))))))) ?_
          refine pl_y 17 rfl (y_assign rfl) rfl rfl rfl rfl (by kernel_rfl) ?_
          refine pl_end (by kernel_rfl) ?_
          refine ej_th (cj_seq ?_)
          simp only [List.nil_append]
          refine cj_region ?_
          refine oj_step (y_loadN Tryd.isAgg44 Tryd.sizeOf44 rfl) rfl rfl rfl ?_
          refine oj_step (y_move rfl) rfl rfl rfl ?_
          refine oj_callS (fun A c => .tuple #[.slice A (RunO d (l ++ [(⟨lastD d l, 1, pay⟩ : Act1)])).length c, .int .i64 (RunN d (l ++ [(⟨lastD d l, 1, pay⟩ : Act1)])), .int .i64 (RunE d (l ++ [(⟨lastD d l, 1, pay⟩ : Act1)]))]) 5 encAcc (RunO d (l ++ [(⟨lastD d l, 1, pay⟩ : Act1)])) Tryd.call34 rfl (fun w hp => k_Run d Ac cc (l ++ [(⟨lastD d l, 1, pay⟩ : Act1)]) A139 c139 w hp.rd (hp.rdO (fun _ => rfl) (by unfold maxLen; simp; omega)) hp.glo) rfl (fun A166 c166 fp166 hfp166 => ?_)
          refine oj_step (y_move rfl) rfl rfl rfl ?_
          refine oj_step (y_extract rfl rfl) rfl rfl rfl ?_
          refine oj_step (y_extract rfl rfl) rfl rfl rfl ?_
          refine oj_step (y_extract rfl rfl) rfl rfl rfl ?_
          refine oj_step (y_assign rfl) rfl rfl rfl ?_
          refine oj_step (y_assign rfl) rfl rfl rfl ?_
          refine oj_step (y_assign rfl) rfl rfl rfl ?_
          refine oj_nil ?_
          refine ej_th (cj_seq (cj_region ?_))
          refine oj_step (y_loadN Tryd.isAgg44 Tryd.sizeOf44 rfl) rfl rfl rfl ?_
          refine oj_step (y_move rfl) rfl rfl rfl ?_
          refine oj_callS (fun A c => .tuple #[.slice A (RunO d (l ++ [(⟨lastD d l, 1, part⟩ : Act1), (⟨lastD d l, 1, pay - part⟩ : Act1)])).length c, .int .i64 (RunN d (l ++ [(⟨lastD d l, 1, part⟩ : Act1), (⟨lastD d l, 1, pay - part⟩ : Act1)])), .int .i64 (RunE d (l ++ [(⟨lastD d l, 1, part⟩ : Act1), (⟨lastD d l, 1, pay - part⟩ : Act1)]))]) 5 encAcc (RunO d (l ++ [(⟨lastD d l, 1, part⟩ : Act1), (⟨lastD d l, 1, pay - part⟩ : Act1)])) Tryd.call34 rfl (fun w hp => k_Run d Ac cc (l ++ [(⟨lastD d l, 1, part⟩ : Act1), (⟨lastD d l, 1, pay - part⟩ : Act1)]) A162 c162 w hp.rd (hp.rdO (fun _ => rfl) (by unfold maxLen; simp; omega)) hp.glo) rfl (fun A173 c173 fp173 hfp173 => ?_)
          refine oj_step (y_move rfl) rfl rfl rfl ?_
          refine oj_step (y_extract rfl rfl) rfl rfl rfl ?_
          refine oj_step (y_extract rfl rfl) rfl rfl rfl ?_
          refine oj_step (y_extract rfl rfl) rfl rfl rfl ?_
          refine oj_step (y_assign rfl) rfl rfl rfl ?_
          refine oj_step (y_assign rfl) rfl rfl rfl ?_
          refine oj_step (y_assign rfl) rfl rfl rfl ?_
          refine oj_nil ?_
          refine ej_th (cj_seq (cj_seq ?_))
          refine cj_regionG (gj_step (y_move rfl) rfl rfl rfl (gj_step (y_neq rfl rfl) rfl rfl rfl (gj_step (y_move rfl) rfl rfl rfl (gj_g 3 179 182 rfl rfl rfl rfl (fun hg179 => gj_yes rfl rfl rfl (y_move rfl) rfl rfl (gj_yes rfl rfl rfl (y_lenA Tryd.underlying69 rfl) rfl rfl (gj_yes rfl rfl rfl (y_gtr rfl rfl) rfl rfl (gj_nil rfl)))) (gj_step (y_or rfl rfl rfl) rfl rfl rfl (gj_nil ?_))))))
          refine ej_th ?_
          refine cj_cond rfl (fun h183 => ?_) (fun h183 => ?_)
          · have h183b := h183
            try simp only [sxb] at h183
            refine cj_seq ?_
            refine cj_regionG ?_
            refine gj_step (y_call Tryd.call23 rfl (fun w hp => k_works w hp.glo)) rfl rfl rfl ?_
            refine gj_step (y_assign rfl) rfl rfl rfl (?_)
            refine gj_nil ?_
            refine ej_th (cj_ret (ej_then_ret ?_))
            exact ej_ret1 rfl Tryd.results12 rfl (fun w' hp => ⟨rfl, hp.below⟩)
          · have h183b := h183
            try simp only [sxb] at h183
            have hlt : l.length + 2 ≤ 32 := by have := h183.2; simp at this; omega
            obtain ⟨k1, k2⟩ := two_parts (p := part) (q := pay - part) (by omega) (by omega) (by rw [show part + (pay - part) = pay by omega]; exact h183.1) hlt
            rw [show part + (pay - part) = pay by omega] at k2
            obtain ⟨_, _, o1, _, _⟩ := run_ok h183.1
            obtain ⟨_, _, o2, _, _⟩ := run_ok k1
            have hl1 : (RunO d (l ++ [(⟨lastD d l, 1, pay⟩ : Act1)])).length = l.length + 1 := by rw [o1, outs_len]; simp
            have hl2 : (RunO d (l ++ [(⟨lastD d l, 1, part⟩ : Act1), (⟨lastD d l, 1, pay - part⟩ : Act1)])).length = l.length + 2 := by rw [o2, outs_len]; simp
            refine cj_skip (ej_th (cj_seq ?_))
            refine cj_draw (by kernel_rfl) (by kernel_rfl) ?_
            refine gj_step (y_move rfl) rfl rfl rfl (gj_step (y_eql rfl rfl) rfl rfl rfl (gj_step (y_move rfl) rfl rfl rfl (?_)))
            refine gj_g 5 187 192 rfl rfl rfl rfl (fun hg187 => gj_yes rfl rfl rfl (y_move rfl) rfl rfl (gj_yes rfl rfl rfl (y_lenA Tryd.underlying74 rfl) rfl rfl (gj_yes rfl rfl rfl (y_move rfl) rfl rfl (gj_yes rfl rfl rfl (y_lenA Tryd.underlying69 rfl) rfl rfl (gj_yes rfl rfl rfl (y_eql rfl rfl) rfl rfl (gj_nil rfl)))))) ?_
            refine gj_step (y_and rfl rfl rfl) rfl rfl rfl (gj_step (y_move rfl) rfl rfl rfl (?_))
            refine gj_g 5 194 199 rfl rfl rfl rfl (fun hg194 => gj_yes rfl rfl rfl (y_move rfl) rfl rfl (gj_yes rfl rfl rfl (y_lenA Tryd.underlying74 rfl) rfl rfl (gj_yes rfl rfl rfl (y_move rfl) rfl rfl (gj_yes rfl rfl rfl (y_lenA Tryd.underlying69 rfl) rfl rfl (gj_yes rfl rfl rfl (y_eql rfl rfl) rfl rfl (gj_nil rfl)))))) ?_
            refine gj_step (y_and rfl rfl rfl) rfl rfl rfl (gj_step (y_move rfl) rfl rfl rfl (?_))
            refine gj_g 13 201 214 rfl rfl rfl rfl (fun hg201 => gj_yes rfl rfl rfl (y_move rfl) rfl rfl (gj_yes rfl rfl rfl (y_move rfl) rfl rfl (gj_yes rfl rfl rfl (y_lenA Tryd.underlying74 rfl) rfl rfl (gj_yes rfl rfl rfl (y_sub rfl rfl (by omega)) rfl rfl (gj_yes rfl rfl rfl (y_ixR (reads_sl) Tryd.underlying74 Tryd.sizeOf64 rfl rfl (⟨by omega, by omega⟩)) rfl rfl (gj_yes rfl rfl rfl (y_ldW (reads_sl) Tryd.isAgg64 Tryd.sizeOf64 rfl (geq default (by omega)) (fun _ => rfl)) rfl rfl (gj_yes rfl rfl rfl (y_move rfl) rfl rfl (gj_yes rfl rfl rfl (y_move rfl) rfl rfl (gj_yes rfl rfl rfl (y_lenA Tryd.underlying74 rfl) rfl rfl (gj_yes rfl rfl rfl (y_sub rfl rfl (by omega)) rfl rfl (gj_yes rfl rfl rfl (y_ixR (reads_sl) Tryd.underlying74 Tryd.sizeOf64 rfl rfl (⟨by omega, by omega⟩)) rfl rfl (gj_yes rfl rfl rfl (y_ldW (reads_sl) Tryd.isAgg64 Tryd.sizeOf64 rfl (geq default (by omega)) (fun _ => rfl)) rfl rfl (gj_yes rfl rfl rfl (y_bin rfl rfl (fun x y w => eq64 _ _ _ _ _ _ _ _ _ _ x y w)) rfl rfl (gj_nil rfl)))))))))))))) ?_
            refine gj_step (y_and rfl rfl rfl) rfl rfl rfl (gj_step (y_move rfl) rfl rfl rfl (?_))
            refine gj_g 1 216 217 rfl rfl rfl rfl (fun hg216 => gj_yes rfl rfl rfl (y_call Tryd.call23 rfl (fun w hp => k_works w hp.glo)) rfl rfl (gj_nil rfl)) ?_
            refine gj_step (y_and rfl rfl rfl) rfl rfl rfl (gj_step (y_assign rfl) rfl rfl rfl (?_))
            refine gj_nil ?_
            refine ej_th (cj_ret ?_)
            refine ej_ret1 rfl Tryd.results12 rfl (fun w' hp => ⟨?_, hp.below⟩)
            have e1 := outs_last d l ⟨lastD d l, 1, pay⟩ (openL d)
            have e2 := outs_last d (l ++ [⟨lastD d l, 1, part⟩]) ⟨lastD d l, 1, pay - part⟩ (openL d)
            rw [List.append_assoc, List.singleton_append] at e2
            rw [k2] at e2
            rw [hl1, hl2, show (((l.length + 1 : Nat) : Int) - 1).toNat = l.length by omega, show (((l.length + 2 : Nat) : Int) - 1).toNat = l.length + 1 by omega, o1, o2, k1]
            have e1' : (outs d (openL d) (l ++ [(⟨lastD d l, 1, pay⟩ : Act1)])).getD l.length default = (exec d (openL d) (l ++ [(⟨lastD d l, 1, pay⟩ : Act1)])).acc := by rw [← e1]; simp
            have e2' : (outs d (openL d) (l ++ [(⟨lastD d l, 1, part⟩ : Act1), (⟨lastD d l, 1, pay - part⟩ : Act1)])).getD (l.length + 1) default = (exec d (openL d) (l ++ [(⟨lastD d l, 1, pay⟩ : Act1)])).acc := by rw [← e2]; simp
            rw [e1', e2']
            simp

end Go.Proofs.YtafmgkiddhappaaDoor
