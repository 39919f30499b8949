/- Walks of functions of the program. -/
import Derived.Test.YtafmgkiddhappaaDoorYWOnce
import Derived.Test.YtafmgkiddhappaaDoorYPLaw
import Derived.Test.YtafmgkiddhappaaDoorYTyLaw
namespace Go.Proofs.YtafmgkiddhappaaDoor
open Go.Sx Go.RowKit
set_option maxRecDepth 20000
theorem k_held (l : List Act1) (Al : Option Addr) (cl : Nat) (k : Nat) (t : Int) (w : World) (hl0 : Rd w 3 encAct Al l) (hm : ∀ a ∈ l, 0 ≤ a.day ∧ a.day ≤ 36500) (ht : 0 ≤ t ∧ t ≤ 36500) : Calls Tryd.prog 42 #[.slice Al l.length cl, .int .i64 k, .int .i64 t] w (fun e w' => e = .returned (.bool ((l.take k).any (fun a : Act1 => a.kind == 3 && decide (a.day < t) && decide (t - a.day ≤ a.n)))) ∧ Grow w w') := by
  have hlen := hl0.len
  refine enter_pure (args := [.slice Al l.length cl, .int .i64 k, .int .i64 t]) [sl (fun b => b < w.heap.size) 3 encAct Al l] Tryd.func42 rfl (by rw [Tryd.ntmps42]; simp) (fun g hg => by simp at hg; subst hg; exact ⟨hl0, fun _ h => h⟩) ?_
  refine cj_seq ?_
  refine cj_regionG (gj_step (y_assign rfl) rfl rfl rfl (gj_nil ?_))
  refine ej_th (cj_seq (cj_seq ?_))
  refine cj_regionG (gj_step (y_assign rfl) rfl rfl rfl (gj_nil ?_))
  refine ej_th (cj_block ?_)
  refine cj_lpic (X := Nat) [(0, _), (1, _), (2, _)] (fun i => i ≤ (l.take k).length ∧ ((l.take k).drop i).any (fun a : Act1 => a.kind == 3 && decide (a.day < t) && decide (t - a.day ≤ a.n)) = (l.take k).any (fun a : Act1 => a.kind == 3 && decide (a.day < t) && decide (t - a.day ≤ a.n))) (fun i => [(7, .int .i64 i)]) (fun i => (l.take k).length - i) 0 (⟨Nat.zero_le _, rfl⟩) ⟨rfl, rfl, rfl, rfl, trivial⟩ ?_
  rintro i ⟨hi, hl⟩
  dsimp only [List.cons_append, List.nil_append]
  have htl : (l.take k).length = min k l.length := List.length_take ..
  refine cj_seq (cj_seq ?_)
  refine cj_regionG (gj_step (y_move rfl) rfl rfl rfl (gj_step (y_move rfl) rfl rfl rfl (gj_step (y_lss rfl rfl) rfl rfl rfl (gj_step (y_move rfl) rfl rfl rfl (gj_g 4 11 15 rfl rfl rfl rfl (fun hg11 => gj_yes rfl rfl rfl (y_move rfl) rfl rfl (gj_yes rfl rfl rfl (y_move rfl) rfl rfl (gj_yes rfl rfl rfl (y_lenA Tryd.underlying69 rfl) rfl rfl (gj_yes rfl rfl rfl (y_lss rfl rfl) rfl rfl (gj_nil rfl))))) (gj_step (y_and rfl rfl rfl) rfl rfl rfl (gj_nil ?_)))))))
  refine ej_th ?_
  refine cj_cond rfl (fun h16 => ?_) (fun h16 => ?_)
  · have h16b := h16
    try simp only [sxb] at h16
    obtain ⟨a, hx⟩ : ∃ a, l[i]? = some a := ⟨_, List.getElem?_eq_getElem (by omega)⟩
    have hx1 := hm a (List.mem_of_getElem? hx)
    have hxt : (l.take k)[i]? = some a := by rw [List.getElem?_take_of_lt (by omega)]; exact hx
    rw [any_drop _ _ i a hxt] at hl
    refine cj_skip (ej_th (cj_seq (cj_block (cj_seq ?_))))
    refine cj_draw (by kernel_rfl) (by kernel_rfl) (gj_step (y_move rfl) rfl rfl rfl (gj_step (y_move rfl) rfl rfl rfl (gj_step (y_ixR (reads_sl) Tryd.underlying69 Tryd.sizeOf68 rfl rfl (⟨by omega, by omega⟩)) rfl rfl rfl (gj_step (y_faE fa68_1 rfl) rfl rfl rfl (gj_step (y_ld1 (reads_sl) Tryd.isAgg3 rfl (hx) rfl) rfl rfl rfl (gj_step (y_eql rfl rfl) rfl rfl rfl (gj_step (y_move rfl) rfl rfl rfl (gj_g 7 25 32 rfl rfl rfl rfl (fun hg25 => gj_yes rfl rfl rfl (y_move rfl) rfl rfl (gj_yes rfl rfl rfl (y_move rfl) rfl rfl (gj_yes rfl rfl rfl (y_ixR (reads_sl) Tryd.underlying69 Tryd.sizeOf68 rfl rfl (⟨by omega, by omega⟩)) rfl rfl (gj_yes rfl rfl rfl (y_faE fa68_0 rfl) rfl rfl (gj_yes rfl rfl rfl (y_ld1 (reads_sl) Tryd.isAgg3 rfl (hx) rfl) rfl rfl (gj_yes rfl rfl rfl (y_move rfl) rfl rfl (gj_yes rfl rfl rfl (y_lss rfl rfl) rfl rfl (gj_nil rfl)))))))) (gj_step (y_and rfl rfl rfl) rfl rfl rfl (gj_step (y_move rfl) rfl rfl rfl (gj_g 13 34 47 rfl rfl rfl rfl (fun hg34 => gj_yes rfl rfl rfl (y_move rfl) rfl rfl (gj_yes rfl rfl rfl (y_move rfl) rfl rfl (gj_yes rfl rfl rfl (y_move rfl) rfl rfl (gj_yes rfl rfl rfl (y_ixR (reads_sl) Tryd.underlying69 Tryd.sizeOf68 rfl rfl (⟨by omega, by omega⟩)) rfl rfl (gj_yes rfl rfl rfl (y_faE fa68_0 rfl) rfl rfl (gj_yes rfl rfl rfl (y_ld1 (reads_sl) Tryd.isAgg3 rfl (hx) rfl) rfl rfl (gj_yes rfl rfl rfl (y_sub rfl rfl (by omega)) rfl rfl (gj_yes rfl rfl rfl (y_move rfl) rfl rfl (gj_yes rfl rfl rfl (y_move rfl) rfl rfl (gj_yes rfl rfl rfl (y_ixR (reads_sl) Tryd.underlying69 Tryd.sizeOf68 rfl rfl (⟨by omega, by omega⟩)) rfl rfl (gj_yes rfl rfl rfl (y_faE fa68_2 rfl) rfl rfl (gj_yes rfl rfl rfl (y_ld1 (reads_sl) Tryd.isAgg3 rfl (hx) rfl) rfl rfl (gj_yes rfl rfl rfl (y_leq rfl rfl) rfl rfl (gj_nil rfl)))))))))))))) (gj_step (y_and rfl rfl rfl) rfl rfl rfl (gj_nil ?_)))))))))))))
    refine ej_th ?_
    refine cj_cond rfl (fun h48 => ?_) (fun h48 => ?_)
    · have h48b := h48
      try simp only [sxb] at h48
      refine cj_seq ?_
      refine cj_regionG (gj_step (y_assign rfl) rfl rfl rfl (gj_nil ?_))
      refine ej_th (cj_ret (ej_blk_ret (ej_then_ret (ej_then_ret (ej_blk_ret (ej_then_ret ?_))))))
      exact ej_ret1 rfl Tryd.results42 rfl (fun w' hp => ⟨by rw [← hl, show (a.kind == 3 && decide (a.day < t) && decide (t - a.day ≤ a.n)) = true from h48b, Bool.true_or], hp.below⟩)
    · have h48b := h48
      try simp only [sxb] at h48
      refine cj_skip (ej_blk (ej_th ?_))
      refine cj_regionG (gj_step (y_move rfl) rfl rfl rfl (gj_step (y_add rfl rfl (by omega)) rfl rfl rfl (gj_step (y_assign rfl) rfl rfl rfl (gj_nil ?_))))
      refine ej_nx (i + 1) (by omega) ⟨by omega, ?_⟩ ⟨rfl, rfl, rfl, rfl, trivial⟩
      rw [← hl, show (a.kind == 3 && decide (a.day < t) && decide (t - a.day ≤ a.n)) = false from h48b, Bool.false_or]
  · have h16b := h16
    try simp only [sxb] at h16
    refine cj_exit (ej_then_exit (ej_then_exit (ej_blk_hit (ej_th (cj_seq ?_)))))
    refine cj_regionG (gj_step (y_assign rfl) rfl rfl rfl (gj_nil ?_))
    refine ej_th (cj_ret ?_)
    exact ej_ret1 rfl Tryd.results42 rfl (fun w' hp => ⟨by rw [← hl, List.drop_of_length_le (by omega)]; rfl, hp.below⟩)

set_option maxHeartbeats 4000000 in
theorem k_LoanLaw (d : Deal) (Ac : Option Addr) (cc : Nat) (l : List Act1) (Al : Option Addr) (cl : Nat) (n : Int) (w : World) (hc : Rd w 1 enInt Ac d.closed) (hl0 : Rd w 3 encAct Al l) (hG : Gl w 0 WAYS) : Calls Tryd.prog 11 #[.agg #[.int .i64 d.lr, .int .i64 d.lc, .int .i64 d.tr, .int .i64 d.tf, .int .i64 d.te, .int .i64 d.tt, .int .i64 d.tg, .slice Ac d.closed.length cc, .int .i64 d.start, .int .i64 d.sum], .slice Al l.length cl, .int .i64 n] w (fun e w' => e = .returned (.bool true) ∧ Grow w w') := by
  have hlen := hl0.len
  refine enter_pure (args := [.agg #[.int .i64 d.lr, .int .i64 d.lc, .int .i64 d.tr, .int .i64 d.tf, .int .i64 d.te, .int .i64 d.tt, .int .i64 d.tg, .slice Ac d.closed.length cc, .int .i64 d.start, .int .i64 d.sum], .slice Al l.length cl, .int .i64 n]) [sl (fun b => b < w.heap.size) 1 enInt Ac d.closed, sl (fun b => b < w.heap.size) 3 encAct Al l, gl 0 WAYS] Tryd.func11 rfl (by rw [Tryd.ntmps11]; simp) (fun g hg => by simp at hg; rcases hg with rfl | rfl | rfl; exact ⟨hc, fun _ h => h⟩; exact ⟨hl0, fun _ h => h⟩; exact ⟨hG.1, fun b hb => by have : b = 0 := hb; rw [this]; exact hG.2⟩) ?_
  refine cj_seq (cj_region ?_)
  refine oj_box rfl rfl rfl (fun b3 => ?_)
  refine oj_step (y_assign rfl) rfl rfl rfl ?_
  refine oj_nil ?_
  refine ej_th (cj_seq (cj_region ?_))
  refine oj_step (y_loadN Tryd.isAgg44 Tryd.sizeOf44 rfl) rfl rfl rfl ?_
  refine oj_step (y_move rfl) rfl rfl rfl ?_
  refine oj_step (y_move rfl) rfl rfl rfl ?_
  refine oj_step (y_call Tryd.call32 rfl (fun w hp => k_Owe d Ac cc l Al cl n w hp.rd hp.rd hp.glo)) rfl rfl rfl ?_
  refine oj_step (y_move rfl) rfl rfl rfl ?_
  refine oj_step (y_extract rfl rfl) rfl rfl rfl ?_
  refine oj_step (y_extract rfl rfl) rfl rfl rfl ?_
  refine oj_alloc Tryd.zeroValue64 rfl rfl (fun b7 => ?_)
  refine oj_store rfl rfl rfl rfl Tryd.sizeOf64 rfl ?_
  refine oj_step (y_assign rfl) rfl rfl rfl ?_
  refine oj_nil ?_
  refine ej_th (cj_seq (cj_seq ?_))
  refine cj_regionG (gj_step (y_move rfl) rfl rfl rfl (gj_step (y_neq rfl rfl) rfl rfl rfl (gj_nil ?_)))
  refine ej_th ?_
  refine cj_cond rfl (fun h28 => ?_) (fun h28 => ?_)
  · have h28b := h28
    try simp only [sxb] at h28
    have hz := on_no h28
    refine cj_seq ?_
    refine cj_regionG ?_
    refine gj_step (y_loadN Tryd.isAgg64 Tryd.sizeOf64 rfl) rfl rfl rfl (gj_step (y_build st64 rfl rfl) rfl rfl rfl (gj_step (y_bin rfl rfl (fun x y w => eq64 _ _ _ _ _ _ _ _ _ _ x y w)) rfl rfl rfl (gj_step (y_move rfl) rfl rfl rfl (?_))))
    refine gj_g 1 32 33 rfl rfl rfl rfl (fun hg32 => gj_yes rfl rfl rfl (y_call Tryd.call23 rfl (fun w hp => k_works w hp.glo)) rfl rfl (gj_nil rfl)) ?_
    refine gj_step (y_and rfl rfl rfl) rfl rfl rfl (gj_step (y_assign rfl) rfl rfl rfl (?_))
    refine gj_nil ?_
    refine ej_th (cj_ret (ej_then_ret ?_))
    exact ej_ret1 rfl Tryd.results11 rfl (fun w' hp => ⟨by rw [hz]; rfl, hp.below⟩)
  · have h28b := h28
    try simp only [sxb] at h28
    obtain ⟨r1, r2, r3, r4⟩ := on_ok h28
    obtain ⟨ha, hf, ho, hn, _⟩ := run_ok r1
    obtain ⟨hd, hmm, hll⟩ := ok_parts ha
    have hst := hd.start
    have hsum := hd.sum
    have hlr := hd.lr
    have hlc := hd.lc
    have hmd : ∀ a ∈ l, 0 ≤ a.day ∧ a.day ≤ 36500 := fun a h => by
      obtain ⟨i, hi⟩ := List.getElem?_of_mem h
      have := (xk_at ha hi).1
      omega
    obtain ⟨e1, e2, e3, e4, e5, e6⟩ := law_end h28
    rw [← xk_end d l (Nat.le_refl l.length)] at r2
    have hge := xk_ge d l l.length
    have hOl : (RunO d l).length = l.length := by rw [ho, outs_len]
    have hB0 := owe_bd d l n
    have hsl := mul_bd (show 0 ≤ d.sum ∧ d.sum ≤ 1073741824 by omega) hd.lc
    refine cj_skip (ej_th (cj_seq (cj_region ?_)))
    refine oj_step (y_loadN Tryd.isAgg44 Tryd.sizeOf44 rfl) rfl rfl rfl ?_
    refine oj_step (y_move rfl) rfl rfl rfl ?_
    refine oj_callS (fun A c => .tuple #[.slice A (RunO d (l)).length c, .int .i64 (RunN d (l)), .int .i64 (RunE d (l))]) 5 encAcc (RunO d (l)) Tryd.call34 rfl (fun w hp => k_Run d Ac cc (l) Al cl w hp.rd (hp.rd) hp.glo) rfl (fun A38 c38 fp38 hfp38 => ?_)
    refine oj_step (y_move rfl) rfl rfl rfl ?_
    refine oj_step (y_extract rfl rfl) rfl rfl rfl ?_
    refine oj_step (y_extract rfl rfl) rfl rfl rfl ?_
    refine oj_step (y_extract rfl rfl) rfl rfl rfl ?_
    refine oj_step (y_assign rfl) rfl rfl rfl ?_
    refine oj_step (y_assign rfl) rfl rfl rfl ?_
    refine oj_step (y_assign rfl) rfl rfl rfl ?_
    refine oj_nil ?_
    refine ej_th (cj_seq (cj_seq ?_))
    refine cj_regionG ?_
    refine gj_step (y_move rfl) rfl rfl rfl (gj_step (y_neq rfl rfl) rfl rfl rfl (gj_step (y_move rfl) rfl rfl rfl (?_)))
    refine gj_g 4 44 48 rfl rfl rfl rfl (fun hg44 => gj_yes rfl rfl rfl (y_move rfl) rfl rfl (gj_yes rfl rfl rfl (y_move rfl) rfl rfl (gj_yes rfl rfl rfl (y_lenA Tryd.underlying69 rfl) rfl rfl (gj_yes rfl rfl rfl (y_neq rfl rfl) rfl rfl (gj_nil rfl))))) ?_
    refine gj_step (y_or rfl rfl rfl) rfl rfl rfl (gj_step (y_move rfl) rfl rfl rfl (?_))
    refine gj_g 5 50 55 rfl rfl rfl rfl (fun hg50 => gj_yes rfl rfl rfl (y_move rfl) rfl rfl (gj_yes rfl rfl rfl (y_lenA Tryd.underlying74 rfl) rfl rfl (gj_yes rfl rfl rfl (y_move rfl) rfl rfl (gj_yes rfl rfl rfl (y_lenA Tryd.underlying69 rfl) rfl rfl (gj_yes rfl rfl rfl (y_neq rfl rfl) rfl rfl (gj_nil rfl)))))) ?_
    refine gj_step (y_or rfl rfl rfl) rfl rfl rfl (gj_step (y_move rfl) rfl rfl rfl (?_))
    refine gj_g 5 57 62 rfl rfl rfl rfl (fun hg57 => gj_yes rfl rfl rfl (y_fa0 fa44_0 rfl) rfl rfl (gj_yes rfl rfl rfl (y_fa0 fa40_0 rfl) rfl rfl (gj_yes rfl rfl rfl (y_load1 Tryd.isAgg3 rfl rfl) rfl rfl (gj_yes rfl rfl rfl (y_call Tryd.call26 rfl (fun w hp => k_From _ _ _ w)) rfl rfl (gj_yes rfl rfl rfl (y_not rfl) rfl rfl (gj_nil rfl)))))) ?_
    refine gj_step (y_or rfl rfl rfl) rfl rfl rfl (gj_step (y_move rfl) rfl rfl rfl (?_))
    refine gj_g 5 64 69 rfl rfl rfl rfl (fun hg64 => gj_yes rfl rfl rfl (y_fa0 fa44_0 rfl) rfl rfl (gj_yes rfl rfl rfl (y_fa fa40_1 rfl) rfl rfl (gj_yes rfl rfl rfl (y_load1 Tryd.isAgg3 rfl rfl) rfl rfl (gj_yes rfl rfl rfl (y_call Tryd.call26 rfl (fun w hp => k_From _ _ _ w)) rfl rfl (gj_yes rfl rfl rfl (y_not rfl) rfl rfl (gj_nil rfl)))))) ?_
    refine gj_step (y_or rfl rfl rfl) rfl rfl rfl (gj_step (y_move rfl) rfl rfl rfl (?_))
    refine gj_g 3 71 74 rfl rfl rfl rfl (fun hg71 => gj_yes rfl rfl rfl (y_move rfl) rfl rfl (gj_yes rfl rfl rfl (y_call Tryd.call26 rfl (fun w hp => k_From _ _ _ w)) rfl rfl (gj_yes rfl rfl rfl (y_not rfl) rfl rfl (gj_nil rfl)))) ?_
    refine gj_step (y_or rfl rfl rfl) rfl rfl rfl (?_)
    refine gj_nil ?_
    refine ej_th ?_
    refine cj_cond rfl (fun h75 => ?_) (fun h75 => ?_)
    · simp only [sxb] at h75
      exfalso
      omega
    · have h75b := h75
      try simp only [sxb] at h75
      refine cj_skip (ej_th (cj_seq ?_))
      refine cj_regionG (gj_step (y_fa fa44_4 rfl) rfl rfl rfl (gj_step (y_load1 Tryd.isAgg3 rfl rfl) rfl rfl rfl (gj_step (y_assign rfl) rfl rfl rfl (gj_step (y_assign rfl) rfl rfl rfl (gj_step (y_assign rfl) rfl rfl rfl (gj_step (y_assign rfl) rfl rfl rfl (gj_nil ?_)))))))
      refine ej_th (cj_seq (cj_region ?_))
      refine oj_step (y_fa fa44_4 rfl) rfl rfl rfl ?_
      refine oj_step (y_load1 Tryd.isAgg3 rfl rfl) rfl rfl rfl ?_
      refine oj_step (y_build (cs := [.int .i64 d.sum, .int .i64 0, .int .i64 0, .int .i64 0, .bool true]) st64 rfl (by kernel_rfl)) rfl rfl rfl ?_
      refine oj_alloc Tryd.zeroValue64 rfl rfl (fun b15 => ?_)
      refine oj_store rfl rfl rfl rfl Tryd.sizeOf64 rfl ?_
      refine oj_nil ?_
      refine ej_th (cj_seq (cj_seq ?_))
      refine cj_regionG (gj_step (y_fa fa44_3 rfl) rfl rfl rfl (gj_step (y_load1 Tryd.isAgg3 rfl rfl) rfl rfl rfl (gj_step (y_max rfl rfl) rfl rfl rfl (gj_step (y_assign rfl) rfl rfl rfl (gj_nil ?_)))))
      refine ej_th (cj_block ?_)
      refine cj_eqO [ownB b15 (cellsB 64 (encAcc (xk d l 0).acc)), ownB b7 (cellsB 64 (encAcc (OweA d l n))), ownB b3 (cellsB 44 (encDeal d Ac cc))] rfl ?_
      refine cj_lpi (X := Int × Nat × Int) [(1, _), (2, _), (3, _), (7, _), (8, _), (9, _), (15, _)] (fun ⟨t, k, lw⟩ => (d.start ≤ t ∧ t ≤ n + 1) ∧ k ≤ l.length ∧ (∀ b ∈ l.take k, b.day < t) ∧ (∀ a, l[k]? = some a → t ≤ a.day) ∧ (xk d l k).day ≤ max d.start (t - 1) ∧ lw = lawAll d l k (t - 1)) (fun ⟨t, k, lw⟩ => [(11, .int .i64 (xk d l k).pr), (12, .int .i64 lw), (13, .int .i64 k), (14, .bool (xk d l k).op), (16, .int .i64 t)]) (fun ⟨t, k, lw⟩ => [ownB b15 (cellsB 64 (encAcc (xk d l k).acc)), ownB b7 (cellsB 64 (encAcc (OweA d l n))), ownB b3 (cellsB 44 (encDeal d Ac cc))]) (fun ⟨t, k, lw⟩ => [sl fp38 5 encAcc A38 (RunO d l), sl (fun b => b < w.heap.size) 1 enInt Ac d.closed, sl (fun b => b < w.heap.size) 3 encAct Al l, gl 0 WAYS]) (fun ⟨t, k, lw⟩ => (n + 1 - t).toNat) (d.start, 0, 0) (⟨⟨Int.le_refl _, by omega⟩, Nat.zero_le _, by simp, fun a hx => (xk_at ha hx).1.1, by show d.start ≤ _; omega, by unfold lawAll; rw [show (xk d l 0).day = d.start from rfl, show (d.start - 1 - d.start).toNat = 0 by omega]; rfl⟩) ⟨rfl, rfl, rfl, rfl, by simp only; rw [show max 0 d.start = d.start by omega]; rfl, rfl, rfl, rfl, rfl, rfl, rfl, rfl, trivial⟩ ?_
      rintro ⟨t, k, lw⟩ ⟨htn, hk, hbt, hnx, hxd, hla⟩
      dsimp only [List.cons_append, List.nil_append]
      refine cj_seq (cj_seq ?_)
      refine cj_regionG (gj_step (y_move rfl) rfl rfl rfl (gj_step (y_move rfl) rfl rfl rfl (gj_step (y_leq rfl rfl) rfl rfl rfl (gj_nil ?_))))
      refine ej_th ?_
      refine cj_cond rfl (fun h86 => ?_) (fun h86 => ?_)
      · have h86b := h86
        try simp only [sxb] at h86
        have hxb : (xk d l k).day ≤ max d.start (t - 1) := hxd
        have hxg := xk_ge d l k
        have hstep := law_step ha hf hk (by omega) hxb hbt
        have hxgd := xk_good ha k
        have hxpr := hxgd.ok.pr
        have hlw0 := lawAll_bd ha k (t := t - 1) (by omega)
        rw [← hla] at hlw0
        refine cj_skip (ej_th (cj_seq (cj_block ?_)))
        refine cj_cutic (X := Int) [(11, _), (13, _), (14, _), (16, _), (1, _), (2, _), (3, _), (7, _), (8, _), (9, _), (15, _)] ⟨rfl, rfl, rfl, rfl, rfl, rfl, rfl, rfl, rfl, rfl, rfl, trivial⟩ (fun la => la = lawAll d l k t) (fun la => [(12, .int .i64 la)]) ?_ ?_
        · refine cj_seq ?_
          refine cj_regionG ?_
          refine gj_step (y_move rfl) rfl rfl rfl (gj_step (y_fa fa44_3 rfl) rfl rfl rfl (gj_step (y_load1 Tryd.isAgg3 rfl rfl) rfl rfl rfl (gj_step (y_gtr rfl rfl) rfl rfl rfl (gj_step (y_move rfl) rfl rfl rfl (?_)))))
          refine gj_g 1 93 94 rfl rfl rfl rfl (fun hg93 => gj_yes rfl rfl rfl (y_move rfl) rfl rfl (gj_nil rfl)) ?_
          refine gj_step (y_and rfl rfl rfl) rfl rfl rfl (gj_step (y_move rfl) rfl rfl rfl (?_))
          refine gj_g 5 96 101 rfl rfl rfl rfl (fun hg96 => gj_yes rfl rfl rfl (y_fa fa44_2 rfl) rfl rfl (gj_yes rfl rfl rfl (y_load1 Tryd.isAgg23 rfl rfl) rfl rfl (gj_yes rfl rfl rfl (y_move rfl) rfl rfl (gj_yes rfl rfl rfl (y_call Tryd.call41 rfl (fun w hp => k_Seek d.closed t Ac cc w hp.rd)) rfl rfl (gj_yes rfl rfl rfl (y_lss rfl rfl) rfl rfl (gj_nil rfl)))))) ?_
          refine gj_step (y_and rfl rfl rfl) rfl rfl rfl (gj_step (y_move rfl) rfl rfl rfl (?_))
          refine gj_g 5 103 108 rfl rfl rfl rfl (fun hg103 => gj_yes rfl rfl rfl (y_move rfl) rfl rfl (gj_yes rfl rfl rfl (y_move rfl) rfl rfl (gj_yes rfl rfl rfl (y_move rfl) rfl rfl (gj_yes rfl rfl rfl (y_call Tryd.call42 rfl (fun w hp => k_held l Al cl k t w hp.rd hmd ⟨by omega, by omega⟩)) rfl rfl (gj_yes rfl rfl rfl (y_not rfl) rfl rfl (gj_nil rfl)))))) ?_
          refine gj_step (y_and rfl rfl rfl) rfl rfl rfl (?_)
          refine gj_nil ?_
          refine ej_th ?_
          refine cj_cond rfl (fun h109 => ?_) (fun h109 => ?_)
          · have h109b := h109
            try simp only [sxb] at h109
            refine cj_regionG (gj_step (y_move rfl) rfl rfl rfl (gj_step (y_move rfl) rfl rfl rfl (gj_step (y_add rfl rfl (by omega)) rfl rfl rfl (gj_step (y_assign rfl) rfl rfl rfl (gj_nil ?_)))))
            exact ej_ct _ (by rw [← hstep, if_pos (by exact h109b), hla]) ⟨rfl, rfl, rfl, rfl, rfl, rfl, rfl, rfl, rfl, rfl, rfl, rfl, trivial⟩
          · have h109b := h109
            try simp only [sxb] at h109
            refine cj_skip ?_
            exact ej_ct _ (by rw [← hstep, if_neg (by intro h; exact absurd (h109b.symm.trans h) (by simp)), hla]) ⟨rfl, rfl, rfl, rfl, rfl, rfl, rfl, rfl, rfl, rfl, rfl, rfl, trivial⟩
        · rintro la hla2
          dsimp only [List.cons_append, List.nil_append]
          have hlw : 0 ≤ la ∧ la ≤ 39191576576000 := by rw [hla2]; exact lawAll_bd ha k (by omega)
          have hlr2 := mul_bd hlw hd.lr
          refine cj_seq ?_
          refine cj_draw (by kernel_rfl) (by kernel_rfl) ?_
          refine gj_step (y_move rfl) rfl rfl rfl (gj_step (y_fa0 fa44_0 rfl) rfl rfl rfl (gj_step (y_fa0 fa40_0 rfl) rfl rfl rfl (gj_step (y_load1 Tryd.isAgg3 rfl rfl) rfl rfl rfl (gj_step (y_mul rfl rfl (by have := mul_bd hlw hd.lr; omega)) rfl rfl rfl (?_)))))
          refine gj_step (y_call Tryd.call29 rfl (fun w hp => k_Down _ _ w (by omega) (by omega))) rfl rfl rfl ?_
          refine gj_step (y_fa fa44_4 rfl) rfl rfl rfl (gj_step (y_load1 Tryd.isAgg3 rfl rfl) rfl rfl rfl (gj_step (y_fa0 fa44_0 rfl) rfl rfl rfl (gj_step (y_fa fa40_1 rfl) rfl rfl rfl (gj_step (y_load1 Tryd.isAgg3 rfl rfl) rfl rfl rfl (gj_step (y_mul rfl rfl (by have := mul_bd (show 0 ≤ d.sum ∧ d.sum ≤ 1073741824 by omega) hd.lc; omega)) rfl rfl rfl (?_))))))
          refine gj_step (y_call Tryd.call29 rfl (fun w hp => k_Down _ _ w (by omega) (by omega))) rfl rfl rfl ?_
          refine gj_step (y_min rfl rfl) rfl rfl rfl (gj_step (y_assign rfl) rfl rfl rfl (?_))
          refine gj_nil ?_
          refine ej_th (cj_seq (cj_block ?_))
          refine cj_lpi (X := Nat) [(12, _), (16, _), (1, _), (2, _), (3, _), (7, _), (8, _), (9, _), (15, _), (17, _)] (fun j => j ≤ l.length ∧ (∀ b ∈ l.take j, b.day ≤ t) ∧ (∀ a, l[j]? = some a → t ≤ a.day) ∧ (xk d l j).day ≤ t ∧ lawAll d l j t = la) (fun j => [(11, .int .i64 (xk d l j).pr), (13, .int .i64 j), (14, .bool (xk d l j).op)]) (fun j => [ownB b15 (cellsB 64 (encAcc (xk d l j).acc)), ownB b7 (cellsB 64 (encAcc (OweA d l n))), ownB b3 (cellsB 44 (encDeal d Ac cc))]) (fun j => [sl fp38 5 encAcc A38 (RunO d l), sl (fun b => b < w.heap.size) 1 enInt Ac d.closed, sl (fun b => b < w.heap.size) 3 encAct Al l, gl 0 WAYS]) (fun j => l.length - j) k (⟨hk, fun b hb => by have := hbt b hb; omega, hnx, by omega, hla2.symm⟩) ⟨rfl, rfl, rfl, rfl, rfl, rfl, rfl, rfl, rfl, rfl, rfl, rfl, rfl, trivial⟩ ?_
          rintro j ⟨hjl, hbj, hnj, hxj, hlj⟩
          dsimp only [List.cons_append, List.nil_append]
          refine cj_seq (cj_seq ?_)
          refine cj_regionG (gj_step (y_move rfl) rfl rfl rfl (gj_step (y_move rfl) rfl rfl rfl (gj_step (y_lenA Tryd.underlying69 rfl) rfl rfl rfl (gj_step (y_lss rfl rfl) rfl rfl rfl (gj_step (y_move rfl) rfl rfl rfl (gj_g 7 131 138 rfl rfl rfl rfl (fun hg131 => gj_yes rfl rfl rfl (y_move rfl) rfl rfl (gj_yes rfl rfl rfl (y_move rfl) rfl rfl (gj_yes rfl rfl rfl (y_ixR (reads_sl) Tryd.underlying69 Tryd.sizeOf68 rfl rfl (⟨by have := of_decide_eq_true hg131; omega, by have := of_decide_eq_true hg131; omega⟩)) rfl rfl (gj_yes rfl rfl rfl (y_faE fa68_0 rfl) rfl rfl (gj_yes rfl rfl rfl (y_ld1 (reads_sl) Tryd.isAgg3 rfl (geq default (by have := of_decide_eq_true hg131; omega)) rfl) rfl rfl (gj_yes rfl rfl rfl (y_move rfl) rfl rfl (gj_yes rfl rfl rfl (y_eql rfl rfl) rfl rfl (gj_nil rfl)))))))) (gj_step (y_and rfl rfl rfl) rfl rfl rfl (gj_nil ?_))))))))
          refine ej_th ?_
          refine cj_cond rfl (fun h139 => ?_) (fun h139 => ?_)
          · have h139b := h139
            try simp only [sxb] at h139
            obtain ⟨hlt, hda⟩ := h139
            obtain ⟨a, hx⟩ : ∃ a, l[j]? = some a := ⟨_, List.getElem?_eq_getElem (by omega)⟩
            have hxe : l.getD (j : Int).toNat default = a := by rw [Int.toNat_natCast, List.getD_eq_getElem?_getD, hx]; rfl
            rw [hxe] at hda
            have hy : (RunO d l)[j]? = some (xk d l (j + 1)).acc := by rw [ho]; exact outs_at hx
            obtain ⟨a1, a2, a3, a4, a5, a6, a7, a8⟩ := law_act ha hx
            rw [hda] at a1 a7 a8
            rw [hlj] at a1 a8
            have hx1 := xk_at ha hx
            refine cj_skip (ej_th (cj_block (cj_seq ?_)))
            skip
            refine cj_region ?_
            refine oj_step (y_move rfl) rfl rfl rfl ?_
            refine oj_step (y_move rfl) rfl rfl rfl ?_
            refine oj_step (y_ixR (reads_sl) Tryd.underlying74 Tryd.sizeOf64 rfl rfl (⟨by omega, by omega⟩)) rfl rfl rfl ?_
            refine oj_step (y_ldW (reads_sl) Tryd.isAgg64 Tryd.sizeOf64 rfl (hy) (fun _ => rfl)) rfl rfl rfl ?_
            refine oj_alloc Tryd.zeroValue64 rfl rfl (fun b18 => ?_)
            refine oj_store rfl rfl rfl rfl Tryd.sizeOf64 rfl ?_
            refine oj_nil ?_
            refine ej_th (cj_seq (cj_seq ?_))
            refine cj_regionG ?_
            refine gj_step (y_fa fa64_1 rfl) rfl rfl rfl (gj_step (y_load1 Tryd.isAgg3 rfl rfl) rfl rfl rfl (gj_step (y_move rfl) rfl rfl rfl (gj_step (y_gtr rfl rfl) rfl rfl rfl (gj_step (y_move rfl) rfl rfl rfl (?_)))))
            refine gj_g 5 148 153 rfl rfl rfl rfl (fun hg148 => gj_yes rfl rfl rfl (y_fa fa64_1 rfl) rfl rfl (gj_yes rfl rfl rfl (y_load1 Tryd.isAgg3 rfl rfl) rfl rfl (gj_yes rfl rfl rfl (y_fa fa64_1 rfl) rfl rfl (gj_yes rfl rfl rfl (y_load1 Tryd.isAgg3 rfl rfl) rfl rfl (gj_yes rfl rfl rfl (y_lss rfl rfl) rfl rfl (gj_nil rfl)))))) ?_
            refine gj_step (y_or rfl rfl rfl) rfl rfl rfl (gj_step (y_move rfl) rfl rfl rfl (?_))
            refine gj_g 5 155 160 rfl rfl rfl rfl (fun hg155 => gj_yes rfl rfl rfl (y_fa fa64_2 rfl) rfl rfl (gj_yes rfl rfl rfl (y_load1 Tryd.isAgg3 rfl rfl) rfl rfl (gj_yes rfl rfl rfl (y_fa fa64_1 rfl) rfl rfl (gj_yes rfl rfl rfl (y_load1 Tryd.isAgg3 rfl rfl) rfl rfl (gj_yes rfl rfl rfl (y_gtr rfl rfl) rfl rfl (gj_nil rfl)))))) ?_
            refine gj_step (y_or rfl rfl rfl) rfl rfl rfl (gj_step (y_move rfl) rfl rfl rfl (?_))
            refine gj_g 5 162 167 rfl rfl rfl rfl (fun hg162 => gj_yes rfl rfl rfl (y_fa fa64_2 rfl) rfl rfl (gj_yes rfl rfl rfl (y_load1 Tryd.isAgg3 rfl rfl) rfl rfl (gj_yes rfl rfl rfl (y_fa fa64_2 rfl) rfl rfl (gj_yes rfl rfl rfl (y_load1 Tryd.isAgg3 rfl rfl) rfl rfl (gj_yes rfl rfl rfl (y_lss rfl rfl) rfl rfl (gj_nil rfl)))))) ?_
            refine gj_step (y_or rfl rfl rfl) rfl rfl rfl (gj_step (y_move rfl) rfl rfl rfl (?_))
            refine gj_g 6 169 175 rfl rfl rfl rfl (fun hg169 => gj_yes rfl rfl rfl (y_fa0 fa64_0 rfl) rfl rfl (gj_yes rfl rfl rfl (y_load1 Tryd.isAgg3 rfl rfl) rfl rfl (gj_yes rfl rfl rfl (y_fa0 fa64_0 rfl) rfl rfl (gj_yes rfl rfl rfl (y_load1 Tryd.isAgg3 rfl rfl) rfl rfl (gj_yes rfl rfl rfl (y_call Tryd.call26 rfl (fun w hp => k_From _ _ _ w)) rfl rfl (gj_yes rfl rfl rfl (y_not rfl) rfl rfl (gj_nil rfl))))))) ?_
            refine gj_step (y_or rfl rfl rfl) rfl rfl rfl (gj_step (y_move rfl) rfl rfl rfl (?_))
            refine gj_g 3 177 180 rfl rfl rfl rfl (fun hg177 => gj_yes rfl rfl rfl (y_fa fa64_4 rfl) rfl rfl (gj_yes rfl rfl rfl (y_load1 Tryd.isAgg4 rfl rfl) rfl rfl (gj_yes rfl rfl rfl (y_not rfl) rfl rfl (gj_nil rfl)))) ?_
            refine gj_step (y_or rfl rfl rfl) rfl rfl rfl (?_)
            refine gj_nil ?_
            refine ej_th ?_
            refine cj_cond rfl (fun h181 => ?_) (fun h181 => ?_)
            · simp only [sxb] at h181
              exfalso
              have a1' : (xk d l (j + 1)).acc.ch ≤ min (la * d.lr / 1000000) (d.sum * d.lc / 64) := a1
              have a2' : (xk d l j).acc.ch ≤ (xk d l (j + 1)).acc.ch := a2
              have a3' : (xk d l (j + 1)).acc.pd ≤ (xk d l (j + 1)).acc.ch := a3
              have a4' : (xk d l j).acc.pd ≤ (xk d l (j + 1)).acc.pd := a4
              have a5' : 0 ≤ (xk d l (j + 1)).acc.pr ∧ (xk d l (j + 1)).acc.pr ≤ (xk d l j).acc.pr := a5
              have a6' : (xk d l j).acc.op = true := a6
              rw [a6'] at h181
              simp only [Bool.true_eq_false, or_false] at h181
              omega
            · have h181b := h181
              try simp only [sxb] at h181
              refine cj_skip (ej_th (cj_seq ?_))
              refine cj_plan 8 (by kernel_rfl) (by kernel_rfl) ?_
              refine pl_y 0 rfl (y_fa0 fa64_0 rfl) rfl rfl rfl rfl (by kernel_rfl) ?_
              refine pl_y 1 rfl (y_load1 Tryd.isAgg3 rfl rfl) rfl rfl rfl rfl (by kernel_rfl) ?_
              refine pl_y 2 rfl (y_fa fa64_4 rfl) rfl rfl rfl rfl (by kernel_rfl) ?_
              refine pl_y 3 rfl (y_load1 Tryd.isAgg4 rfl rfl) rfl rfl rfl rfl (by kernel_rfl) ?_
              refine pl_y 4 rfl (y_loadN Tryd.isAgg64 Tryd.sizeOf64 rfl) rfl rfl rfl rfl (by kernel_rfl) ?_
              refine pl_y 5 rfl (y_assign rfl) rfl rfl rfl rfl (by kernel_rfl) ?_
              refine pl_y 6 rfl (y_assign rfl) rfl rfl rfl rfl (by kernel_rfl) ?_
              refine pl_w1 7 (by kernel_rfl) rfl rfl (pl_fire rfl rfl rfl (by kernel_rfl) ?_)
              refine oj_store rfl rfl rfl rfl Tryd.sizeOf64 rfl ?_
              refine oj_nil ?_
              refine ej_pl (lt_w (by kernel_rfl) (lt_w (by kernel_rfl) (lt_w (by kernel_rfl) (lt_w (by kernel_rfl) (lt_w (by kernel_rfl) (lt_w (by kernel_rfl) (lt_w (by kernel_rfl) (lt_nil)))))))) ?_
              refine pl_end (by kernel_rfl) ?_
              refine ej_th ?_
              refine cj_regionG (gj_step (y_move rfl) rfl rfl rfl (gj_step (y_add rfl rfl (by omega)) rfl rfl rfl (gj_step (y_assign rfl) rfl rfl rfl (gj_nil ?_))))
              refine ej_blk ?_
              refine ej_nx (j + 1) (by omega) ⟨by omega, fun b hb => ?_, fun b hb => ?_, by rw [a7]; exact Int.le_refl _, a8⟩ ⟨rfl, rfl, rfl, rfl, rfl, rfl, rfl, rfl, rfl, rfl, rfl, rfl, rfl, trivial⟩
              · rw [List.take_add_one, hx] at hb
                rcases List.mem_append.1 hb with h | h
                · exact hbj b h
                · simp at h; rw [h, hda]; exact Int.le_refl _
              · rw [← hda]; exact next_day ha hx hb
          · have h139b := h139
            try simp only [sxb] at h139
            have hend : ∀ a, l[j]? = some a → t + 1 ≤ a.day := fun a hx => by
              have h1 := hnj a hx
              have hjl := (List.getElem?_eq_some_iff.1 hx).1
              have hxe : l.getD (j : Int).toNat default = a := by rw [Int.toNat_natCast, List.getD_eq_getElem?_getD, hx]; rfl
              rw [hxe] at h139
              omega
            have hjn : t = n → j = l.length := fun e => by
              rcases Nat.lt_or_ge j l.length with h | h
              · exfalso
                obtain ⟨a, hx⟩ : ∃ a, l[j]? = some a := ⟨_, List.getElem?_eq_getElem h⟩
                have h1 := hend a hx
                have h2 := day_le d l hx
                omega
              · omega
            refine cj_exit (ej_then_exit (ej_then_exit (ej_blk_hit (ej_th (cj_seq ?_)))))
            refine cj_regionG (gj_step (y_move rfl) rfl rfl rfl (gj_step (y_move rfl) rfl rfl rfl (gj_step (y_eql rfl rfl) rfl rfl rfl (gj_step (y_move rfl) rfl rfl rfl (gj_g 32 192 224 rfl rfl rfl rfl (fun hg192 => gj_yes rfl rfl rfl (y_fa fa64_1 rfl) rfl rfl (gj_yes rfl rfl rfl (y_load1 Tryd.isAgg3 rfl rfl) rfl rfl (gj_yes rfl rfl rfl (y_move rfl) rfl rfl (gj_yes rfl rfl rfl (y_gtr rfl rfl) rfl rfl (gj_yes rfl rfl rfl (y_move rfl) rfl rfl (gj_g 5 197 202 rfl rfl rfl rfl (fun hg197 => gj_yes rfl rfl rfl (y_fa fa64_1 rfl) rfl rfl (gj_yes rfl rfl rfl (y_load1 Tryd.isAgg3 rfl rfl) rfl rfl (gj_yes rfl rfl rfl (y_fa fa64_1 rfl) rfl rfl (gj_yes rfl rfl rfl (y_load1 Tryd.isAgg3 rfl rfl) rfl rfl (gj_yes rfl rfl rfl (y_lss rfl rfl) rfl rfl (gj_nil rfl)))))) (gj_yes rfl rfl rfl (y_or rfl rfl rfl) rfl rfl (gj_yes rfl rfl rfl (y_move rfl) rfl rfl (gj_g 5 204 209 rfl rfl rfl rfl (fun hg204 => gj_yes rfl rfl rfl (y_fa fa64_2 rfl) rfl rfl (gj_yes rfl rfl rfl (y_load1 Tryd.isAgg3 rfl rfl) rfl rfl (gj_yes rfl rfl rfl (y_fa fa64_2 rfl) rfl rfl (gj_yes rfl rfl rfl (y_load1 Tryd.isAgg3 rfl rfl) rfl rfl (gj_yes rfl rfl rfl (y_neq rfl rfl) rfl rfl (gj_nil rfl)))))) (gj_yes rfl rfl rfl (y_or rfl rfl rfl) rfl rfl (gj_yes rfl rfl rfl (y_move rfl) rfl rfl (gj_g 5 211 216 rfl rfl rfl rfl (fun hg211 => gj_yes rfl rfl rfl (y_fa0 fa64_0 rfl) rfl rfl (gj_yes rfl rfl rfl (y_load1 Tryd.isAgg3 rfl rfl) rfl rfl (gj_yes rfl rfl rfl (y_fa0 fa64_0 rfl) rfl rfl (gj_yes rfl rfl rfl (y_load1 Tryd.isAgg3 rfl rfl) rfl rfl (gj_yes rfl rfl rfl (y_neq rfl rfl) rfl rfl (gj_nil rfl)))))) (gj_yes rfl rfl rfl (y_or rfl rfl rfl) rfl rfl (gj_yes rfl rfl rfl (y_move rfl) rfl rfl (gj_g 5 218 223 rfl rfl rfl rfl (fun hg218 => gj_yes rfl rfl rfl (y_fa fa64_4 rfl) rfl rfl (gj_yes rfl rfl rfl (y_load1 Tryd.isAgg4 rfl rfl) rfl rfl (gj_yes rfl rfl rfl (y_fa fa64_4 rfl) rfl rfl (gj_yes rfl rfl rfl (y_load1 Tryd.isAgg4 rfl rfl) rfl rfl (gj_yes rfl rfl rfl (y_neqB Tryd.underlying4 rfl rfl) rfl rfl (gj_nil rfl)))))) (gj_yes rfl rfl rfl (y_or rfl rfl rfl) rfl rfl (gj_nil rfl))))))))))))))))) (gj_step (y_and rfl rfl rfl) rfl rfl rfl (gj_nil ?_)))))))
            refine ej_th ?_
            refine cj_cond rfl (fun h225 => ?_) (fun h225 => ?_)
            · simp only [sxb] at h225
              exfalso
              obtain ⟨g1, g2⟩ := h225
              obtain rfl := g1
              obtain rfl := hjn rfl
              rw [hlj] at e1
              have e1' : (OweA d l t).ch ≤ min (la * d.lr / 1000000) (d.sum * d.lc / 64) := e1
              have e2' : (xk d l l.length).acc.ch ≤ (OweA d l t).ch := e2
              have e3' : (OweA d l t).pd = (xk d l l.length).acc.pd := e3
              have e4' : (OweA d l t).pr = (xk d l l.length).acc.pr := e4
              have e5' : (OweA d l t).op = (xk d l l.length).acc.op := e5
              rw [e5'] at g2
              simp at g2
              omega
            · have h225b := h225
              try simp only [sxb] at h225
              refine cj_skip (ej_blk (ej_th ?_))
              refine cj_regionG (gj_step (y_move rfl) rfl rfl rfl (gj_step (y_add rfl rfl (by omega)) rfl rfl rfl (gj_step (y_assign rfl) rfl rfl rfl (gj_nil ?_))))
              exact ej_nx (t + 1, j, la) (by simp only; omega) ⟨by simp only; omega, hjl, fun b hb => by have := hbj b hb; simp only; omega, fun a hx => by have := hend a hx; simp only; omega, by simp only; omega, by simp only; rw [show t + 1 - 1 = t by omega]; exact hlj.symm⟩ ⟨rfl, rfl, rfl, rfl, rfl, rfl, rfl, rfl, rfl, rfl, rfl, rfl, trivial⟩
      · have h86b := h86
        try simp only [sxb] at h86
        obtain rfl : t = n + 1 := by omega
        obtain rfl : k = l.length := by
          rcases Nat.lt_or_ge k l.length with h | h
          · exfalso
            obtain ⟨a, hx⟩ : ∃ a, l[k]? = some a := ⟨_, List.getElem?_eq_getElem h⟩
            have h1 := hnx a hx
            have h2 := day_le d l hx
            omega
          · omega
        have hlw := lawAll_bd ha l.length (t := n) r2.2
        rw [show n + 1 - 1 = n by omega] at hla
        subst hla
        have hlr3 := mul_bd hlw hd.lr
        refine cj_exit (ej_then_exit (ej_then_exit (ej_blk_hit (ej_th (cj_seq ?_)))))
        refine cj_regionG ?_
        refine gj_step (y_loadN Tryd.isAgg44 Tryd.sizeOf44 rfl) rfl rfl rfl (gj_step (y_move rfl) rfl rfl rfl (gj_step (y_move rfl) rfl rfl rfl (?_)))
        refine gj_step (y_call Tryd.call39 rfl (fun w hp => k_Legal d Ac cc l Al cl n w hp.rd hp.rd hp.glo)) rfl rfl rfl ?_
        refine gj_step (y_move rfl) rfl rfl rfl (gj_step (y_extract rfl rfl) rfl rfl rfl (gj_step (y_extract rfl rfl) rfl rfl rfl (gj_step (y_assign rfl) rfl rfl rfl (gj_step (y_assign rfl) rfl rfl rfl (?_)))))
        refine gj_nil ?_
        refine ej_th (cj_seq ?_)
        refine cj_draw (by kernel_rfl) (by kernel_rfl) ?_
        refine gj_step (y_move rfl) rfl rfl rfl (gj_step (y_move rfl) rfl rfl rfl (gj_step (y_lenA Tryd.underlying69 rfl) rfl rfl rfl (gj_step (y_eql rfl rfl) rfl rfl rfl (gj_step (y_move rfl) rfl rfl rfl (?_)))))
        refine gj_g 2 237 239 rfl rfl rfl rfl (fun hg237 => gj_yes rfl rfl rfl (y_move rfl) rfl rfl (gj_yes rfl rfl rfl (y_eql rfl rfl) rfl rfl (gj_nil rfl))) ?_
        refine gj_step (y_and rfl rfl rfl) rfl rfl rfl (gj_step (y_move rfl) rfl rfl rfl (?_))
        refine gj_g 16 241 257 rfl rfl rfl rfl (fun hg241 => gj_yes rfl rfl rfl (y_move rfl) rfl rfl (gj_yes rfl rfl rfl (y_move rfl) rfl rfl (gj_yes rfl rfl rfl (y_fa0 fa44_0 rfl) rfl rfl (gj_yes rfl rfl rfl (y_fa0 fa40_0 rfl) rfl rfl (gj_yes rfl rfl rfl (y_load1 Tryd.isAgg3 rfl rfl) rfl rfl (gj_yes rfl rfl rfl (y_mul rfl rfl (by have := mul_bd hlw hd.lr; omega)) rfl rfl (gj_yes rfl rfl rfl (y_call Tryd.call29 rfl (fun w hp => k_Down _ _ w (by omega) (by omega))) rfl rfl (gj_yes rfl rfl rfl (y_fa fa44_4 rfl) rfl rfl (gj_yes rfl rfl rfl (y_load1 Tryd.isAgg3 rfl rfl) rfl rfl (gj_yes rfl rfl rfl (y_fa0 fa44_0 rfl) rfl rfl (gj_yes rfl rfl rfl (y_fa fa40_1 rfl) rfl rfl (gj_yes rfl rfl rfl (y_load1 Tryd.isAgg3 rfl rfl) rfl rfl (gj_yes rfl rfl rfl (y_mul rfl rfl (by have := mul_bd (show 0 ≤ d.sum ∧ d.sum ≤ 1073741824 by omega) hd.lc; omega)) rfl rfl (gj_yes rfl rfl rfl (y_call Tryd.call29 rfl (fun w hp => k_Down _ _ w (by omega) (by omega))) rfl rfl (gj_yes rfl rfl rfl (y_min rfl rfl) rfl rfl (gj_yes rfl rfl rfl (y_eql rfl rfl) rfl rfl (gj_nil rfl))))))))))))))))) ?_
        refine gj_step (y_and rfl rfl rfl) rfl rfl rfl (gj_step (y_move rfl) rfl rfl rfl (?_))
        refine gj_g 1 259 260 rfl rfl rfl rfl (fun hg259 => gj_yes rfl rfl rfl (y_call Tryd.call23 rfl (fun w hp => k_works w hp.glo)) rfl rfl (gj_nil rfl)) ?_
        refine gj_step (y_and rfl rfl rfl) rfl rfl rfl (gj_step (y_assign rfl) rfl rfl rfl (?_))
        refine gj_nil ?_
        refine ej_th (cj_ret ?_)
        refine ej_ret1 rfl Tryd.results11 rfl (fun w' hp => ⟨?_, hp.below⟩)
        rw [e6, h28]
        simp [lawLim]

end Go.Proofs.YtafmgkiddhappaaDoor
