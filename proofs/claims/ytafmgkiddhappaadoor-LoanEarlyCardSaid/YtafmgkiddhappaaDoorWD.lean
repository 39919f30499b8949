/- Walks of functions of the program. -/
import Derived.Test.YtafmgkiddhappaaDoorWC
import Derived.Test.YtafmgkiddhappaaDoorPC
namespace Go.Proofs.YtafmgkiddhappaaDoor
open Go.Sx Go.RowKit
set_option maxRecDepth 20000
theorem k_rcrafts (sales : List Sale) (fade : List Int) (metal day few : Int) (As Af : Option Addr) (cs cf : Nat) (kind : Int) (w : World) (hs : Rd w 5 encSale As sales) (hf : Rd w 1 enInt Af fade) (hb : badMarket sales fade metal day few = false) : Calls Tryd.prog 56 #[.agg #[.slice As sales.length cs, .slice Af fade.length cf, .int .i64 metal, .int .i64 day, .int .i64 few], .int .i64 kind] w (fun e w' => ∃ A c, e = .returned (.slice A (craftsOf sales fade day kind).length c) ∧ Grow w w' ∧ Res w w' 1 enInt A (craftsOf sales fade day kind)) := by
  have hlen := hs.len
  have hlenf := hf.len
  obtain ⟨hfa, hfl, hme, hda, hfe, hsl, hsa⟩ := badMarket_parts hb
  refine enter_pure (args := [.agg #[.slice As sales.length cs, .slice Af fade.length cf, .int .i64 metal, .int .i64 day, .int .i64 few], .int .i64 kind]) [sl (fun b => b < w.heap.size) 5 encSale As sales, sl (fun b => b < w.heap.size) 1 enInt Af fade] Tryd.func56 rfl (by rw [Tryd.ntmps56]; simp) (fun g hg => by simp at hg; rcases hg with rfl | rfl; exact ⟨hs, fun _ h => h⟩; exact ⟨hf, fun _ h => h⟩) ?_
  refine cj_seq (cj_region ?_)
  refine oj_box rfl rfl rfl (fun b2 => ?_)
  refine oj_step (y_assign rfl) rfl rfl rfl ?_
  refine oj_nil ?_
  refine ej_th (cj_seq ?_)
  refine cj_regionG (gj_step (y_assign rfl) rfl rfl rfl (gj_nil ?_))
  refine ej_th (cj_seq (cj_seq ?_))
  refine cj_ownNil 3 1 enInt ?_
  refine cj_regionG (gj_step (y_assign rfl) rfl rfl rfl (gj_nil ?_))
  refine ej_th (cj_block ?_)
  refine cj_lp (X := Nat × Option Addr × Nat × List Int) (fun ⟨k, A, c, out⟩ => k ≤ sales.length ∧ out.length ≤ k ∧ (sales.drop k).foldl (fun out s => if s.kind = kind then ins out (craftOf fade day s) else out) out = craftsOf sales fade day kind) (fun ⟨k, A, c, out⟩ => [(1, .int .i64 kind), (2, .pointer (some ⟨b2, 0, none⟩)), (5, .slice A out.length c), (6, .int .i64 k)]) (fun ⟨k, A, c, out⟩ => [ow 3 1 enInt A c out, ownB b2 (cellsB 25 [.slice As sales.length cs, .slice Af fade.length cf, .int .i64 metal, .int .i64 day, .int .i64 few])]) (fun ⟨k, A, c, out⟩ => [sl (fun b => b < w.heap.size) 5 encSale As sales, sl (fun b => b < w.heap.size) 1 enInt Af fade]) (fun ⟨k, A, c, out⟩ => sales.length - k) (0, none, 0, []) (⟨Nat.zero_le _, Nat.le_refl _, rfl⟩) ⟨rfl, rfl, rfl, rfl, trivial⟩ ?_
  rintro ⟨k, A, c, out⟩ ⟨hk, hol, hl⟩
  refine cj_seq (cj_seq ?_)
  refine cj_regionG (gj_step (y_move rfl) rfl rfl rfl (gj_step (y_fa0 fa25_0 rfl) rfl rfl rfl (gj_step (y_load1 Tryd.isAgg22 rfl rfl) rfl rfl rfl (gj_step (y_lenA Tryd.underlying22 rfl) rfl rfl rfl (gj_step (y_lss rfl rfl) rfl rfl rfl (gj_nil ?_))))))
  refine ej_th ?_
  refine cj_cond rfl (fun h14 => ?_) (fun h14 => ?_)
  · have h14b := h14
    try simp only [sxb] at h14
    obtain ⟨s, hx⟩ : ∃ s, sales[k]? = some s := ⟨_, List.getElem?_eq_getElem (by omega)⟩
    have hso := hsa s (List.mem_of_getElem? hx)
    rw [fold_drop _ sales out k s hx] at hl
    refine cj_skip (ej_th (cj_seq (cj_block (cj_seq (cj_seq ?_)))))
    refine cj_regionG (gj_step (y_fa0 fa25_0 rfl) rfl rfl rfl (gj_step (y_load1 Tryd.isAgg22 rfl rfl) rfl rfl rfl (gj_step (y_move rfl) rfl rfl rfl (gj_step (y_ixR (reads_sl) Tryd.underlying22 Tryd.sizeOf56 rfl rfl (⟨by omega, by omega⟩)) rfl rfl rfl (gj_step (y_faE fa56_0 rfl) rfl rfl rfl (gj_step (y_ld1 (reads_sl) Tryd.isAgg3 rfl (hx) rfl) rfl rfl rfl (gj_step (y_move rfl) rfl rfl rfl (gj_step (y_neq rfl rfl) rfl rfl rfl (gj_nil ?_)))))))))
    refine ej_th ?_
    refine cj_cond rfl (fun h24 => ?_) (fun h24 => ?_)
    · have h24b := h24
      try simp only [sxb] at h24
      refine cj_exit (ej_then_exit (ej_blk_hit (ej_th ?_)))
      refine cj_regionG (gj_step (y_move rfl) rfl rfl rfl (gj_step (y_add rfl rfl (by omega)) rfl rfl rfl (gj_step (y_assign rfl) rfl rfl rfl (gj_nil ?_))))
      refine ej_nx (k + 1, A, c, out) (by simp only; omega) ⟨by omega, by omega, ?_⟩ ⟨rfl, rfl, rfl, rfl, trivial⟩
      simp only [if_neg h24] at hl
      exact hl
    · have h24b := h24
      try simp only [sxb] at h24
      simp only [if_pos h24] at hl
      refine cj_skip (ej_th (cj_seq ?_))
      refine cj_draw (by kernel_rfl) (by kernel_rfl) ?_
      refine gj_step (y_loadN Tryd.isAgg25 Tryd.sizeOf25 rfl) rfl rfl rfl (gj_step (y_fa0 fa25_0 rfl) rfl rfl rfl (gj_step (y_load1 Tryd.isAgg22 rfl rfl) rfl rfl rfl (gj_step (y_move rfl) rfl rfl rfl (gj_step (y_ixR (reads_sl) Tryd.underlying22 Tryd.sizeOf56 rfl rfl (⟨by omega, by omega⟩)) rfl rfl rfl (gj_step (y_ldW (reads_sl) Tryd.isAgg56 Tryd.sizeOf56 rfl (hx) (fun _ => rfl)) rfl rfl rfl (?_))))))
      refine gj_step (y_call Tryd.call83 rfl (fun w hp => k_rcraft s fade metal day few As Af sales.length cs cf w hp.rd hso hfa hda)) rfl rfl rfl ?_
      refine gj_step (y_assign rfl) rfl rfl rfl (?_)
      refine gj_nil ?_
      refine ej_th (cj_seq ?_)
      refine cj_regionG (gj_step (y_assign rfl) rfl rfl rfl (gj_nil ?_))
      refine ej_th (cj_seq (cj_block ?_))
      have hul := upTo_le out (craftOf fade day s)
      refine cj_lpc (X := Nat) (fun i => i ≤ upTo out (craftOf fade day s)) (fun i => [(1, .int .i64 kind), (2, .pointer (some ⟨b2, 0, none⟩)), (5, .slice A out.length c), (6, .int .i64 k), (7, .int .i64 (craftOf fade day s)), (8, .int .i64 i)]) (fun i => upTo out (craftOf fade day s) - i) 0 (Nat.zero_le _) ⟨rfl, rfl, rfl, rfl, rfl, rfl, trivial⟩ ?_
      rintro i hi
      refine cj_seq (cj_seq ?_)
      refine cj_regionG (gj_step (y_move rfl) rfl rfl rfl (gj_step (y_move rfl) rfl rfl rfl (gj_step (y_lenA Tryd.underlying23 rfl) rfl rfl rfl (gj_step (y_lss rfl rfl) rfl rfl rfl (gj_step (y_move rfl) rfl rfl rfl (gj_g 6 36 42 rfl rfl rfl rfl (fun hg36 => gj_yes rfl rfl rfl (y_move rfl) rfl rfl (gj_yes rfl rfl rfl (y_move rfl) rfl rfl (gj_yes rfl rfl rfl (y_ixR (reads_owI) Tryd.underlying23 Tryd.sizeOf3 rfl rfl (⟨by omega, by have := of_decide_eq_true hg36; omega⟩)) rfl rfl (gj_yes rfl rfl rfl (y_ld0 (reads_owI) Tryd.isAgg3 rfl (geq 0 (by have := of_decide_eq_true hg36; omega)) rfl) rfl rfl (gj_yes rfl rfl rfl (y_move rfl) rfl rfl (gj_yes rfl rfl rfl (y_leq rfl rfl) rfl rfl (gj_nil rfl))))))) (gj_step (y_and rfl rfl rfl) rfl rfl rfl (gj_nil ?_))))))))
      refine ej_th ?_
      refine cj_cond rfl (fun h43 => ?_) (fun h43 => ?_)
      · have h43b := h43
        try simp only [sxb] at h43
        have hiu : i < upTo out (craftOf fade day s) := by
          rcases Nat.lt_or_ge i (upTo out (craftOf fade day s)) with h | h
          · exact h
          · exfalso
            obtain rfl : i = upTo out (craftOf fade day s) := by omega
            exact upTo_at out _ _ (geq 0 (by omega)) h43.2
        refine cj_skip (ej_th (cj_block ?_))
        refine cj_regionG (gj_step (y_move rfl) rfl rfl rfl (gj_step (y_add rfl rfl (by omega)) rfl rfl rfl (gj_step (y_assign rfl) rfl rfl rfl (gj_nil ?_))))
        refine ej_blk ?_
        refine ej_nx (i + 1) (by omega) (by omega) ⟨rfl, rfl, rfl, rfl, rfl, rfl, trivial⟩
      · have h43b := h43
        try simp only [sxb] at h43
        obtain rfl : i = upTo out (craftOf fade day s) := by
          rcases Nat.lt_or_ge i (upTo out (craftOf fade day s)) with h | h
          · exfalso
            have := upTo_lt out _ i _ h (geq 0 (by omega))
            simp only [Int.toNat_natCast] at h43
            omega
          · omega
        refine cj_exit (ej_then_exit (ej_then_exit (ej_blk_hit (ej_th (cj_seq ?_)))))
        refine cj_regionG (gj_step (y_assign rfl) rfl rfl rfl (gj_nil ?_))
        refine ej_th ?_
        refine cj_get (fun w hp => hp.owCap (A := A) (xs := out)) (fun hcap => ?_)
        refine cj_plan 13 (by kernel_rfl) (by kernel_rfl) ?_
        refine pl_y 0 rfl (y_move rfl) rfl rfl rfl rfl (by kernel_rfl) ?_
        refine pl_y 1 rfl (y_move rfl) rfl rfl rfl rfl (by kernel_rfl) ?_
        refine pl_y 2 rfl (y_move rfl) rfl rfl rfl rfl (by kernel_rfl) ?_
        refine pl_y 3 rfl (y_sliceR (xs := out) 0 (upTo out (craftOf fade day s)) Tryd.underlying23 Tryd.sizeOf3 rfl rfl rfl (Nat.zero_le _) hul hcap) rfl rfl rfl rfl (by kernel_rfl) ?_
        refine pl_y 5 rfl (y_move rfl) rfl rfl rfl rfl (by kernel_rfl) ?_
        refine pl_y 8 rfl (y_move rfl) rfl rfl rfl rfl (by kernel_rfl) ?_
        refine pl_y 9 rfl (y_move rfl) rfl rfl rfl rfl (by kernel_rfl) ?_
        refine pl_y 10 rfl (y_sliceR (xs := out) (upTo out (craftOf fade day s)) out.length Tryd.underlying23 Tryd.sizeOf3 rfl rfl rfl hul (Nat.le_refl _) hcap) rfl rfl rfl rfl (by kernel_rfl) ?_
        refine pl_w2 4 6 (by kernel_rfl) rfl rfl (pl_fire rfl rfl rfl (by kernel_rfl) ?_) (pl_fire rfl rfl rfl (by kernel_rfl) ?_)
        · refine oj_ownNil 3 1 enInt ?_
          refine oj_append (xs := ([] : List Int)) (A := none) (c := 0) el23 (fun _ => rfl) enInt_one rfl rfl rfl (reads_sub (reads_owI) 0 (upTo out (craftOf fade day s)) hcap) (by simp [maxLen]; omega) (by simp; omega) rfl (fun A50 c50 => ?_)
          refine oj_nil ?_
          refine ej_pl (lt_y (y_sliceR (xs := out) (upTo out (craftOf fade day s)) out.length Tryd.underlying23 Tryd.sizeOf3 rfl rfl rfl hul (Nat.le_refl _) hcap) rfl (lt_y (y_move rfl) rfl (lt_y (y_move rfl) rfl (lt_y (y_move rfl) rfl (lt_w (by kernel_rfl) (lt_y (y_move rfl) rfl (lt_y (y_move rfl) rfl (lt_w (by kernel_rfl) (lt_nil))))))))) ?_
          refine pl_w1 6 (by kernel_rfl) rfl rfl (pl_fire rfl rfl rfl (by kernel_rfl) ?_)
          refine oj_buildSlice [.int .i64 0] Tryd.underlying23 Tryd.sizeOf3 Tryd.zeroValue3 rfl rfl (by kernel_rfl) rfl rfl (fun b52 => ?_)
          refine oj_nil ?_
          refine ej_pl (lt_y (y_sliceR (xs := out) (upTo out (craftOf fade day s)) out.length Tryd.underlying23 Tryd.sizeOf3 rfl rfl rfl hul (Nat.le_refl _) hcap) rfl (lt_y (y_move rfl) rfl (lt_y (y_move rfl) rfl (lt_w (by kernel_rfl) (lt_y (y_sliceR (xs := out) 0 (upTo out (craftOf fade day s)) Tryd.underlying23 Tryd.sizeOf3 rfl rfl rfl (Nat.zero_le _) hul hcap) rfl (lt_y (y_move rfl) rfl (lt_y (y_move rfl) rfl (lt_y (y_move rfl) rfl (lt_nil))))))))) ?_
          refine pl_w1 7 (by kernel_rfl) rfl rfl (pl_fire rfl rfl rfl (by kernel_rfl) ?_)
          refine oj_append  el23 (fun _ => rfl) enInt_one rfl rfl rfl (reads_lit [craftOf fade day s] (fun _ => rfl) rfl) (by simp [maxLen]; omega) (by simp; omega) rfl (fun A53 c53 => ?_)
          refine oj_nil ?_
          refine ej_pl (lt_y (y_sliceR (xs := out) (upTo out (craftOf fade day s)) out.length Tryd.underlying23 Tryd.sizeOf3 rfl rfl rfl hul (Nat.le_refl _) hcap) rfl (lt_y (y_move rfl) rfl (lt_y (y_move rfl) rfl (lt_y (y_move rfl) rfl (lt_y (y_sliceR (xs := out) 0 (upTo out (craftOf fade day s)) Tryd.underlying23 Tryd.sizeOf3 rfl rfl rfl (Nat.zero_le _) hul hcap) rfl (lt_y (y_move rfl) rfl (lt_y (y_move rfl) rfl (lt_y (y_move rfl) rfl (lt_nil))))))))) ?_
          refine pl_w1 11 (by kernel_rfl) rfl rfl (pl_fire rfl rfl rfl (by kernel_rfl) ?_)
          refine oj_append  el23 (fun _ => rfl) enInt_one rfl rfl rfl (reads_sub (reads_owI) (upTo out (craftOf fade day s)) out.length hcap) (by simp [maxLen]; omega) (by simp; omega) rfl (fun A57 c57 => ?_)
          refine oj_nil ?_
          refine ej_pl (lt_w (by kernel_rfl) (lt_y (y_move rfl) rfl (lt_y (y_move rfl) rfl (lt_y (y_move rfl) rfl (lt_y (y_sliceR (xs := out) 0 (upTo out (craftOf fade day s)) Tryd.underlying23 Tryd.sizeOf3 rfl rfl rfl (Nat.zero_le _) hul hcap) rfl (lt_y (y_move rfl) rfl (lt_y (y_move rfl) rfl (lt_y (y_move rfl) rfl (lt_nil))))))))) ?_
          refine pl_y 12 rfl (y_assign rfl) rfl rfl rfl rfl (by kernel_rfl) ?_
          refine pl_end (by kernel_rfl) ?_
          refine ej_blk (ej_th ?_)
          refine cj_regionG (gj_step (y_move rfl) rfl rfl rfl (gj_step (y_add rfl rfl (by omega)) rfl rfl rfl (gj_step (y_assign rfl) rfl rfl rfl (gj_nil ?_))))
          have heq : (([] ++ (out.take (upTo out (craftOf fade day s))).drop 0) ++ [craftOf fade day s]) ++ (out.take out.length).drop (upTo out (craftOf fade day s)) = ins out (craftOf fade day s) := by simp [ins]
          rw [heq]
          refine ej_nx (k + 1, A57, c57, ins out (craftOf fade day s)) (by simp only; omega) ⟨by omega, by rw [ins_len]; omega, hl⟩ ⟨rfl, rfl, rfl, rfl, trivial⟩
        · refine oj_buildSlice [.int .i64 0] Tryd.underlying23 Tryd.sizeOf3 Tryd.zeroValue3 rfl rfl (by kernel_rfl) rfl rfl (fun b52 => ?_)
          refine oj_nil ?_
          refine ej_pl (lt_y (y_sliceR (xs := out) (upTo out (craftOf fade day s)) out.length Tryd.underlying23 Tryd.sizeOf3 rfl rfl rfl hul (Nat.le_refl _) hcap) rfl (lt_y (y_move rfl) rfl (lt_y (y_move rfl) rfl (lt_w (by kernel_rfl) (lt_y (y_sliceR (xs := out) 0 (upTo out (craftOf fade day s)) Tryd.underlying23 Tryd.sizeOf3 rfl rfl rfl (Nat.zero_le _) hul hcap) rfl (lt_y (y_move rfl) rfl (lt_y (y_move rfl) rfl (lt_y (y_move rfl) rfl (lt_nil))))))))) ?_
          refine pl_w1 4 (by kernel_rfl) rfl rfl (pl_fire rfl rfl rfl (by kernel_rfl) ?_)
          refine oj_ownNil 3 1 enInt ?_
          refine oj_append (xs := ([] : List Int)) (A := none) (c := 0) el23 (fun _ => rfl) enInt_one rfl rfl rfl (reads_sub (reads_owI) 0 (upTo out (craftOf fade day s)) hcap) (by simp [maxLen]; omega) (by simp; omega) rfl (fun A50 c50 => ?_)
          refine oj_nil ?_
          refine ej_pl (lt_y (y_sliceR (xs := out) (upTo out (craftOf fade day s)) out.length Tryd.underlying23 Tryd.sizeOf3 rfl rfl rfl hul (Nat.le_refl _) hcap) rfl (lt_y (y_move rfl) rfl (lt_y (y_move rfl) rfl (lt_y (y_move rfl) rfl (lt_w (by kernel_rfl) (lt_y (y_move rfl) rfl (lt_y (y_move rfl) rfl (lt_w (by kernel_rfl) (lt_nil))))))))) ?_
          refine pl_w1 7 (by kernel_rfl) rfl rfl (pl_fire rfl rfl rfl (by kernel_rfl) ?_)
          refine oj_append  el23 (fun _ => rfl) enInt_one rfl rfl rfl (reads_lit [craftOf fade day s] (fun _ => rfl) rfl) (by simp [maxLen]; omega) (by simp; omega) rfl (fun A53 c53 => ?_)
          refine oj_nil ?_
          refine ej_pl (lt_y (y_sliceR (xs := out) (upTo out (craftOf fade day s)) out.length Tryd.underlying23 Tryd.sizeOf3 rfl rfl rfl hul (Nat.le_refl _) hcap) rfl (lt_y (y_move rfl) rfl (lt_y (y_move rfl) rfl (lt_y (y_move rfl) rfl (lt_y (y_sliceR (xs := out) 0 (upTo out (craftOf fade day s)) Tryd.underlying23 Tryd.sizeOf3 rfl rfl rfl (Nat.zero_le _) hul hcap) rfl (lt_y (y_move rfl) rfl (lt_y (y_move rfl) rfl (lt_y (y_move rfl) rfl (lt_nil))))))))) ?_
          refine pl_w1 11 (by kernel_rfl) rfl rfl (pl_fire rfl rfl rfl (by kernel_rfl) ?_)
          refine oj_append  el23 (fun _ => rfl) enInt_one rfl rfl rfl (reads_sub (reads_owI) (upTo out (craftOf fade day s)) out.length hcap) (by simp [maxLen]; omega) (by simp; omega) rfl (fun A57 c57 => ?_)
          refine oj_nil ?_
          refine ej_pl (lt_w (by kernel_rfl) (lt_y (y_move rfl) rfl (lt_y (y_move rfl) rfl (lt_y (y_move rfl) rfl (lt_y (y_sliceR (xs := out) 0 (upTo out (craftOf fade day s)) Tryd.underlying23 Tryd.sizeOf3 rfl rfl rfl (Nat.zero_le _) hul hcap) rfl (lt_y (y_move rfl) rfl (lt_y (y_move rfl) rfl (lt_y (y_move rfl) rfl (lt_nil))))))))) ?_
          refine pl_y 12 rfl (y_assign rfl) rfl rfl rfl rfl (by kernel_rfl) ?_
          refine pl_end (by kernel_rfl) ?_
          refine ej_blk (ej_th ?_)
          refine cj_regionG (gj_step (y_move rfl) rfl rfl rfl (gj_step (y_add rfl rfl (by omega)) rfl rfl rfl (gj_step (y_assign rfl) rfl rfl rfl (gj_nil ?_))))
          have heq : (([] ++ (out.take (upTo out (craftOf fade day s))).drop 0) ++ [craftOf fade day s]) ++ (out.take out.length).drop (upTo out (craftOf fade day s)) = ins out (craftOf fade day s) := by simp [ins]
          rw [heq]
          refine ej_nx (k + 1, A57, c57, ins out (craftOf fade day s)) (by simp only; omega) ⟨by omega, by rw [ins_len]; omega, hl⟩ ⟨rfl, rfl, rfl, rfl, trivial⟩
  · have h14b := h14
    try simp only [sxb] at h14
    refine cj_exit (ej_then_exit (ej_then_exit (ej_blk_hit (ej_th (cj_seq ?_)))))
    refine cj_regionG (gj_step (y_move rfl) rfl rfl rfl (gj_step (y_assign rfl) rfl rfl rfl (gj_nil ?_)))
    refine ej_th (cj_ret ?_)
    rw [List.drop_of_length_le (by omega), List.foldl_nil] at hl
    subst hl
    exact ej_ret1 rfl Tryd.results56 rfl (fun w' hp => ⟨A, c, rfl, hp.below, hp.res (fun _ => rfl) (by unfold maxLen; omega)⟩)

end Go.Proofs.YtafmgkiddhappaaDoor
