/- Walks of functions of the program. -/
import Derived.Test.YtafmgkiddhappaaDoorWB
import Derived.Test.YtafmgkiddhappaaDoorPB
namespace Go.Proofs.YtafmgkiddhappaaDoor
open Go.Sx Go.RowKit
set_option maxRecDepth 20000
theorem k_Down (a b : Int) (w : World) (ha : 0 ≤ a ∧ a ≤ 9223372036854775807) (hb : 1 ≤ b) : Calls Tryd.prog 29 #[.int .i64 a, .int .i64 b] w (fun e w' => e = .returned (.int .i64 (a / b)) ∧ Grow w w') := by
  have h1 := Int.mul_ediv_add_emod a b
  have h2 := Int.emod_nonneg a (show b ≠ 0 by omega)
  have h4 : 0 ≤ a / b := Int.ediv_nonneg ha.1 (by omega)
  have h3 : 0 ≤ a / b * b := Int.mul_nonneg h4 (by omega)
  have h5 : a / b * b = b * (a / b) := Int.mul_comm _ _
  refine enter_pure (args := [.int .i64 a, .int .i64 b]) [] Tryd.func29 rfl (by rw [Tryd.ntmps29]; simp) (by simp) ?_
  refine cj_seq ?_
  refine cj_regionG (gj_step (y_assign rfl) rfl rfl rfl (gj_nil ?_))
  refine ej_th (cj_seq ?_)
  refine cj_regionG (gj_step (y_move rfl) rfl rfl rfl (gj_step (y_move rfl) rfl rfl rfl (gj_step (y_quo rfl rfl (⟨ha.1, ha.2, hb⟩)) rfl rfl rfl (gj_step (y_assign rfl) rfl rfl rfl (gj_nil ?_)))))
  refine ej_th (cj_seq (cj_seq ?_))
  refine cj_regionG (gj_step (y_move rfl) rfl rfl rfl (gj_step (y_move rfl) rfl rfl rfl (gj_step (y_mul rfl rfl (by omega)) rfl rfl rfl (gj_step (y_move rfl) rfl rfl rfl (gj_step (y_gtr rfl rfl) rfl rfl rfl (gj_nil ?_))))))
  refine ej_th ?_
  refine cj_cond rfl (fun h13 => ?_) (fun h13 => ?_)
  · simp only [sxb] at h13
    exfalso
    omega
  · have h13b := h13
    try simp only [sxb] at h13
    refine cj_skip (ej_th (cj_seq ?_))
    refine cj_regionG (gj_step (y_move rfl) rfl rfl rfl (gj_step (y_assign rfl) rfl rfl rfl (gj_nil ?_)))
    refine ej_th (cj_ret ?_)
    exact ej_ret1 rfl Tryd.results29 rfl (fun w' hp => ⟨rfl, hp.below⟩)

theorem k_Ring (n m : Int) (w : World) (hm : m ≤ 4611686018427387904) : Calls Tryd.prog 27 #[.int .i64 n, .int .i64 m] w (fun e w' => e = .returned (.int .i64 (ringI n m)) ∧ Grow w w') := by
  refine enter_pure (args := [.int .i64 n, .int .i64 m]) [] Tryd.func27 rfl (by rw [Tryd.ntmps27]; simp) (by simp) ?_
  refine cj_seq ?_
  refine cj_regionG (gj_step (y_assign rfl) rfl rfl rfl (gj_nil ?_))
  refine ej_th (cj_seq (cj_seq ?_))
  refine cj_regionG (gj_step (y_move rfl) rfl rfl rfl (gj_step (y_leq rfl rfl) rfl rfl rfl (gj_nil ?_)))
  refine ej_th ?_
  refine cj_cond rfl (fun h6 => ?_) (fun h6 => ?_)
  · have h6b := h6
    try simp only [sxb] at h6
    refine cj_seq ?_
    refine cj_regionG (gj_step (y_assign rfl) rfl rfl rfl (gj_nil ?_))
    refine ej_th (cj_ret (ej_then_ret ?_))
    refine ej_ret1 rfl Tryd.results27 rfl (fun w' hp => ⟨?_, hp.below⟩)
    rw [ringI, if_pos h6]
  · have h6b := h6
    try simp only [sxb] at h6
    refine cj_skip (ej_th (cj_seq ?_))
    refine cj_regionG (gj_step (y_move rfl) rfl rfl rfl (gj_step (y_move rfl) rfl rfl rfl (gj_step (y_remw rfl rfl (by omega)) rfl rfl rfl (gj_step (y_move rfl) rfl rfl rfl (gj_step (y_add rfl rfl (by have h1 := Int.tmod_lt_of_pos n (show 0 < m by omega); have h2 := Int.lt_tmod_of_pos n (show 0 < m by omega); omega)) rfl rfl rfl (gj_step (y_move rfl) rfl rfl rfl (gj_step (y_remw rfl rfl (by omega)) rfl rfl rfl (gj_step (y_assign rfl) rfl rfl rfl (gj_nil ?_)))))))))
    refine ej_th (cj_ret ?_)
    refine ej_ret1 rfl Tryd.results27 rfl (fun w' hp => ⟨?_, hp.below⟩)
    rw [ringI, if_neg (by omega)]

theorem k_Same (xs ys : List Int) (A B : Option Addr) (c c2 : Nat) (w : World) (hx : Rd w 1 enInt A xs) (hy : Rd w 1 enInt B ys) : Calls Tryd.prog 18 #[.slice A xs.length c, .slice B ys.length c2] w (fun e w' => e = .returned (.bool (decide (xs = ys))) ∧ Grow w w') := by
  have hlen := hx.len
  have hlen2 := hy.len
  refine enter_pure (args := [.slice A xs.length c, .slice B ys.length c2]) [sl (fun b => b < w.heap.size) 1 enInt A xs, sl (fun b => b < w.heap.size) 1 enInt B ys] Tryd.func18 rfl (by rw [Tryd.ntmps18]; simp) (fun g hg => by simp at hg; rcases hg with rfl | rfl; exact ⟨hx, fun _ h => h⟩; exact ⟨hy, fun _ h => h⟩) ?_
  refine cj_seq ?_
  refine cj_regionG (gj_step (y_assign rfl) rfl rfl rfl (gj_nil ?_))
  refine ej_th (cj_seq ?_)
  refine cj_regionG (gj_step (y_move rfl) rfl rfl rfl (gj_step (y_lenA Tryd.underlying23 rfl) rfl rfl rfl (gj_step (y_move rfl) rfl rfl rfl (gj_step (y_lenA Tryd.underlying23 rfl) rfl rfl rfl (gj_step (y_eql rfl rfl) rfl rfl rfl (gj_step (y_assign rfl) rfl rfl rfl (gj_nil ?_)))))))
  refine ej_th (cj_seq (cj_seq ?_))
  refine cj_regionG (gj_step (y_assign rfl) rfl rfl rfl (gj_nil ?_))
  refine ej_th (cj_block ?_)
  refine cj_lpc (X := Nat × Bool) (fun ⟨k, ok⟩ => k ≤ xs.length ∧ ok = decide (xs.length = ys.length ∧ xs.take k = ys.take k)) (fun ⟨k, ok⟩ => [(0, .slice A xs.length c), (1, .slice B ys.length c2), (5, .bool ok), (6, .int .i64 k)]) (fun ⟨k, ok⟩ => xs.length - k) (0, decide ((xs.length : Int) = ys.length)) (⟨Nat.zero_le _, by simp [Int.ofNat_inj]⟩) ⟨rfl, rfl, rfl, rfl, trivial⟩ ?_
  rintro ⟨k, ok⟩ ⟨hk, hl⟩
  refine cj_seq (cj_seq ?_)
  refine cj_regionG (gj_step (y_move rfl) rfl rfl rfl (gj_step (y_move rfl) rfl rfl rfl (gj_g 4 13 17 rfl rfl rfl rfl (fun hg13 => gj_yes rfl rfl rfl (y_move rfl) rfl rfl (gj_yes rfl rfl rfl (y_move rfl) rfl rfl (gj_yes rfl rfl rfl (y_lenA Tryd.underlying23 rfl) rfl rfl (gj_yes rfl rfl rfl (y_lss rfl rfl) rfl rfl (gj_nil rfl))))) (gj_step (y_and rfl rfl rfl) rfl rfl rfl (gj_nil ?_)))))
  refine ej_th ?_
  refine cj_cond rfl (fun h18 => ?_) (fun h18 => ?_)
  · have h18b := h18
    try simp only [sxb] at h18
    have hle : xs.length = ys.length := by
      have h := hl; rw [h18.1] at h; exact (of_decide_eq_true h.symm).1
    obtain ⟨x, hx'⟩ : ∃ x, xs[k]? = some x := ⟨_, List.getElem?_eq_getElem (by omega)⟩
    obtain ⟨y, hy'⟩ : ∃ y, ys[k]? = some y := ⟨_, List.getElem?_eq_getElem (by omega)⟩
    refine cj_skip (ej_th (cj_seq (cj_block ?_)))
    refine cj_draw (by kernel_rfl) (by kernel_rfl) (gj_step (y_move rfl) rfl rfl rfl (gj_step (y_move rfl) rfl rfl rfl (gj_step (y_ixR (reads_sl) Tryd.underlying23 Tryd.sizeOf3 rfl rfl (⟨by omega, by omega⟩)) rfl rfl rfl (gj_step (y_ld0 (reads_sl) Tryd.isAgg3 rfl (hx') rfl) rfl rfl rfl (gj_step (y_move rfl) rfl rfl rfl (gj_step (y_move rfl) rfl rfl rfl (gj_step (y_ixR (reads_sl) Tryd.underlying23 Tryd.sizeOf3 rfl rfl (⟨by omega, by omega⟩)) rfl rfl rfl (gj_step (y_ld0 (reads_sl) Tryd.isAgg3 rfl (hy') rfl) rfl rfl rfl (gj_step (y_eql rfl rfl) rfl rfl rfl (gj_step (y_assign rfl) rfl rfl rfl (gj_nil ?_)))))))))))
    refine ej_blk (ej_th ?_)
    refine cj_regionG (gj_step (y_move rfl) rfl rfl rfl (gj_step (y_add rfl rfl (by omega)) rfl rfl rfl (gj_step (y_assign rfl) rfl rfl rfl (gj_nil ?_))))
    refine ej_nx (k + 1, decide (x = y)) (by simp only; omega) ⟨by omega, ?_⟩ ⟨rfl, rfl, rfl, rfl, trivial⟩
    rw [h18.1] at hl
    have hl := of_decide_eq_true hl.symm
    exact decide_eq_decide.2 ⟨fun h => ⟨hl.1, (take_eq_succ hx' hy').2 ⟨hl.2, h⟩⟩, fun h => ((take_eq_succ hx' hy').1 h.2).2⟩
  · have h18b := h18
    try simp only [sxb] at h18
    refine cj_exit (ej_then_exit (ej_then_exit (ej_blk_hit (ej_th (cj_seq ?_)))))
    refine cj_regionG (gj_step (y_move rfl) rfl rfl rfl (gj_step (y_assign rfl) rfl rfl rfl (gj_nil ?_)))
    refine ej_th (cj_ret ?_)
    refine ej_ret1 rfl Tryd.results18 rfl (fun w' hp => ⟨?_, hp.below⟩)
    rw [hl]
    rcases h18 with h | h
    · rw [h] at hl
      have h1 := of_decide_eq_false hl.symm
      rw [decide_eq_false h1, decide_eq_false]
      rintro rfl
      exact h1 ⟨rfl, rfl⟩
    · rw [List.take_of_length_le (by omega)]
      congr 1
      refine congrArg _ (decide_eq_decide.2 ⟨fun h1 => ?_, ?_⟩)
      · rw [h1.2, List.take_of_length_le (by omega)]
      · rintro rfl
        exact ⟨rfl, (List.take_of_length_le (by omega)).symm⟩

theorem k_rCheckMarket (sales : List Sale) (fade : List Int) (metal day few : Int) (As Af : Option Addr) (cs cf : Nat) (w : World) (hs : Rd w 5 encSale As sales) (hf : Rd w 1 enInt Af fade) : Calls Tryd.prog 20 #[.agg #[.slice As sales.length cs, .slice Af fade.length cf, .int .i64 metal, .int .i64 day, .int .i64 few]] w (fun e w' => e = .returned (.int .i64 (errM (badMarket sales fade metal day few))) ∧ Grow w w') := by
  have hlen := hs.len
  have hlenf := hf.len
  refine enter_pure (args := [.agg #[.slice As sales.length cs, .slice Af fade.length cf, .int .i64 metal, .int .i64 day, .int .i64 few]]) [sl (fun b => b < w.heap.size) 5 encSale As sales, sl (fun b => b < w.heap.size) 1 enInt Af fade] Tryd.func20 rfl (by rw [Tryd.ntmps20]; simp) (fun g hg => by simp at hg; rcases hg with rfl | rfl; exact ⟨hs, fun _ h => h⟩; exact ⟨hf, fun _ h => h⟩) ?_
  refine cj_seq (cj_region ?_)
  refine oj_box rfl rfl rfl (fun b1 => ?_)
  refine oj_step (y_assign rfl) rfl rfl rfl ?_
  refine oj_nil ?_
  refine ej_th (cj_seq ?_)
  refine cj_regionG ?_
  refine gj_step (y_fa fa25_1 rfl) rfl rfl rfl (gj_step (y_load1 Tryd.isAgg23 rfl rfl) rfl rfl rfl (gj_step (y_lenA Tryd.underlying23 rfl) rfl rfl rfl (?_)))
  refine gj_step (y_call Tryd.call26 rfl (fun w hp => k_From _ _ _ w)) rfl rfl rfl ?_
  refine gj_step (y_move rfl) rfl rfl rfl (?_)
  refine gj_g 3 11 14 rfl rfl rfl rfl (fun hg11 => gj_yes rfl rfl rfl (y_fa fa25_2 rfl) rfl rfl (gj_yes rfl rfl rfl (y_load1 Tryd.isAgg3 rfl rfl) rfl rfl (gj_yes rfl rfl rfl (y_call Tryd.call26 rfl (fun w hp => k_From _ _ _ w)) rfl rfl (gj_nil rfl)))) ?_
  refine gj_step (y_and rfl rfl rfl) rfl rfl rfl (gj_step (y_move rfl) rfl rfl rfl (?_))
  refine gj_g 3 16 19 rfl rfl rfl rfl (fun hg16 => gj_yes rfl rfl rfl (y_fa fa25_3 rfl) rfl rfl (gj_yes rfl rfl rfl (y_load1 Tryd.isAgg3 rfl rfl) rfl rfl (gj_yes rfl rfl rfl (y_call Tryd.call26 rfl (fun w hp => k_From _ _ _ w)) rfl rfl (gj_nil rfl)))) ?_
  refine gj_step (y_and rfl rfl rfl) rfl rfl rfl (gj_step (y_move rfl) rfl rfl rfl (?_))
  refine gj_g 3 21 24 rfl rfl rfl rfl (fun hg21 => gj_yes rfl rfl rfl (y_fa fa25_4 rfl) rfl rfl (gj_yes rfl rfl rfl (y_load1 Tryd.isAgg3 rfl rfl) rfl rfl (gj_yes rfl rfl rfl (y_call Tryd.call26 rfl (fun w hp => k_From _ _ _ w)) rfl rfl (gj_nil rfl)))) ?_
  refine gj_step (y_and rfl rfl rfl) rfl rfl rfl (gj_step (y_move rfl) rfl rfl rfl (?_))
  refine gj_g 4 26 30 rfl rfl rfl rfl (fun hg26 => gj_yes rfl rfl rfl (y_fa0 fa25_0 rfl) rfl rfl (gj_yes rfl rfl rfl (y_load1 Tryd.isAgg22 rfl rfl) rfl rfl (gj_yes rfl rfl rfl (y_lenA Tryd.underlying22 rfl) rfl rfl (gj_yes rfl rfl rfl (y_leq rfl rfl) rfl rfl (gj_nil rfl))))) ?_
  refine gj_step (y_and rfl rfl rfl) rfl rfl rfl (gj_step (y_assign rfl) rfl rfl rfl (?_))
  refine gj_nil ?_
  refine ej_th (cj_seq (cj_seq ?_))
  refine cj_regionG (gj_step (y_assign rfl) rfl rfl rfl (gj_nil ?_))
  refine ej_th (cj_block ?_)
  refine cj_lpc (X := Nat × Bool) (fun ⟨k, ok⟩ => k ≤ fade.length ∧ (ok && (fade.drop k).all (fun n => btw 0 n 64)) = (okM sales.length fade.length metal day few && fade.all (fun n => btw 0 n 64))) (fun ⟨k, ok⟩ => [(1, .pointer (some ⟨b1, 0, none⟩)), (3, .bool ok), (4, .int .i64 k)]) (fun ⟨k, ok⟩ => fade.length - k) (0, okM sales.length fade.length metal day few) (⟨Nat.zero_le _, rfl⟩) ⟨rfl, rfl, rfl, trivial⟩ ?_
  rintro ⟨k, ok⟩ ⟨hk, hl⟩
  refine cj_seq (cj_seq ?_)
  refine cj_regionG (gj_step (y_move rfl) rfl rfl rfl (gj_step (y_fa fa25_1 rfl) rfl rfl rfl (gj_step (y_load1 Tryd.isAgg23 rfl rfl) rfl rfl rfl (gj_step (y_lenA Tryd.underlying23 rfl) rfl rfl rfl (gj_step (y_lss rfl rfl) rfl rfl rfl (gj_nil ?_))))))
  refine ej_th ?_
  refine cj_cond rfl (fun h36 => ?_) (fun h36 => ?_)
  · have h36b := h36
    try simp only [sxb] at h36
    obtain ⟨x, hx⟩ : ∃ x, fade[k]? = some x := ⟨_, List.getElem?_eq_getElem (by omega)⟩
    rw [all_drop _ fade k x hx] at hl
    refine cj_skip (ej_th (cj_seq (cj_block ?_)))
    refine cj_regionG ?_
    refine gj_step (y_move rfl) rfl rfl rfl (gj_step (y_move rfl) rfl rfl rfl (?_))
    refine gj_g 6 40 46 rfl rfl rfl rfl (fun hg40 => gj_yes rfl rfl rfl (y_fa fa25_1 rfl) rfl rfl (gj_yes rfl rfl rfl (y_load1 Tryd.isAgg23 rfl rfl) rfl rfl (gj_yes rfl rfl rfl (y_move rfl) rfl rfl (gj_yes rfl rfl rfl (y_ixR (reads_sl) Tryd.underlying23 Tryd.sizeOf3 rfl rfl (⟨by omega, by omega⟩)) rfl rfl (gj_yes rfl rfl rfl (y_ld0 (reads_sl) Tryd.isAgg3 rfl (hx) rfl) rfl rfl (gj_yes rfl rfl rfl (y_call Tryd.call26 rfl (fun w hp => k_From _ _ _ w)) rfl rfl (gj_nil rfl))))))) ?_
    refine gj_step (y_and rfl rfl rfl) rfl rfl rfl (gj_step (y_assign rfl) rfl rfl rfl (?_))
    refine gj_nil ?_
    refine ej_blk (ej_th ?_)
    refine cj_regionG (gj_step (y_move rfl) rfl rfl rfl (gj_step (y_add rfl rfl (by omega)) rfl rfl rfl (gj_step (y_assign rfl) rfl rfl rfl (gj_nil ?_))))
    refine ej_nx (k + 1, ok && btw 0 x 64) (by simp only; omega) ⟨by omega, ?_⟩ ⟨rfl, rfl, rfl, trivial⟩
    rw [← hl, Bool.and_assoc]
  · have h36b := h36
    try simp only [sxb] at h36
    refine cj_exit (ej_then_exit (ej_then_exit (ej_blk_hit (ej_th (cj_seq (cj_seq ?_))))))
    refine cj_regionG (gj_step (y_assign rfl) rfl rfl rfl (gj_nil ?_))
    refine ej_th (cj_block ?_)
    rw [List.drop_of_length_le (by omega)] at hl
    obtain rfl : ok = (okM sales.length fade.length metal day few && fade.all (fun n => btw 0 n 64)) := by rw [← hl]; simp
    clear hl hk
    refine cj_lpc (X := Nat × Bool) (fun ⟨k, ok⟩ => k ≤ sales.length ∧ (ok && (sales.drop k).all (okSale fade.length day)) = (okM sales.length fade.length metal day few && fade.all (fun n => btw 0 n 64) && sales.all (okSale fade.length day))) (fun ⟨k, ok⟩ => [(1, .pointer (some ⟨b1, 0, none⟩)), (3, .bool ok), (5, .int .i64 k)]) (fun ⟨k, ok⟩ => sales.length - k) (0, okM sales.length fade.length metal day few && fade.all (fun n => btw 0 n 64)) (⟨Nat.zero_le _, rfl⟩) ⟨rfl, rfl, rfl, trivial⟩ ?_
    rintro ⟨k, ok⟩ ⟨hk, hl⟩
    refine cj_seq (cj_seq ?_)
    refine cj_regionG (gj_step (y_move rfl) rfl rfl rfl (gj_step (y_fa0 fa25_0 rfl) rfl rfl rfl (gj_step (y_load1 Tryd.isAgg22 rfl rfl) rfl rfl rfl (gj_step (y_lenA Tryd.underlying22 rfl) rfl rfl rfl (gj_step (y_lss rfl rfl) rfl rfl rfl (gj_nil ?_))))))
    refine ej_th ?_
    refine cj_cond rfl (fun h52 => ?_) (fun h52 => ?_)
    · have h52b := h52
      try simp only [sxb] at h52
      obtain ⟨s, hx⟩ : ∃ s, sales[k]? = some s := ⟨_, List.getElem?_eq_getElem (by omega)⟩
      rw [all_drop _ sales k s hx] at hl
      refine cj_skip (ej_th (cj_seq (cj_block (cj_seq (cj_region ?_)))))
      refine oj_step (y_fa0 fa25_0 rfl) rfl rfl rfl ?_
      refine oj_step (y_load1 Tryd.isAgg22 rfl rfl) rfl rfl rfl ?_
      refine oj_step (y_move rfl) rfl rfl rfl ?_
      refine oj_step (y_ixR (reads_sl) Tryd.underlying22 Tryd.sizeOf56 rfl rfl (⟨by omega, by omega⟩)) rfl rfl rfl ?_
      refine oj_step (y_ldW (reads_sl) Tryd.isAgg56 Tryd.sizeOf56 rfl (hx) (fun _ => rfl)) rfl rfl rfl ?_
      refine oj_alloc Tryd.zeroValue56 rfl rfl (fun b6 => ?_)
      refine oj_store rfl rfl rfl rfl Tryd.sizeOf56 rfl ?_
      refine oj_nil ?_
      refine ej_th ?_
      refine cj_regionG ?_
      refine gj_step (y_move rfl) rfl rfl rfl (gj_step (y_move rfl) rfl rfl rfl (?_))
      refine gj_g 7 61 68 rfl rfl rfl rfl (fun hg61 => gj_yes rfl rfl rfl (y_fa0 fa56_0 rfl) rfl rfl (gj_yes rfl rfl rfl (y_load1 Tryd.isAgg3 rfl rfl) rfl rfl (gj_yes rfl rfl rfl (y_fa fa25_1 rfl) rfl rfl (gj_yes rfl rfl rfl (y_load1 Tryd.isAgg23 rfl rfl) rfl rfl (gj_yes rfl rfl rfl (y_lenA Tryd.underlying23 rfl) rfl rfl (gj_yes rfl rfl rfl (y_sub rfl rfl (by omega)) rfl rfl (gj_yes rfl rfl rfl (y_call Tryd.call26 rfl (fun w hp => k_From _ _ _ w)) rfl rfl (gj_nil rfl)))))))) ?_
      refine gj_step (y_and rfl rfl rfl) rfl rfl rfl (gj_step (y_move rfl) rfl rfl rfl (?_))
      refine gj_g 5 70 75 rfl rfl rfl rfl (fun hg70 => gj_yes rfl rfl rfl (y_fa fa56_1 rfl) rfl rfl (gj_yes rfl rfl rfl (y_load1 Tryd.isAgg3 rfl rfl) rfl rfl (gj_yes rfl rfl rfl (y_fa fa25_3 rfl) rfl rfl (gj_yes rfl rfl rfl (y_load1 Tryd.isAgg3 rfl rfl) rfl rfl (gj_yes rfl rfl rfl (y_call Tryd.call26 rfl (fun w hp => k_From _ _ _ w)) rfl rfl (gj_nil rfl)))))) ?_
      refine gj_step (y_and rfl rfl rfl) rfl rfl rfl (gj_step (y_move rfl) rfl rfl rfl (?_))
      refine gj_g 3 77 80 rfl rfl rfl rfl (fun hg77 => gj_yes rfl rfl rfl (y_fa fa56_2 rfl) rfl rfl (gj_yes rfl rfl rfl (y_load1 Tryd.isAgg3 rfl rfl) rfl rfl (gj_yes rfl rfl rfl (y_call Tryd.call26 rfl (fun w hp => k_From _ _ _ w)) rfl rfl (gj_nil rfl)))) ?_
      refine gj_step (y_and rfl rfl rfl) rfl rfl rfl (gj_step (y_move rfl) rfl rfl rfl (?_))
      refine gj_g 3 82 85 rfl rfl rfl rfl (fun hg82 => gj_yes rfl rfl rfl (y_fa fa56_3 rfl) rfl rfl (gj_yes rfl rfl rfl (y_load1 Tryd.isAgg3 rfl rfl) rfl rfl (gj_yes rfl rfl rfl (y_call Tryd.call26 rfl (fun w hp => k_From _ _ _ w)) rfl rfl (gj_nil rfl)))) ?_
      refine gj_step (y_and rfl rfl rfl) rfl rfl rfl (gj_step (y_move rfl) rfl rfl rfl (?_))
      refine gj_g 3 87 90 rfl rfl rfl rfl (fun hg87 => gj_yes rfl rfl rfl (y_fa fa56_4 rfl) rfl rfl (gj_yes rfl rfl rfl (y_load1 Tryd.isAgg3 rfl rfl) rfl rfl (gj_yes rfl rfl rfl (y_call Tryd.call26 rfl (fun w hp => k_From _ _ _ w)) rfl rfl (gj_nil rfl)))) ?_
      refine gj_step (y_and rfl rfl rfl) rfl rfl rfl (gj_step (y_assign rfl) rfl rfl rfl (?_))
      refine gj_nil ?_
      refine ej_blk (ej_th ?_)
      refine cj_regionG (gj_step (y_move rfl) rfl rfl rfl (gj_step (y_add rfl rfl (by omega)) rfl rfl rfl (gj_step (y_assign rfl) rfl rfl rfl (gj_nil ?_))))
      refine ej_nx (k + 1, ok && okSale fade.length day s) (by simp only; omega) ⟨by omega, ?_⟩ ⟨rfl, by simp only [okSale, btw, Bool.and_assoc]; rfl, rfl, trivial⟩
      rw [← hl, Bool.and_assoc]
    · have h52b := h52
      try simp only [sxb] at h52
      rw [List.drop_of_length_le (by omega), ref_market] at hl
      refine cj_exit (ej_then_exit (ej_then_exit (ej_blk_hit (ej_th (cj_seq (cj_seq ?_))))))
      refine cj_regionG (gj_step (y_move rfl) rfl rfl rfl (gj_step (y_not rfl) rfl rfl rfl (gj_nil ?_)))
      refine ej_th ?_
      refine cj_cond rfl (fun h93 => ?_) (fun h93 => ?_)
      · have h93b := h93
        try simp only [sxb] at h93
        refine cj_seq ?_
        refine cj_regionG (gj_step (y_assign rfl) rfl rfl rfl (gj_nil ?_))
        refine ej_th (cj_ret (ej_then_ret ?_))
        refine ej_ret1 rfl Tryd.results20 rfl (fun w' hp => ⟨?_, hp.below⟩)
        have : badMarket sales fade metal day few = true := by simpa [h93] using hl.symm
        rw [this]; rfl
      · have h93b := h93
        try simp only [sxb] at h93
        refine cj_skip (ej_th (cj_seq ?_))
        refine cj_regionG (gj_step (y_assign rfl) rfl rfl rfl (gj_nil ?_))
        refine ej_th (cj_ret ?_)
        refine ej_ret1 rfl Tryd.results20 rfl (fun w' hp => ⟨?_, hp.below⟩)
        have : badMarket sales fade metal day few = false := by simpa [h93] using hl.symm
        rw [this]; rfl

theorem k_craft (s : Sale) (fade : List Int) (metal day few : Int) (As Af : Option Addr) (ns cs cf : Nat) (w : World) (hf : Rd w 1 enInt Af fade) (hok : okSale fade.length day s = true) (hfa : fade.all (fun n => btw 0 n 64) = true) (hday : 0 ≤ day ∧ day ≤ 36500) : Calls Tryd.prog 79 #[.agg #[.slice As ns cs, .slice Af fade.length cf, .int .i64 metal, .int .i64 day, .int .i64 few], .agg #[.int .i64 s.kind, .int .i64 s.day, .int .i64 s.weight, .int .i64 s.metal, .int .i64 s.price]] w (fun e w' => e = .returned (.int .i64 (craftOf fade day s)) ∧ Grow w w') := by
  have hlen := hf.len
  obtain ⟨hk1, hk2, hk3, hk4, hk5⟩ := okSale_parts hok
  obtain ⟨hw1, hw2⟩ := craft_first hok
  have hff := fade_in hfa s.kind.toNat
  refine enter_pure (args := [.agg #[.slice As ns cs, .slice Af fade.length cf, .int .i64 metal, .int .i64 day, .int .i64 few], .agg #[.int .i64 s.kind, .int .i64 s.day, .int .i64 s.weight, .int .i64 s.metal, .int .i64 s.price]]) [sl (fun b => b < w.heap.size) 1 enInt Af fade] Tryd.func79 rfl (by rw [Tryd.ntmps79]; simp) (fun g hg => by simp at hg; subst hg; exact ⟨hf, fun _ h => h⟩) ?_
  refine cj_seq (cj_region ?_)
  refine oj_box rfl rfl rfl (fun b2 => ?_)
  refine oj_box rfl rfl rfl (fun b3 => ?_)
  refine oj_step (y_assign rfl) rfl rfl rfl ?_
  refine oj_nil ?_
  refine ej_th (cj_seq ?_)
  refine cj_regionG (gj_step (y_fa fa56_4 rfl) rfl rfl rfl (gj_step (y_load1 Tryd.isAgg3 rfl rfl) rfl rfl rfl (gj_step (y_fa fa56_2 rfl) rfl rfl rfl (gj_step (y_load1 Tryd.isAgg3 rfl rfl) rfl rfl rfl (gj_step (y_fa fa56_3 rfl) rfl rfl rfl (gj_step (y_load1 Tryd.isAgg3 rfl rfl) rfl rfl rfl (gj_step (y_mul rfl rfl (by omega)) rfl rfl rfl (gj_step (y_sub rfl rfl (by omega)) rfl rfl rfl (gj_step (y_max rfl rfl) rfl rfl rfl (gj_step (y_assign rfl) rfl rfl rfl (gj_nil ?_)))))))))))
  refine ej_th (cj_seq (cj_seq ?_))
  refine cj_regionG (gj_step (y_fa0 fa110_0 rfl) rfl rfl rfl (gj_step (y_fa fa25_3 rfl) rfl rfl rfl (gj_step (y_load1 Tryd.isAgg3 rfl rfl) rfl rfl rfl (gj_step (y_fa fa56_1 rfl) rfl rfl rfl (gj_step (y_load1 Tryd.isAgg3 rfl rfl) rfl rfl rfl (gj_step (y_sub rfl rfl (by omega)) rfl rfl rfl (gj_step (y_quo rfl rfl (⟨by omega, by omega, by omega⟩)) rfl rfl rfl (gj_step (y_move rfl) rfl rfl rfl (gj_nil ?_)))))))))
  refine ej_th (cj_block ?_)
  refine cj_lpc (X := Nat × Int) (fun ⟨k, n⟩ => k ≤ years day s ∧ (0 ≤ n ∧ n ≤ 1073741824) ∧ fadeN (years day s - k) (fade.getD s.kind.toNat 0) n = craftOf fade day s) (fun ⟨k, n⟩ => [(2, .pointer (some ⟨b2, 0, none⟩)), (3, .pointer (some ⟨b3, 0, none⟩)), (5, .int .i64 n), (21, .int .i64 ((day - s.day) / 365)), (22, .int .i64 k)]) (fun ⟨k, n⟩ => years day s - k) (0, max 0 (s.price - s.weight * s.metal)) (⟨Nat.zero_le _, hw2, rfl⟩) ⟨rfl, rfl, rfl, rfl, rfl, trivial⟩ ?_
  rintro ⟨k, n⟩ ⟨hk, hn, hl⟩
  have hy : (years day s : Int) = (day - s.day) / 365 := by unfold years; omega
  refine cj_seq ?_
  refine cj_regionG (gj_step (y_lss rfl rfl) rfl rfl rfl (gj_nil ?_))
  refine ej_th (cj_seq ?_)
  refine cj_cond rfl (fun h23 => ?_) (fun h23 => ?_)
  · have h23b := h23
    try simp only [sxb] at h23
    refine cj_skip (ej_th (cj_seq (cj_block ?_)))
    refine cj_regionG (gj_step (y_move rfl) rfl rfl rfl (gj_step (y_fa0 fa110_0 rfl) rfl rfl rfl (gj_step (y_fa fa25_1 rfl) rfl rfl rfl (gj_step (y_load1 Tryd.isAgg23 rfl rfl) rfl rfl rfl (gj_step (y_fa0 fa56_0 rfl) rfl rfl rfl (gj_step (y_load1 Tryd.isAgg3 rfl rfl) rfl rfl rfl (gj_step (y_ixR (reads_sl) Tryd.underlying23 Tryd.sizeOf3 rfl rfl (⟨by omega, by omega⟩)) rfl rfl rfl (gj_step (y_ld0 (reads_sl) Tryd.isAgg3 rfl (geq 0 (by omega)) rfl) rfl rfl rfl (gj_step (y_mul rfl rfl (by have := fade_mul n _ hn hff; omega)) rfl rfl rfl (gj_step (y_quo rfl rfl (by have := fade_mul n _ hn hff; omega)) rfl rfl rfl (gj_step (y_assign rfl) rfl rfl rfl (gj_nil ?_))))))))))))
    refine ej_blk (ej_th ?_)
    refine cj_regionG (gj_step (y_add rfl rfl (by omega)) rfl rfl rfl (gj_step (y_move rfl) rfl rfl rfl (gj_nil ?_)))
    refine ej_nx (k + 1, n * fade.getD s.kind.toNat 0 / 64) (by simp only; omega) ⟨by omega, ?_, ?_⟩ ⟨rfl, rfl, rfl, rfl, rfl, trivial⟩
    · have := fade_mul n _ hn hff; omega
    · rw [← hl, show years day s - k = (years day s - (k + 1)) + 1 by omega]; rfl
  · have h23b := h23
    try simp only [sxb] at h23
    refine cj_exit (ej_then_exit (ej_then_exit (ej_blk_hit (ej_th (cj_seq ?_)))))
    refine cj_regionG (gj_step (y_move rfl) rfl rfl rfl (gj_step (y_assign rfl) rfl rfl rfl (gj_nil ?_)))
    refine ej_th (cj_ret ?_)
    refine ej_ret1 rfl Tryd.results79 rfl (fun w' hp => ⟨?_, hp.below⟩)
    rw [← hl, show years day s - k = 0 by omega]; rfl

theorem k_rcraft (s : Sale) (fade : List Int) (metal day few : Int) (As Af : Option Addr) (ns cs cf : Nat) (w : World) (hf : Rd w 1 enInt Af fade) (hok : okSale fade.length day s = true) (hfa : fade.all (fun n => btw 0 n 64) = true) (hday : 0 ≤ day ∧ day ≤ 36500) : Calls Tryd.prog 83 #[.agg #[.slice As ns cs, .slice Af fade.length cf, .int .i64 metal, .int .i64 day, .int .i64 few], .agg #[.int .i64 s.kind, .int .i64 s.day, .int .i64 s.weight, .int .i64 s.metal, .int .i64 s.price]] w (fun e w' => e = .returned (.int .i64 (craftOf fade day s)) ∧ Grow w w') := by
  have hlen := hf.len
  obtain ⟨hk1, hk2, hk3, hk4, hk5⟩ := okSale_parts hok
  obtain ⟨hw1, hw2⟩ := craft_first hok
  have hff := fade_in hfa s.kind.toNat
  refine enter_pure (args := [.agg #[.slice As ns cs, .slice Af fade.length cf, .int .i64 metal, .int .i64 day, .int .i64 few], .agg #[.int .i64 s.kind, .int .i64 s.day, .int .i64 s.weight, .int .i64 s.metal, .int .i64 s.price]]) [sl (fun b => b < w.heap.size) 1 enInt Af fade] Tryd.func83 rfl (by rw [Tryd.ntmps83]; simp) (fun g hg => by simp at hg; subst hg; exact ⟨hf, fun _ h => h⟩) ?_
  refine cj_seq (cj_region ?_)
  refine oj_box rfl rfl rfl (fun b2 => ?_)
  refine oj_box rfl rfl rfl (fun b3 => ?_)
  refine oj_step (y_assign rfl) rfl rfl rfl ?_
  refine oj_nil ?_
  refine ej_th (cj_seq ?_)
  refine cj_regionG (gj_step (y_fa fa56_4 rfl) rfl rfl rfl (gj_step (y_load1 Tryd.isAgg3 rfl rfl) rfl rfl rfl (gj_step (y_fa fa56_2 rfl) rfl rfl rfl (gj_step (y_load1 Tryd.isAgg3 rfl rfl) rfl rfl rfl (gj_step (y_fa fa56_3 rfl) rfl rfl rfl (gj_step (y_load1 Tryd.isAgg3 rfl rfl) rfl rfl rfl (gj_step (y_mul rfl rfl (by omega)) rfl rfl rfl (gj_step (y_sub rfl rfl (by omega)) rfl rfl rfl (gj_step (y_max rfl rfl) rfl rfl rfl (gj_step (y_assign rfl) rfl rfl rfl (gj_nil ?_)))))))))))
  refine ej_th (cj_seq (cj_seq ?_))
  refine cj_regionG (gj_step (y_fa fa56_1 rfl) rfl rfl rfl (gj_step (y_load1 Tryd.isAgg3 rfl rfl) rfl rfl rfl (gj_step (y_add rfl rfl (by omega)) rfl rfl rfl (gj_step (y_assign rfl) rfl rfl rfl (gj_nil ?_)))))
  refine ej_th (cj_block ?_)
  refine cj_lpc (X := Nat × Int) (fun ⟨k, n⟩ => k ≤ years day s ∧ (0 ≤ n ∧ n ≤ 1073741824) ∧ fadeN (years day s - k) (fade.getD s.kind.toNat 0) n = craftOf fade day s) (fun ⟨k, n⟩ => [(2, .pointer (some ⟨b2, 0, none⟩)), (3, .pointer (some ⟨b3, 0, none⟩)), (5, .int .i64 n), (6, .int .i64 (s.day + 365 * (k + 1)))]) (fun ⟨k, n⟩ => years day s - k) (0, max 0 (s.price - s.weight * s.metal)) (⟨Nat.zero_le _, hw2, rfl⟩) ⟨rfl, rfl, rfl, by rw [show s.day + 365 * (((0 : Nat) : Int) + 1) = s.day + 365 by omega]; rfl, trivial⟩ ?_
  rintro ⟨k, n⟩ ⟨hk, hn, hl⟩
  have hy : (years day s : Int) = (day - s.day) / 365 := by unfold years; omega
  refine cj_seq (cj_seq ?_)
  refine cj_regionG (gj_step (y_move rfl) rfl rfl rfl (gj_step (y_fa fa25_3 rfl) rfl rfl rfl (gj_step (y_load1 Tryd.isAgg3 rfl rfl) rfl rfl rfl (gj_step (y_leq rfl rfl) rfl rfl rfl (gj_nil ?_)))))
  refine ej_th ?_
  refine cj_cond rfl (fun h22 => ?_) (fun h22 => ?_)
  · have h22b := h22
    try simp only [sxb] at h22
    refine cj_skip (ej_th (cj_seq (cj_block ?_)))
    refine cj_regionG ?_
    refine gj_step (y_move rfl) rfl rfl rfl (gj_step (y_fa fa25_1 rfl) rfl rfl rfl (gj_step (y_load1 Tryd.isAgg23 rfl rfl) rfl rfl rfl (gj_step (y_fa0 fa56_0 rfl) rfl rfl rfl (gj_step (y_load1 Tryd.isAgg3 rfl rfl) rfl rfl rfl (gj_step (y_ixR (reads_sl) Tryd.underlying23 Tryd.sizeOf3 rfl rfl (⟨by omega, by omega⟩)) rfl rfl rfl (gj_step (y_ld0 (reads_sl) Tryd.isAgg3 rfl (geq 0 (by omega)) rfl) rfl rfl rfl (gj_step (y_mul rfl rfl (by have := fade_mul n _ hn hff; omega)) rfl rfl rfl (?_))))))))
    refine gj_step (y_call Tryd.call29 rfl (fun w hp => k_Down _ _ w (by have := fade_mul n _ hn hff; omega) (by omega))) rfl rfl rfl ?_
    refine gj_step (y_assign rfl) rfl rfl rfl (?_)
    refine gj_nil ?_
    refine ej_blk (ej_th ?_)
    refine cj_regionG (gj_step (y_move rfl) rfl rfl rfl (gj_step (y_add rfl rfl (by omega)) rfl rfl rfl (gj_step (y_assign rfl) rfl rfl rfl (gj_nil ?_))))
    refine ej_nx (k + 1, n * fade.getD s.kind.toNat 0 / 64) (by simp only; omega) ⟨by omega, ?_, ?_⟩ ⟨rfl, rfl, rfl, by simp only; rw [show s.day + 365 * (((k + 1 : Nat) : Int) + 1) = s.day + 365 * ((k : Int) + 1) + 365 by omega]; rfl, trivial⟩
    · have := fade_mul n _ hn hff; omega
    · rw [← hl, show years day s - k = (years day s - (k + 1)) + 1 by omega]; rfl
  · have h22b := h22
    try simp only [sxb] at h22
    refine cj_exit (ej_then_exit (ej_then_exit (ej_blk_hit (ej_th (cj_seq ?_)))))
    refine cj_regionG (gj_step (y_move rfl) rfl rfl rfl (gj_step (y_assign rfl) rfl rfl rfl (gj_nil ?_)))
    refine ej_th (cj_ret ?_)
    refine ej_ret1 rfl Tryd.results83 rfl (fun w' hp => ⟨?_, hp.below⟩)
    rw [← hl, show years day s - k = 0 by omega]; rfl

end Go.Proofs.YtafmgkiddhappaaDoor
