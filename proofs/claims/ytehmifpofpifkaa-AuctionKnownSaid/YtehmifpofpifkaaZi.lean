/- Texts of ours, joined: 1 of them. Conditions: none. -/
import Derived.Test.YtehmifpofpifkaaZh
namespace Go.Proofs.Ytehmifpofpifkaa
open Go.Sx Go.RowKit Am
set_option maxRecDepth 20000
theorem k_Same (a b : List Int) (Aa Ab : Option Addr) (ca cb : Nat) (w : World) (ha : Rd w 1 enInt Aa a) (hb : Rd w 1 enInt Ab b) : Calls Try.prog 28 #[.slice Aa a.length ca, .slice Ab b.length cb] w (fun e w' => e = .returned (.bool (decide (a = b))) ∧ Grow w w') := by
  have hla := ha.len
  have hlb := hb.len
  refine enter_pure (args := [.slice Aa a.length ca, .slice Ab b.length cb]) [sl (fun b => b < w.heap.size) 1 enInt Aa a, sl (fun b => b < w.heap.size) 1 enInt Ab b] Try.func28 rfl (by rw [Try.ntmps28]; simp) (fun g hg => by simp at hg; rcases hg with rfl | rfl; exact ⟨ha, fun _ h => h⟩; exact ⟨hb, fun _ h => h⟩) ?_
  refine cj_seq ?_
  refine cj_regionG (gj_step (y_assign rfl) rfl rfl rfl (gj_nil ?_))
  refine ej_th (cj_seq ?_)
  refine cj_regionG (gj_step (y_move rfl) rfl rfl rfl (gj_step (y_lenA Try.underlying43 rfl) rfl rfl rfl (gj_step (y_move rfl) rfl rfl rfl (gj_step (y_lenA Try.underlying43 rfl) rfl rfl rfl (gj_step (y_eql rfl rfl) rfl rfl rfl (gj_step (y_assign rfl) rfl rfl rfl (gj_nil ?_)))))))
  refine ej_th (cj_seq (cj_seq ?_))
  refine cj_regionG (gj_step (y_assign rfl) rfl rfl rfl (gj_nil ?_))
  refine ej_th (cj_block ?_)
  refine cj_lpic (X := Nat × Bool) [(0, _), (1, _), (4, _)] (fun ⟨k, ok⟩ => k ≤ a.length ∧ (ok = true → a.length = b.length) ∧ (ok && decide (a.drop k = b.drop k)) = decide (a = b)) (fun ⟨k, ok⟩ => [(5, .bool ok), (6, .int .i64 (k : Nat))]) (fun ⟨k, ok⟩ => a.length - k) (0, (a.length : Int) == (b.length : Int)) (⟨Nat.zero_le _, fun h => len_of h, same_start a b⟩) ⟨rfl, rfl, rfl, rfl, rfl, trivial⟩ ?_
  rintro ⟨k, ok⟩ ⟨hk, hle, hsk⟩
  dsimp only [List.cons_append, List.nil_append]
  refine cj_seq (cj_seq ?_)
  refine cj_regionG (gj_step (y_move rfl) rfl rfl rfl (gj_step (y_move rfl) rfl rfl rfl (gj_g 4 13 17 rfl rfl rfl rfl (fun hg13 => gj_yes rfl rfl rfl (y_move rfl) rfl rfl (gj_yes rfl rfl rfl (y_move rfl) rfl rfl (gj_yes rfl rfl rfl (y_lenA Try.underlying43 rfl) rfl rfl (gj_yes rfl rfl rfl (y_lss rfl rfl) rfl rfl (gj_nil rfl))))) (gj_step (y_and rfl rfl rfl) rfl rfl rfl (gj_nil ?_)))))
  refine ej_th ?_
  refine cj_cond rfl (fun h18 => ?_) (fun h18 => ?_)
  · have h18b := h18
    try simp only [sxb] at h18
    rw [Bool.and_eq_true, decide_eq_true_eq] at h18b
    have hok := h18b.1
    have hl2 := hle hok
    have hk2 := h18b.2
    obtain ⟨x, hx⟩ : ∃ x, a[k]? = some x := ⟨_, List.getElem?_eq_getElem (by omega)⟩
    obtain ⟨y, hy⟩ : ∃ y, b[k]? = some y := ⟨_, List.getElem?_eq_getElem (by omega)⟩
    rw [eq_drop a b k x y hx hy, hok, Bool.true_and] at hsk
    refine cj_skip (ej_th (cj_seq (cj_block ?_)))
    refine cj_draw (by kernel_rfl) (by kernel_rfl) (gj_step (y_move rfl) rfl rfl rfl (gj_step (y_move rfl) rfl rfl rfl (gj_step (y_ixR (reads_sl) Try.underlying43 Try.sizeOf3 rfl rfl (⟨by omega, by omega⟩)) rfl rfl rfl (gj_step (y_ld0 (reads_sl) Try.isAgg3 rfl (hx) rfl) rfl rfl rfl (gj_step (y_move rfl) rfl rfl rfl (gj_step (y_move rfl) rfl rfl rfl (gj_step (y_ixR (reads_sl) Try.underlying43 Try.sizeOf3 rfl rfl (⟨by omega, by omega⟩)) rfl rfl rfl (gj_step (y_ld0 (reads_sl) Try.isAgg3 rfl (hy) rfl) rfl rfl rfl (gj_step (y_eql rfl rfl) rfl rfl rfl (gj_step (y_assign rfl) rfl rfl rfl (gj_nil ?_)))))))))))
    refine ej_blk (ej_th ?_)
    refine cj_regionG (gj_step (y_move rfl) rfl rfl rfl (gj_step (y_add rfl rfl (by omega)) rfl rfl rfl (gj_step (y_assign rfl) rfl rfl rfl (gj_nil ?_))))
    exact ej_nx (k + 1, x == y) (by simp only; omega) ⟨by first | omega | (simp only; omega), fun _ => hle hok, by rw [← hsk, beq_dec]⟩ ⟨rfl, rfl, rfl, rfl, rfl, trivial⟩
  · have h18b := h18
    try simp only [sxb] at h18
    rw [Bool.and_eq_false_iff, decide_eq_false_iff_not] at h18b
    refine cj_exit (ej_then_exit (ej_then_exit (ej_blk_hit (ej_th (cj_seq ?_)))))
    refine cj_regionG (gj_step (y_move rfl) rfl rfl rfl (gj_step (y_assign rfl) rfl rfl rfl (gj_nil ?_)))
    refine ej_th (cj_ret ?_)
    refine ej_ret1 rfl Try.results28 rfl (fun w' hp => ⟨?_, hp.below⟩)
    rw [← hsk]
    cases hok : ok with
    | false => rfl
    | true =>
      have hl2 := hle hok
      have hk2 : a.length ≤ k := by rcases h18b with h | h; rw [hok] at h; cases h; omega
      rw [List.drop_of_length_le hk2, List.drop_of_length_le (show b.length ≤ k by omega)]; rfl

theorem k_Ring (n m : Int) (w : World) (hm : m ≤ 4611686018427387904) : Calls Try.prog 31 #[.int .i64 n, .int .i64 m] w (fun e w' => e = .returned (.int .i64 (ringI n m)) ∧ Grow w w') := by
  refine enter_pure (args := [.int .i64 n, .int .i64 m]) [] Try.func31 rfl (by rw [Try.ntmps31]; simp) (by simp) ?_
  refine cj_seq ?_
  refine cj_regionG (gj_step (y_assign rfl) rfl rfl rfl (gj_nil ?_))
  refine ej_th (cj_seq (cj_seq ?_))
  refine cj_regionG (gj_step (y_move rfl) rfl rfl rfl (gj_step (y_leq rfl rfl) rfl rfl rfl (gj_nil ?_)))
  refine ej_th ?_
  refine cj_cond rfl (fun h6 => ?_) (fun h6 => ?_)
  · have h6b := h6
    try simp only [sxb] at h6
    refine cj_seq ?_
    refine cj_regionG (gj_step (y_assign rfl) rfl rfl rfl (gj_nil ?_))
    refine ej_th (cj_ret (ej_then_ret ?_))
    refine ej_ret1 rfl Try.results31 rfl (fun w' hp => ⟨?_, hp.below⟩)
    rw [ringI, if_pos h6]
  · have h6b := h6
    try simp only [sxb] at h6
    refine cj_skip (ej_th (cj_seq ?_))
    refine cj_regionG (gj_step (y_move rfl) rfl rfl rfl (gj_step (y_move rfl) rfl rfl rfl (gj_step (y_remw rfl rfl (by omega)) rfl rfl rfl (gj_step (y_move rfl) rfl rfl rfl (gj_step (y_add rfl rfl (by have h1 := Int.tmod_lt_of_pos n (show 0 < m by omega); have h2 := Int.lt_tmod_of_pos n (show 0 < m by omega); omega)) rfl rfl rfl (gj_step (y_move rfl) rfl rfl rfl (gj_step (y_remw rfl rfl (by omega)) rfl rfl rfl (gj_step (y_assign rfl) rfl rfl rfl (gj_nil ?_)))))))))
    refine ej_th (cj_ret ?_)
    refine ej_ret1 rfl Try.results31 rfl (fun w' hp => ⟨?_, hp.below⟩)
    rw [ringI, if_neg (by omega)]

theorem k_Pick (l : List Int) (A : Option Addr) (c : Nat) (i : Int) (w : World) (hl : Rd w 1 enInt A l) (h8 : l.length * 8 ≤ 140737488351232) : Calls Try.prog 76 #[.slice A l.length c, .int .i64 i] w (fun e w' => e = .returned (.int .i64 (pickI l i)) ∧ Grow w w') := by
  refine enter_pure (args := [.slice A l.length c, .int .i64 i]) [sl (fun b => b < w.heap.size) 1 enInt A l] Try.func76 rfl (by rw [Try.ntmps76]; simp) (fun g hg => by simp at hg; subst hg; exact ⟨hl, fun _ h => h⟩) ?_
  refine cj_seq ?_
  refine cj_regionG (gj_step (y_assign rfl) rfl rfl rfl (gj_nil ?_))
  refine ej_th (cj_seq (cj_seq ?_))
  refine cj_regionG (gj_step (y_move rfl) rfl rfl rfl (gj_step (y_lenA Try.underlying43 rfl) rfl rfl rfl (gj_step (y_eql rfl rfl) rfl rfl rfl (gj_nil ?_))))
  refine ej_th ?_
  refine cj_cond rfl (fun h7 => ?_) (fun h7 => ?_)
  · have h7b := h7
    try simp only [sxb] at h7
    refine cj_seq ?_
    refine cj_regionG (gj_step (y_assign rfl) rfl rfl rfl (gj_nil ?_))
    refine ej_th (cj_ret (ej_then_ret ?_))
    refine ej_ret1 rfl Try.results76 rfl (fun w' hp => ⟨?_, hp.below⟩)
    rw [pickI, if_pos (show l.length = 0 by omega)]
  · have h7b := h7
    try simp only [sxb] at h7
    have hne : ¬ l.length = 0 := by omega
    have hrb := ringI_bd i l.length (by omega)
    refine cj_skip (ej_th (cj_seq ?_))
    refine cj_regionG ?_
    refine gj_step (y_move rfl) rfl rfl rfl (gj_step (y_move rfl) rfl rfl rfl (gj_step (y_move rfl) rfl rfl rfl (gj_step (y_lenA Try.underlying43 rfl) rfl rfl rfl (?_))))
    refine gj_step (y_call Try.call31 rfl (fun w hp => k_Ring _ _ w (by omega))) rfl rfl rfl ?_
    refine gj_step (y_ixR (reads_sl) Try.underlying43 Try.sizeOf3 rfl rfl (⟨by omega, by omega⟩)) rfl rfl rfl (gj_step (y_ld0 (reads_sl) Try.isAgg3 rfl (geq default (by omega)) rfl) rfl rfl rfl (gj_step (y_assign rfl) rfl rfl rfl (?_)))
    refine gj_nil ?_
    refine ej_th (cj_ret ?_)
    refine ej_ret1 rfl Try.results76 rfl (fun w' hp => ⟨?_, hp.below⟩)
    rw [pickI, if_neg hne]

theorem k_lotX  (w : World)  : Calls Try.prog 45 #[] w (fun e w' => ∃ x : Nat, e = .returned (.agg #[.int .i64 10, .int .i64 30, .slice (some ⟨x, 0, none⟩) 2 2]) ∧ Grow w w' ∧ (∀ g ∈ ([] : List Fact), g.P w' ∧ ∀ b, g.fp b → w.heap.size ≤ b ∧ b < w'.heap.size) ∧ ([] : List Fact).Pairwise (fun f g => ∀ b, f.fp b → ¬ g.fp b) ∧ (∀ g ∈ [litS x 2 encRi ladX], g.P w' ∧ ∀ b, g.fp b → w.heap.size ≤ b ∧ b < w'.heap.size ∧ ∀ o ∈ ([] : List Fact), ¬ o.fp b)) := by
  refine enter_pure (args := []) [] Try.func45 rfl (by rw [Try.ntmps45]; simp) (by simp) ?_
  refine cj_seq (cj_region ?_)
  refine oj_alloc Try.zeroValue24 rfl rfl (fun b0 => ?_)
  refine oj_nil ?_
  refine ej_th (cj_seq (cj_region ?_))
  refine oj_step (y_build (cs := [.int .i64 0, .int .i64 5]) st81 rfl (by kernel_rfl)) rfl rfl rfl ?_
  refine oj_step (y_build (cs := [.int .i64 50, .int .i64 20]) st81 rfl (by kernel_rfl)) rfl rfl rfl ?_
  refine oj_buildSlice (cs := [.int .i64 0, .int .i64 5, .int .i64 50, .int .i64 20]) [.int .i64 0, .int .i64 0, .int .i64 0, .int .i64 0] Try.underlying22 Try.sizeOf81 Try.zeroValue81 rfl rfl (by kernel_rfl) (by kernel_rfl) rfl (fun b3 => ?_)
  refine oj_step (y_build (cs := [.int .i64 10, .int .i64 30, .slice (some ⟨b3, 0, none⟩) 2 2]) st24 rfl (by kernel_rfl)) rfl rfl rfl ?_
  refine oj_store rfl rfl rfl rfl Try.sizeOf24 rfl ?_
  refine oj_nil ?_
  refine ej_th (cj_ret ?_)
  exact ej_retC1 rfl Try.results45 rfl (y_loadN Try.isAgg24 Try.sizeOf24 rfl) (fun w' hp => ⟨b3, rfl, hp.below, by simp, List.Pairwise.nil, fun g hg => by
    rw [List.mem_singleton.1 hg]
    exact hp.lit ladX (fun _ => rfl) rfl (by unfold maxLen; decide)⟩)

theorem k_bidsX  (w : World)  : Calls Try.prog 52 #[] w (fun e w' => ∃ x : Nat, e = .returned (.slice (some ⟨x, 0, none⟩) 3 3) ∧ Grow w w' ∧ (∀ g ∈ ([] : List Fact), g.P w' ∧ ∀ b, g.fp b → w.heap.size ≤ b ∧ b < w'.heap.size) ∧ ([] : List Fact).Pairwise (fun f g => ∀ b, f.fp b → ¬ g.fp b) ∧ (∀ g ∈ [litS x 3 encBi bidsX], g.P w' ∧ ∀ b, g.fp b → w.heap.size ≤ b ∧ b < w'.heap.size ∧ ∀ o ∈ ([] : List Fact), ¬ o.fp b)) := by
  refine enter_pure (args := []) [] Try.func52 rfl (by rw [Try.ntmps52]; simp) (by simp) ?_
  refine cj_seq ?_
  refine cj_regionG (gj_step (y_assign rfl) rfl rfl rfl (gj_nil ?_))
  refine ej_th (cj_seq (cj_region ?_))
  refine oj_step (y_build (cs := [.int .i64 3, .int .i64 2, .int .i64 47]) st53 rfl (by kernel_rfl)) rfl rfl rfl ?_
  refine oj_step (y_build (cs := [.int .i64 1, .int .i64 0, .int .i64 60]) st53 rfl (by kernel_rfl)) rfl rfl rfl ?_
  refine oj_step (y_build (cs := [.int .i64 2, .int .i64 3, .int .i64 45]) st53 rfl (by kernel_rfl)) rfl rfl rfl ?_
  refine oj_buildSlice (cs := [.int .i64 3, .int .i64 2, .int .i64 47, .int .i64 1, .int .i64 0, .int .i64 60, .int .i64 2, .int .i64 3, .int .i64 45]) [.int .i64 0, .int .i64 0, .int .i64 0, .int .i64 0, .int .i64 0, .int .i64 0, .int .i64 0, .int .i64 0, .int .i64 0] Try.underlying32 Try.sizeOf53 Try.zeroValue53 rfl rfl (by kernel_rfl) (by kernel_rfl) rfl (fun b4 => ?_)
  refine oj_step (y_assign rfl) rfl rfl rfl ?_
  refine oj_nil ?_
  refine ej_th (cj_ret ?_)
  exact ej_ret1 rfl Try.results52 rfl (fun w' hp => ⟨b4, rfl, hp.below, by simp, List.Pairwise.nil, fun g hg => by
    rw [List.mem_singleton.1 hg]
    exact hp.lit bidsX (fun _ => rfl) rfl (by unfold maxLen; decide)⟩)

theorem k_closingX  (w : World)  : Calls Try.prog 46 #[] w (fun e w' => ∃ z : Nat × Nat × Nat × Nat × Nat, e = .returned (.agg #[.slice (some ⟨z.1, 0, none⟩) 2 2, .slice (some ⟨z.2.1, 0, none⟩) 3 3]) ∧ Grow w w' ∧ (∀ g ∈ ([] : List Fact), g.P w' ∧ ∀ b, g.fp b → w.heap.size ≤ b ∧ b < w'.heap.size) ∧ ([] : List Fact).Pairwise (fun f g => ∀ b, f.fp b → ¬ g.fp b) ∧ (∀ g ∈ [litS z.1 1 enInt resX, litS z.2.1 1 encLs (rowsX z.2.2.1 z.2.2.2.1 z.2.2.2.2), litS z.2.2.1 1 enInt [10, 6], litS z.2.2.2.1 1 enInt [8, 7], litS z.2.2.2.2 1 enInt [5, 0]], g.P w' ∧ ∀ b, g.fp b → w.heap.size ≤ b ∧ b < w'.heap.size ∧ ∀ o ∈ ([] : List Fact), ¬ o.fp b)) := by
  refine enter_pure (args := []) [] Try.func46 rfl (by rw [Try.ntmps46]; simp) (by simp) ?_
  refine cj_seq (cj_region ?_)
  refine oj_alloc Try.zeroValue60 rfl rfl (fun b0 => ?_)
  refine oj_nil ?_
  refine ej_th (cj_seq (cj_region ?_))
  refine oj_buildSlice (cs := [.int .i64 2, .int .i64 0]) [.int .i64 0, .int .i64 0] Try.underlying43 Try.sizeOf3 Try.zeroValue3 rfl rfl (by kernel_rfl) (by kernel_rfl) rfl (fun b1 => ?_)
  refine oj_buildSlice (cs := [.int .i64 10, .int .i64 6]) [.int .i64 0, .int .i64 0] Try.underlying43 Try.sizeOf3 Try.zeroValue3 rfl rfl (by kernel_rfl) (by kernel_rfl) rfl (fun b2 => ?_)
  refine oj_buildSlice (cs := [.int .i64 8, .int .i64 7]) [.int .i64 0, .int .i64 0] Try.underlying43 Try.sizeOf3 Try.zeroValue3 rfl rfl (by kernel_rfl) (by kernel_rfl) rfl (fun b3 => ?_)
  refine oj_buildSlice (cs := [.int .i64 5, .int .i64 0]) [.int .i64 0, .int .i64 0] Try.underlying43 Try.sizeOf3 Try.zeroValue3 rfl rfl (by kernel_rfl) (by kernel_rfl) rfl (fun b4 => ?_)
  refine oj_buildSlice (cs := [.slice (some ⟨b2, 0, none⟩) 2 2, .slice (some ⟨b3, 0, none⟩) 2 2, .slice (some ⟨b4, 0, none⟩) 2 2]) [.slice none 0 0, .slice none 0 0, .slice none 0 0] Try.underlying58 Try.sizeOf43 Try.zeroValue43 rfl rfl (by kernel_rfl) (by kernel_rfl) rfl (fun b5 => ?_)
  refine oj_step (y_build (cs := [.slice (some ⟨b1, 0, none⟩) 2 2, .slice (some ⟨b5, 0, none⟩) 3 3]) st60 rfl (by kernel_rfl)) rfl rfl rfl ?_
  refine oj_store rfl rfl rfl rfl Try.sizeOf60 rfl ?_
  refine oj_nil ?_
  refine ej_th (cj_ret ?_)
  exact ej_retC1 rfl Try.results46 rfl (y_loadN Try.isAgg60 Try.sizeOf60 rfl) (fun w' hp => ⟨(b1, b5, b2, b3, b4), rfl, hp.below, by simp, List.Pairwise.nil, fun g hg => by
    simp only [List.mem_cons, List.mem_nil_iff, or_false] at hg
    rcases hg with rfl | rfl | rfl | rfl | rfl
    · exact hp.lit resX (fun _ => rfl) rfl (by unfold maxLen; decide)
    · exact hp.lit (rowsX b2 b3 b4) (fun _ => rfl) rfl (by unfold maxLen; simp)
    · exact hp.lit [10, 6] (fun _ => rfl) rfl (by unfold maxLen; decide)
    · exact hp.lit [8, 7] (fun _ => rfl) rfl (by unfold maxLen; decide)
    · exact hp.lit [5, 0] (fun _ => rfl) rfl (by unfold maxLen; decide)⟩)

theorem ew_Rung (x : Nat) (w : World) (hl : Rd w 2 encRi (some ⟨x, 0, none⟩) ladX) : Calls Try.prog 15 #[.agg #[.int .i64 10, .int .i64 30, .slice (some ⟨x, 0, none⟩) 2 2], .int .i64 47] w (fun e w' => e = .returned (.tuple #[.int .i64 45, .int .i64 0]) ∧ Grow w w') := by
  have h := k_Rung 10 30 ladX (some ⟨x, 0, none⟩) 2 47 w hl
  rw [ex_rung, ex_rungE] at h
  exact h
theorem ew_Next (x : Nat) (w : World) (hl : Rd w 2 encRi (some ⟨x, 0, none⟩) ladX) : Calls Try.prog 19 #[.agg #[.int .i64 10, .int .i64 30, .slice (some ⟨x, 0, none⟩) 2 2], .int .i64 50] w (fun e w' => e = .returned (.tuple #[.int .i64 70, .int .i64 0]) ∧ Grow w w') := by
  have h := k_Next 10 30 ladX (some ⟨x, 0, none⟩) 2 50 w hl
  rw [ex_next, ex_nextE] at h
  exact h
theorem ew_Sell (x : Nat) (w : World) (hl : Rd w 2 encRi (some ⟨x, 0, none⟩) ladX) (y : Nat) (hb : Rd w 3 encBi (some ⟨y, 0, none⟩) bidsX) : Calls Try.prog 22 #[.agg #[.int .i64 10, .int .i64 30, .slice (some ⟨x, 0, none⟩) 2 2], .slice (some ⟨y, 0, none⟩) 3 3] w (fun e w' => e = .returned (.tuple #[.agg #[.int .i64 1, .int .i64 50], .int .i64 0]) ∧ Grow w w') := by
  have h := k_Sell 10 30 ladX (some ⟨x, 0, none⟩) 2 bidsX (some ⟨y, 0, none⟩) 3 w hl hb
  rw [ex_sell, ex_sellE] at h
  exact h
theorem ew_Sell2 (x : Nat) (w : World) (hl : Rd w 2 encRi (some ⟨x, 0, none⟩) ladX) (y : Nat) (hb : Rd w 3 encBi (some ⟨y, 0, none⟩) bidsY) : Calls Try.prog 22 #[.agg #[.int .i64 10, .int .i64 30, .slice (some ⟨x, 0, none⟩) 2 2], .slice (some ⟨y, 0, none⟩) 2 2] w (fun e w' => e = .returned (.tuple #[.agg #[.int .i64 3, .int .i64 45], .int .i64 0]) ∧ Grow w w') := by
  have h := k_Sell 10 30 ladX (some ⟨x, 0, none⟩) 2 bidsY (some ⟨y, 0, none⟩) 2 w hl hb
  rw [ex_sell2, ex_sellE2] at h
  exact h
theorem ew_Room (x : Nat) (w : World) (hl : Rd w 2 encRi (some ⟨x, 0, none⟩) ladX) (y : Nat) (hb : Rd w 3 encBi (some ⟨y, 0, none⟩) bidsX) : Calls Try.prog 24 #[.agg #[.int .i64 10, .int .i64 30, .slice (some ⟨x, 0, none⟩) 2 2], .slice (some ⟨y, 0, none⟩) 3 3] w (fun e w' => ∃ A c, e = .returned (.tuple #[.slice A (([⟨3, 45, 2, 0, 10⟩, ⟨1, 50, 0, 45, 50⟩, ⟨1, 50, 0, 45, 50⟩] : List LeadV)).length c, .int .i64 0]) ∧ Grow w w' ∧ Res w w' 5 encLe A (([⟨3, 45, 2, 0, 10⟩, ⟨1, 50, 0, 45, 50⟩, ⟨1, 50, 0, 45, 50⟩] : List LeadV))) := by
  have h := k_Room 10 30 ladX (some ⟨x, 0, none⟩) 2 bidsX (some ⟨y, 0, none⟩) 3 w hl hb
  rw [ex_room, ex_sellE] at h
  exact h
theorem ew_Prices (r v a b c : Nat) (w : World) (hr : Rd w 1 enInt (some ⟨r, 0, none⟩) resX) (hv : Rd w 1 encLs (some ⟨v, 0, none⟩) (rowsX a b c)) (hg : ∀ q ∈ rowsX a b c, GoodL w q) : Calls Try.prog 34 #[.agg #[.slice (some ⟨r, 0, none⟩) 2 2, .slice (some ⟨v, 0, none⟩) 3 3]] w (fun e w' => ∃ A c, e = .returned (.tuple #[.slice A (([5, 1] : List Int)).length c, .int .i64 0]) ∧ Grow w w' ∧ Res w w' 1 enInt A (([5, 1] : List Int))) := by
  have h := k_Prices resX (some ⟨r, 0, none⟩) 2 (rowsX a b c) (some ⟨v, 0, none⟩) 3 w hr hv hg
  rw [ex_clo, ex_cloE] at h
  exact h
theorem ew_Close (r v a b c : Nat) (w : World) (hr : Rd w 1 enInt (some ⟨r, 0, none⟩) resX) (hv : Rd w 1 encLs (some ⟨v, 0, none⟩) (rowsX a b c)) (hg : ∀ q ∈ rowsX a b c, GoodL w q) : Calls Try.prog 32 #[.agg #[.slice (some ⟨r, 0, none⟩) 2 2, .slice (some ⟨v, 0, none⟩) 3 3]] w (fun e w' => ∃ z : Option Addr × Nat × Option Addr × Nat × Nat × Nat, e = .returned (.tuple #[.agg #[.slice z.1 ([0, 1, -1] : List Int).length z.2.1, .slice z.2.2.1 ([5, 1] : List Int).length z.2.2.2.1], .int .i64 0]) ∧ Grow w w' ∧ (∀ g ∈ ([] : List Fact), g.P w' ∧ ∀ b, g.fp b → w.heap.size ≤ b ∧ b < w'.heap.size) ∧ ([] : List Fact).Pairwise (fun f g => ∀ b, f.fp b → ¬ g.fp b) ∧ (∀ g ∈ [sl (fun i => z.2.2.2.2.1 ≤ i ∧ i < z.2.2.2.2.2) 1 enInt z.1 ([0, 1, -1] : List Int), sl (fun i => z.2.2.2.2.1 ≤ i ∧ i < z.2.2.2.2.2) 1 enInt z.2.2.1 ([5, 1] : List Int)], g.P w' ∧ ∀ b, g.fp b → w.heap.size ≤ b ∧ b < w'.heap.size ∧ ∀ o ∈ ([] : List Fact), ¬ o.fp b)) := by
  have h := k_Close resX (some ⟨r, 0, none⟩) 2 (rowsX a b c) (some ⟨v, 0, none⟩) 3 w hr hv hg
  rw [ex_clo, ex_cloE] at h
  exact h
theorem ew_Rings (x : Nat) (w : World) (hl : Rd w 1 enInt (some ⟨x, 0, none⟩) pastX) : Calls Try.prog 26 #[.slice (some ⟨x, 0, none⟩) 6 6, .int .i64 2] w (fun e w' => ∃ A c, e = .returned (.tuple #[.slice A (([14, 9] : List Int)).length c, .int .i64 0]) ∧ Grow w w' ∧ Res w w' 1 enInt A (([14, 9] : List Int))) := by
  have h := k_Rings pastX (some ⟨x, 0, none⟩) 6 2 w hl
  rw [ex_ring, ex_ringE] at h
  exact h

set_option maxHeartbeats 8000000 in
theorem k_works  (w : World)  : Calls Try.prog 21 #[] w (fun e w' => e = .returned (.bool true) ∧ Grow w w') := by
  refine enter_pure (args := []) [] Try.func21 rfl (by rw [Try.ntmps21]; simp) (by simp) ?_
  refine cj_seq ?_
  refine cj_regionG (gj_step (y_assign rfl) rfl rfl rfl (gj_nil ?_))
  refine ej_th (cj_seq (cj_region ?_))
  refine oj_call (X := Nat) (fun z => .agg #[.int .i64 10, .int .i64 30, .slice (some ⟨z, 0, none⟩) 2 2]) (fun _ => []) (fun z => [litS z 2 encRi ladX]) Try.call45 rfl (fun w hp => k_lotX w) rfl (fun l14 => ?_)
  dsimp only [List.nil_append, List.cons_append]
  refine oj_step (y_call Try.call15 rfl (fun w hp => ew_Rung l14 w hp.rd)) rfl rfl rfl ?_
  refine oj_step (y_move rfl) rfl rfl rfl ?_
  refine oj_step (y_extract rfl rfl) rfl rfl rfl ?_
  refine oj_step (y_extract rfl rfl) rfl rfl rfl ?_
  refine oj_step (y_assign rfl) rfl rfl rfl ?_
  refine oj_step (y_assign rfl) rfl rfl rfl ?_
  refine oj_nil ?_
  refine ej_th (cj_seq (cj_region ?_))
  refine oj_call (X := Nat) (fun z => .agg #[.int .i64 10, .int .i64 30, .slice (some ⟨z, 0, none⟩) 2 2]) (fun _ => []) (fun z => [litS z 2 encRi ladX]) Try.call45 rfl (fun w hp => k_lotX w) rfl (fun l19 => ?_)
  dsimp only [List.nil_append, List.cons_append]
  refine oj_step (y_call Try.call19 rfl (fun w hp => ew_Next l19 w hp.rd)) rfl rfl rfl ?_
  refine oj_step (y_move rfl) rfl rfl rfl ?_
  refine oj_step (y_extract rfl rfl) rfl rfl rfl ?_
  refine oj_step (y_extract rfl rfl) rfl rfl rfl ?_
  refine oj_step (y_assign rfl) rfl rfl rfl ?_
  refine oj_step (y_assign rfl) rfl rfl rfl ?_
  refine oj_nil ?_
  refine ej_th (cj_seq (cj_region ?_))
  refine oj_call (X := Nat) (fun z => .agg #[.int .i64 10, .int .i64 30, .slice (some ⟨z, 0, none⟩) 2 2]) (fun _ => []) (fun z => [litS z 2 encRi ladX]) Try.call45 rfl (fun w hp => k_lotX w) rfl (fun l24 => ?_)
  dsimp only [List.nil_append, List.cons_append]
  refine oj_call (X := Nat) (fun z => .slice (some ⟨z, 0, none⟩) 3 3) (fun _ => []) (fun z => [litS z 3 encBi bidsX]) Try.call52 rfl (fun w hp => k_bidsX w) rfl (fun l25 => ?_)
  dsimp only [List.nil_append, List.cons_append]
  refine oj_step (y_call Try.call22 rfl (fun w hp => ew_Sell l24 w hp.rd l25 hp.rd)) rfl rfl rfl ?_
  refine oj_step (y_move rfl) rfl rfl rfl ?_
  refine oj_step (y_extract rfl rfl) rfl rfl rfl ?_
  refine oj_step (y_extract rfl rfl) rfl rfl rfl ?_
  refine oj_alloc Try.zeroValue34 rfl rfl (fun b5 => ?_)
  refine oj_store rfl rfl rfl rfl Try.sizeOf34 rfl ?_
  refine oj_step (y_assign rfl) rfl rfl rfl ?_
  refine oj_nil ?_
  refine ej_th ?_
  refine cj_cuti (X := Nat) [(0, _), (1, _), (2, _), (3, _), (4, _), (5, _), (6, _)] ⟨rfl, rfl, rfl, rfl, rfl, rfl, rfl, trivial⟩ (fun b7 => True) (fun b7 => [(7, .pointer (some ⟨b7, 0, none⟩)), (8, .int .i64 0)]) (fun b7 => [ownB b7 (cellsB 34 [.int .i64 3, .int .i64 45]), ownB b5 (cellsB 34 [.int .i64 1, .int .i64 50])]) (fun b7 => []) ?_ ?_
  · refine cj_plan 15 (by kernel_rfl) (by kernel_rfl) ?_
    refine pl_w2 0 12 (by kernel_rfl) rfl rfl (pl_fire rfl rfl rfl (by kernel_rfl) ?_) (pl_fire rfl rfl rfl (by kernel_rfl) ?_)
    · refine oj_call (X := Nat) (fun z => .agg #[.int .i64 10, .int .i64 30, .slice (some ⟨z, 0, none⟩) 2 2]) (fun _ => []) (fun z => [litS z 2 encRi ladX]) Try.call45 rfl (fun w hp => k_lotX w) rfl (fun l30 => ?_)
      dsimp only [List.nil_append, List.cons_append]
      refine oj_nil ?_
      refine ej_pl (lt_nil) ?_
      refine pl_w2 1 12 (by kernel_rfl) rfl rfl (pl_fire rfl rfl rfl (by kernel_rfl) ?_) (pl_fire rfl rfl rfl (by kernel_rfl) ?_)
      · refine oj_call (X := Nat) (fun z => .slice (some ⟨z, 0, none⟩) 3 3) (fun _ => []) (fun z => [litS z 3 encBi bidsX]) Try.call52 rfl (fun w hp => k_bidsX w) rfl (fun l31 => ?_)
        dsimp only [List.nil_append, List.cons_append]
        refine oj_nil ?_
        refine ej_pl (lt_nil) ?_
        refine pl_y 2 rfl (y_ixR (reads_sl (xs := bidsX) (enc := encBi) (sz := 3)) Try.underlying32 Try.sizeOf53 rfl rfl ⟨by decide, by decide⟩) rfl rfl rfl rfl (by kernel_rfl) ?_
        refine pl_y 3 rfl (y_ldW (reads_sl) Try.isAgg53 Try.sizeOf53 rfl (rfl) (fun _ => rfl)) rfl rfl rfl rfl (by kernel_rfl) ?_
        refine pl_w2 4 12 (by kernel_rfl) rfl rfl (pl_fire rfl rfl rfl (by kernel_rfl) ?_) (pl_fire rfl rfl rfl (by kernel_rfl) ?_)
        · refine oj_call (X := Nat) (fun z => .slice (some ⟨z, 0, none⟩) 3 3) (fun _ => []) (fun z => [litS z 3 encBi bidsX]) Try.call52 rfl (fun w hp => k_bidsX w) rfl (fun l34 => ?_)
          dsimp only [List.nil_append, List.cons_append]
          refine oj_nil ?_
          refine ej_pl (lt_y (y_ldW (reads_sl) Try.isAgg53 Try.sizeOf53 rfl (rfl) (fun _ => rfl)) rfl (lt_y (y_ixR (reads_sl (xs := bidsX) (enc := encBi) (sz := 3)) Try.underlying32 Try.sizeOf53 rfl rfl ⟨by decide, by decide⟩) rfl (lt_nil))) ?_
          refine pl_y 5 rfl (y_ixR (reads_sl (xs := bidsX) (enc := encBi) (sz := 3)) Try.underlying32 Try.sizeOf53 rfl rfl ⟨by decide, by decide⟩) rfl rfl rfl rfl (by kernel_rfl) ?_
          refine pl_y 6 rfl (y_ldW (reads_sl) Try.isAgg53 Try.sizeOf53 rfl (rfl) (fun _ => rfl)) rfl rfl rfl rfl (by kernel_rfl) ?_
          refine pl_w2 7 12 (by kernel_rfl) rfl rfl (pl_fire rfl rfl rfl (by kernel_rfl) ?_) (pl_fire rfl rfl rfl (by kernel_rfl) ?_)
          · refine oj_buildSlice (cs := [.int .i64 3, .int .i64 2, .int .i64 47, .int .i64 2, .int .i64 3, .int .i64 45]) [.int .i64 0, .int .i64 0, .int .i64 0, .int .i64 0, .int .i64 0, .int .i64 0] Try.underlying32 Try.sizeOf53 Try.zeroValue53 rfl rfl (by kernel_rfl) (by kernel_rfl) rfl (fun b37 => ?_)
            refine oj_nil ?_
            refine ej_pl (lt_w (by kernel_rfl) (lt_y (y_ixR (reads_sl (xs := bidsX) (enc := encBi) (sz := 3)) Try.underlying32 Try.sizeOf53 rfl rfl ⟨by decide, by decide⟩) rfl (lt_w (by kernel_rfl) (lt_y (y_ixR (reads_sl (xs := bidsX) (enc := encBi) (sz := 3)) Try.underlying32 Try.sizeOf53 rfl rfl ⟨by decide, by decide⟩) rfl (lt_nil))))) ?_
            refine pl_y 8 rfl (y_call Try.call22 rfl (fun w hp => ew_Sell2 l30 w hp.rd b37 (hp.rdLit (b := b37) (sz := 3) (enc := encBi) bidsY (fun _ => rfl) rfl (by unfold maxLen; decide)))) rfl rfl rfl rfl (by kernel_rfl) ?_
            refine pl_y 9 rfl (y_move rfl) rfl rfl rfl rfl (by kernel_rfl) ?_
            refine pl_y 10 rfl (y_extract rfl rfl) rfl rfl rfl rfl (by kernel_rfl) ?_
            refine pl_y 11 rfl (y_extract rfl rfl) rfl rfl rfl rfl (by kernel_rfl) ?_
            refine pl_w1 12 (by kernel_rfl) rfl rfl (pl_fire rfl rfl rfl (by kernel_rfl) ?_)
            refine oj_alloc Try.zeroValue34 rfl rfl (fun b7 => ?_)
            refine oj_nil ?_
            refine ej_pl (lt_y (y_extract rfl rfl) rfl (lt_y (y_extract rfl rfl) rfl (lt_y (y_move rfl) rfl (lt_y (y_call Try.call22 rfl (fun w hp => ew_Sell2 l30 w hp.rd b37 (hp.rdLit (b := b37) (sz := 3) (enc := encBi) bidsY (fun _ => rfl) rfl (by unfold maxLen; decide)))) rfl (lt_y (y_ldW (reads_sl) Try.isAgg53 Try.sizeOf53 rfl (rfl) (fun _ => rfl)) rfl (lt_y (y_ixR (reads_sl (xs := bidsX) (enc := encBi) (sz := 3)) Try.underlying32 Try.sizeOf53 rfl rfl ⟨by decide, by decide⟩) rfl (lt_y (y_ldW (reads_sl) Try.isAgg53 Try.sizeOf53 rfl (rfl) (fun _ => rfl)) rfl (lt_y (y_ixR (reads_sl (xs := bidsX) (enc := encBi) (sz := 3)) Try.underlying32 Try.sizeOf53 rfl rfl ⟨by decide, by decide⟩) rfl (lt_nil))))))))) ?_
            refine pl_w1 13 (by kernel_rfl) rfl rfl (pl_fire rfl rfl rfl (by kernel_rfl) ?_)
            refine oj_store rfl rfl rfl rfl Try.sizeOf34 rfl ?_
            refine oj_nil ?_
            refine ej_pl (lt_y (y_extract rfl rfl) rfl (lt_w (by kernel_rfl) (lt_w (by kernel_rfl) (lt_w (by kernel_rfl) (lt_w (by kernel_rfl) (lt_w (by kernel_rfl) (lt_w (by kernel_rfl) (lt_w (by kernel_rfl) (lt_nil))))))))) ?_
            refine pl_y 14 rfl (y_assign rfl) rfl rfl rfl rfl (by kernel_rfl) ?_
            refine pl_end (by kernel_rfl) ?_
            refine ej_takes [ownB b7 (cellsB 34 [.int .i64 3, .int .i64 45]), ownB b5 (cellsB 34 [.int .i64 1, .int .i64 50])] ?_
            exact ej_ct b7 trivial ⟨rfl, rfl, rfl, rfl, rfl, rfl, rfl, rfl, rfl, trivial⟩
          · refine oj_alloc Try.zeroValue34 rfl rfl (fun b7 => ?_)
            refine oj_nil ?_
            refine ej_pl (lt_y (y_ldW (reads_sl) Try.isAgg53 Try.sizeOf53 rfl (rfl) (fun _ => rfl)) rfl (lt_y (y_ixR (reads_sl (xs := bidsX) (enc := encBi) (sz := 3)) Try.underlying32 Try.sizeOf53 rfl rfl ⟨by decide, by decide⟩) rfl (lt_y (y_ldW (reads_sl) Try.isAgg53 Try.sizeOf53 rfl (rfl) (fun _ => rfl)) rfl (lt_y (y_ixR (reads_sl (xs := bidsX) (enc := encBi) (sz := 3)) Try.underlying32 Try.sizeOf53 rfl rfl ⟨by decide, by decide⟩) rfl (lt_nil))))) ?_
            refine pl_w1 7 (by kernel_rfl) rfl rfl (pl_fire rfl rfl rfl (by kernel_rfl) ?_)
            refine oj_buildSlice (cs := [.int .i64 3, .int .i64 2, .int .i64 47, .int .i64 2, .int .i64 3, .int .i64 45]) [.int .i64 0, .int .i64 0, .int .i64 0, .int .i64 0, .int .i64 0, .int .i64 0] Try.underlying32 Try.sizeOf53 Try.zeroValue53 rfl rfl (by kernel_rfl) (by kernel_rfl) rfl (fun b37 => ?_)
            refine oj_nil ?_
            refine ej_pl (lt_w (by kernel_rfl) (lt_y (y_ixR (reads_sl (xs := bidsX) (enc := encBi) (sz := 3)) Try.underlying32 Try.sizeOf53 rfl rfl ⟨by decide, by decide⟩) rfl (lt_w (by kernel_rfl) (lt_y (y_ixR (reads_sl (xs := bidsX) (enc := encBi) (sz := 3)) Try.underlying32 Try.sizeOf53 rfl rfl ⟨by decide, by decide⟩) rfl (lt_nil))))) ?_
            refine pl_y 8 rfl (y_call Try.call22 rfl (fun w hp => ew_Sell2 l30 w hp.rd b37 (hp.rdLit (b := b37) (sz := 3) (enc := encBi) bidsY (fun _ => rfl) rfl (by unfold maxLen; decide)))) rfl rfl rfl rfl (by kernel_rfl) ?_
            refine pl_y 9 rfl (y_move rfl) rfl rfl rfl rfl (by kernel_rfl) ?_
            refine pl_y 10 rfl (y_extract rfl rfl) rfl rfl rfl rfl (by kernel_rfl) ?_
            refine pl_y 11 rfl (y_extract rfl rfl) rfl rfl rfl rfl (by kernel_rfl) ?_
            refine pl_w1 13 (by kernel_rfl) rfl rfl (pl_fire rfl rfl rfl (by kernel_rfl) ?_)
            refine oj_store rfl rfl rfl rfl Try.sizeOf34 rfl ?_
            refine oj_nil ?_
            refine ej_pl (lt_y (y_extract rfl rfl) rfl (lt_w (by kernel_rfl) (lt_w (by kernel_rfl) (lt_w (by kernel_rfl) (lt_w (by kernel_rfl) (lt_w (by kernel_rfl) (lt_w (by kernel_rfl) (lt_w (by kernel_rfl) (lt_nil))))))))) ?_
            refine pl_y 14 rfl (y_assign rfl) rfl rfl rfl rfl (by kernel_rfl) ?_
            refine pl_end (by kernel_rfl) ?_
            refine ej_takes [ownB b7 (cellsB 34 [.int .i64 3, .int .i64 45]), ownB b5 (cellsB 34 [.int .i64 1, .int .i64 50])] ?_
            exact ej_ct b7 trivial ⟨rfl, rfl, rfl, rfl, rfl, rfl, rfl, rfl, rfl, trivial⟩
        · refine oj_alloc Try.zeroValue34 rfl rfl (fun b7 => ?_)
          refine oj_nil ?_
          refine ej_pl (lt_y (y_ldW (reads_sl) Try.isAgg53 Try.sizeOf53 rfl (rfl) (fun _ => rfl)) rfl (lt_y (y_ixR (reads_sl (xs := bidsX) (enc := encBi) (sz := 3)) Try.underlying32 Try.sizeOf53 rfl rfl ⟨by decide, by decide⟩) rfl (lt_nil))) ?_
          refine pl_w1 4 (by kernel_rfl) rfl rfl (pl_fire rfl rfl rfl (by kernel_rfl) ?_)
          refine oj_call (X := Nat) (fun z => .slice (some ⟨z, 0, none⟩) 3 3) (fun _ => []) (fun z => [litS z 3 encBi bidsX]) Try.call52 rfl (fun w hp => k_bidsX w) rfl (fun l34 => ?_)
          dsimp only [List.nil_append, List.cons_append]
          refine oj_nil ?_
          refine ej_pl (lt_y (y_ldW (reads_sl) Try.isAgg53 Try.sizeOf53 rfl (rfl) (fun _ => rfl)) rfl (lt_y (y_ixR (reads_sl (xs := bidsX) (enc := encBi) (sz := 3)) Try.underlying32 Try.sizeOf53 rfl rfl ⟨by decide, by decide⟩) rfl (lt_nil))) ?_
          refine pl_y 5 rfl (y_ixR (reads_sl (xs := bidsX) (enc := encBi) (sz := 3)) Try.underlying32 Try.sizeOf53 rfl rfl ⟨by decide, by decide⟩) rfl rfl rfl rfl (by kernel_rfl) ?_
          refine pl_y 6 rfl (y_ldW (reads_sl) Try.isAgg53 Try.sizeOf53 rfl (rfl) (fun _ => rfl)) rfl rfl rfl rfl (by kernel_rfl) ?_
          refine pl_w1 7 (by kernel_rfl) rfl rfl (pl_fire rfl rfl rfl (by kernel_rfl) ?_)
          refine oj_buildSlice (cs := [.int .i64 3, .int .i64 2, .int .i64 47, .int .i64 2, .int .i64 3, .int .i64 45]) [.int .i64 0, .int .i64 0, .int .i64 0, .int .i64 0, .int .i64 0, .int .i64 0] Try.underlying32 Try.sizeOf53 Try.zeroValue53 rfl rfl (by kernel_rfl) (by kernel_rfl) rfl (fun b37 => ?_)
          refine oj_nil ?_
          refine ej_pl (lt_w (by kernel_rfl) (lt_y (y_ixR (reads_sl (xs := bidsX) (enc := encBi) (sz := 3)) Try.underlying32 Try.sizeOf53 rfl rfl ⟨by decide, by decide⟩) rfl (lt_w (by kernel_rfl) (lt_y (y_ixR (reads_sl (xs := bidsX) (enc := encBi) (sz := 3)) Try.underlying32 Try.sizeOf53 rfl rfl ⟨by decide, by decide⟩) rfl (lt_nil))))) ?_
          refine pl_y 8 rfl (y_call Try.call22 rfl (fun w hp => ew_Sell2 l30 w hp.rd b37 (hp.rdLit (b := b37) (sz := 3) (enc := encBi) bidsY (fun _ => rfl) rfl (by unfold maxLen; decide)))) rfl rfl rfl rfl (by kernel_rfl) ?_
          refine pl_y 9 rfl (y_move rfl) rfl rfl rfl rfl (by kernel_rfl) ?_
          refine pl_y 10 rfl (y_extract rfl rfl) rfl rfl rfl rfl (by kernel_rfl) ?_
          refine pl_y 11 rfl (y_extract rfl rfl) rfl rfl rfl rfl (by kernel_rfl) ?_
          refine pl_w1 13 (by kernel_rfl) rfl rfl (pl_fire rfl rfl rfl (by kernel_rfl) ?_)
          refine oj_store rfl rfl rfl rfl Try.sizeOf34 rfl ?_
          refine oj_nil ?_
          refine ej_pl (lt_y (y_extract rfl rfl) rfl (lt_w (by kernel_rfl) (lt_w (by kernel_rfl) (lt_w (by kernel_rfl) (lt_w (by kernel_rfl) (lt_w (by kernel_rfl) (lt_w (by kernel_rfl) (lt_w (by kernel_rfl) (lt_nil))))))))) ?_
          refine pl_y 14 rfl (y_assign rfl) rfl rfl rfl rfl (by kernel_rfl) ?_
          refine pl_end (by kernel_rfl) ?_
          refine ej_takes [ownB b7 (cellsB 34 [.int .i64 3, .int .i64 45]), ownB b5 (cellsB 34 [.int .i64 1, .int .i64 50])] ?_
          exact ej_ct b7 trivial ⟨rfl, rfl, rfl, rfl, rfl, rfl, rfl, rfl, rfl, trivial⟩
      · refine oj_alloc Try.zeroValue34 rfl rfl (fun b7 => ?_)
        refine oj_nil ?_
        refine ej_pl (lt_nil) ?_
        refine pl_w1 1 (by kernel_rfl) rfl rfl (pl_fire rfl rfl rfl (by kernel_rfl) ?_)
        refine oj_call (X := Nat) (fun z => .slice (some ⟨z, 0, none⟩) 3 3) (fun _ => []) (fun z => [litS z 3 encBi bidsX]) Try.call52 rfl (fun w hp => k_bidsX w) rfl (fun l31 => ?_)
        dsimp only [List.nil_append, List.cons_append]
        refine oj_nil ?_
        refine ej_pl (lt_nil) ?_
        refine pl_y 2 rfl (y_ixR (reads_sl (xs := bidsX) (enc := encBi) (sz := 3)) Try.underlying32 Try.sizeOf53 rfl rfl ⟨by decide, by decide⟩) rfl rfl rfl rfl (by kernel_rfl) ?_
        refine pl_y 3 rfl (y_ldW (reads_sl) Try.isAgg53 Try.sizeOf53 rfl (rfl) (fun _ => rfl)) rfl rfl rfl rfl (by kernel_rfl) ?_
        refine pl_w1 4 (by kernel_rfl) rfl rfl (pl_fire rfl rfl rfl (by kernel_rfl) ?_)
        refine oj_call (X := Nat) (fun z => .slice (some ⟨z, 0, none⟩) 3 3) (fun _ => []) (fun z => [litS z 3 encBi bidsX]) Try.call52 rfl (fun w hp => k_bidsX w) rfl (fun l34 => ?_)
        dsimp only [List.nil_append, List.cons_append]
        refine oj_nil ?_
        refine ej_pl (lt_y (y_ldW (reads_sl) Try.isAgg53 Try.sizeOf53 rfl (rfl) (fun _ => rfl)) rfl (lt_y (y_ixR (reads_sl (xs := bidsX) (enc := encBi) (sz := 3)) Try.underlying32 Try.sizeOf53 rfl rfl ⟨by decide, by decide⟩) rfl (lt_nil))) ?_
        refine pl_y 5 rfl (y_ixR (reads_sl (xs := bidsX) (enc := encBi) (sz := 3)) Try.underlying32 Try.sizeOf53 rfl rfl ⟨by decide, by decide⟩) rfl rfl rfl rfl (by kernel_rfl) ?_
        refine pl_y 6 rfl (y_ldW (reads_sl) Try.isAgg53 Try.sizeOf53 rfl (rfl) (fun _ => rfl)) rfl rfl rfl rfl (by kernel_rfl) ?_
        refine pl_w1 7 (by kernel_rfl) rfl rfl (pl_fire rfl rfl rfl (by kernel_rfl) ?_)
        refine oj_buildSlice (cs := [.int .i64 3, .int .i64 2, .int .i64 47, .int .i64 2, .int .i64 3, .int .i64 45]) [.int .i64 0, .int .i64 0, .int .i64 0, .int .i64 0, .int .i64 0, .int .i64 0] Try.underlying32 Try.sizeOf53 Try.zeroValue53 rfl rfl (by kernel_rfl) (by kernel_rfl) rfl (fun b37 => ?_)
        refine oj_nil ?_
        refine ej_pl (lt_w (by kernel_rfl) (lt_y (y_ixR (reads_sl (xs := bidsX) (enc := encBi) (sz := 3)) Try.underlying32 Try.sizeOf53 rfl rfl ⟨by decide, by decide⟩) rfl (lt_w (by kernel_rfl) (lt_y (y_ixR (reads_sl (xs := bidsX) (enc := encBi) (sz := 3)) Try.underlying32 Try.sizeOf53 rfl rfl ⟨by decide, by decide⟩) rfl (lt_nil))))) ?_
        refine pl_y 8 rfl (y_call Try.call22 rfl (fun w hp => ew_Sell2 l30 w hp.rd b37 (hp.rdLit (b := b37) (sz := 3) (enc := encBi) bidsY (fun _ => rfl) rfl (by unfold maxLen; decide)))) rfl rfl rfl rfl (by kernel_rfl) ?_
        refine pl_y 9 rfl (y_move rfl) rfl rfl rfl rfl (by kernel_rfl) ?_
        refine pl_y 10 rfl (y_extract rfl rfl) rfl rfl rfl rfl (by kernel_rfl) ?_
        refine pl_y 11 rfl (y_extract rfl rfl) rfl rfl rfl rfl (by kernel_rfl) ?_
        refine pl_w1 13 (by kernel_rfl) rfl rfl (pl_fire rfl rfl rfl (by kernel_rfl) ?_)
        refine oj_store rfl rfl rfl rfl Try.sizeOf34 rfl ?_
        refine oj_nil ?_
        refine ej_pl (lt_y (y_extract rfl rfl) rfl (lt_w (by kernel_rfl) (lt_w (by kernel_rfl) (lt_w (by kernel_rfl) (lt_w (by kernel_rfl) (lt_w (by kernel_rfl) (lt_w (by kernel_rfl) (lt_w (by kernel_rfl) (lt_nil))))))))) ?_
        refine pl_y 14 rfl (y_assign rfl) rfl rfl rfl rfl (by kernel_rfl) ?_
        refine pl_end (by kernel_rfl) ?_
        refine ej_takes [ownB b7 (cellsB 34 [.int .i64 3, .int .i64 45]), ownB b5 (cellsB 34 [.int .i64 1, .int .i64 50])] ?_
        exact ej_ct b7 trivial ⟨rfl, rfl, rfl, rfl, rfl, rfl, rfl, rfl, rfl, trivial⟩
    · refine oj_alloc Try.zeroValue34 rfl rfl (fun b7 => ?_)
      refine oj_nil ?_
      refine ej_pl (lt_nil) ?_
      refine pl_w1 0 (by kernel_rfl) rfl rfl (pl_fire rfl rfl rfl (by kernel_rfl) ?_)
      refine oj_call (X := Nat) (fun z => .agg #[.int .i64 10, .int .i64 30, .slice (some ⟨z, 0, none⟩) 2 2]) (fun _ => []) (fun z => [litS z 2 encRi ladX]) Try.call45 rfl (fun w hp => k_lotX w) rfl (fun l30 => ?_)
      dsimp only [List.nil_append, List.cons_append]
      refine oj_nil ?_
      refine ej_pl (lt_nil) ?_
      refine pl_w1 1 (by kernel_rfl) rfl rfl (pl_fire rfl rfl rfl (by kernel_rfl) ?_)
      refine oj_call (X := Nat) (fun z => .slice (some ⟨z, 0, none⟩) 3 3) (fun _ => []) (fun z => [litS z 3 encBi bidsX]) Try.call52 rfl (fun w hp => k_bidsX w) rfl (fun l31 => ?_)
      dsimp only [List.nil_append, List.cons_append]
      refine oj_nil ?_
      refine ej_pl (lt_nil) ?_
      refine pl_y 2 rfl (y_ixR (reads_sl (xs := bidsX) (enc := encBi) (sz := 3)) Try.underlying32 Try.sizeOf53 rfl rfl ⟨by decide, by decide⟩) rfl rfl rfl rfl (by kernel_rfl) ?_
      refine pl_y 3 rfl (y_ldW (reads_sl) Try.isAgg53 Try.sizeOf53 rfl (rfl) (fun _ => rfl)) rfl rfl rfl rfl (by kernel_rfl) ?_
      refine pl_w1 4 (by kernel_rfl) rfl rfl (pl_fire rfl rfl rfl (by kernel_rfl) ?_)
      refine oj_call (X := Nat) (fun z => .slice (some ⟨z, 0, none⟩) 3 3) (fun _ => []) (fun z => [litS z 3 encBi bidsX]) Try.call52 rfl (fun w hp => k_bidsX w) rfl (fun l34 => ?_)
      dsimp only [List.nil_append, List.cons_append]
      refine oj_nil ?_
      refine ej_pl (lt_y (y_ldW (reads_sl) Try.isAgg53 Try.sizeOf53 rfl (rfl) (fun _ => rfl)) rfl (lt_y (y_ixR (reads_sl (xs := bidsX) (enc := encBi) (sz := 3)) Try.underlying32 Try.sizeOf53 rfl rfl ⟨by decide, by decide⟩) rfl (lt_nil))) ?_
      refine pl_y 5 rfl (y_ixR (reads_sl (xs := bidsX) (enc := encBi) (sz := 3)) Try.underlying32 Try.sizeOf53 rfl rfl ⟨by decide, by decide⟩) rfl rfl rfl rfl (by kernel_rfl) ?_
      refine pl_y 6 rfl (y_ldW (reads_sl) Try.isAgg53 Try.sizeOf53 rfl (rfl) (fun _ => rfl)) rfl rfl rfl rfl (by kernel_rfl) ?_
      refine pl_w1 7 (by kernel_rfl) rfl rfl (pl_fire rfl rfl rfl (by kernel_rfl) ?_)
      refine oj_buildSlice (cs := [.int .i64 3, .int .i64 2, .int .i64 47, .int .i64 2, .int .i64 3, .int .i64 45]) [.int .i64 0, .int .i64 0, .int .i64 0, .int .i64 0, .int .i64 0, .int .i64 0] Try.underlying32 Try.sizeOf53 Try.zeroValue53 rfl rfl (by kernel_rfl) (by kernel_rfl) rfl (fun b37 => ?_)
      refine oj_nil ?_
      refine ej_pl (lt_w (by kernel_rfl) (lt_y (y_ixR (reads_sl (xs := bidsX) (enc := encBi) (sz := 3)) Try.underlying32 Try.sizeOf53 rfl rfl ⟨by decide, by decide⟩) rfl (lt_w (by kernel_rfl) (lt_y (y_ixR (reads_sl (xs := bidsX) (enc := encBi) (sz := 3)) Try.underlying32 Try.sizeOf53 rfl rfl ⟨by decide, by decide⟩) rfl (lt_nil))))) ?_
      refine pl_y 8 rfl (y_call Try.call22 rfl (fun w hp => ew_Sell2 l30 w hp.rd b37 (hp.rdLit (b := b37) (sz := 3) (enc := encBi) bidsY (fun _ => rfl) rfl (by unfold maxLen; decide)))) rfl rfl rfl rfl (by kernel_rfl) ?_
      refine pl_y 9 rfl (y_move rfl) rfl rfl rfl rfl (by kernel_rfl) ?_
      refine pl_y 10 rfl (y_extract rfl rfl) rfl rfl rfl rfl (by kernel_rfl) ?_
      refine pl_y 11 rfl (y_extract rfl rfl) rfl rfl rfl rfl (by kernel_rfl) ?_
      refine pl_w1 13 (by kernel_rfl) rfl rfl (pl_fire rfl rfl rfl (by kernel_rfl) ?_)
      refine oj_store rfl rfl rfl rfl Try.sizeOf34 rfl ?_
      refine oj_nil ?_
      refine ej_pl (lt_y (y_extract rfl rfl) rfl (lt_w (by kernel_rfl) (lt_w (by kernel_rfl) (lt_w (by kernel_rfl) (lt_w (by kernel_rfl) (lt_w (by kernel_rfl) (lt_w (by kernel_rfl) (lt_w (by kernel_rfl) (lt_nil))))))))) ?_
      refine pl_y 14 rfl (y_assign rfl) rfl rfl rfl rfl (by kernel_rfl) ?_
      refine pl_end (by kernel_rfl) ?_
      refine ej_takes [ownB b7 (cellsB 34 [.int .i64 3, .int .i64 45]), ownB b5 (cellsB 34 [.int .i64 1, .int .i64 50])] ?_
      exact ej_ct b7 trivial ⟨rfl, rfl, rfl, rfl, rfl, rfl, rfl, rfl, rfl, trivial⟩
  · rintro b7 -
    dsimp only [List.cons_append, List.nil_append]
    refine cj_seq (cj_seq ?_)
    refine cj_regionG (gj_step (y_move rfl) rfl rfl rfl (gj_step (y_neq rfl rfl) rfl rfl rfl (gj_step (y_move rfl) rfl rfl rfl (gj_g 2 43 45 rfl rfl rfl rfl (fun hg43 => gj_yes rfl rfl rfl (y_move rfl) rfl rfl (gj_yes rfl rfl rfl (y_neq rfl rfl) rfl rfl (gj_nil rfl))) (gj_step (y_or rfl rfl rfl) rfl rfl rfl (gj_step (y_move rfl) rfl rfl rfl (gj_g 2 47 49 rfl rfl rfl rfl (fun hg47 => gj_yes rfl rfl rfl (y_move rfl) rfl rfl (gj_yes rfl rfl rfl (y_neq rfl rfl) rfl rfl (gj_nil rfl))) (gj_step (y_or rfl rfl rfl) rfl rfl rfl (gj_step (y_move rfl) rfl rfl rfl (gj_g 2 51 53 rfl rfl rfl rfl (fun hg51 => gj_yes rfl rfl rfl (y_move rfl) rfl rfl (gj_yes rfl rfl rfl (y_neq rfl rfl) rfl rfl (gj_nil rfl))) (gj_step (y_or rfl rfl rfl) rfl rfl rfl (gj_step (y_move rfl) rfl rfl rfl (gj_g 2 55 57 rfl rfl rfl rfl (fun hg55 => gj_yes rfl rfl rfl (y_move rfl) rfl rfl (gj_yes rfl rfl rfl (y_neq rfl rfl) rfl rfl (gj_nil rfl))) (gj_step (y_or rfl rfl rfl) rfl rfl rfl (gj_step (y_move rfl) rfl rfl rfl (gj_g 2 59 61 rfl rfl rfl rfl (fun hg59 => gj_yes rfl rfl rfl (y_move rfl) rfl rfl (gj_yes rfl rfl rfl (y_neq rfl rfl) rfl rfl (gj_nil rfl))) (gj_step (y_or rfl rfl rfl) rfl rfl rfl (gj_step (y_move rfl) rfl rfl rfl (gj_g 3 63 66 rfl rfl rfl rfl (fun hg63 => gj_yes rfl rfl rfl (y_loadN Try.isAgg34 Try.sizeOf34 rfl) rfl rfl (gj_yes rfl rfl rfl (y_build (cs := [.int .i64 1, .int .i64 50]) st34 rfl (by kernel_rfl)) rfl rfl (gj_yes rfl rfl rfl (y_bin rfl rfl (fun x y w => ne34 _ _ _ _ x y w)) rfl rfl (gj_nil rfl)))) (gj_step (y_or rfl rfl rfl) rfl rfl rfl (gj_step (y_move rfl) rfl rfl rfl (gj_g 3 68 71 rfl rfl rfl rfl (fun hg68 => gj_yes rfl rfl rfl (y_loadN Try.isAgg34 Try.sizeOf34 rfl) rfl rfl (gj_yes rfl rfl rfl (y_build (cs := [.int .i64 3, .int .i64 45]) st34 rfl (by kernel_rfl)) rfl rfl (gj_yes rfl rfl rfl (y_bin rfl rfl (fun x y w => ne34 _ _ _ _ x y w)) rfl rfl (gj_nil rfl)))) (gj_step (y_or rfl rfl rfl) rfl rfl rfl (gj_nil ?_))))))))))))))))))))))))
    refine ej_th ?_
    refine cj_cond rfl (fun h72 => ?_) (fun h72 => ?_)
    · exact absurd h72 (by decide)
    · have h72b := h72
      try simp only [sxb] at h72
      refine cj_skip (ej_th (cj_seq (cj_region ?_)))
      refine oj_call (X := Nat) (fun z => .agg #[.int .i64 10, .int .i64 30, .slice (some ⟨z, 0, none⟩) 2 2]) (fun _ => []) (fun z => [litS z 2 encRi ladX]) Try.call45 rfl (fun w hp => k_lotX w) rfl (fun l74 => ?_)
      dsimp only [List.nil_append, List.cons_append]
      refine oj_call (X := Nat) (fun z => .slice (some ⟨z, 0, none⟩) 3 3) (fun _ => []) (fun z => [litS z 3 encBi bidsX]) Try.call52 rfl (fun w hp => k_bidsX w) rfl (fun l75 => ?_)
      dsimp only [List.nil_append, List.cons_append]
      refine oj_callS (fun A c => .tuple #[.slice A ([⟨3, 45, 2, 0, 10⟩, ⟨1, 50, 0, 45, 50⟩, ⟨1, 50, 0, 45, 50⟩] : List LeadV).length c, .int .i64 0]) 5 encLe ([⟨3, 45, 2, 0, 10⟩, ⟨1, 50, 0, 45, 50⟩, ⟨1, 50, 0, 45, 50⟩] : List LeadV) Try.call24 rfl (fun w hp => ew_Room l74 w hp.rd l75 hp.rd) rfl (fun A76 c76 fp76 hfp76 => ?_)
      refine oj_step (y_move rfl) rfl rfl rfl ?_
      refine oj_step (y_extract rfl rfl) rfl rfl rfl ?_
      refine oj_step (y_extract rfl rfl) rfl rfl rfl ?_
      refine oj_step (y_assign rfl) rfl rfl rfl ?_
      refine oj_step (y_assign rfl) rfl rfl rfl ?_
      refine oj_nil ?_
      refine ej_th (cj_seq (cj_region ?_))
      refine oj_call (X := Nat × Nat × Nat × Nat × Nat) (fun z => .agg #[.slice (some ⟨z.1, 0, none⟩) 2 2, .slice (some ⟨z.2.1, 0, none⟩) 3 3]) (fun _ => []) (fun z => [litS z.1 1 enInt resX, litS z.2.1 1 encLs (rowsX z.2.2.1 z.2.2.2.1 z.2.2.2.2), litS z.2.2.1 1 enInt [10, 6], litS z.2.2.2.1 1 enInt [8, 7], litS z.2.2.2.2 1 enInt [5, 0]]) Try.call46 rfl (fun w hp => k_closingX w) rfl ?_
      rintro ⟨r80, v80, x80, y80, z80⟩
      dsimp only [List.nil_append, List.cons_append]
      refine oj_callS (fun A c => .tuple #[.slice A ([5, 1] : List Int).length c, .int .i64 0]) 1 enInt ([5, 1] : List Int) Try.call34 rfl (fun w hp => ew_Prices r80 v80 x80 y80 z80 w hp.rd hp.rd (fun q hq => by
        simp only [List.mem_cons, List.mem_nil_iff, or_false] at hq
        rcases hq with rfl | rfl | rfl
        · exact hp.rd
        · exact hp.rd
        · exact hp.rd)) rfl (fun A81 c81 fp81 hfp81 => ?_)
      refine oj_step (y_move rfl) rfl rfl rfl ?_
      refine oj_step (y_extract rfl rfl) rfl rfl rfl ?_
      refine oj_step (y_extract rfl rfl) rfl rfl rfl ?_
      refine oj_step (y_assign rfl) rfl rfl rfl ?_
      refine oj_step (y_assign rfl) rfl rfl rfl ?_
      refine oj_nil ?_
      refine ej_th (cj_seq (cj_region ?_))
      refine oj_call (X := Nat × Nat × Nat × Nat × Nat) (fun z => .agg #[.slice (some ⟨z.1, 0, none⟩) 2 2, .slice (some ⟨z.2.1, 0, none⟩) 3 3]) (fun _ => []) (fun z => [litS z.1 1 enInt resX, litS z.2.1 1 encLs (rowsX z.2.2.1 z.2.2.2.1 z.2.2.2.2), litS z.2.2.1 1 enInt [10, 6], litS z.2.2.2.1 1 enInt [8, 7], litS z.2.2.2.2 1 enInt [5, 0]]) Try.call46 rfl (fun w hp => k_closingX w) rfl ?_
      rintro ⟨r85, v85, x85, y85, z85⟩
      dsimp only [List.nil_append, List.cons_append]
      refine oj_call (X := Option Addr × Nat × Option Addr × Nat × Nat × Nat) (fun z => (.tuple #[.agg #[.slice z.1 ([0, 1, -1] : List Int).length z.2.1, .slice z.2.2.1 ([5, 1] : List Int).length z.2.2.2.1], .int .i64 0])) (fun _ => []) (fun z => [sl (fun i => z.2.2.2.2.1 ≤ i ∧ i < z.2.2.2.2.2) 1 enInt z.1 ([0, 1, -1] : List Int), sl (fun i => z.2.2.2.2.1 ≤ i ∧ i < z.2.2.2.2.2) 1 enInt z.2.2.1 ([5, 1] : List Int)]) Try.call32 rfl (fun w hp => ew_Close r85 v85 x85 y85 z85 w hp.rd hp.rd (fun q hq => by
        simp only [List.mem_cons, List.mem_nil_iff, or_false] at hq
        rcases hq with rfl | rfl | rfl
        · exact hp.rd
        · exact hp.rd
        · exact hp.rd)) rfl ?_
      rintro ⟨q1, q2, q3, q4, q5, q6⟩
      dsimp only [List.nil_append, List.cons_append]
      refine oj_step (y_move rfl) rfl rfl rfl ?_
      refine oj_step (y_extract rfl rfl) rfl rfl rfl ?_
      refine oj_step (y_extract rfl rfl) rfl rfl rfl ?_
      refine oj_alloc Try.zeroValue62 rfl rfl (fun b11 => ?_)
      refine oj_store rfl rfl rfl rfl Try.sizeOf62 rfl ?_
      refine oj_step (y_assign rfl) rfl rfl rfl ?_
      refine oj_nil ?_
      refine ej_th (cj_seq (cj_region ?_))
      refine oj_buildSlice (cs := [.int .i64 3, .int .i64 5, .int .i64 2, .int .i64 4, .int .i64 8, .int .i64 8]) [.int .i64 0, .int .i64 0, .int .i64 0, .int .i64 0, .int .i64 0, .int .i64 0] Try.underlying43 Try.sizeOf3 Try.zeroValue3 rfl rfl (by kernel_rfl) (by kernel_rfl) rfl (fun b90 => ?_)
      refine oj_callS (fun A c => .tuple #[.slice A ([14, 9] : List Int).length c, .int .i64 0]) 1 enInt ([14, 9] : List Int) Try.call26 rfl (fun w hp => ew_Rings b90 w (hp.rdLit (b := b90) (sz := 1) (enc := enInt) pastX (fun _ => rfl) rfl (by unfold maxLen; decide))) rfl (fun A91 c91 fp91 hfp91 => ?_)
      refine oj_step (y_move rfl) rfl rfl rfl ?_
      refine oj_step (y_extract rfl rfl) rfl rfl rfl ?_
      refine oj_step (y_extract rfl rfl) rfl rfl rfl ?_
      refine oj_step (y_assign rfl) rfl rfl rfl ?_
      refine oj_step (y_assign rfl) rfl rfl rfl ?_
      refine oj_nil ?_
      refine ej_th (cj_seq (cj_region ?_))
      refine oj_step (y_move rfl) rfl rfl rfl ?_
      refine oj_step (y_eql rfl rfl) rfl rfl rfl ?_
      refine oj_step (y_move rfl) rfl rfl rfl ?_
      refine oj_yes rfl rfl rfl ?_
      refine oj_step (y_move rfl) rfl rfl rfl ?_
      refine oj_yes rfl rfl rfl ?_
      refine oj_step (y_eql rfl rfl) rfl rfl rfl ?_
      refine oj_step (y_pick rfl rfl rfl) rfl rfl rfl ?_
      refine oj_step (y_move rfl) rfl rfl rfl ?_
      refine oj_yes rfl rfl rfl ?_
      refine oj_step (y_move rfl) rfl rfl rfl ?_
      refine oj_yes rfl rfl rfl ?_
      refine oj_step (y_eql rfl rfl) rfl rfl rfl ?_
      refine oj_step (y_pick rfl rfl rfl) rfl rfl rfl ?_
      refine oj_step (y_move rfl) rfl rfl rfl ?_
      refine oj_yes rfl rfl rfl ?_
      refine oj_step (y_move rfl) rfl rfl rfl ?_
      refine oj_yes rfl rfl rfl ?_
      refine oj_step (y_eql rfl rfl) rfl rfl rfl ?_
      refine oj_step (y_pick rfl rfl rfl) rfl rfl rfl ?_
      refine oj_step (y_move rfl) rfl rfl rfl ?_
      refine oj_yes rfl rfl rfl ?_
      refine oj_step (y_move rfl) rfl rfl rfl ?_
      refine oj_yes rfl rfl rfl ?_
      refine oj_step (y_lenA Try.underlying37 rfl) rfl rfl rfl ?_
      refine oj_yes rfl rfl rfl ?_
      refine oj_step (y_eql rfl rfl) rfl rfl rfl ?_
      refine oj_step (y_pick rfl rfl rfl) rfl rfl rfl ?_
      refine oj_step (y_move rfl) rfl rfl rfl ?_
      refine oj_yes rfl rfl rfl ?_
      refine oj_step (y_move rfl) rfl rfl rfl ?_
      refine oj_yes rfl rfl rfl ?_
      refine oj_step (y_ixR (reads_sl (xs := ([⟨3, 45, 2, 0, 10⟩, ⟨1, 50, 0, 45, 50⟩, ⟨1, 50, 0, 45, 50⟩] : List LeadV)) (enc := encLe) (sz := 5)) Try.underlying37 Try.sizeOf41 rfl rfl ⟨by decide, by decide⟩) rfl rfl rfl ?_
      refine oj_yes rfl rfl rfl ?_
      refine oj_step (y_ldW (reads_sl) Try.isAgg41 Try.sizeOf41 rfl (rfl) (fun _ => rfl)) rfl rfl rfl ?_
      refine oj_yes rfl rfl rfl ?_
      refine oj_step (y_build (cs := [.int .i64 3, .int .i64 45, .int .i64 2, .int .i64 0, .int .i64 10]) st41 rfl (by kernel_rfl)) rfl rfl rfl ?_
      refine oj_yes rfl rfl rfl ?_
      refine oj_step (y_bin rfl rfl (fun x y w => eq41 _ _ _ _ _ _ _ _ _ _ x y w)) rfl rfl rfl ?_
      refine oj_step (y_pick rfl rfl rfl) rfl rfl rfl ?_
      refine oj_step (y_move rfl) rfl rfl rfl ?_
      refine oj_yes rfl rfl rfl ?_
      refine oj_step (y_move rfl) rfl rfl rfl ?_
      refine oj_yes rfl rfl rfl ?_
      refine oj_step (y_ixR (reads_sl (xs := ([⟨3, 45, 2, 0, 10⟩, ⟨1, 50, 0, 45, 50⟩, ⟨1, 50, 0, 45, 50⟩] : List LeadV)) (enc := encLe) (sz := 5)) Try.underlying37 Try.sizeOf41 rfl rfl ⟨by decide, by decide⟩) rfl rfl rfl ?_
      refine oj_yes rfl rfl rfl ?_
      refine oj_step (y_ldW (reads_sl) Try.isAgg41 Try.sizeOf41 rfl (rfl) (fun _ => rfl)) rfl rfl rfl ?_
      refine oj_yes rfl rfl rfl ?_
      refine oj_step (y_build (cs := [.int .i64 1, .int .i64 50, .int .i64 0, .int .i64 45, .int .i64 50]) st41 rfl (by kernel_rfl)) rfl rfl rfl ?_
      refine oj_yes rfl rfl rfl ?_
      refine oj_step (y_bin rfl rfl (fun x y w => eq41 _ _ _ _ _ _ _ _ _ _ x y w)) rfl rfl rfl ?_
      refine oj_step (y_pick rfl rfl rfl) rfl rfl rfl ?_
      refine oj_step (y_move rfl) rfl rfl rfl ?_
      refine oj_yes rfl rfl rfl ?_
      refine oj_step (y_move rfl) rfl rfl rfl ?_
      refine oj_yes rfl rfl rfl ?_
      refine oj_buildSlice (cs := [.int .i64 5, .int .i64 1]) [.int .i64 0, .int .i64 0] Try.underlying43 Try.sizeOf3 Try.zeroValue3 rfl rfl (by kernel_rfl) (by kernel_rfl) rfl (fun b129 => ?_)
      refine oj_yes rfl rfl rfl ?_
      refine oj_step (y_call Try.call28 rfl (fun w hp => k_Same ([5, 1] : List Int) ([5, 1] : List Int) A81 (some ⟨b129, 0, none⟩) c81 2 w hp.rd (hp.rdLit (b := b129) (sz := 1) (enc := enInt) ([5, 1] : List Int) (fun _ => rfl) rfl (by unfold maxLen; decide)))) rfl rfl rfl ?_
      refine oj_step (y_pick rfl rfl rfl) rfl rfl rfl ?_
      refine oj_step (y_move rfl) rfl rfl rfl ?_
      refine oj_yes rfl rfl rfl ?_
      refine oj_step (y_fa0 fa62_0 rfl) rfl rfl rfl ?_
      refine oj_yes rfl rfl rfl ?_
      refine oj_step (y_load1 Try.isAgg43 rfl rfl) rfl rfl rfl ?_
      refine oj_yes rfl rfl rfl ?_
      refine oj_buildSlice (cs := [.int .i64 0, .int .i64 1, .int .i64 (-1)]) [.int .i64 0, .int .i64 0, .int .i64 0] Try.underlying43 Try.sizeOf3 Try.zeroValue3 rfl rfl (by kernel_rfl) (by kernel_rfl) rfl (fun b135 => ?_)
      refine oj_yes rfl rfl rfl ?_
      refine oj_step (y_call Try.call28 rfl (fun w hp => k_Same ([0, 1, -1] : List Int) ([0, 1, -1] : List Int) q1 (some ⟨b135, 0, none⟩) q2 3 w hp.rd (hp.rdLit (b := b135) (sz := 1) (enc := enInt) ([0, 1, -1] : List Int) (fun _ => rfl) rfl (by unfold maxLen; decide)))) rfl rfl rfl ?_
      refine oj_step (y_pick rfl rfl rfl) rfl rfl rfl ?_
      refine oj_step (y_move rfl) rfl rfl rfl ?_
      refine oj_yes rfl rfl rfl ?_
      refine oj_step (y_fa fa62_1 rfl) rfl rfl rfl ?_
      refine oj_yes rfl rfl rfl ?_
      refine oj_step (y_load1 Try.isAgg43 rfl rfl) rfl rfl rfl ?_
      refine oj_yes rfl rfl rfl ?_
      refine oj_step (y_move rfl) rfl rfl rfl ?_
      refine oj_yes rfl rfl rfl ?_
      refine oj_step (y_call Try.call28 rfl (fun w hp => k_Same ([5, 1] : List Int) ([5, 1] : List Int) q3 A81 q4 c81 w hp.rd hp.rd)) rfl rfl rfl ?_
      refine oj_step (y_pick rfl rfl rfl) rfl rfl rfl ?_
      refine oj_step (y_move rfl) rfl rfl rfl ?_
      refine oj_yes rfl rfl rfl ?_
      refine oj_step (y_move rfl) rfl rfl rfl ?_
      refine oj_yes rfl rfl rfl ?_
      refine oj_buildSlice (cs := [.int .i64 14, .int .i64 9]) [.int .i64 0, .int .i64 0] Try.underlying43 Try.sizeOf3 Try.zeroValue3 rfl rfl (by kernel_rfl) (by kernel_rfl) rfl (fun b146 => ?_)
      refine oj_yes rfl rfl rfl ?_
      refine oj_step (y_call Try.call28 rfl (fun w hp => k_Same ([14, 9] : List Int) ([14, 9] : List Int) A91 (some ⟨b146, 0, none⟩) c91 2 w hp.rd (hp.rdLit (b := b146) (sz := 1) (enc := enInt) ([14, 9] : List Int) (fun _ => rfl) rfl (by unfold maxLen; decide)))) rfl rfl rfl ?_
      refine oj_step (y_pick rfl rfl rfl) rfl rfl rfl ?_
      refine oj_step (y_assign rfl) rfl rfl rfl ?_
      refine oj_nil ?_
      refine ej_th (cj_ret ?_)
      exact ej_ret1 rfl Try.results21 rfl (fun w' hp => ⟨rfl, hp.below⟩)

end Go.Proofs.Ytehmifpofpifkaa
