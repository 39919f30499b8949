/- Texts of ours, joined: 27 of them. Conditions: none. -/
import Derived.Test.YtlfbghkcfmcnlaaGreatDoorZd
import Derived.Test.YtlfbghkcfmcnlaaGreatDoorProg
import Derived.Laws.StructEq
namespace Go.Proofs.YtlfbghkcfmcnlaaGreatDoor
open Go.Sx Go.RowKit
set_option maxRecDepth 20000

end Go.Proofs.YtlfbghkcfmcnlaaGreatDoor
namespace Go.Proofs.YtlfbghkcfmcnlaaGreatDoor
open Go.Sx Go.RowKit
set_option maxRecDepth 20000

end Go.Proofs.YtlfbghkcfmcnlaaGreatDoor
namespace Go.Proofs.YtlfbghkcfmcnlaaGreatDoor
open Go.Sx Go.RowKit
set_option maxRecDepth 20000
theorem k_From (lo n hi : Int) (w : World)  : Calls Tryz.prog 70 #[.int .i64 lo, .int .i64 n, .int .i64 hi] w (fun e w' => e = .returned (.bool (decide (lo ≤ n) && decide (n ≤ hi))) ∧ Grow w w') := by
  refine enter_pure (args := [.int .i64 lo, .int .i64 n, .int .i64 hi]) [] Tryz.func70 rfl (by rw [Tryz.ntmps70]; simp) (by simp) ?_
  refine cj_seq ?_
  refine cj_regionG (gj_step (y_assign rfl) rfl rfl rfl (gj_nil ?_))
  refine ej_th (cj_seq ?_)
  refine cj_regionG (gj_step (y_move rfl) rfl rfl rfl (gj_step (y_move rfl) rfl rfl rfl (gj_step (y_leq rfl rfl) rfl rfl rfl (gj_step (y_move rfl) rfl rfl rfl (gj_g 3 10 13 rfl rfl rfl rfl (fun hg10 => gj_yes rfl rfl rfl (y_move rfl) rfl rfl (gj_yes rfl rfl rfl (y_move rfl) rfl rfl (gj_yes rfl rfl rfl (y_leq rfl rfl) rfl rfl (gj_nil rfl)))) (gj_step (y_and rfl rfl rfl) rfl rfl rfl (gj_step (y_assign rfl) rfl rfl rfl (gj_nil ?_))))))))
  refine ej_th (cj_ret ?_)
  exact ej_ret1 rfl Tryz.results70 rfl (fun w' hp => ⟨rfl, hp.below⟩)

end Go.Proofs.YtlfbghkcfmcnlaaGreatDoor
namespace Go.Proofs.YtlfbghkcfmcnlaaGreatDoor
open Go.Sx Go.RowKit
set_option maxRecDepth 20000
theorem k_IsWord (s : ByteArray) (w : World) (hs : s.size ≤ 9223372036854775807) : Calls Tryz.prog 14 #[.string s] w (fun e w' => e = .returned (.bool (isW s)) ∧ Grow w w') := by
  refine enter_pure (args := [.string s]) [] Tryz.func14 rfl (by rw [Tryz.ntmps14]; simp) (by simp) ?_
  refine cj_seq ?_
  refine cj_regionG (gj_step (y_assign rfl) rfl rfl rfl (gj_nil ?_))
  refine ej_th (cj_seq (cj_seq ?_))
  refine cj_regionG (gj_step (y_move rfl) rfl rfl rfl (gj_step (y_lenS Tryz.underlying9 rfl) rfl rfl rfl (gj_step (y_eql rfl rfl) rfl rfl rfl (gj_step (y_move rfl) rfl rfl rfl (gj_g 3 8 11 rfl rfl rfl rfl (fun hg8 => gj_yes rfl rfl rfl (y_move rfl) rfl rfl (gj_yes rfl rfl rfl (y_lenS Tryz.underlying9 rfl) rfl rfl (gj_yes rfl rfl rfl (y_gtr rfl rfl) rfl rfl (gj_nil rfl)))) (gj_step (y_or rfl rfl rfl) rfl rfl rfl (gj_step (y_move rfl) rfl rfl rfl (gj_g 3 13 16 rfl rfl rfl rfl (fun hg13 => gj_yes rfl rfl rfl (y_move rfl) rfl rfl (gj_yes rfl rfl rfl (y_indexS Tryz.underlying9 rfl rfl (by omega) (bs_first (by have := hg13; simp only [sxb] at this; omega))) rfl rfl (gj_yes rfl rfl rfl (y_lss rfl rfl) rfl rfl (gj_nil rfl)))) (gj_step (y_or rfl rfl rfl) rfl rfl rfl (gj_step (y_move rfl) rfl rfl rfl (gj_g 3 18 21 rfl rfl rfl rfl (fun hg18 => gj_yes rfl rfl rfl (y_move rfl) rfl rfl (gj_yes rfl rfl rfl (y_indexS Tryz.underlying9 rfl rfl (by omega) (bs_first (by have := hg18; simp only [sxb] at this; omega))) rfl rfl (gj_yes rfl rfl rfl (y_gtr rfl rfl) rfl rfl (gj_nil rfl)))) (gj_step (y_or rfl rfl rfl) rfl rfl rfl (gj_nil ?_)))))))))))))
  refine ej_th ?_
  refine cj_cond rfl (fun h22 => ?_) (fun h22 => ?_)
  · have h22b := h22
    try simp only [sxb] at h22
    refine cj_seq ?_
    refine cj_regionG (gj_step (y_assign rfl) rfl rfl rfl (gj_nil ?_))
    refine ej_th (cj_ret (ej_then_ret ?_))
    refine ej_ret1 rfl Tryz.results14 rfl (fun w' hp => ⟨?_, hp.below⟩)
    have : isW s = false := by
      unfold isW letB
      simp only [Bool.and_eq_false_iff, decide_eq_false_iff_not]
      omega
    rw [this]
  · have h22b := h22
    try simp only [sxb] at h22
    simp only [Bool.or_eq_false_iff, decide_eq_false_iff_not] at h22b
    refine cj_skip (ej_th (cj_seq (cj_seq ?_)))
    refine cj_regionG (gj_step (y_move rfl) rfl rfl rfl (gj_step (y_lenS Tryz.underlying9 rfl) rfl rfl rfl (gj_step (y_move rfl) rfl rfl rfl (gj_nil ?_))))
    refine ej_th (cj_block ?_)
    refine cj_lpic (X := Nat) [(0, _), (24, _)] (fun k => k ≤ s.size ∧ ((bsOf s).drop k).all okBs = (bsOf s).all okBs) (fun k => [(25, .int .i64 k)]) (fun k => s.size - k) 0 (⟨Nat.zero_le _, rfl⟩) ⟨rfl, rfl, rfl, trivial⟩ ?_
    rintro k ⟨hk, hl⟩
    dsimp only [List.cons_append, List.nil_append]
    refine cj_seq ?_
    refine cj_regionG (gj_step (y_lss rfl rfl) rfl rfl rfl (gj_nil ?_))
    refine ej_th (cj_seq ?_)
    refine cj_cond rfl (fun h26 => ?_) (fun h26 => ?_)
    · have h26b := h26
      try simp only [sxb] at h26
      have hbl := bs_len s
      obtain ⟨b, hx⟩ : ∃ b, (bsOf s)[k]? = some b := ⟨_, List.getElem?_eq_getElem (by omega)⟩
      rw [all_drop okBs (bsOf s) k b hx] at hl
      refine cj_skip (ej_th (cj_seq (cj_block (cj_seq ?_))))
      refine cj_regionG (gj_step (y_move rfl) rfl rfl rfl (gj_step (y_assign rfl) rfl rfl rfl (gj_nil ?_)))
      refine ej_th (cj_seq ?_)
      refine cj_regionG (gj_step (y_move rfl) rfl rfl rfl (gj_step (y_move rfl) rfl rfl rfl (gj_step (y_indexS Tryz.underlying9 rfl rfl (by omega) (bs_get hx)) rfl rfl rfl (gj_step (y_assign rfl) rfl rfl rfl (gj_nil ?_)))))
      refine ej_th (cj_seq ?_)
      refine cj_regionG (gj_step (y_move rfl) rfl rfl rfl (gj_step (y_lss rfl rfl) rfl rfl rfl (gj_step (y_move rfl) rfl rfl rfl (gj_g 2 33 35 rfl rfl rfl rfl (fun hg33 => gj_yes rfl rfl rfl (y_move rfl) rfl rfl (gj_yes rfl rfl rfl (y_gtr rfl rfl) rfl rfl (gj_nil rfl))) (gj_step (y_or rfl rfl rfl) rfl rfl rfl (gj_step (y_move rfl) rfl rfl rfl (gj_g 6 37 43 rfl rfl rfl rfl (fun hg37 => gj_yes rfl rfl rfl (y_move rfl) rfl rfl (gj_yes rfl rfl rfl (y_lss rfl rfl) rfl rfl (gj_yes rfl rfl rfl (y_move rfl) rfl rfl (gj_g 2 40 42 rfl rfl rfl rfl (fun hg40 => gj_yes rfl rfl rfl (y_move rfl) rfl rfl (gj_yes rfl rfl rfl (y_gtr rfl rfl) rfl rfl (gj_nil rfl))) (gj_yes rfl rfl rfl (y_or rfl rfl rfl) rfl rfl (gj_nil rfl)))))) (gj_step (y_and rfl rfl rfl) rfl rfl rfl (gj_step (y_move rfl) rfl rfl rfl (gj_g 2 45 47 rfl rfl rfl rfl (fun hg45 => gj_yes rfl rfl rfl (y_move rfl) rfl rfl (gj_yes rfl rfl rfl (y_neq rfl rfl) rfl rfl (gj_nil rfl))) (gj_step (y_and rfl rfl rfl) rfl rfl rfl (gj_nil ?_))))))))))))
      refine ej_th ?_
      refine cj_cond rfl (fun h48 => ?_) (fun h48 => ?_)
      · have h48b := h48
        try simp only [sxb] at h48
        refine cj_seq ?_
        refine cj_regionG (gj_step (y_assign rfl) rfl rfl rfl (gj_nil ?_))
        refine ej_th (cj_ret (ej_blk_ret (ej_then_ret (ej_then_ret (ej_blk_ret (ej_then_ret ?_))))))
        exact ej_ret1 rfl Tryz.results14 rfl (fun w' hp => ⟨by rw [isW, ← hl, show okBs b = false from not_t ((okB_V b.toNat).symm.trans h48b)]; simp, hp.below⟩)
      · have h48b := h48
        try simp only [sxb] at h48
        refine cj_skip (ej_blk (ej_th ?_))
        refine cj_regionG (gj_step (y_add rfl rfl (by omega)) rfl rfl rfl (gj_step (y_move rfl) rfl rfl rfl (gj_nil ?_)))
        refine ej_nx (k + 1) (by omega) ⟨by omega, ?_⟩ ⟨rfl, rfl, rfl, trivial⟩
        rw [← hl, show okBs b = true from not_f ((okB_V b.toNat).symm.trans h48b), Bool.true_and]
    · have h26b := h26
      try simp only [sxb] at h26
      refine cj_exit (ej_then_exit (ej_then_exit (ej_blk_hit (ej_th (cj_seq ?_)))))
      refine cj_regionG (gj_step (y_assign rfl) rfl rfl rfl (gj_nil ?_))
      refine ej_th (cj_ret ?_)
      refine ej_ret1 rfl Tryz.results14 rfl (fun w' hp => ⟨?_, hp.below⟩)
      have hbl := bs_len s
      rw [List.drop_of_length_le (by omega)] at hl
      rw [isW, ← hl, decide_eq_true (by omega), decide_eq_true (by omega)]
      unfold letB
      rw [decide_eq_true (by omega), decide_eq_true (by omega)]; rfl

theorem k_rIsWord (s : ByteArray) (w : World) (hs : s.size ≤ 9223372036854775807) : Calls Tryz.prog 88 #[.string s] w (fun e w' => e = .returned (.bool (isW s)) ∧ Grow w w') := by
  refine enter_pure (args := [.string s]) [] Tryz.func88 rfl (by rw [Tryz.ntmps88]; simp) (by simp) ?_
  refine cj_seq ?_
  refine cj_regionG (gj_step (y_assign rfl) rfl rfl rfl (gj_nil ?_))
  refine ej_th (cj_seq (cj_seq ?_))
  refine cj_regionG (gj_step (y_assign rfl) rfl rfl rfl (gj_nil ?_))
  refine ej_th (cj_block ?_)
  refine cj_lpic (X := Nat) [(0, _)] (fun k => k ≤ s.size ∧ (0 < k → letB ((bsOf s).getD 0 0).toNat = true) ∧ ((bsOf s).drop k).all okBs = (bsOf s).all okBs) (fun k => [(3, .int .i64 k)]) (fun k => s.size - k) 0 (⟨Nat.zero_le _, by simp, rfl⟩) ⟨rfl, rfl, trivial⟩ ?_
  rintro k ⟨hk, hfi, hl⟩
  dsimp only [List.cons_append, List.nil_append]
  refine cj_seq (cj_seq ?_)
  refine cj_regionG (gj_step (y_move rfl) rfl rfl rfl (gj_step (y_move rfl) rfl rfl rfl (gj_step (y_lenS Tryz.underlying9 rfl) rfl rfl rfl (gj_step (y_lss rfl rfl) rfl rfl rfl (gj_nil ?_)))))
  refine ej_th ?_
  refine cj_cond rfl (fun h9 => ?_) (fun h9 => ?_)
  · have h9b := h9
    try simp only [sxb] at h9
    have hbl := bs_len s
    obtain ⟨b, hx⟩ : ∃ b, (bsOf s)[k]? = some b := ⟨_, List.getElem?_eq_getElem (by omega)⟩
    rw [all_drop okBs (bsOf s) k b hx] at hl
    refine cj_skip (ej_th (cj_seq (cj_block (cj_seq ?_))))
    refine cj_regionG (gj_step (y_move rfl) rfl rfl rfl (gj_step (y_move rfl) rfl rfl rfl (gj_step (y_indexS Tryz.underlying9 rfl rfl (by omega) (bs_get hx)) rfl rfl rfl (gj_step (y_assign rfl) rfl rfl rfl (gj_nil ?_)))))
    refine ej_th (cj_seq ?_)
    refine cj_regionG (gj_step (y_move rfl) rfl rfl rfl (gj_step (y_leq rfl rfl) rfl rfl rfl (gj_step (y_move rfl) rfl rfl rfl (gj_g 2 17 19 rfl rfl rfl rfl (fun hg17 => gj_yes rfl rfl rfl (y_move rfl) rfl rfl (gj_yes rfl rfl rfl (y_leq rfl rfl) rfl rfl (gj_nil rfl))) (gj_step (y_and rfl rfl rfl) rfl rfl rfl (gj_step (y_assign rfl) rfl rfl rfl (gj_nil ?_)))))))
    refine ej_th (cj_seq ?_)
    refine cj_regionG (gj_step (y_move rfl) rfl rfl rfl (gj_step (y_not rfl) rfl rfl rfl (gj_step (y_move rfl) rfl rfl rfl (gj_g 15 23 38 rfl rfl rfl rfl (fun hg23 => gj_yes rfl rfl rfl (y_move rfl) rfl rfl (gj_yes rfl rfl rfl (y_eql rfl rfl) rfl rfl (gj_yes rfl rfl rfl (y_move rfl) rfl rfl (gj_g 11 26 37 rfl rfl rfl rfl (fun hg26 => gj_yes rfl rfl rfl (y_move rfl) rfl rfl (gj_yes rfl rfl rfl (y_neq rfl rfl) rfl rfl (gj_yes rfl rfl rfl (y_move rfl) rfl rfl (gj_g 7 29 36 rfl rfl rfl rfl (fun hg29 => gj_yes rfl rfl rfl (y_move rfl) rfl rfl (gj_yes rfl rfl rfl (y_leq rfl rfl) rfl rfl (gj_yes rfl rfl rfl (y_move rfl) rfl rfl (gj_g 2 32 34 rfl rfl rfl rfl (fun hg32 => gj_yes rfl rfl rfl (y_move rfl) rfl rfl (gj_yes rfl rfl rfl (y_leq rfl rfl) rfl rfl (gj_nil rfl))) (gj_yes rfl rfl rfl (y_and rfl rfl rfl) rfl rfl (gj_yes rfl rfl rfl (y_not rfl) rfl rfl (gj_nil rfl))))))) (gj_yes rfl rfl rfl (y_and rfl rfl rfl) rfl rfl (gj_nil rfl)))))) (gj_yes rfl rfl rfl (y_or rfl rfl rfl) rfl rfl (gj_nil rfl)))))) (gj_step (y_and rfl rfl rfl) rfl rfl rfl (gj_nil ?_))))))
    refine ej_th ?_
    refine cj_cond rfl (fun h39 => ?_) (fun h39 => ?_)
    · have h39b := h39
      try simp only [sxb] at h39
      refine cj_seq ?_
      refine cj_regionG (gj_step (y_assign rfl) rfl rfl rfl (gj_nil ?_))
      refine ej_th (cj_ret (ej_blk_ret (ej_then_ret (ej_then_ret (ej_blk_ret (ej_then_ret ?_))))))
      refine ej_ret1 rfl Tryz.results88 rfl (fun w' hp => ⟨?_, hp.below⟩)
      have hst := not_t ((okB_R b.toNat k).symm.trans h39b)
      rw [isW, ← hl]
      cases ho : okBs b
      · simp
      · have h1 : okB b.toNat = true := ho
        rw [h1, Bool.true_and, Bool.or_eq_false_iff] at hst
        have h0 : k = 0 := by simpa using hst.2
        subst h0
        have h2 : (bsOf s).getD 0 0 = b := by rw [List.getD_eq_getElem?_getD, hx]; rfl
        rw [h2, hst.1]; simp
    · have h39b := h39
      try simp only [sxb] at h39
      refine cj_skip (ej_blk (ej_th ?_))
      refine cj_regionG (gj_step (y_move rfl) rfl rfl rfl (gj_step (y_add rfl rfl (by omega)) rfl rfl rfl (gj_step (y_assign rfl) rfl rfl rfl (gj_nil ?_))))
      have hst := not_f ((okB_R b.toNat k).symm.trans h39b)
      rw [Bool.and_eq_true] at hst
      refine ej_nx (k + 1) (by omega) ⟨by omega, fun _ => ?_, ?_⟩ ⟨rfl, rfl, trivial⟩
      · by_cases h0 : k = 0
        · subst h0
          have h2 := hst.2
          simp only [Int.natCast_zero, beq_self_eq_true, Bool.not_true, Bool.or_false] at h2
          rw [List.getD_eq_getElem?_getD, hx]; exact h2
        · exact hfi (by omega)
      · rw [← hl, show okBs b = true from hst.1, Bool.true_and]
  · have h9b := h9
    try simp only [sxb] at h9
    refine cj_exit (ej_then_exit (ej_then_exit (ej_blk_hit (ej_th (cj_seq ?_)))))
    refine cj_regionG ?_
    refine gj_step (y_move rfl) rfl rfl rfl (gj_step (y_lenS Tryz.underlying9 rfl) rfl rfl rfl (?_))
    refine gj_step (y_call Tryz.call70 rfl (fun w hp => k_From _ _ _ w)) rfl rfl rfl ?_
    refine gj_step (y_assign rfl) rfl rfl rfl (?_)
    refine gj_nil ?_
    refine ej_th (cj_ret ?_)
    refine ej_ret1 rfl Tryz.results88 rfl (fun w' hp => ⟨?_, hp.below⟩)
    have hbl := bs_len s
    rw [List.drop_of_length_le (by omega)] at hl
    rw [isW, ← hl]
    by_cases h0 : 1 ≤ (s.size : Int)
    · rw [hfi (by omega)]; simp
    · rw [decide_eq_false h0]; simp

end Go.Proofs.YtlfbghkcfmcnlaaGreatDoor
namespace Go.Proofs.YtlfbghkcfmcnlaaGreatDoor
open Go.Sx Go.RowKit
set_option maxRecDepth 20000

end Go.Proofs.YtlfbghkcfmcnlaaGreatDoor
namespace Go.Proofs.YtlfbghkcfmcnlaaGreatDoor
open Go.Sx Go.RowKit
set_option maxRecDepth 20000
theorem k_within1 (n lo hi : Int) (w : World)  : Calls Tryz.prog 45 #[.int .i64 n, .int .i64 lo, .int .i64 hi] w (fun e w' => e = .returned (.bool (decide (lo ≤ n) && decide (n ≤ hi))) ∧ Grow w w') := by
  refine enter_pure (args := [.int .i64 n, .int .i64 lo, .int .i64 hi]) [] Tryz.func45 rfl (by rw [Tryz.ntmps45]; simp) (by simp) ?_
  refine cj_seq ?_
  refine cj_regionG (gj_step (y_assign rfl) rfl rfl rfl (gj_nil ?_))
  refine ej_th (cj_seq ?_)
  refine cj_regionG (gj_step (y_move rfl) rfl rfl rfl (gj_step (y_move rfl) rfl rfl rfl (gj_step (y_geq rfl rfl) rfl rfl rfl (gj_step (y_move rfl) rfl rfl rfl (gj_g 3 10 13 rfl rfl rfl rfl (fun hg10 => gj_yes rfl rfl rfl (y_move rfl) rfl rfl (gj_yes rfl rfl rfl (y_move rfl) rfl rfl (gj_yes rfl rfl rfl (y_leq rfl rfl) rfl rfl (gj_nil rfl)))) (gj_step (y_and rfl rfl rfl) rfl rfl rfl (gj_step (y_assign rfl) rfl rfl rfl (gj_nil ?_))))))))
  refine ej_th (cj_ret ?_)
  exact ej_ret1 rfl Tryz.results45 rfl (fun w' hp => ⟨rfl, hp.below⟩)

theorem k_IndexS (l : List ByteArray) (A : Option Addr) (c : Nat) (s : ByteArray) (w : World) (hl : Rd w 1 enStr A l) : Calls Tryz.prog 85 #[.slice A l.length c, .string s] w (fun e w' => e = .returned (.int .i64 (firstS s l 0)) ∧ Grow w w') := by
  have hlen := hl.len
  refine enter_pure (args := [.slice A l.length c, .string s]) [sl (fun b => b < w.heap.size) 1 enStr A l] Tryz.func85 rfl (by rw [Tryz.ntmps85]; simp) (fun g hg => by simp at hg; subst hg; exact ⟨hl, fun _ h => h⟩) ?_
  refine cj_seq ?_
  refine cj_regionG (gj_step (y_assign rfl) rfl rfl rfl (gj_nil ?_))
  refine ej_th (cj_seq (cj_seq ?_))
  refine cj_regionG (gj_step (y_move rfl) rfl rfl rfl (gj_step (y_lenA Tryz.underlying23 rfl) rfl rfl rfl (gj_step (y_move rfl) rfl rfl rfl (gj_nil ?_))))
  refine ej_th (cj_block ?_)
  refine cj_lpic (X := Nat) [(0, _), (1, _), (7, _)] (fun k => k ≤ l.length ∧ firstS s (l.drop k) k = firstS s l 0) (fun k => [(8, .int .i64 k)]) (fun k => l.length - k) 0 (⟨Nat.zero_le _, rfl⟩) ⟨rfl, rfl, rfl, rfl, trivial⟩ ?_
  rintro k ⟨hk, hs⟩
  dsimp only [List.cons_append, List.nil_append]
  refine cj_seq ?_
  refine cj_regionG (gj_step (y_lss rfl rfl) rfl rfl rfl (gj_nil ?_))
  refine ej_th (cj_seq ?_)
  refine cj_cond rfl (fun h9 => ?_) (fun h9 => ?_)
  · have h9b := h9
    try simp only [sxb] at h9
    obtain ⟨x, hx⟩ : ∃ x, l[k]? = some x := ⟨_, List.getElem?_eq_getElem (by omega)⟩
    rw [firstS_drop s l k x hx] at hs
    refine cj_skip (ej_th (cj_seq (cj_block (cj_seq ?_))))
    refine cj_regionG (gj_step (y_move rfl) rfl rfl rfl (gj_step (y_assign rfl) rfl rfl rfl (gj_nil ?_)))
    refine ej_th (cj_seq ?_)
    refine cj_regionG (gj_step (y_move rfl) rfl rfl rfl (gj_step (y_move rfl) rfl rfl rfl (gj_step (y_move rfl) rfl rfl rfl (gj_step (y_ixR (reads_sl) Tryz.underlying23 Tryz.sizeOf9 rfl rfl (⟨by omega, by omega⟩)) rfl rfl rfl (gj_step (y_ld0 (reads_sl) Tryz.isAgg9 rfl (hx) rfl) rfl rfl rfl (gj_step (y_eqlS rfl rfl) rfl rfl rfl (gj_nil ?_)))))))
    refine ej_th ?_
    refine cj_cond rfl (fun h16 => ?_) (fun h16 => ?_)
    · have h16b := h16
      try simp only [sxb] at h16
      refine cj_seq ?_
      refine cj_regionG (gj_step (y_move rfl) rfl rfl rfl (gj_step (y_assign rfl) rfl rfl rfl (gj_nil ?_)))
      refine ej_th (cj_ret (ej_blk_ret (ej_then_ret (ej_then_ret (ej_blk_ret (ej_then_ret ?_))))))
      refine ej_ret1 rfl Tryz.results85 rfl (fun w' hp => ⟨?_, hp.below⟩)
      rw [← hs, if_pos (bytes_eq h16).symm]
    · have h16b := h16
      try simp only [sxb] at h16
      refine cj_skip (ej_blk (ej_th ?_))
      refine cj_regionG (gj_step (y_add rfl rfl (by omega)) rfl rfl rfl (gj_step (y_move rfl) rfl rfl rfl (gj_nil ?_)))
      exact ej_nx (k + 1) (by omega) ⟨by omega, by rw [← hs, if_neg (fun e => bytes_ne h16 e.symm)]⟩ ⟨rfl, rfl, rfl, rfl, trivial⟩
  · have h9b := h9
    try simp only [sxb] at h9
    refine cj_exit (ej_then_exit (ej_then_exit (ej_blk_hit (ej_th (cj_seq ?_)))))
    refine cj_regionG (gj_step (y_assign rfl) rfl rfl rfl (gj_nil ?_))
    refine ej_th (cj_ret ?_)
    refine ej_ret1 rfl Tryz.results85 rfl (fun w' hp => ⟨?_, hp.below⟩)
    rw [← hs, List.drop_of_length_le (by omega)]; rfl

theorem k_ContainsS (l : List ByteArray) (A : Option Addr) (c : Nat) (s : ByteArray) (w : World) (hl : Rd w 1 enStr A l) : Calls Tryz.prog 64 #[.slice A l.length c, .string s] w (fun e w' => e = .returned (.bool (hasW l s)) ∧ Grow w w') := by
  refine enter_pure (args := [.slice A l.length c, .string s]) [sl (fun b => b < w.heap.size) 1 enStr A l] Tryz.func64 rfl (by rw [Tryz.ntmps64]; simp) (fun g hg => by simp at hg; subst hg; exact ⟨hl, fun _ h => h⟩) ?_
  refine cj_seq ?_
  refine cj_regionG (gj_step (y_assign rfl) rfl rfl rfl (gj_nil ?_))
  refine ej_th (cj_seq ?_)
  refine cj_regionG ?_
  refine gj_step (y_move rfl) rfl rfl rfl (gj_step (y_move rfl) rfl rfl rfl (?_))
  refine gj_step (y_call Tryz.call85 rfl (fun w hp => k_IndexS _ _ _ _ w hp.rd)) rfl rfl rfl ?_
  refine gj_step (y_geq rfl rfl) rfl rfl rfl (gj_step (y_assign rfl) rfl rfl rfl (?_))
  refine gj_nil ?_
  refine ej_th (cj_ret ?_)
  refine ej_ret1 rfl Tryz.results64 rfl (fun w' hp => ⟨?_, hp.below⟩)
  rw [firstS_has]

theorem k_words (l : List ByteArray) (A : Option Addr) (c : Nat) (w : World) (hl : Rd w 1 enStr A l) (hsm : smS l) : Calls Tryz.prog 61 #[.slice A l.length c] w (fun e w' => e = .returned (.bool (wordsB l)) ∧ Grow w w') := by
  have hlen := hl.len
  refine enter_pure (args := [.slice A l.length c]) [sl (fun b => b < w.heap.size) 1 enStr A l] Tryz.func61 rfl (by rw [Tryz.ntmps61]; simp) (fun g hg => by simp at hg; subst hg; exact ⟨hl, fun _ h => h⟩) ?_
  refine cj_seq ?_
  refine cj_regionG (gj_step (y_assign rfl) rfl rfl rfl (gj_nil ?_))
  refine ej_th (cj_seq (cj_region ?_))
  refine oj_makeMap ekS evB rfl (fun b6 => ?_)
  refine oj_step (y_assign rfl) rfl rfl rfl ?_
  refine oj_nil ?_
  refine ej_th (cj_seq (cj_seq ?_))
  refine cj_regionG (gj_step (y_move rfl) rfl rfl rfl (gj_step (y_lenA Tryz.underlying23 rfl) rfl rfl rfl (gj_step (y_move rfl) rfl rfl rfl (gj_nil ?_))))
  refine ej_th (cj_block ?_)
  refine cj_eqO [mp ekS evB b6 (mapW (l.take 0))] rfl ?_
  refine cj_lpi (X := Nat) [(3, _), (7, _), (8, _)] (fun k => k ≤ l.length ∧ wordsG (l.take k) (l.drop k) = wordsB l) (fun k => [(9, .int .i64 k)]) (fun k => [mp ekS evB b6 (mapW (l.take k))]) (fun k => [sl (fun b => b < w.heap.size) 1 enStr A l]) (fun k => l.length - k) 0 (⟨Nat.zero_le _, rfl⟩) ⟨rfl, rfl, rfl, rfl, trivial⟩ ?_
  rintro k ⟨hk, hs⟩
  dsimp only [List.cons_append, List.nil_append]
  refine cj_seq ?_
  refine cj_regionG (gj_step (y_lss rfl rfl) rfl rfl rfl (gj_nil ?_))
  refine ej_th (cj_seq ?_)
  refine cj_cond rfl (fun h10 => ?_) (fun h10 => ?_)
  · have h10b := h10
    try simp only [sxb] at h10
    obtain ⟨x, hx⟩ : ∃ x, l[k]? = some x := ⟨_, List.getElem?_eq_getElem (by omega)⟩
    rw [wordsG_drop l k x hx] at hs
    have hgl := getL_mapW (l.take k) x
    have htk : l.take (k + 1) = l.take k ++ [x] := by rw [List.take_add_one, hx]; rfl
    refine cj_skip (ej_th (cj_seq (cj_block (cj_seq ?_))))
    refine cj_regionG (gj_step (y_ixR (reads_sl) Tryz.underlying23 Tryz.sizeOf9 rfl rfl (⟨by omega, by omega⟩)) rfl rfl rfl (gj_step (y_ld0 (reads_sl) Tryz.isAgg9 rfl (hx) rfl) rfl rfl rfl (gj_step (y_assign rfl) rfl rfl rfl (gj_nil ?_))))
    refine ej_th (cj_seq (cj_seq ?_))
    refine cj_regionG ?_
    refine gj_step (y_move rfl) rfl rfl rfl (?_)
    refine gj_step (y_call Tryz.call14 rfl (fun w hp => k_IsWord _ w (hsm x (List.mem_of_getElem? hx)))) rfl rfl rfl ?_
    refine gj_step (y_not rfl) rfl rfl rfl (gj_step (y_move rfl) rfl rfl rfl (?_))
    refine gj_g 3 16 19 rfl rfl rfl rfl (fun hg16 => gj_yes rfl rfl rfl (y_move rfl) rfl rfl (gj_yes rfl rfl rfl (y_move rfl) rfl rfl (gj_yes rfl rfl rfl (y_lookup1 (ek := ekS) (ev := evB) false Tryz.underlying139 Tryz.underlying9 Tryz.zeroValue4 rfl rfl) rfl rfl (gj_nil rfl)))) ?_
    refine gj_step (y_or rfl rfl rfl) rfl rfl rfl (?_)
    refine gj_nil ?_
    refine ej_th ?_
    refine cj_cond rfl (fun h20 => ?_) (fun h20 => ?_)
    · have h20b := h20
      try simp only [sxb] at h20
      rw [hgl] at h20b
      have hgo := not_t ((words_V (l.take k) x).symm.trans h20b)
      refine cj_seq ?_
      refine cj_regionG (gj_step (y_assign rfl) rfl rfl rfl (gj_nil ?_))
      refine ej_th (cj_ret (ej_then_ret (ej_blk_ret (ej_then_ret (ej_then_ret (ej_blk_ret (ej_then_ret ?_)))))))
      refine ej_ret1 rfl Tryz.results61 rfl (fun w' hp => ⟨?_, hp.below⟩)
      rw [← hs, hgo]; rfl
    · have h20b := h20
      try simp only [sxb] at h20
      rw [hgl] at h20b
      have hgo := not_f ((words_V (l.take k) x).symm.trans h20b)
      have hnh : hasW (l.take k) x = false := by have := hgo; simp only [Bool.and_eq_true] at this; exact not_t this.2
      refine cj_skip (ej_th (cj_region ?_))
      refine oj_step (y_move rfl) rfl rfl rfl ?_
      refine oj_step (y_move rfl) rfl rfl rfl ?_
      refine oj_mapUpdate (ek := ekS) (ev := evB) (v := true) Tryz.underlying139 Tryz.underlying9 rfl rfl rfl ?_
      rw [putL_newW _ _ hnh, ← htk]
      refine oj_nil ?_
      refine ej_blk (ej_th ?_)
      refine cj_regionG (gj_step (y_add rfl rfl (by omega)) rfl rfl rfl (gj_step (y_move rfl) rfl rfl rfl (gj_nil ?_)))
      exact ej_nx (k + 1) (by omega) ⟨by omega, by rw [← hs, hgo, Bool.true_and]⟩ ⟨rfl, rfl, rfl, rfl, trivial⟩
  · have h10b := h10
    try simp only [sxb] at h10
    refine cj_exit (ej_then_exit (ej_then_exit (ej_blk_hit (ej_th (cj_seq ?_)))))
    refine cj_regionG (gj_step (y_assign rfl) rfl rfl rfl (gj_nil ?_))
    refine ej_th (cj_ret ?_)
    refine ej_ret1 rfl Tryz.results61 rfl (fun w' hp => ⟨?_, hp.below⟩)
    rw [← hs, List.drop_of_length_le (by omega)]; rfl

theorem k_gcl (s : ByteArray) (ns : List ByteArray) (B : Option Addr) (d : Nat) (b : Nat) (w : World) (hb : (ownB b (cellsB 23 [.slice B ns.length d])).P w) (hn : Rd w 1 enStr B ns) : Calls Tryz.prog 63 #[.string s, .pointer (some ⟨b, 0, none⟩)] w (fun e w' => e = .returned (.bool (!(hasW ns s))) ∧ Grow w w') := by
  refine enter_pure (args := [.string s, .pointer (some ⟨b, 0, none⟩)]) [sl (fun b => b < w.heap.size) 1 enStr B ns, ownB b (cellsB 23 [.slice B ns.length d])] Tryz.func63 rfl (by rw [Tryz.ntmps63]; simp) (fun g hg => by simp at hg; rcases hg with rfl | rfl; exact ⟨hn, fun _ h => h⟩; exact ⟨hb, fun i hi => by have : i = b := hi; subst this; exact (Array.getElem?_eq_some_iff.1 hb).1⟩) ?_
  refine cj_seq ?_
  refine cj_regionG (gj_step (y_assign rfl) rfl rfl rfl (gj_nil ?_))
  refine ej_th (cj_seq ?_)
  refine cj_regionG ?_
  refine gj_step (y_loadS1 Tryz.isAgg23 rfl rfl) rfl rfl rfl (gj_step (y_move rfl) rfl rfl rfl (?_))
  refine gj_step (y_call Tryz.call64 rfl (fun w hp => k_ContainsS _ _ _ _ w hp.rd)) rfl rfl rfl ?_
  refine gj_step (y_not rfl) rfl rfl rfl (gj_step (y_assign rfl) rfl rfl rfl (?_))
  refine gj_nil ?_
  refine ej_th (cj_ret ?_)
  exact ej_ret1 rfl Tryz.results63 rfl (fun w' hp => ⟨rfl, hp.below⟩)

theorem k_IndexFS (l : List ByteArray) (A : Option Addr) (c : Nat) (ns : List ByteArray) (B : Option Addr) (d : Nat) (b : Nat) (w : World) (hl : Rd w 1 enStr A l) (hb : (ownB b (cellsB 23 [.slice B ns.length d])).P w) (hn : Rd w 1 enStr B ns) : Calls Tryz.prog 84 #[.slice A l.length c, .func (.func 63) #[] #[.pointer (some ⟨b, 0, none⟩)]] w (fun e w' => e = .returned (.int .i64 (firstN ns l 0)) ∧ Grow w w') := by
  have hlen := hl.len
  refine enter_pure (args := [.slice A l.length c, .func (.func 63) #[] #[.pointer (some ⟨b, 0, none⟩)]]) [sl (fun b => b < w.heap.size) 1 enStr A l, sl (fun b => b < w.heap.size) 1 enStr B ns, ownB b (cellsB 23 [.slice B ns.length d])] Tryz.func84 rfl (by rw [Tryz.ntmps84]; simp) (fun g hg => by simp at hg; rcases hg with rfl | rfl | rfl; exact ⟨hl, fun _ h => h⟩; exact ⟨hn, fun _ h => h⟩; exact ⟨hb, fun i hi => by have : i = b := hi; subst this; exact (Array.getElem?_eq_some_iff.1 hb).1⟩) ?_
  refine cj_seq ?_
  refine cj_regionG (gj_step (y_assign rfl) rfl rfl rfl (gj_nil ?_))
  refine ej_th (cj_seq (cj_seq ?_))
  refine cj_regionG (gj_step (y_move rfl) rfl rfl rfl (gj_step (y_lenA Tryz.underlying23 rfl) rfl rfl rfl (gj_step (y_move rfl) rfl rfl rfl (gj_nil ?_))))
  refine ej_th (cj_block ?_)
  refine cj_lpic (X := Nat) [(0, _), (1, _), (7, _)] (fun k => k ≤ l.length ∧ firstN ns (l.drop k) k = firstN ns l 0) (fun k => [(8, .int .i64 k)]) (fun k => l.length - k) 0 (⟨Nat.zero_le _, rfl⟩) ⟨rfl, rfl, rfl, rfl, trivial⟩ ?_
  rintro k ⟨hk, hs⟩
  dsimp only [List.cons_append, List.nil_append]
  refine cj_seq ?_
  refine cj_regionG (gj_step (y_lss rfl rfl) rfl rfl rfl (gj_nil ?_))
  refine ej_th (cj_seq ?_)
  refine cj_cond rfl (fun h9 => ?_) (fun h9 => ?_)
  · have h9b := h9
    try simp only [sxb] at h9
    obtain ⟨x, hx⟩ : ∃ x, l[k]? = some x := ⟨_, List.getElem?_eq_getElem (by omega)⟩
    rw [firstN_drop ns l k x hx] at hs
    refine cj_skip (ej_th (cj_seq (cj_block (cj_seq ?_))))
    refine cj_regionG (gj_step (y_move rfl) rfl rfl rfl (gj_step (y_assign rfl) rfl rfl rfl (gj_nil ?_)))
    refine ej_th (cj_seq ?_)
    refine cj_regionG ?_
    refine gj_step (y_move rfl) rfl rfl rfl (gj_step (y_move rfl) rfl rfl rfl (gj_step (y_move rfl) rfl rfl rfl (gj_step (y_ixR (reads_sl) Tryz.underlying23 Tryz.sizeOf9 rfl rfl (⟨by omega, by omega⟩)) rfl rfl rfl (gj_step (y_ld0 (reads_sl) Tryz.isAgg9 rfl (hx) rfl) rfl rfl rfl (?_)))))
    refine gj_step (y_callV Tryz.call63 rfl rfl (fun w hp => k_gcl x ns B d b w hp.bs hp.rd)) rfl rfl rfl ?_
    refine gj_nil ?_
    refine ej_th ?_
    refine cj_cond rfl (fun h16 => ?_) (fun h16 => ?_)
    · have h16b := h16
      try simp only [sxb] at h16
      refine cj_seq ?_
      refine cj_regionG (gj_step (y_move rfl) rfl rfl rfl (gj_step (y_assign rfl) rfl rfl rfl (gj_nil ?_)))
      refine ej_th (cj_ret (ej_blk_ret (ej_then_ret (ej_then_ret (ej_blk_ret (ej_then_ret ?_))))))
      refine ej_ret1 rfl Tryz.results84 rfl (fun w' hp => ⟨?_, hp.below⟩)
      rw [← hs, if_pos h16]
    · have h16b := h16
      try simp only [sxb] at h16
      refine cj_skip (ej_blk (ej_th ?_))
      refine cj_regionG (gj_step (y_add rfl rfl (by omega)) rfl rfl rfl (gj_step (y_move rfl) rfl rfl rfl (gj_nil ?_)))
      exact ej_nx (k + 1) (by omega) ⟨by omega, by rw [← hs, if_neg (by simp [h16])]⟩ ⟨rfl, rfl, rfl, rfl, trivial⟩
  · have h9b := h9
    try simp only [sxb] at h9
    refine cj_exit (ej_then_exit (ej_then_exit (ej_blk_hit (ej_th (cj_seq ?_)))))
    refine cj_regionG (gj_step (y_assign rfl) rfl rfl rfl (gj_nil ?_))
    refine ej_th (cj_ret ?_)
    refine ej_ret1 rfl Tryz.results84 rfl (fun w' hp => ⟨?_, hp.below⟩)
    rw [← hs, List.drop_of_length_le (by omega)]; rfl

theorem k_ContainsFS (l : List ByteArray) (A : Option Addr) (c : Nat) (ns : List ByteArray) (B : Option Addr) (d : Nat) (b : Nat) (w : World) (hl : Rd w 1 enStr A l) (hb : (ownB b (cellsB 23 [.slice B ns.length d])).P w) (hn : Rd w 1 enStr B ns) : Calls Tryz.prog 62 #[.slice A l.length c, .func (.func 63) #[] #[.pointer (some ⟨b, 0, none⟩)]] w (fun e w' => e = .returned (.bool (!(l.all (hasW ns)))) ∧ Grow w w') := by
  refine enter_pure (args := [.slice A l.length c, .func (.func 63) #[] #[.pointer (some ⟨b, 0, none⟩)]]) [sl (fun b => b < w.heap.size) 1 enStr A l, sl (fun b => b < w.heap.size) 1 enStr B ns, ownB b (cellsB 23 [.slice B ns.length d])] Tryz.func62 rfl (by rw [Tryz.ntmps62]; simp) (fun g hg => by simp at hg; rcases hg with rfl | rfl | rfl; exact ⟨hl, fun _ h => h⟩; exact ⟨hn, fun _ h => h⟩; exact ⟨hb, fun i hi => by have : i = b := hi; subst this; exact (Array.getElem?_eq_some_iff.1 hb).1⟩) ?_
  refine cj_seq ?_
  refine cj_regionG (gj_step (y_assign rfl) rfl rfl rfl (gj_nil ?_))
  refine ej_th (cj_seq ?_)
  refine cj_regionG ?_
  refine gj_step (y_move rfl) rfl rfl rfl (gj_step (y_move rfl) rfl rfl rfl (?_))
  refine gj_step (y_call Tryz.call84 rfl (fun w hp => k_IndexFS l A c ns B d b w hp.rd hp.bs hp.rd)) rfl rfl rfl ?_
  refine gj_step (y_geq rfl rfl) rfl rfl rfl (gj_step (y_assign rfl) rfl rfl rfl (?_))
  refine gj_nil ?_
  refine ej_th (cj_ret ?_)
  refine ej_ret1 rfl Tryz.results62 rfl (fun w' hp => ⟨?_, hp.below⟩)
  rw [firstN_all]

end Go.Proofs.YtlfbghkcfmcnlaaGreatDoor
namespace Go.Proofs.YtlfbghkcfmcnlaaGreatDoor
open Go.Sx Go.RowKit
set_option maxRecDepth 20000
theorem el23 : ElemIs Tryz.prog 23 9 1 16 := ⟨⟨_, (.string ⟨#[]⟩), Tryz.underlying23, Tryz.type9, by kernel_rfl, by kernel_rfl, by kernel_rfl, by kernel_rfl, by decide⟩⟩
theorem fa37_0 : FieldIs Tryz.prog 37 0 0 1 false := ⟨⟨_, _, Tryz.underlying37, rfl, rfl, Tryz.sizeOf9, Tryz.isAgg9, by decide⟩⟩
theorem fa37_1 : FieldIs Tryz.prog 37 1 1 1 false := ⟨⟨_, _, Tryz.underlying37, rfl, rfl, Tryz.sizeOf35, Tryz.isAgg35, by decide⟩⟩
theorem fa37_2 : FieldIs Tryz.prog 37 2 2 1 false := ⟨⟨_, _, Tryz.underlying37, rfl, rfl, Tryz.sizeOf23, Tryz.isAgg23, by decide⟩⟩
theorem fa37_3 : FieldIs Tryz.prog 37 3 3 1 false := ⟨⟨_, _, Tryz.underlying37, rfl, rfl, Tryz.sizeOf3, Tryz.isAgg3, by decide⟩⟩
theorem fa39_0 : FieldIs Tryz.prog 39 0 0 1 false := ⟨⟨_, _, Tryz.underlying39, rfl, rfl, Tryz.sizeOf9, Tryz.isAgg9, by decide⟩⟩
theorem fa39_1 : FieldIs Tryz.prog 39 1 1 1 false := ⟨⟨_, _, Tryz.underlying39, rfl, rfl, Tryz.sizeOf23, Tryz.isAgg23, by decide⟩⟩
end Go.Proofs.YtlfbghkcfmcnlaaGreatDoor
namespace Go.Proofs.YtlfbghkcfmcnlaaGreatDoor
open Go.Sx Go.RowKit
set_option maxRecDepth 20000
set_option maxHeartbeats 1000000 in
theorem k_grammarOf (l : List ClassV) (A : Option Addr) (c : Nat) (w : World) (hl : Rd w 4 encCl A l) (hgc : ∀ c ∈ l, GoodC w c) : Calls Tryz.prog 31 #[.slice A l.length c] w (fun e w' => ∃ b, e = .returned (.tuple #[.map (bif gramOk l then some b else none), .int .i64 (gramE l)]) ∧ Grow w w' ∧ (gramOk l = true → (mp ekS evC b (gramM l)).P w' ∧ w.heap.size ≤ b ∧ b < w'.heap.size)) := by
  have hlen := hl.len
  refine enter_pure (args := [.slice A l.length c]) [sl (fun b => b < w.heap.size) 4 encCl A l] Tryz.func31 rfl (by rw [Tryz.ntmps31]; simp) (fun g hg => by simp at hg; subst hg; exact ⟨hl, fun _ h => h⟩) ?_
  refine cj_seq ?_
  refine cj_regionG (gj_step (y_assign rfl) rfl rfl rfl (gj_step (y_assign rfl) rfl rfl rfl (gj_nil ?_)))
  refine ej_th (cj_seq (cj_seq ?_))
  refine cj_regionG ?_
  refine gj_step (y_move rfl) rfl rfl rfl (gj_step (y_lenA Tryz.underlying22 rfl) rfl rfl rfl (?_))
  refine gj_step (y_call Tryz.call45 rfl (fun w hp => k_within1 _ _ _ w)) rfl rfl rfl ?_
  refine gj_step (y_not rfl) rfl rfl rfl (?_)
  refine gj_nil ?_
  refine ej_th ?_
  refine cj_cond rfl (fun h16 => ?_) (fun h16 => ?_)
  · have h16b := h16
    try simp only [sxb] at h16
    refine cj_seq ?_
    refine cj_regionG (gj_step (y_assign rfl) rfl rfl rfl (gj_step (y_assign rfl) rfl rfl rfl (gj_nil ?_)))
    refine ej_th (cj_ret (ej_then_ret ?_))
    have hg : gramOk l = false := by rw [gramOk, not_t h16b]; rfl
    exact ej_ret2 rfl Tryz.results31 rfl rfl (fun w' hp => ⟨0, by rw [gramE, hg]; rfl, hp.below, fun h => by rw [hg] at h; cases h⟩)
  · have h16b := h16
    try simp only [sxb] at h16
    have hwi := not_f h16b
    try simp only [Bool.and_eq_true, decide_eq_true_eq] at h16
    refine cj_skip (ej_th (cj_seq (cj_region ?_)))
    refine oj_makeMap ekS evC rfl (fun b17 => ?_)
    refine oj_step (y_assign rfl) rfl rfl rfl ?_
    refine oj_nil ?_
    refine ej_th (cj_seq (cj_region ?_))
    refine oj_alloc Tryz.zeroValue23 rfl rfl (fun b5 => ?_)
    refine oj_nil ?_
    refine ej_th (cj_seq (cj_seq ?_))
    refine cj_regionG (gj_step (y_move rfl) rfl rfl rfl (gj_step (y_lenA Tryz.underlying22 rfl) rfl rfl rfl (gj_step (y_move rfl) rfl rfl rfl (gj_nil ?_))))
    refine ej_th (cj_block ?_)
    refine cj_ownNil 9 1 enStr ?_
    refine cj_eqO [ow 9 1 enStr none 0 [], ownB b5 (cellsB 23 [.slice none ([] : List ByteArray).length 0]), mp ekS evC b17 (putAll [] (l.take 0))] rfl ?_
    refine cj_lpi (X := Nat × Option Addr × Nat × List ByteArray) [(0, _), (2, _), (3, _), (4, _), (5, _), (18, _), (19, _)] (fun ⟨k, A1, c1, xs⟩ => k ≤ l.length ∧ xs = namesC (l.take k)) (fun ⟨k, A1, c1, xs⟩ => [(20, .int .i64 k)]) (fun ⟨k, A1, c1, xs⟩ => [ow 9 1 enStr A1 c1 xs, ownB b5 (cellsB 23 [.slice A1 xs.length c1]), mp ekS evC b17 (putAll [] (l.take k))]) (fun ⟨k, A1, c1, xs⟩ => [sl (fun b => b < w.heap.size) 4 encCl A l]) (fun ⟨k, A1, c1, xs⟩ => l.length - k) (0, none, 0, []) (⟨Nat.zero_le _, rfl⟩) ⟨rfl, rfl, rfl, rfl, rfl, rfl, rfl, rfl, trivial⟩ ?_
    rintro ⟨k, A1, c1, xs⟩ ⟨hk, hxs⟩
    dsimp only [List.cons_append, List.nil_append]
    refine cj_seq ?_
    refine cj_regionG (gj_step (y_lss rfl rfl) rfl rfl rfl (gj_nil ?_))
    refine ej_th (cj_seq ?_)
    refine cj_cond rfl (fun h21 => ?_) (fun h21 => ?_)
    · have h21b := h21
      try simp only [sxb] at h21
      obtain ⟨x, hx⟩ : ∃ x, l[k]? = some x := ⟨_, List.getElem?_eq_getElem (by omega)⟩
      have htk : l.take (k + 1) = l.take k ++ [x] := by rw [List.take_add_one, hx]; rfl
      have hpk : putL (putAll [] (l.take k)) x.name x = putAll [] (l.take (k + 1)) := by rw [htk, putAll_add]
      have hxl : xs.length = k := by rw [hxs]; simp [namesC]; omega
      refine cj_skip (ej_th (cj_seq (cj_block (cj_seq (cj_region ?_)))))
      refine oj_step (y_ixR (reads_sl) Tryz.underlying22 Tryz.sizeOf37 rfl rfl (⟨by omega, by omega⟩)) rfl rfl rfl ?_
      refine oj_step (y_ldW (reads_sl) Tryz.isAgg37 Tryz.sizeOf37 rfl (hx) (fun _ => rfl)) rfl rfl rfl ?_
      refine oj_alloc Tryz.zeroValue37 rfl rfl (fun b7 => ?_)
      refine oj_store rfl rfl rfl rfl Tryz.sizeOf37 rfl ?_
      refine oj_nil ?_
      refine ej_th (cj_seq (cj_region ?_))
      refine oj_step (y_move rfl) rfl rfl rfl ?_
      refine oj_step (y_fa0 fa37_0 rfl) rfl rfl rfl ?_
      refine oj_step (y_load1 Tryz.isAgg9 rfl rfl) rfl rfl rfl ?_
      refine oj_step (y_loadN Tryz.isAgg37 Tryz.sizeOf37 rfl) rfl rfl rfl ?_
      refine oj_mapUpdate (ek := ekS) (ev := evC) (v := x) Tryz.underlying73 Tryz.underlying9 rfl rfl rfl ?_
      rw [hpk]
      refine oj_nil ?_
      refine ej_th (cj_region ?_)
      refine oj_step (y_load1 Tryz.isAgg23 rfl rfl) rfl rfl rfl ?_
      refine oj_step (y_fa0 fa37_0 rfl) rfl rfl rfl ?_
      refine oj_step (y_load1 Tryz.isAgg9 rfl rfl) rfl rfl rfl ?_
      refine oj_buildSlice (cs := [.string x.name]) [.string ⟨#[]⟩] Tryz.underlying23 Tryz.sizeOf9 Tryz.zeroValue9 rfl rfl (by kernel_rfl) (by kernel_rfl) rfl (fun b31 => ?_)
      refine oj_append  el23 (fun _ => rfl) enStr_one rfl rfl rfl (reads_lit [x.name] (fun _ => rfl) rfl) (by simp [maxLen]; omega) (by simp; omega) rfl (fun A32 c32 => ?_)
      refine oj_store rfl rfl rfl rfl Tryz.sizeOf23 rfl ?_
      refine oj_nil ?_
      refine ej_blk (ej_th ?_)
      refine cj_regionG (gj_step (y_add rfl rfl (by omega)) rfl rfl rfl (gj_step (y_move rfl) rfl rfl rfl (gj_nil ?_)))
      exact ej_nx (k + 1, A32, c32, xs ++ [x.name]) (by simp only; omega) ⟨by first | omega | (simp only; omega), by rw [hxs, htk]; simp [namesC]⟩ ⟨rfl, rfl, rfl, rfl, rfl, rfl, rfl, rfl, trivial⟩
    · have h21b := h21
      try simp only [sxb] at h21
      rw [List.take_of_length_le (by omega)] at hxs
      rw [List.take_of_length_le (by omega)]
      subst hxs
      have hnl : (namesC l).length = l.length := by simp [namesC]
      have hns : smS (namesC l) := by
        intro s hs
        obtain ⟨c, hc, rfl⟩ := List.mem_map.1 hs
        exact (hgc c hc).nm
      refine cj_exit (ej_then_exit (ej_then_exit (ej_blk_hit (ej_th (cj_seq (cj_seq ?_))))))
      refine cj_regionG ?_
      refine gj_step (y_load1 Tryz.isAgg23 rfl rfl) rfl rfl rfl (?_)
      refine gj_step (y_call Tryz.call61 rfl (fun w hp => k_words (namesC l) _ _ w (hp.rdO (fun _ => rfl) (by unfold maxLen; rw [hnl]; omega)) hns)) rfl rfl rfl ?_
      refine gj_step (y_not rfl) rfl rfl rfl (?_)
      refine gj_nil ?_
      refine ej_th ?_
      refine cj_cond rfl (fun h36 => ?_) (fun h36 => ?_)
      · have h36b := h36
        try simp only [sxb] at h36
        refine cj_seq ?_
        refine cj_regionG (gj_step (y_assign rfl) rfl rfl rfl (gj_step (y_assign rfl) rfl rfl rfl (gj_nil ?_)))
        refine ej_th (cj_ret (ej_then_ret ?_))
        have hg : gramOk l = false := by rw [gramOk, not_t h36b]; simp
        exact ej_ret2 rfl Tryz.results31 rfl rfl (fun w' hp => ⟨0, by rw [gramE, hg]; rfl, hp.below, fun h => by rw [hg] at h; cases h⟩)
      · have h36b := h36
        try simp only [sxb] at h36
        refine cj_skip (ej_th (cj_seq (cj_seq ?_)))
        refine cj_regionG (gj_step (y_move rfl) rfl rfl rfl (gj_step (y_lenA Tryz.underlying22 rfl) rfl rfl rfl (gj_step (y_move rfl) rfl rfl rfl (gj_nil ?_))))
        refine ej_th (cj_block ?_)
        refine cj_lpic (X := Nat) [(4, _), (5, _), (37, _), (38, _)] (fun k => k ≤ l.length ∧ (l.drop k).all (classOk (namesC l)) = l.all (classOk (namesC l))) (fun k => [(39, .int .i64 k)]) (fun k => l.length - k) 0 (⟨Nat.zero_le _, rfl⟩) ⟨rfl, rfl, rfl, rfl, rfl, trivial⟩ ?_
        rintro k ⟨hk, hal⟩
        dsimp only [List.cons_append, List.nil_append]
        refine cj_seq ?_
        refine cj_regionG (gj_step (y_lss rfl rfl) rfl rfl rfl (gj_nil ?_))
        refine ej_th (cj_seq ?_)
        refine cj_cond rfl (fun h40 => ?_) (fun h40 => ?_)
        · have h40b := h40
          try simp only [sxb] at h40
          obtain ⟨x, hx⟩ : ∃ x, l[k]? = some x := ⟨_, List.getElem?_eq_getElem (by omega)⟩
          rw [all_drop _ l k x hx] at hal
          have hgx := hgc x (List.mem_of_getElem? hx)
          have hl1 := hgx.rt.len
          have hl2 := hgx.rp.len
          refine cj_rd hgx.rp (fun _ h => h) ?_
          refine cj_rd hgx.rt (fun _ h => h) ?_
          refine cj_skip (ej_th (cj_seq (cj_block (cj_seq (cj_region ?_)))))
          refine oj_step (y_ixR (reads_sl) Tryz.underlying22 Tryz.sizeOf37 rfl rfl (⟨by omega, by omega⟩)) rfl rfl rfl ?_
          refine oj_step (y_ldW (reads_sl) Tryz.isAgg37 Tryz.sizeOf37 rfl (hx) (fun _ => rfl)) rfl rfl rfl ?_
          refine oj_alloc Tryz.zeroValue37 rfl rfl (fun b9 => ?_)
          refine oj_store rfl rfl rfl rfl Tryz.sizeOf37 rfl ?_
          refine oj_nil ?_
          refine ej_th (cj_seq (cj_seq ?_))
          refine cj_regionG ?_
          refine gj_step (y_fa fa37_1 rfl) rfl rfl rfl (gj_step (y_load1 Tryz.isAgg35 rfl rfl) rfl rfl rfl (gj_step (y_lenA Tryz.underlying35 rfl) rfl rfl rfl (gj_step (y_gtr rfl rfl) rfl rfl rfl (gj_step (y_move rfl) rfl rfl rfl (?_)))))
          refine gj_g 4 47 51 rfl rfl rfl rfl (fun hg47 => gj_yes rfl rfl rfl (y_fa fa37_3 rfl) rfl rfl (gj_yes rfl rfl rfl (y_load1 Tryz.isAgg3 rfl rfl) rfl rfl (gj_yes rfl rfl rfl (y_call Tryz.call45 rfl (fun w hp => k_within1 _ _ _ w)) rfl rfl (gj_yes rfl rfl rfl (y_not rfl) rfl rfl (gj_nil rfl))))) ?_
          refine gj_step (y_or rfl rfl rfl) rfl rfl rfl (gj_step (y_move rfl) rfl rfl rfl (?_))
          refine gj_g 9 53 62 rfl rfl rfl rfl (fun hg53 => gj_yes rfl rfl rfl (y_fa fa37_2 rfl) rfl rfl (gj_yes rfl rfl rfl (y_load1 Tryz.isAgg23 rfl rfl) rfl rfl (gj_yes rfl rfl rfl (y_lenA Tryz.underlying23 rfl) rfl rfl (gj_yes rfl rfl rfl (y_eql rfl rfl) rfl rfl (gj_yes rfl rfl rfl (y_move rfl) rfl rfl (gj_g 3 58 61 rfl rfl rfl rfl (fun hg58 => gj_yes rfl rfl rfl (y_fa fa37_3 rfl) rfl rfl (gj_yes rfl rfl rfl (y_load1 Tryz.isAgg3 rfl rfl) rfl rfl (gj_yes rfl rfl rfl (y_neq rfl rfl) rfl rfl (gj_nil rfl)))) (gj_yes rfl rfl rfl (y_and rfl rfl rfl) rfl rfl (gj_nil rfl)))))))) ?_
          refine gj_step (y_or rfl rfl rfl) rfl rfl rfl (gj_step (y_move rfl) rfl rfl rfl (?_))
          refine gj_g 4 64 68 rfl rfl rfl rfl (fun hg64 => gj_yes rfl rfl rfl (y_fa fa37_2 rfl) rfl rfl (gj_yes rfl rfl rfl (y_load1 Tryz.isAgg23 rfl rfl) rfl rfl (gj_yes rfl rfl rfl (y_call Tryz.call61 rfl (fun w hp => k_words x.parts _ _ w hp.rd hgx.sm)) rfl rfl (gj_yes rfl rfl rfl (y_not rfl) rfl rfl (gj_nil rfl))))) ?_
          refine gj_step (y_or rfl rfl rfl) rfl rfl rfl (?_)
          refine gj_nil ?_
          refine ej_th ?_
          refine cj_cond rfl (fun h69 => ?_) (fun h69 => ?_)
          · have h69b := h69
            try simp only [sxb] at h69
            have hc1 : class1 x = false := by unfold class1; rw [h69b]; rfl
            refine cj_seq ?_
            refine cj_regionG (gj_step (y_assign rfl) rfl rfl rfl (gj_step (y_assign rfl) rfl rfl rfl (gj_nil ?_)))
            refine ej_th (cj_ret (ej_then_ret (ej_blk_ret (ej_then_ret (ej_then_ret (ej_blk_ret (ej_then_ret ?_)))))))
            have hg : gramOk l = false := by rw [gramOk, ← hal, classOk, hc1]; simp
            exact ej_ret2 rfl Tryz.results31 rfl rfl (fun w' hp => ⟨0, by rw [gramE, hg]; rfl, hp.below, fun h => by rw [hg] at h; cases h⟩)
          · have h69b := h69
            try simp only [sxb] at h69
            have hc1 : class1 x = true := by unfold class1; rw [h69b]; rfl
            have ht8 := class1_tr hc1
            refine cj_skip (ej_th (cj_seq (cj_seq ?_)))
            refine cj_regionG ?_
            refine gj_step (y_fa fa37_2 rfl) rfl rfl rfl (gj_step (y_load1 Tryz.isAgg23 rfl rfl) rfl rfl rfl (gj_step (y_makeFunc rfl rfl) rfl rfl rfl (?_)))
            refine gj_step (y_call Tryz.call62 rfl (fun w hp => k_ContainsFS x.parts _ _ (namesC l) A1 c1 b5 w hp.rd hp.bo (hp.rdO (fun _ => rfl) (by unfold maxLen; rw [hnl]; omega)))) rfl rfl rfl ?_
            refine gj_nil ?_
            refine ej_th ?_
            refine cj_cond rfl (fun h73 => ?_) (fun h73 => ?_)
            · have h73b := h73
              try simp only [sxb] at h73
              have hpa := not_t h73b
              refine cj_seq ?_
              refine cj_regionG (gj_step (y_assign rfl) rfl rfl rfl (gj_step (y_assign rfl) rfl rfl rfl (gj_nil ?_)))
              refine ej_th (cj_ret (ej_then_ret (ej_blk_ret (ej_then_ret (ej_then_ret (ej_blk_ret (ej_then_ret ?_)))))))
              have hg : gramOk l = false := by rw [gramOk, ← hal, classOk, hpa]; simp
              exact ej_ret2 rfl Tryz.results31 rfl rfl (fun w' hp => ⟨0, by rw [gramE, hg]; rfl, hp.below, fun h => by rw [hg] at h; cases h⟩)
            · have h73b := h73
              try simp only [sxb] at h73
              have hpa := not_f h73b
              refine cj_skip (ej_th (cj_seq ?_))
              refine cj_regionG (gj_step (y_assign rfl) rfl rfl rfl (gj_nil ?_))
              refine ej_th (cj_seq (cj_seq ?_))
              refine cj_regionG (gj_step (y_fa fa37_1 rfl) rfl rfl rfl (gj_step (y_load1 Tryz.isAgg35 rfl rfl) rfl rfl rfl (gj_step (y_lenA Tryz.underlying35 rfl) rfl rfl rfl (gj_step (y_move rfl) rfl rfl rfl (gj_nil ?_)))))
              refine ej_th (cj_block ?_)
              refine cj_ownNil 9 1 enStr ?_
              refine cj_lpi (X := Nat × Option Addr × Nat × List ByteArray) [(39, _), (4, _), (5, _), (37, _), (38, _), (75, _), (76, _)] (fun ⟨j, A2, c2, ys⟩ => j ≤ x.traits.length ∧ ys = (x.traits.take j).map (·.name) ∧ (x.traits.drop j).all traitOk = x.traits.all traitOk) (fun ⟨j, A2, c2, ys⟩ => [(10, .slice A2 ys.length c2), (77, .int .i64 j)]) (fun ⟨j, A2, c2, ys⟩ => [ow 9 1 enStr A2 c2 ys, ow 9 1 enStr A1 c1 (namesC l), ownB b5 (cellsB 23 [.slice A1 (namesC l).length c1]), mp ekS evC b17 (putAll [] l)]) (fun ⟨j, A2, c2, ys⟩ => [sl (fun b => b < w.heap.size) 3 encTr x.At x.traits, sl (fun b => b < w.heap.size) 1 enStr x.Ap x.parts, sl (fun b => b < w.heap.size) 4 encCl A l]) (fun ⟨j, A2, c2, ys⟩ => x.traits.length - j) (0, none, 0, []) (⟨Nat.zero_le _, rfl, rfl⟩) ⟨rfl, rfl, rfl, rfl, rfl, rfl, rfl, rfl, rfl, trivial⟩ ?_
              rintro ⟨j, A2, c2, ys⟩ ⟨hj, hys, htl⟩
              dsimp only [List.cons_append, List.nil_append]
              refine cj_seq ?_
              refine cj_regionG (gj_step (y_lss rfl rfl) rfl rfl rfl (gj_nil ?_))
              refine ej_th (cj_seq ?_)
              refine cj_cond rfl (fun h78 => ?_) (fun h78 => ?_)
              · have h78b := h78
                try simp only [sxb] at h78
                obtain ⟨t, hy⟩ : ∃ t, x.traits[j]? = some t := ⟨_, List.getElem?_eq_getElem (by omega)⟩
                rw [all_drop _ x.traits j t hy] at htl
                have htk2 : x.traits.take (j + 1) = x.traits.take j ++ [t] := by rw [List.take_add_one, hy]; rfl
                have hyl : ys.length = j := by rw [hys]; simp; omega
                have hgt := hgx.tr t (List.mem_of_getElem? hy)
                have hl3 := hgt.rd.len
                refine cj_rd hgt.rd (fun _ h => h) ?_
                refine cj_skip (ej_th (cj_seq (cj_block (cj_seq (cj_region ?_)))))
                refine oj_step (y_ixR (reads_sl) Tryz.underlying35 Tryz.sizeOf39 rfl rfl (⟨by omega, by omega⟩)) rfl rfl rfl ?_
                refine oj_step (y_ldW (reads_sl) Tryz.isAgg39 Tryz.sizeOf39 rfl (hy) (fun _ => rfl)) rfl rfl rfl ?_
                refine oj_alloc Tryz.zeroValue39 rfl rfl (fun b12 => ?_)
                refine oj_store rfl rfl rfl rfl Tryz.sizeOf39 rfl ?_
                refine oj_nil ?_
                refine ej_th (cj_seq (cj_region ?_))
                refine oj_step (y_move rfl) rfl rfl rfl ?_
                refine oj_step (y_fa0 fa39_0 rfl) rfl rfl rfl ?_
                refine oj_step (y_load1 Tryz.isAgg9 rfl rfl) rfl rfl rfl ?_
                refine oj_buildSlice (cs := [.string t.name]) [.string ⟨#[]⟩] Tryz.underlying23 Tryz.sizeOf9 Tryz.zeroValue9 rfl rfl (by kernel_rfl) (by kernel_rfl) rfl (fun b84 => ?_)
                refine oj_append  el23 (fun _ => rfl) enStr_one rfl rfl rfl (reads_lit [t.name] (fun _ => rfl) rfl) (by simp [maxLen]; omega) (by simp; omega) rfl (fun A85 c85 => ?_)
                refine oj_step (y_assign rfl) rfl rfl rfl ?_
                refine oj_nil ?_
                refine ej_th (cj_seq ?_)
                refine cj_regionG ?_
                refine gj_step (y_fa fa39_1 rfl) rfl rfl rfl (gj_step (y_load1 Tryz.isAgg23 rfl rfl) rfl rfl rfl (gj_step (y_lenA Tryz.underlying23 rfl) rfl rfl rfl (?_)))
                refine gj_step (y_call Tryz.call45 rfl (fun w hp => k_within1 _ _ _ w)) rfl rfl rfl ?_
                refine gj_step (y_not rfl) rfl rfl rfl (gj_step (y_move rfl) rfl rfl rfl (?_))
                refine gj_g 4 91 95 rfl rfl rfl rfl (fun hg91 => gj_yes rfl rfl rfl (y_fa fa39_1 rfl) rfl rfl (gj_yes rfl rfl rfl (y_load1 Tryz.isAgg23 rfl rfl) rfl rfl (gj_yes rfl rfl rfl (y_call Tryz.call61 rfl (fun w hp => k_words t.vals _ _ w hp.rd (hgx.tr t (List.mem_of_getElem? hy)).sm)) rfl rfl (gj_yes rfl rfl rfl (y_not rfl) rfl rfl (gj_nil rfl))))) ?_
                refine gj_step (y_or rfl rfl rfl) rfl rfl rfl (?_)
                refine gj_nil ?_
                refine ej_th ?_
                refine cj_cond rfl (fun h96 => ?_) (fun h96 => ?_)
                · have h96b := h96
                  try simp only [sxb] at h96
                  have hto : traitOk t = false := by unfold traitOk; rw [h96b]; rfl
                  refine cj_seq ?_
                  refine cj_regionG (gj_step (y_assign rfl) rfl rfl rfl (gj_step (y_assign rfl) rfl rfl rfl (gj_nil ?_)))
                  refine ej_th (cj_ret (ej_blk_ret (ej_then_ret (ej_then_ret (ej_blk_ret (ej_then_ret (ej_blk_ret (ej_then_ret (ej_then_ret (ej_blk_ret (ej_then_ret ?_)))))))))))
                  have hg : gramOk l = false := by rw [gramOk, ← hal, classOk, ← htl, hto]; simp
                  exact ej_ret2 rfl Tryz.results31 rfl rfl (fun w' hp => ⟨0, by rw [gramE, hg]; rfl, hp.below, fun h => by rw [hg] at h; cases h⟩)
                · have h96b := h96
                  try simp only [sxb] at h96
                  have hto : traitOk t = true := by unfold traitOk; rw [h96b]; rfl
                  refine cj_skip (ej_blk (ej_th ?_))
                  refine cj_regionG (gj_step (y_add rfl rfl (by omega)) rfl rfl rfl (gj_step (y_move rfl) rfl rfl rfl (gj_nil ?_)))
                  exact ej_nx (j + 1, A85, c85, ys ++ [t.name]) (by simp only; omega) ⟨by first | omega | (simp only; omega), by rw [hys, htk2]; simp, by rw [← htl, hto, Bool.true_and]⟩ ⟨rfl, rfl, rfl, rfl, rfl, rfl, rfl, rfl, rfl, trivial⟩
              · have h78b := h78
                try simp only [sxb] at h78
                rw [List.take_of_length_le (by omega)] at hys
                rw [List.drop_of_length_le (by omega)] at htl
                have hts : smS ys := by
                  rw [hys]
                  intro s hs
                  obtain ⟨t, ht, rfl⟩ := List.mem_map.1 hs
                  exact (hgx.tr t ht).nm
                have hml : ys.length ≤ maxLen := by rw [hys]; unfold maxLen; simp only [List.length_map]; omega
                refine cj_exit (ej_then_exit (ej_then_exit (ej_blk_hit (ej_th (cj_seq ?_)))))
                refine cj_regionG ?_
                refine gj_step (y_move rfl) rfl rfl rfl (?_)
                refine gj_step (y_call Tryz.call61 rfl (fun w hp => k_words ys A2 c2 w (hp.rdO (A := A2) (fun _ => rfl) hml) hts)) rfl rfl rfl ?_
                refine gj_step (y_not rfl) rfl rfl rfl (?_)
                refine gj_nil ?_
                refine ej_th ?_
                refine cj_cond rfl (fun h100 => ?_) (fun h100 => ?_)
                · have h100b := h100
                  try simp only [sxb] at h100
                  refine cj_seq ?_
                  refine cj_regionG (gj_step (y_assign rfl) rfl rfl rfl (gj_step (y_assign rfl) rfl rfl rfl (gj_nil ?_)))
                  refine ej_th (cj_ret (ej_blk_ret (ej_then_ret (ej_then_ret (ej_blk_ret (ej_then_ret ?_))))))
                  have hg : gramOk l = false := by rw [gramOk, ← hal, classOk, ← hys, not_t h100b]; simp
                  exact ej_ret2 rfl Tryz.results31 rfl rfl (fun w' hp => ⟨0, by rw [gramE, hg]; rfl, hp.below, fun h => by rw [hg] at h; cases h⟩)
                · have h100b := h100
                  try simp only [sxb] at h100
                  have hco : classOk (namesC l) x = true := by rw [classOk, hc1, hpa, ← htl, ← hys, not_f h100b]; rfl
                  refine cj_skip (ej_blk (ej_th ?_))
                  refine cj_regionG (gj_step (y_add rfl rfl (by omega)) rfl rfl rfl (gj_step (y_move rfl) rfl rfl rfl (gj_nil ?_)))
                  exact ej_nx (k + 1) (by omega) ⟨by omega, by rw [← hal, hco, Bool.true_and]⟩ ⟨rfl, rfl, rfl, rfl, rfl, trivial⟩
        · have h40b := h40
          try simp only [sxb] at h40
          refine cj_exit (ej_then_exit (ej_then_exit (ej_blk_hit (ej_th (cj_seq ?_)))))
          refine cj_regionG (gj_step (y_move rfl) rfl rfl rfl (gj_step (y_assign rfl) rfl rfl rfl (gj_step (y_assign rfl) rfl rfl rfl (gj_nil ?_))))
          refine ej_th (cj_ret ?_)
          have hg : gramOk l = true := by rw [gramOk, hwi, not_f h36b, ← hal, List.drop_of_length_le (by omega)]; rfl
          exact ej_ret2 rfl Tryz.results31 rfl rfl (fun w' hp => ⟨b17, by rw [gramE, hg]; rfl, hp.below, fun _ => hp.newM⟩)

end Go.Proofs.YtlfbghkcfmcnlaaGreatDoor
namespace Go.Proofs.YtlfbghkcfmcnlaaGreatDoor
open Go.Sx Go.RowKit
set_option maxRecDepth 20000
theorem fa26_0 : FieldIs Tryz.prog 26 0 0 1 false := ⟨⟨_, _, Tryz.underlying26, rfl, rfl, Tryz.sizeOf9, Tryz.isAgg9, by decide⟩⟩
theorem fa26_1 : FieldIs Tryz.prog 26 1 1 1 false := ⟨⟨_, _, Tryz.underlying26, rfl, rfl, Tryz.sizeOf23, Tryz.isAgg23, by decide⟩⟩
theorem fa26_2 : FieldIs Tryz.prog 26 2 2 1 false := ⟨⟨_, _, Tryz.underlying26, rfl, rfl, Tryz.sizeOf24, Tryz.isAgg24, by decide⟩⟩
theorem fa39_2 : FieldIs Tryz.prog 39 2 2 1 false := ⟨⟨_, _, Tryz.underlying39, rfl, rfl, Tryz.sizeOf4, Tryz.isAgg4, by decide⟩⟩
end Go.Proofs.YtlfbghkcfmcnlaaGreatDoor
namespace Go.Proofs.YtlfbghkcfmcnlaaGreatDoor
open Go.Sx Go.RowKit
set_option maxRecDepth 20000
set_option maxHeartbeats 4000000 in
theorem k_fits (x : ItemV) (b : Nat) (g : List (ByteArray × ClassV)) (deep most : Int) (w : World) (hM : (mp ekS evC b g).P w) (hbl : b < w.heap.size) (hgg : ∀ p ∈ g, GoodC w p.2) (hx : GoodI w x) (hd : 1 ≤ deep ∧ deep ≤ 4) (hmo : 0 ≤ most ∧ most ≤ 24) (ih : ∀ p ∈ x.parts, ∀ (w1 : World) (dp mo : Int), Grow w w1 → 1 ≤ dp ∧ dp ≤ 4 → 0 ≤ mo ∧ mo ≤ 24 → Calls Tryz.prog 34 #[.map (some b), evI p, .int .i64 dp, .int .i64 mo] w1 (fun e w' => e = .returned (.tuple #[.int .i64 ((fitsI g p dp mo).getD 0), .bool (fitsI g p dp mo).isSome]) ∧ Grow w1 w')) : Calls Tryz.prog 34 #[.map (some b), evI x, .int .i64 deep, .int .i64 most] w (fun e w' => e = .returned (.tuple #[.int .i64 ((fitsI g x deep most).getD 0), .bool (fitsI g x deep most).isSome]) ∧ Grow w w') := by
  have hl1 := hx.rs.len
  have hl2 := hx.rp.len
  refine enter_pure (args := [.map (some b), evI x, .int .i64 deep, .int .i64 most]) [mp ekS evC b g] Tryz.func34 rfl (by rw [Tryz.ntmps34]; simp) (fun f hf => by simp at hf; subst hf; exact ⟨hM, fun i hi => by have : i = b := hi; subst this; exact hbl⟩) ?_
  refine cj_seq (cj_region ?_)
  refine oj_box rfl rfl rfl (fun b5 => ?_)
  refine oj_step (y_assign rfl) rfl rfl rfl ?_
  refine oj_step (y_assign rfl) rfl rfl rfl ?_
  refine oj_nil ?_
  refine ej_th (cj_seq (cj_region ?_))
  refine oj_step (y_move rfl) rfl rfl rfl ?_
  refine oj_step (y_fa0 fa26_0 rfl) rfl rfl rfl ?_
  refine oj_step (y_load1 Tryz.isAgg9 rfl rfl) rfl rfl rfl ?_
  refine oj_step (y_lookupS (ek := ekS) (ev := evC) zC Tryz.underlying73 Tryz.underlying9 Tryz.zeroValue37 rfl rfl) rfl rfl rfl ?_
  refine oj_step (y_move rfl) rfl rfl rfl ?_
  refine oj_step (y_extract rfl rfl) rfl rfl rfl ?_
  refine oj_step (y_extract rfl rfl) rfl rfl rfl ?_
  refine oj_alloc Tryz.zeroValue37 rfl rfl (fun b10 => ?_)
  refine oj_store rfl rfl rfl rfl Tryz.sizeOf37 rfl ?_
  refine oj_step (y_assign rfl) rfl rfl rfl ?_
  refine oj_nil ?_
  refine ej_th (cj_seq (cj_seq ?_))
  refine cj_regionG (gj_step (y_move rfl) rfl rfl rfl (gj_step (y_not rfl) rfl rfl rfl (gj_step (y_move rfl) rfl rfl rfl (gj_g 2 28 30 rfl rfl rfl rfl (fun hg28 => gj_yes rfl rfl rfl (y_move rfl) rfl rfl (gj_yes rfl rfl rfl (y_gtr rfl rfl) rfl rfl (gj_nil rfl))) (gj_step (y_or rfl rfl rfl) rfl rfl rfl (gj_step (y_move rfl) rfl rfl rfl (gj_g 2 32 34 rfl rfl rfl rfl (fun hg32 => gj_yes rfl rfl rfl (y_move rfl) rfl rfl (gj_yes rfl rfl rfl (y_lss rfl rfl) rfl rfl (gj_nil rfl))) (gj_step (y_or rfl rfl rfl) rfl rfl rfl (gj_step (y_move rfl) rfl rfl rfl (gj_g 7 36 43 rfl rfl rfl rfl (fun hg36 => gj_yes rfl rfl rfl (y_fa fa26_1 rfl) rfl rfl (gj_yes rfl rfl rfl (y_load1 Tryz.isAgg23 rfl rfl) rfl rfl (gj_yes rfl rfl rfl (y_lenA Tryz.underlying23 rfl) rfl rfl (gj_yes rfl rfl rfl (y_fa fa37_1 rfl) rfl rfl (gj_yes rfl rfl rfl (y_load1 Tryz.isAgg35 rfl rfl) rfl rfl (gj_yes rfl rfl rfl (y_lenA Tryz.underlying35 rfl) rfl rfl (gj_yes rfl rfl rfl (y_neq rfl rfl) rfl rfl (gj_nil rfl)))))))) (gj_step (y_or rfl rfl rfl) rfl rfl rfl (gj_step (y_move rfl) rfl rfl rfl (gj_g 6 45 51 rfl rfl rfl rfl (fun hg45 => gj_yes rfl rfl rfl (y_fa fa26_2 rfl) rfl rfl (gj_yes rfl rfl rfl (y_load1 Tryz.isAgg24 rfl rfl) rfl rfl (gj_yes rfl rfl rfl (y_lenA Tryz.underlying24 rfl) rfl rfl (gj_yes rfl rfl rfl (y_fa fa37_3 rfl) rfl rfl (gj_yes rfl rfl rfl (y_load1 Tryz.isAgg3 rfl rfl) rfl rfl (gj_yes rfl rfl rfl (y_gtr rfl rfl) rfl rfl (gj_nil rfl))))))) (gj_step (y_or rfl rfl rfl) rfl rfl rfl (gj_nil ?_)))))))))))))))
  refine ej_th ?_
  refine cj_cond rfl (fun h52 => ?_) (fun h52 => ?_)
  · have h52b := h52
    try simp only [sxb] at h52
    refine cj_seq ?_
    refine cj_regionG (gj_step (y_assign rfl) rfl rfl rfl (gj_step (y_assign rfl) rfl rfl rfl (gj_nil ?_)))
    refine ej_th (cj_ret (ej_then_ret ?_))
    have hf : fitsI g x deep most = none := by exact fitsI_none h52b
    exact ej_ret2 rfl Tryz.results34 rfl rfl (fun w' hp => ⟨by rw [hf]; rfl, hp.below⟩)
  · have h52b := h52
    try simp only [sxb] at h52
    obtain ⟨c, hc, hd3, hm1, hsl, hfi⟩ := fitsI_some h52b
    rw [hc]
    dsimp only [Option.getD_some]
    obtain ⟨pc, hpc, hpe⟩ := getL_mem hc
    have hgc := hgg pc hpc
    rw [hpe] at hgc
    have hl3 := hgc.rt.len
    have hl4 := hgc.rp.len
    refine cj_rd hx.rs (fun _ h => h) ?_
    refine cj_rd hx.rp (fun _ h => h) ?_
    refine cj_rd hgc.rt (fun _ h => h) ?_
    refine cj_rd hgc.rp (fun _ h => h) ?_
    refine cj_skip (ej_th (cj_seq (cj_seq ?_)))
    refine cj_regionG (gj_step (y_fa fa37_1 rfl) rfl rfl rfl (gj_step (y_load1 Tryz.isAgg35 rfl rfl) rfl rfl rfl (gj_step (y_lenA Tryz.underlying35 rfl) rfl rfl rfl (gj_step (y_move rfl) rfl rfl rfl (gj_nil ?_)))))
    refine ej_th (cj_block ?_)
    refine cj_lpic (X := Nat) [(0, _), (2, _), (3, _), (5, _), (10, _), (54, _), (55, _)] (fun k => k ≤ c.traits.length ∧ saysOk (c.traits.drop k) (x.says.drop k) = saysOk c.traits x.says) (fun k => [(56, .int .i64 k)]) (fun k => c.traits.length - k) 0 (⟨Nat.zero_le _, rfl⟩) ⟨rfl, rfl, rfl, rfl, rfl, rfl, rfl, rfl, trivial⟩ ?_
    rintro k ⟨hk, hso⟩
    dsimp only [List.cons_append, List.nil_append]
    refine cj_seq ?_
    refine cj_regionG (gj_step (y_lss rfl rfl) rfl rfl rfl (gj_nil ?_))
    refine ej_th (cj_seq ?_)
    refine cj_cond rfl (fun h57 => ?_) (fun h57 => ?_)
    · have h57b := h57
      try simp only [sxb] at h57
      obtain ⟨t, ht⟩ : ∃ t, c.traits[k]? = some t := ⟨_, List.getElem?_eq_getElem (by omega)⟩
      obtain ⟨s, hs⟩ : ∃ s, x.says[k]? = some s := ⟨_, List.getElem?_eq_getElem (by omega)⟩
      rw [saysOk_drop _ _ k t s ht hs] at hso
      have hgt := hgc.tr t (List.mem_of_getElem? ht)
      have hl5 := hgt.rd.len
      refine cj_rd hgt.rd (fun _ h => h) ?_
      refine cj_skip (ej_th (cj_seq (cj_block (cj_seq (cj_region ?_)))))
      refine oj_step (y_move rfl) rfl rfl rfl ?_
      refine oj_step (y_ixR (reads_sl) Tryz.underlying35 Tryz.sizeOf39 rfl rfl (⟨by omega, by omega⟩)) rfl rfl rfl ?_
      refine oj_step (y_ldW (reads_sl) Tryz.isAgg39 Tryz.sizeOf39 rfl (ht) (fun _ => rfl)) rfl rfl rfl ?_
      refine oj_alloc Tryz.zeroValue39 rfl rfl (fun b13 => ?_)
      refine oj_step (y_assign rfl) rfl rfl rfl ?_
      refine oj_store rfl rfl rfl rfl Tryz.sizeOf39 rfl ?_
      refine oj_nil ?_
      refine ej_th (cj_seq ?_)
      refine cj_draw (by kernel_rfl) (by kernel_rfl) ?_
      refine gj_step (y_fa fa26_1 rfl) rfl rfl rfl (gj_step (y_load1 Tryz.isAgg23 rfl rfl) rfl rfl rfl (gj_step (y_move rfl) rfl rfl rfl (gj_step (y_ixR (reads_sl) Tryz.underlying23 Tryz.sizeOf9 rfl rfl (⟨by omega, by omega⟩)) rfl rfl rfl (gj_step (y_ld0 (reads_sl) Tryz.isAgg9 rfl (hs) rfl) rfl rfl rfl (gj_step (y_eqlS rfl rfl) rfl rfl rfl (gj_step (y_move rfl) rfl rfl rfl (?_)))))))
      refine gj_g 2 67 69 rfl rfl rfl rfl (fun hg67 => gj_yes rfl rfl rfl (y_fa fa39_2 rfl) rfl rfl (gj_yes rfl rfl rfl (y_load1 Tryz.isAgg4 rfl rfl) rfl rfl (gj_nil rfl))) ?_
      refine gj_step (y_and rfl rfl rfl) rfl rfl rfl (gj_step (y_move rfl) rfl rfl rfl (?_))
      refine gj_g 17 71 88 rfl rfl rfl rfl (fun hg71 => gj_yes rfl rfl rfl (y_fa fa26_1 rfl) rfl rfl (gj_yes rfl rfl rfl (y_load1 Tryz.isAgg23 rfl rfl) rfl rfl (gj_yes rfl rfl rfl (y_move rfl) rfl rfl (gj_yes rfl rfl rfl (y_ixR (reads_sl) Tryz.underlying23 Tryz.sizeOf9 rfl rfl (⟨by omega, by omega⟩)) rfl rfl (gj_yes rfl rfl rfl (y_ld0 (reads_sl) Tryz.isAgg9 rfl (hs) rfl) rfl rfl (gj_yes rfl rfl rfl (y_neqS rfl rfl) rfl rfl (gj_yes rfl rfl rfl (y_move rfl) rfl rfl (gj_g 9 78 87 rfl rfl rfl rfl (fun hg78 => gj_yes rfl rfl rfl (y_fa fa39_1 rfl) rfl rfl (gj_yes rfl rfl rfl (y_load1 Tryz.isAgg23 rfl rfl) rfl rfl (gj_yes rfl rfl rfl (y_fa fa26_1 rfl) rfl rfl (gj_yes rfl rfl rfl (y_load1 Tryz.isAgg23 rfl rfl) rfl rfl (gj_yes rfl rfl rfl (y_move rfl) rfl rfl (gj_yes rfl rfl rfl (y_ixR (reads_sl) Tryz.underlying23 Tryz.sizeOf9 rfl rfl (⟨by omega, by omega⟩)) rfl rfl (gj_yes rfl rfl rfl (y_ld0 (reads_sl) Tryz.isAgg9 rfl (hs) rfl) rfl rfl (gj_yes rfl rfl rfl (y_call Tryz.call64 rfl (fun w hp => k_ContainsS t.vals _ _ s w hp.rd)) rfl rfl (gj_yes rfl rfl rfl (y_not rfl) rfl rfl (gj_nil rfl)))))))))) (gj_yes rfl rfl rfl (y_and rfl rfl rfl) rfl rfl (gj_nil rfl)))))))))) ?_
      refine gj_step (y_or rfl rfl rfl) rfl rfl rfl (?_)
      refine gj_nil ?_
      refine ej_th ?_
      refine cj_cond rfl (fun h89 => ?_) (fun h89 => ?_)
      · have h89b := h89
        try simp only [sxb] at h89
        have hon : saysOne t s = false := congrArg Bool.not h89b
        refine cj_seq ?_
        refine cj_regionG (gj_step (y_assign rfl) rfl rfl rfl (gj_step (y_assign rfl) rfl rfl rfl (gj_nil ?_)))
        refine ej_th (cj_ret (ej_blk_ret (ej_then_ret (ej_then_ret (ej_blk_ret (ej_then_ret ?_))))))
        have hf : fitsI g x deep most = none := by rw [hfi, ← hso, hon]; rfl
        exact ej_ret2 rfl Tryz.results34 rfl rfl (fun w' hp => ⟨by rw [hf]; rfl, hp.below⟩)
      · have h89b := h89
        try simp only [sxb] at h89
        have hon : saysOne t s = true := congrArg Bool.not h89b
        refine cj_skip (ej_blk (ej_th ?_))
        refine cj_regionG (gj_step (y_add rfl rfl (by omega)) rfl rfl rfl (gj_step (y_move rfl) rfl rfl rfl (gj_nil ?_)))
        exact ej_nx (k + 1) (by omega) ⟨by omega, by rw [← hso, hon, Bool.true_and]⟩ ⟨rfl, rfl, rfl, rfl, rfl, rfl, rfl, rfl, trivial⟩
    · have h57b := h57
      try simp only [sxb] at h57
      have hsk : saysOk c.traits x.says = true := by rw [← hso, List.drop_of_length_le (by omega)]; rfl
      rw [if_pos hsk] at hfi
      refine cj_exit (ej_then_exit (ej_then_exit (ej_blk_hit (ej_th (cj_seq ?_)))))
      refine cj_regionG (gj_step (y_assign rfl) rfl rfl rfl (gj_nil ?_))
      refine ej_th (cj_seq (cj_seq ?_))
      refine cj_regionG (gj_step (y_fa fa26_2 rfl) rfl rfl rfl (gj_step (y_load1 Tryz.isAgg24 rfl rfl) rfl rfl rfl (gj_step (y_lenA Tryz.underlying24 rfl) rfl rfl rfl (gj_step (y_move rfl) rfl rfl rfl (gj_nil ?_)))))
      refine ej_th (cj_block ?_)
      refine cj_lpic (X := Nat × Int) [(0, _), (2, _), (3, _), (10, _), (92, _), (93, _)] (fun ⟨k, many⟩ => k ≤ x.parts.length ∧ (1 ≤ many ∧ many ≤ most) ∧ fitsL g c.parts (x.parts.drop k) deep most many = fitsL g c.parts x.parts deep most 1) (fun ⟨k, many⟩ => [(14, .int .i64 many), (94, .int .i64 k)]) (fun ⟨k, many⟩ => x.parts.length - k) (0, 1) (⟨Nat.zero_le _, ⟨Int.le_refl _, hm1⟩, rfl⟩) ⟨rfl, rfl, rfl, rfl, rfl, rfl, rfl, rfl, trivial⟩ ?_
      rintro ⟨k, many⟩ ⟨hk, hmn, hfl⟩
      dsimp only [List.cons_append, List.nil_append]
      refine cj_seq ?_
      refine cj_regionG (gj_step (y_lss rfl rfl) rfl rfl rfl (gj_nil ?_))
      refine ej_th (cj_seq ?_)
      refine cj_cond rfl (fun h95 => ?_) (fun h95 => ?_)
      · have h95b := h95
        try simp only [sxb] at h95
        obtain ⟨q, hq⟩ : ∃ q, x.parts[k]? = some q := ⟨_, List.getElem?_eq_getElem (by omega)⟩
        rw [fitsL_drop _ _ _ k q _ _ _ hq] at hfl
        refine cj_skip (ej_th (cj_seq (cj_block (cj_seq (cj_region ?_)))))
        refine oj_step (y_ixR (reads_sl) Tryz.underlying24 Tryz.sizeOf26 rfl rfl (⟨by omega, by omega⟩)) rfl rfl rfl ?_
        refine oj_step (y_ldW (reads_sl) Tryz.isAgg26 Tryz.sizeOf26 rfl (hq) (fun _ => rfl)) rfl rfl rfl ?_
        refine oj_alloc Tryz.zeroValue26 rfl rfl (fun b16 => ?_)
        refine oj_store rfl rfl rfl rfl Tryz.sizeOf26 rfl ?_
        refine oj_nil ?_
        refine ej_th (cj_seq (cj_seq ?_))
        refine cj_regionG ?_
        refine gj_step (y_fa fa37_2 rfl) rfl rfl rfl (gj_step (y_load1 Tryz.isAgg23 rfl rfl) rfl rfl rfl (gj_step (y_fa0 fa26_0 rfl) rfl rfl rfl (gj_step (y_load1 Tryz.isAgg9 rfl rfl) rfl rfl rfl (?_))))
        refine gj_step (y_call Tryz.call64 rfl (fun w hp => k_ContainsS c.parts _ _ q.cls w hp.rd)) rfl rfl rfl ?_
        refine gj_step (y_not rfl) rfl rfl rfl (?_)
        refine gj_nil ?_
        refine ej_th ?_
        refine cj_cond rfl (fun h103 => ?_) (fun h103 => ?_)
        · have h103b := h103
          try simp only [sxb] at h103
          have hhw := not_t h103b
          refine cj_seq ?_
          refine cj_regionG (gj_step (y_assign rfl) rfl rfl rfl (gj_step (y_assign rfl) rfl rfl rfl (gj_nil ?_)))
          refine ej_th (cj_ret (ej_then_ret (ej_blk_ret (ej_then_ret (ej_then_ret (ej_blk_ret (ej_then_ret ?_)))))))
          have hf : fitsI g x deep most = none := by rw [hfi, ← hfl, if_neg (by rw [hhw]; simp)]
          exact ej_ret2 rfl Tryz.results34 rfl rfl (fun w' hp => ⟨by rw [hf]; rfl, hp.below⟩)
        · have h103b := h103
          try simp only [sxb] at h103
          have hhw := not_f h103b
          rw [if_pos hhw] at hfl
          refine cj_skip (ej_th (cj_seq ?_))
          refine cj_regionG ?_
          refine gj_step (y_move rfl) rfl rfl rfl (gj_step (y_loadN Tryz.isAgg26 Tryz.sizeOf26 rfl) rfl rfl rfl (gj_step (y_move rfl) rfl rfl rfl (gj_step (y_add rfl rfl (by omega)) rfl rfl rfl (gj_step (y_move rfl) rfl rfl rfl (gj_step (y_move rfl) rfl rfl rfl (gj_step (y_sub rfl rfl (by omega)) rfl rfl rfl (?_)))))))
          refine gj_step (y_call Tryz.call34 rfl (fun w hp => ih q (List.mem_of_getElem? hq) w (deep + 1) (most - many) hp.below (by omega) (by omega))) rfl rfl rfl ?_
          refine gj_step (y_move rfl) rfl rfl rfl (gj_step (y_extract rfl rfl) rfl rfl rfl (gj_step (y_extract rfl rfl) rfl rfl rfl (gj_step (y_assign rfl) rfl rfl rfl (gj_step (y_assign rfl) rfl rfl rfl (?_)))))
          refine gj_nil ?_
          refine ej_th (cj_seq (cj_seq ?_))
          refine cj_regionG (gj_step (y_move rfl) rfl rfl rfl (gj_step (y_not rfl) rfl rfl rfl (gj_nil ?_)))
          refine ej_th ?_
          refine cj_cond rfl (fun h116 => ?_) (fun h116 => ?_)
          · have h116b := h116
            try simp only [sxb] at h116
            have hno : fitsI g q (deep + 1) (most - many) = none := by have := not_t h116b; simpa using this
            refine cj_seq ?_
            refine cj_regionG (gj_step (y_assign rfl) rfl rfl rfl (gj_step (y_assign rfl) rfl rfl rfl (gj_nil ?_)))
            refine ej_th (cj_ret (ej_then_ret (ej_blk_ret (ej_then_ret (ej_then_ret (ej_blk_ret (ej_then_ret ?_)))))))
            have hf : fitsI g x deep most = none := by rw [hfi, ← hfl, hno]
            exact ej_ret2 rfl Tryz.results34 rfl rfl (fun w' hp => ⟨by rw [hf]; rfl, hp.below⟩)
          · have h116b := h116
            try simp only [sxb] at h116
            obtain ⟨n, hn⟩ := Option.isSome_iff_exists.1 (not_f h116b)
            have hnb := fitsI_bd g q _ _ n hn
            rw [hn]
            dsimp only [Option.getD_some]
            rw [hn] at hfl
            refine cj_skip (ej_th ?_)
            refine cj_regionG (gj_step (y_move rfl) rfl rfl rfl (gj_step (y_move rfl) rfl rfl rfl (gj_step (y_add rfl rfl (by omega)) rfl rfl rfl (gj_step (y_assign rfl) rfl rfl rfl (gj_nil ?_)))))
            refine ej_blk (ej_th ?_)
            refine cj_regionG (gj_step (y_add rfl rfl (by omega)) rfl rfl rfl (gj_step (y_move rfl) rfl rfl rfl (gj_nil ?_)))
            exact ej_nx (k + 1, many + n) (by simp only; omega) ⟨by first | omega | (simp only; omega), by first | omega | (simp only; omega), hfl⟩ ⟨rfl, rfl, rfl, rfl, rfl, rfl, rfl, rfl, trivial⟩
      · have h95b := h95
        try simp only [sxb] at h95
        refine cj_exit (ej_then_exit (ej_then_exit (ej_blk_hit (ej_th (cj_seq ?_)))))
        refine cj_regionG (gj_step (y_move rfl) rfl rfl rfl (gj_step (y_assign rfl) rfl rfl rfl (gj_step (y_assign rfl) rfl rfl rfl (gj_nil ?_))))
        refine ej_th (cj_ret ?_)
        have hf : fitsI g x deep most = some many := by rw [hfi, ← hfl, List.drop_of_length_le (by omega)]; rfl
        exact ej_ret2 rfl Tryz.results34 rfl rfl (fun w' hp => ⟨by rw [hf]; rfl, hp.below⟩)

theorem k_fitsA {w0 : World} {x : ItemV} (hx : GoodI w0 x) : ∀ (w : World) (b : Nat) (g : List (ByteArray × ClassV)) (deep most : Int), Grow w0 w → (mp ekS evC b g).P w → b < w.heap.size → (∀ p ∈ g, GoodC w p.2) → 1 ≤ deep ∧ deep ≤ 4 → 0 ≤ most ∧ most ≤ 24 →
    Calls Tryz.prog 34 #[.map (some b), evI x, .int .i64 deep, .int .i64 most] w (fun e w' => e = .returned (.tuple #[.int .i64 ((fitsI g x deep most).getD 0), .bool (fitsI g x deep most).isSome]) ∧ Grow w w') := by
  induction hx with
  | mk hs hp hn hm hr ih =>
    intro w b g deep most hg hM hb hgg hd hmo
    exact k_fits _ b g deep most w hM hb hgg ((GoodI.mk hs hp hn hm hr).mono hg) hd hmo (fun p hpm w1 dp mo hg1 h1 h2 => ih p hpm w1 b g dp mo (grow_trans hg hg1) ((mp ekS evC b g).stab (fun i hi => by have : i = b := hi; subst this; exact hg1.block _ hb) hM) (Nat.lt_of_lt_of_le hb hg1.size) (fun q hq => (hgg q hq).mono hg1) h1 h2)

end Go.Proofs.YtlfbghkcfmcnlaaGreatDoor
namespace Go.Proofs.YtlfbghkcfmcnlaaGreatDoor
open Go.Sx Go.RowKit
set_option maxRecDepth 20000

end Go.Proofs.YtlfbghkcfmcnlaaGreatDoor
namespace Go.Proofs.YtlfbghkcfmcnlaaGreatDoor
open Go.Sx Go.RowKit
set_option maxRecDepth 20000
theorem k_gram_bad (l : List ClassV) (A : Option Addr) (c : Nat) (w : World) (hl : Rd w 4 encCl A l) (hgc : ∀ c ∈ l, GoodC w c) (hok : gramOk l = false) : Calls Tryz.prog 31 #[.slice A l.length c] w (fun e w' => e = .returned (.tuple #[.map none, .int .i64 10]) ∧ Grow w w') :=
  (k_grammarOf l A c w hl hgc).mono fun e w' ⟨b, he, hg, _⟩ => ⟨by rw [he, gramE, hok]; rfl, hg⟩
theorem k_gram_ok (l : List ClassV) (A : Option Addr) (c : Nat) (w : World) (hl : Rd w 4 encCl A l) (hgc : ∀ c ∈ l, GoodC w c) (hok : gramOk l = true) : Calls Tryz.prog 31 #[.slice A l.length c] w (fun e w' => ∃ b, e = .returned (.tuple #[.map (some b), .int .i64 0]) ∧ Grow w w' ∧ (mp ekS evC b (gramM l)).P w' ∧ w.heap.size ≤ b ∧ b < w'.heap.size) :=
  (k_grammarOf l A c w hl hgc).mono fun e w' ⟨b, he, hg, h⟩ => ⟨b, by rw [he, gramE, hok]; rfl, hg, h hok⟩

theorem k_pasked_bad (l : List ClassV) (A : Option Addr) (c : Nat) (xs : List ItemV) (B : Option Addr) (d : Nat) (w : World) (hl : Rd w 4 encCl A l) (hgc : ∀ c ∈ l, GoodC w c) (hr : Rd w 3 encIt B xs) (hok : gramOk l = false) : Calls Tryz.prog 27 #[.slice A l.length c, .slice B xs.length d] w (fun e w' => ∃ b, e = .returned (.tuple #[.map (bif askIOk l xs then some b else none), .int .i64 (askIE l xs)]) ∧ Grow w w' ∧ (askIOk l xs = true → (mp ekS evC b (gramM l)).P w' ∧ w.heap.size ≤ b ∧ b < w'.heap.size)) := by
  refine enter_pure (args := [.slice A l.length c, .slice B xs.length d]) [sl (fun b => b < w.heap.size) 4 encCl A l, sl (fun b => b < w.heap.size) 3 encIt B xs] Tryz.func27 rfl (by rw [Tryz.ntmps27]; simp) (fun g hg => by simp at hg; rcases hg with rfl | rfl; exact ⟨hl, fun _ h => h⟩; exact ⟨hr, fun _ h => h⟩) ?_
  refine cj_seq ?_
  refine cj_regionG (gj_step (y_assign rfl) rfl rfl rfl (gj_step (y_assign rfl) rfl rfl rfl (gj_nil ?_)))
  refine ej_th (cj_seq ?_)
  refine cj_regionG ?_
  refine gj_step (y_move rfl) rfl rfl rfl (?_)
  refine gj_step (y_call Tryz.call31 rfl (fun w hp => k_gram_bad l A c w hp.rd (fun c hc => (hgc c hc).mono hp.below) hok)) rfl rfl rfl ?_
  refine gj_step (y_move rfl) rfl rfl rfl (gj_step (y_extract rfl rfl) rfl rfl rfl (gj_step (y_extract rfl rfl) rfl rfl rfl (gj_step (y_assign rfl) rfl rfl rfl (gj_step (y_assign rfl) rfl rfl rfl (?_)))))
  refine gj_nil ?_
  refine ej_th (cj_seq (cj_seq ?_))
  refine cj_regionG (gj_step (y_move rfl) rfl rfl rfl (gj_step (y_neq rfl rfl) rfl rfl rfl (gj_nil ?_)))
  refine ej_th ?_
  refine cj_cond rfl (fun h18 => ?_) (fun h18 => ?_)
  · have h18b := h18
    try simp only [sxb] at h18
    refine cj_seq ?_
    refine cj_regionG (gj_step (y_move rfl) rfl rfl rfl (gj_step (y_assign rfl) rfl rfl rfl (gj_step (y_assign rfl) rfl rfl rfl (gj_nil ?_))))
    refine ej_th (cj_ret (ej_then_ret ?_))
    have hg : askIOk l xs = false := by rw [askIOk, hok]; rfl
    exact ej_ret2 rfl Tryz.results27 rfl rfl (fun w' hp => ⟨0, by rw [hg, show askIE l xs = 10 from by simp [askIE, hok]]; rfl, hp.below, fun h => by rw [hg] at h; cases h⟩)
  · exact absurd h18 (by simp)

theorem k_pasked_ok (l : List ClassV) (A : Option Addr) (c : Nat) (xs : List ItemV) (B : Option Addr) (d : Nat) (w : World) (hl : Rd w 4 encCl A l) (hgc : ∀ c ∈ l, GoodC w c) (hr : Rd w 3 encIt B xs) (hxs : ∀ x ∈ xs, GoodI w x) (hok : gramOk l = true) : Calls Tryz.prog 27 #[.slice A l.length c, .slice B xs.length d] w (fun e w' => ∃ b, e = .returned (.tuple #[.map (bif askIOk l xs then some b else none), .int .i64 (askIE l xs)]) ∧ Grow w w' ∧ (askIOk l xs = true → (mp ekS evC b (gramM l)).P w' ∧ w.heap.size ≤ b ∧ b < w'.heap.size)) := by
  have hlen := hr.len
  refine enter_pure (args := [.slice A l.length c, .slice B xs.length d]) [sl (fun b => b < w.heap.size) 4 encCl A l, sl (fun b => b < w.heap.size) 3 encIt B xs] Tryz.func27 rfl (by rw [Tryz.ntmps27]; simp) (fun g hg => by simp at hg; rcases hg with rfl | rfl; exact ⟨hl, fun _ h => h⟩; exact ⟨hr, fun _ h => h⟩) ?_
  refine cj_seq ?_
  refine cj_regionG (gj_step (y_assign rfl) rfl rfl rfl (gj_step (y_assign rfl) rfl rfl rfl (gj_nil ?_)))
  refine ej_th (cj_seq (cj_region ?_))
  refine oj_step (y_move rfl) rfl rfl rfl ?_
  refine oj_call (X := {b : Nat // w.heap.size ≤ b}) (fun b => .tuple #[.map (some b.1), .int .i64 0]) (fun _ => []) (fun b => [mp ekS evC b.1 (gramM l)]) Tryz.call31 rfl (fun w hp => (k_gram_ok l A c w hp.rd (fun c hc => (hgc c hc).mono hp.below) hok).mono fun e w' ⟨b, he, hg, hm, h1, h2⟩ => ⟨⟨b, Nat.le_trans hp.size h1⟩, he, hg, by simp, by simp, fun g hg' => by simp only [List.mem_singleton] at hg'; subst hg'; exact ⟨hm, fun i hi => by have : i = b := hi; subst this; exact ⟨h1, h2, by simp⟩⟩⟩) rfl (fun b14 => ?_)
  obtain ⟨g14, hg14⟩ := b14
  dsimp only [List.cons_append, List.nil_append]
  refine oj_step (y_move rfl) rfl rfl rfl ?_
  refine oj_step (y_extract rfl rfl) rfl rfl rfl ?_
  refine oj_step (y_extract rfl rfl) rfl rfl rfl ?_
  refine oj_step (y_assign rfl) rfl rfl rfl ?_
  refine oj_step (y_assign rfl) rfl rfl rfl ?_
  refine oj_nil ?_
  refine ej_th (cj_seq (cj_seq ?_))
  refine cj_regionG (gj_step (y_move rfl) rfl rfl rfl (gj_step (y_neq rfl rfl) rfl rfl rfl (gj_nil ?_)))
  refine ej_th ?_
  refine cj_cond rfl (fun h18 => ?_) (fun h18 => ?_)
  · exact absurd h18 (by simp)
  · have h18b := h18
    try simp only [sxb] at h18
    refine cj_skip (ej_th (cj_seq (cj_seq ?_)))
    refine cj_regionG (gj_step (y_move rfl) rfl rfl rfl (gj_step (y_lenA Tryz.underlying24 rfl) rfl rfl rfl (gj_step (y_move rfl) rfl rfl rfl (gj_nil ?_))))
    refine ej_th (cj_block ?_)
    refine cj_lpic (X := Nat) [(6, _), (20, _), (21, _)] (fun k => k ≤ xs.length ∧ (xs.drop k).all (itemOk l) = xs.all (itemOk l)) (fun k => [(22, .int .i64 k)]) (fun k => xs.length - k) 0 (⟨Nat.zero_le _, rfl⟩) ⟨rfl, rfl, rfl, rfl, trivial⟩ ?_
    rintro k ⟨hk, hal⟩
    dsimp only [List.cons_append, List.nil_append]
    refine cj_seq ?_
    refine cj_regionG (gj_step (y_lss rfl rfl) rfl rfl rfl (gj_nil ?_))
    refine ej_th (cj_seq ?_)
    refine cj_cond rfl (fun h23 => ?_) (fun h23 => ?_)
    · have h23b := h23
      try simp only [sxb] at h23
      obtain ⟨x, hx⟩ : ∃ x, xs[k]? = some x := ⟨_, List.getElem?_eq_getElem (by omega)⟩
      rw [all_drop _ xs k x hx] at hal
      refine cj_skip (ej_th (cj_seq (cj_block (cj_seq (cj_region ?_)))))
      refine oj_step (y_ixR (reads_sl) Tryz.underlying24 Tryz.sizeOf26 rfl rfl (⟨by omega, by omega⟩)) rfl rfl rfl ?_
      refine oj_step (y_ldW (reads_sl) Tryz.isAgg26 Tryz.sizeOf26 rfl (hx) (fun _ => rfl)) rfl rfl rfl ?_
      refine oj_alloc Tryz.zeroValue26 rfl rfl (fun b9 => ?_)
      refine oj_store rfl rfl rfl rfl Tryz.sizeOf26 rfl ?_
      refine oj_nil ?_
      refine ej_th (cj_seq ?_)
      refine cj_regionG ?_
      refine gj_step (y_move rfl) rfl rfl rfl (gj_step (y_loadN Tryz.isAgg26 Tryz.sizeOf26 rfl) rfl rfl rfl (?_))
      refine gj_step (y_call Tryz.call34 rfl (fun w hp => (k_fitsA (hxs x (List.mem_of_getElem? hx)) w g14 (gramM l) 1 24 hp.below (hp.mpS (K := ByteArray) (V := ClassV)).1 (hp.mpS (K := ByteArray) (V := ClassV) (b := g14)).2 (fun p hm => (hgc _ (gramM_mem hm)).mono hp.below) ⟨by omega, by omega⟩ ⟨by omega, by omega⟩))) rfl rfl rfl ?_
      refine gj_step (y_move rfl) rfl rfl rfl (gj_step (y_extract rfl rfl) rfl rfl rfl (gj_step (y_extract rfl rfl) rfl rfl rfl (gj_step (y_assign rfl) rfl rfl rfl (gj_step (y_assign rfl) rfl rfl rfl (?_)))))
      refine gj_nil ?_
      refine ej_th (cj_seq ?_)
      refine cj_regionG (gj_step (y_move rfl) rfl rfl rfl (gj_step (y_not rfl) rfl rfl rfl (gj_nil ?_)))
      refine ej_th ?_
      refine cj_cond rfl (fun h33 => ?_) (fun h33 => ?_)
      · have h33b := h33
        try simp only [sxb] at h33
        have hio : itemOk l x = false := not_t h33b
        refine cj_seq ?_
        refine cj_regionG (gj_step (y_assign rfl) rfl rfl rfl (gj_step (y_assign rfl) rfl rfl rfl (gj_nil ?_)))
        refine ej_th (cj_ret (ej_blk_ret (ej_then_ret (ej_then_ret (ej_blk_ret (ej_then_ret ?_))))))
        have hg : askIOk l xs = false := by rw [askIOk, hok, ← hal, hio]; rfl
        exact ej_ret2 rfl Tryz.results27 rfl rfl (fun w' hp => ⟨0, by rw [hg, show askIE l xs = 11 from by simp [askIE, hok, ← hal, hio]]; rfl, hp.below, fun h => by rw [hg] at h; cases h⟩)
      · have h33b := h33
        try simp only [sxb] at h33
        have hio : itemOk l x = true := not_f h33b
        refine cj_skip (ej_blk (ej_th ?_))
        refine cj_regionG (gj_step (y_add rfl rfl (by omega)) rfl rfl rfl (gj_step (y_move rfl) rfl rfl rfl (gj_nil ?_)))
        exact ej_nx (k + 1) (by omega) ⟨by omega, by rw [← hal, hio, Bool.true_and]⟩ ⟨rfl, rfl, rfl, rfl, trivial⟩
    · have h23b := h23
      try simp only [sxb] at h23
      refine cj_exit (ej_then_exit (ej_then_exit (ej_blk_hit (ej_th (cj_seq ?_)))))
      refine cj_regionG (gj_step (y_move rfl) rfl rfl rfl (gj_step (y_assign rfl) rfl rfl rfl (gj_step (y_assign rfl) rfl rfl rfl (gj_nil ?_))))
      refine ej_th (cj_ret ?_)
      have ha : xs.all (itemOk l) = true := by rw [← hal, List.drop_of_length_le (by omega)]; rfl
      have hg : askIOk l xs = true := by rw [askIOk, hok, ha]; rfl
      exact ej_ret2 rfl Tryz.results27 rfl rfl (fun w' hp => ⟨g14, by rw [hg, show askIE l xs = 0 by simp [askIE, hok, ha]]; rfl, hp.below, fun _ => ⟨(hp.mpS (K := ByteArray) (V := ClassV)).1, hg14, (hp.mpS (K := ByteArray) (V := ClassV) (b := g14)).2⟩⟩)

theorem k_pasked (l : List ClassV) (A : Option Addr) (c : Nat) (xs : List ItemV) (B : Option Addr) (d : Nat) (w : World) (hl : Rd w 4 encCl A l) (hgc : ∀ c ∈ l, GoodC w c) (hr : Rd w 3 encIt B xs) (hxs : ∀ x ∈ xs, GoodI w x) : Calls Tryz.prog 27 #[.slice A l.length c, .slice B xs.length d] w (fun e w' => ∃ b, e = .returned (.tuple #[.map (bif askIOk l xs then some b else none), .int .i64 (askIE l xs)]) ∧ Grow w w' ∧ (askIOk l xs = true → (mp ekS evC b (gramM l)).P w' ∧ w.heap.size ≤ b ∧ b < w'.heap.size)) := by
  cases hok : gramOk l with
  | false => exact k_pasked_bad l A c xs B d w hl hgc hr hok
  | true => exact k_pasked_ok l A c xs B d w hl hgc hr hxs hok

end Go.Proofs.YtlfbghkcfmcnlaaGreatDoor
namespace Go.Proofs.YtlfbghkcfmcnlaaGreatDoor
open Go.Sx Go.RowKit
set_option maxRecDepth 20000

end Go.Proofs.YtlfbghkcfmcnlaaGreatDoor
namespace Go.Proofs.YtlfbghkcfmcnlaaGreatDoor
open Go.Sx Go.RowKit
set_option maxRecDepth 20000
set_option maxHeartbeats 1000000 in
theorem k_visit1 (p : ItemV) (l yb vb : Nat) (xs : List ItemV) (fp0 : Nat → Prop) (J Jx : List Fact → Nat → World → Prop) (X : List Fact) (k : Nat) (w : World) (hI : ItOk Tryz.prog l xs J Jx) (hJ : J X k w) (hyX : ownB yb (cellsB 142 [.func (.yield l) #[] #[]]) ∈ X) (hvX : ownB vb (cellsB 142 [.func (.func 90) #[] #[.pointer (some ⟨yb, 0, none⟩), .pointer (some ⟨vb, 0, none⟩)]]) ∈ X) (hGJ : ∀ X k W, J X k W ∨ Jx X k W → GoodF fp0 W p ∧ ∀ b, fp0 b → b < W.heap.size) (hxs : (∀ i r, (p).all[i]? = some r → xs[k + i]? = some r)) (ih : ∀ q ∈ p.parts, ∀ X k w1, J X k w1 → ownB yb (cellsB 142 [.func (.yield l) #[] #[]]) ∈ X → ownB vb (cellsB 142 [.func (.func 90) #[] #[.pointer (some ⟨yb, 0, none⟩), .pointer (some ⟨vb, 0, none⟩)]]) ∈ X → (∀ i r, (q).all[i]? = some r → xs[k + i]? = some r) → Calls Tryz.prog 90 #[evI q, .pointer (some ⟨yb, 0, none⟩), .pointer (some ⟨vb, 0, none⟩)] w1 (fun e w' => ∃ b, e = .returned (.bool b) ∧ TJ J Jx X (k + (q).all.length) b w')) : Calls Tryz.prog 90 #[evI p, .pointer (some ⟨yb, 0, none⟩), .pointer (some ⟨vb, 0, none⟩)] w (fun e w' => ∃ b, e = .returned (.bool b) ∧ TJ J Jx X (k + (p).all.length) b w') := by
  have hl2 : p.parts.length ≤ 9223372036854775807 := by have h9 := ((hGJ X k w (.inl hJ)).1.hp).1; unfold maxLen at h9; omega
  have hGT : ∀ {X k b} W, TJ J Jx X k b W → (sl fp0 3 encIt p.Ap p.parts).P W ∧ ∀ i, fp0 i → i < W.heap.size := fun {X k b} W h => by
    have h9 : GoodF fp0 W p ∧ ∀ b, fp0 b → b < W.heap.size := by
      unfold TJ at h
      split at h
      · exact hGJ X k W (.inl h)
      · obtain ⟨k2, h⟩ := h; exact hGJ X k2 W (.inr h)
    exact ⟨h9.1.hp, h9.2⟩
  refine enter_pure (args := [evI p, .pointer (some ⟨yb, 0, none⟩), .pointer (some ⟨vb, 0, none⟩)]) [ownB yb (cellsB 142 [.func (.yield l) #[] #[]]), ownB vb (cellsB 142 [.func (.func 90) #[] #[.pointer (some ⟨yb, 0, none⟩), .pointer (some ⟨vb, 0, none⟩)]]), sl fp0 3 encIt p.Ap p.parts] Tryz.func90 rfl (by rw [Tryz.ntmps90]; simp) (fun g hg => by simp only [List.mem_cons, List.mem_nil_iff, or_false] at hg; rcases hg with rfl | rfl | rfl; exact hI.facts X k w hJ _ hyX; exact hI.facts X k w hJ _ hvX; exact ⟨(hGJ X k w (.inl hJ)).1.hp, (hGJ X k w (.inl hJ)).2⟩) ?_
  refine cj_seq (cj_region ?_)
  refine oj_box rfl rfl rfl (fun b3 => ?_)
  refine oj_step (y_assign rfl) rfl rfl rfl ?_
  refine oj_nil ?_
  refine ej_th (cj_seq (cj_seq (cj_region ?_)))
  refine oj_step (y_loadS1 Tryz.isAgg142 rfl rfl) rfl rfl rfl ?_
  refine oj_step (y_loadN Tryz.isAgg26 Tryz.sizeOf26 rfl) rfl rfl rfl ?_
  refine oj_yieldB (l := l) (T := TJ J Jx (ownB b3 (cellsB 26 [.string p.cls, .slice p.As p.says.length p.cs, .slice p.Ap p.parts.length p.cp]) :: X) (k + 1)) [ownB b3 (cellsB 26 [.string p.cls, .slice p.As p.says.length p.cs, .slice p.Ap p.parts.length p.cp]), ownB yb (cellsB 142 [.func (.yield l) #[] #[]]), ownB vb (cellsB 142 [.func (.func 90) #[] #[.pointer (some ⟨yb, 0, none⟩), .pointer (some ⟨vb, 0, none⟩)]]), sl fp0 3 encIt p.Ap p.parts] rfl rfl rfl (fun w1 hp => by
    have hJ1 := hI.add [ownB b3 (cellsB 26 [.string p.cls, .slice p.As p.says.length p.cs, .slice p.Ap p.parts.length p.cp])] X k w w1 hJ hp.below (fun f hf => by rw [List.mem_singleton.1 hf]; exact ⟨hp.bo (b := b3), (hp.newB (b := b3)).2⟩)
    have hR := hI.round (ownB b3 (cellsB 26 [.string p.cls, .slice p.As p.says.length p.cs, .slice p.Ap p.parts.length p.cp]) :: X) k p w1 (hxs 0 p (by rw [all_eq]; rfl)) hJ1
    obtain ⟨fn, tmps, asn, bd, g1, g2⟩ := hR
    exact ⟨fn, tmps, asn, bd, g1, RoundIn.mono g2 (fun e W' h => by
      rcases h with ⟨h1, h2⟩ | ⟨h1, h2⟩
      · exact .inl ⟨h1, h2⟩
      · exact .inr ⟨h1, k + 1, h2⟩)⟩) rfl (fun b9 W9 h g hg => by
    simp only [List.mem_cons, List.mem_nil_iff, or_false] at hg
    rcases hg with rfl | rfl | rfl | rfl
    · exact h.facts hI _ (List.mem_cons_self ..)
    · exact h.facts hI _ (List.mem_cons_of_mem _ hyX)
    · exact h.facts hI _ (List.mem_cons_of_mem _ hvX)
    · exact hGT W9 h) (fun b9 W9 hT9 => ?_)
  refine oj_step (y_not rfl) rfl rfl rfl ?_
  refine oj_nil ?_
  refine ej_th ?_
  refine cj_cond rfl (fun h10 => ?_) (fun h10 => ?_)
  · have h10b := h10
    try simp only [sxb] at h10
    have hb9 : b9 = false := not_t h10b
    subst hb9
    obtain ⟨k2, hT⟩ := hT9.f
    refine cj_seq ?_
    refine cj_regionG (gj_step (y_assign rfl) rfl rfl rfl (gj_nil ?_))
    refine ej_th (cj_ret (ej_then_ret ?_))
    exact ej_ret1 rfl Tryz.results90 rfl (fun w' hp => ⟨false, rfl, k2, hI.growx _ _ _ _ (hI.dropx _ _ _ _ hT) hp.below⟩)
  · have h10b := h10
    try simp only [sxb] at h10
    have hb9 : b9 = true := not_f h10b
    subst hb9
    have hT := hT9.t
    refine cj_skip (ej_th (cj_seq (cj_seq ?_)))
    refine cj_regionG (gj_step (y_fa fa26_2 rfl) rfl rfl rfl (gj_step (y_loadS1 Tryz.isAgg24 rfl rfl) rfl rfl rfl (gj_step (y_lenA Tryz.underlying24 rfl) rfl rfl rfl (gj_step (y_move rfl) rfl rfl rfl (gj_nil ?_)))))
    refine ej_th (cj_block ?_)
    refine cj_loopB (X := Nat) (fun j => j ≤ p.parts.length) (fun j => [(2, .pointer (some ⟨vb, 0, none⟩)), (12, .slice p.Ap p.parts.length p.cp), (13, .int .i64 p.parts.length), (14, .int .i64 j)]) (fun j => fun W => J (ownB b3 (cellsB 26 [.string p.cls, .slice p.As p.says.length p.cs, .slice p.Ap p.parts.length p.cp]) :: X) (k + 1 + (allL (p.parts.take j)).length) W) [ownB b3 (cellsB 26 [.string p.cls, .slice p.As p.says.length p.cs, .slice p.Ap p.parts.length p.cp]), ownB yb (cellsB 142 [.func (.yield l) #[] #[]]), ownB vb (cellsB 142 [.func (.func 90) #[] #[.pointer (some ⟨yb, 0, none⟩), .pointer (some ⟨vb, 0, none⟩)]]), sl fp0 3 encIt p.Ap p.parts] (fun j => p.parts.length - j) 0 (Nat.zero_le _) ⟨rfl, rfl, rfl, rfl, trivial⟩ (fun w hp => hI.grow _ _ _ _ hT hp.below) (fun j W h g hg => by
      have h : TJ J Jx (ownB b3 (cellsB 26 [.string p.cls, .slice p.As p.says.length p.cs, .slice p.Ap p.parts.length p.cp]) :: X) (k + 1 + (allL (p.parts.take j)).length) true W := h
      simp only [List.mem_cons, List.mem_nil_iff, or_false] at hg
      rcases hg with rfl | rfl | rfl | rfl
      · exact h.facts hI _ (List.mem_cons_self ..)
      · exact h.facts hI _ (List.mem_cons_of_mem _ hyX)
      · exact h.facts hI _ (List.mem_cons_of_mem _ hvX)
      · exact hGT W h) ?_
    rintro j W hj hJW
    refine cj_seq ?_
    refine cj_regionG (gj_step (y_lss rfl rfl) rfl rfl rfl (gj_nil ?_))
    refine ej_th (cj_seq ?_)
    refine cj_cond rfl (fun h15 => ?_) (fun h15 => ?_)
    · have h15b := h15
      try simp only [sxb] at h15
      obtain ⟨q, hq⟩ : ∃ q, p.parts[j]? = some q := ⟨_, List.getElem?_eq_getElem (by omega)⟩
      refine cj_skip (ej_th (cj_seq (cj_block (cj_seq (cj_region ?_)))))
      refine oj_step (y_ixR (reads_sl) Tryz.underlying24 Tryz.sizeOf26 rfl rfl (⟨by omega, by omega⟩)) rfl rfl rfl ?_
      refine oj_step (y_ldW (reads_sl) Tryz.isAgg26 Tryz.sizeOf26 rfl (hq) (fun _ => rfl)) rfl rfl rfl ?_
      refine oj_alloc Tryz.zeroValue26 rfl rfl (fun b6 => ?_)
      refine oj_store rfl rfl rfl rfl Tryz.sizeOf26 rfl ?_
      refine oj_nil ?_
      refine ej_th (cj_seq (cj_region ?_))
      refine oj_step (y_loadS1 Tryz.isAgg142 rfl rfl) rfl rfl rfl ?_
      refine oj_step (y_loadN Tryz.isAgg26 Tryz.sizeOf26 rfl) rfl rfl rfl ?_
      refine oj_callJ (T := TJ J Jx (ownB b3 (cellsB 26 [.string p.cls, .slice p.As p.says.length p.cs, .slice p.Ap p.parts.length p.cp]) :: X) (k + 1 + (allL (p.parts.take j)).length + q.all.length)) [ownB b3 (cellsB 26 [.string p.cls, .slice p.As p.says.length p.cs, .slice p.Ap p.parts.length p.cp]), ownB yb (cellsB 142 [.func (.yield l) #[] #[]]), ownB vb (cellsB 142 [.func (.func 90) #[] #[.pointer (some ⟨yb, 0, none⟩), .pointer (some ⟨vb, 0, none⟩)]]), sl fp0 3 encIt p.Ap p.parts] Tryz.call90 rfl rfl (fun w1 hp => ih q (List.mem_of_getElem? hq) (ownB b3 (cellsB 26 [.string p.cls, .slice p.As p.says.length p.cs, .slice p.Ap p.parts.length p.cp]) :: X) (k + 1 + (allL (p.parts.take j)).length) w1 (hI.grow _ _ _ _ hJW hp.below) (List.mem_cons_of_mem _ hyX) (List.mem_cons_of_mem _ hvX) (fun i r hr => by
        have h9 := hxs (1 + ((allL (p.parts.take j)).length + i)) r (by rw [all_eq, Nat.add_comm 1, List.getElem?_cons_succ]; exact allL_get p.parts j i q r hq hr)
        rw [show k + 1 + (allL (p.parts.take j)).length + i = k + (1 + ((allL (p.parts.take j)).length + i)) by omega]
        exact h9)) rfl (fun b9 W9 h g hg => by
        simp only [List.mem_cons, List.mem_nil_iff, or_false] at hg
        rcases hg with rfl | rfl | rfl | rfl
        · exact h.facts hI _ (List.mem_cons_self ..)
        · exact h.facts hI _ (List.mem_cons_of_mem _ hyX)
        · exact h.facts hI _ (List.mem_cons_of_mem _ hvX)
        · exact hGT W9 h) (fun b20 W20 hT20 => ?_)
      refine oj_step (y_not rfl) rfl rfl rfl ?_
      refine oj_nil ?_
      refine ej_th ?_
      refine cj_cond rfl (fun h21 => ?_) (fun h21 => ?_)
      · have h21b := h21
        try simp only [sxb] at h21
        have hb20 : b20 = false := not_t h21b
        subst hb20
        obtain ⟨k2, hT2⟩ := hT20.f
        refine cj_seq ?_
        refine cj_regionG (gj_step (y_assign rfl) rfl rfl rfl (gj_nil ?_))
        refine ej_th (cj_ret (ej_blk_ret (ej_then_ret (ej_then_ret (ej_blk_ret (ej_then_ret ?_))))))
        exact ej_ret1 rfl Tryz.results90 rfl (fun w' hp => ⟨false, rfl, k2, hI.growx _ _ _ _ (hI.dropx _ _ _ _ hT2) hp.below⟩)
      · have h21b := h21
        try simp only [sxb] at h21
        have hb20 : b20 = true := not_f h21b
        subst hb20
        have hT2 := hT20.t
        refine cj_skip (ej_blk (ej_th ?_))
        refine cj_regionG (gj_step (y_add rfl rfl (by omega)) rfl rfl rfl (gj_step (y_move rfl) rfl rfl rfl (gj_nil ?_)))
        refine ej_nxB (j + 1) (by omega) (by omega) ⟨rfl, rfl, rfl, rfl, trivial⟩ (fun w hp => ?_)
        rw [allL_take p.parts j q hq, List.length_append, show k + 1 + ((allL (p.parts.take j)).length + q.all.length) = k + 1 + (allL (p.parts.take j)).length + q.all.length by omega]
        exact hI.grow _ _ _ _ hT2 hp
    · have h15b := h15
      try simp only [sxb] at h15
      have hjl : j = p.parts.length := by omega
      subst hjl
      rw [List.take_length] at hJW
      refine cj_exit (ej_then_exit (ej_then_exit (ej_blk_hit (ej_th (cj_seq ?_)))))
      refine cj_regionG (gj_step (y_assign rfl) rfl rfl rfl (gj_nil ?_))
      refine ej_th (cj_ret ?_)
      refine ej_ret1 rfl Tryz.results90 rfl (fun w' hp => ⟨true, rfl, ?_⟩)
      rw [all_eq, List.length_cons, show k + ((allL p.parts).length + 1) = k + 1 + (allL p.parts).length by omega]
      exact hI.grow _ _ _ _ (hI.drop _ _ _ _ hJW) hp.below

theorem k_visit (l yb vb : Nat) (xs : List ItemV) (fp0 : Nat → Prop) (J Jx : List Fact → Nat → World → Prop) (hI : ItOk Tryz.prog l xs J Jx) {w0 : World} {p : ItemV} (hp : GoodI w0 p) : (∀ X k W, J X k W ∨ Jx X k W → GoodF fp0 W p ∧ ∀ b, fp0 b → b < W.heap.size) → ∀ X k w, J X k w → ownB yb (cellsB 142 [.func (.yield l) #[] #[]]) ∈ X → ownB vb (cellsB 142 [.func (.func 90) #[] #[.pointer (some ⟨yb, 0, none⟩), .pointer (some ⟨vb, 0, none⟩)]]) ∈ X → (∀ i r, (p).all[i]? = some r → xs[k + i]? = some r) → Calls Tryz.prog 90 #[evI p, .pointer (some ⟨yb, 0, none⟩), .pointer (some ⟨vb, 0, none⟩)] w (fun e w' => ∃ b, e = .returned (.bool b) ∧ TJ J Jx X (k + (p).all.length) b w') := by
  induction hp with
  | @mk p _ _ _ _ _ ih =>
    intro hGJ X k w hJ hyX hvX hxs
    exact k_visit1 p l yb vb xs fp0 J Jx X k w hI hJ hyX hvX hGJ hxs (fun q hq X k w1 h1 h2 h3 h4 => ih q hq (fun X k W h => ⟨(hGJ X k W h).1.pt q hq, (hGJ X k W h).2⟩) X k w1 h1 h2 h3 h4)

theorem k_allIter {w0 : World} (p : ItemV) (hp0 : GoodI w0 p) (bx : Nat) (fp0 : Nat → Prop) : IterX Tryz.prog 89 #[.pointer (some ⟨bx, 0, none⟩)] (fun q => [evI q]) p.all [itF fp0 [p], ownB bx (cellsB 26 [.string p.cls, .slice p.As p.says.length p.cs, .slice p.Ap p.parts.length p.cp])] := by
  intro l J Jx w hgr hadd hdrop hfacts hgrx hdrx hfx hround hJ
  refine enter_pure (args := [.func (.yield l) #[] #[], .pointer (some ⟨bx, 0, none⟩)]) [ownB bx (cellsB 26 [.string p.cls, .slice p.As p.says.length p.cs, .slice p.Ap p.parts.length p.cp])] Tryz.func89 rfl (by rw [Tryz.ntmps89]; simp) (fun g hg => by rw [List.mem_singleton.1 hg]; exact hfacts [] 0 w hJ _ (List.mem_append_left _ (List.mem_cons_of_mem _ (List.mem_cons_self ..)))) ?_
  refine cj_seq (cj_region ?_)
  refine oj_box rfl rfl rfl (fun b2 => ?_)
  refine oj_nil ?_
  refine ej_th (cj_seq (cj_region ?_))
  refine oj_alloc Tryz.zeroValue142 rfl rfl (fun b3 => ?_)
  refine oj_nil ?_
  refine ej_th (cj_seq (cj_region ?_))
  refine oj_step (y_makeFunc rfl rfl) rfl rfl rfl ?_
  refine oj_store rfl rfl rfl rfl Tryz.sizeOf142 rfl ?_
  refine oj_nil ?_
  refine ej_th (cj_region ?_)
  refine oj_step (y_load1 Tryz.isAgg142 rfl rfl) rfl rfl rfl ?_
  refine oj_step (y_loadSN Tryz.isAgg26 Tryz.sizeOf26 rfl) rfl rfl rfl ?_
  refine oj_callJ (T := TJ J Jx [] p.all.length) [] Tryz.call90 rfl rfl (fun w1 hp => by
    have hI : ItOk Tryz.prog l p.all J Jx := ⟨hgr, hadd, hdrop, fun X k W h g hg => hfacts X k W h g (List.mem_append_right _ hg), hgrx, hdrx, fun X k W h g hg => hfx X k W h g (List.mem_append_right _ hg), hround⟩
    have hJ1 := hadd [ownB b3 (cellsB 142 [.func (.func 90) #[] #[.pointer (some ⟨b2, 0, none⟩), .pointer (some ⟨b3, 0, none⟩)]]), ownB b2 (cellsB 142 [.func (.yield l) #[] #[]])] [] 0 w w1 hJ hp.below (fun f hf => by
      simp only [List.mem_cons, List.mem_nil_iff, or_false] at hf
      rcases hf with rfl | rfl
      · exact ⟨hp.bo (b := b3), (hp.newB (b := b3)).2⟩
      · exact ⟨hp.bo (b := b2), (hp.newB (b := b2)).2⟩)
    have h := k_visit l b2 b3 p.all fp0 J Jx hI hp0 (fun X k W h => by
      rcases h with h | h
      · have h9 := hfacts X k W h (itF fp0 [p]) (List.mem_append_left _ (List.mem_cons_self ..))
        exact ⟨h9.1 p (List.mem_cons_self ..), h9.2⟩
      · have h9 := hfx X k W h (itF fp0 [p]) (List.mem_append_left _ (List.mem_cons_self ..))
        exact ⟨h9.1 p (List.mem_cons_self ..), h9.2⟩) _ 0 w1 hJ1 (List.mem_append_left _ (List.mem_cons_of_mem _ (List.mem_cons_self ..))) (List.mem_append_left _ (List.mem_cons_self ..)) (fun i q hq => by rw [Nat.zero_add]; exact hq)
    exact h.mono (fun e W' ⟨b, h1, h2⟩ => ⟨b, h1, by
      cases b with
      | true => exact hdrop _ _ _ _ (hdrop _ _ _ _ (by have h3 := h2.t; rw [Nat.zero_add] at h3; exact h3))
      | false => obtain ⟨k2, h3⟩ := h2.f; exact ⟨k2, hdrx _ _ _ _ (hdrx _ _ _ _ h3)⟩⟩)) rfl (fun b W h g hg => (by cases hg)) (fun b7 W7 hT7 => ?_)
  refine oj_nil ?_
  refine ej_end0 rfl Tryz.results89 (fun w' hp => ⟨⟨_, rfl⟩, ?_⟩)
  cases b7 with
  | true => exact .inl (hgr _ _ _ _ hT7.t hp.below)
  | false => obtain ⟨k2, h3⟩ := hT7.f; exact .inr ⟨k2, hgrx _ _ _ _ h3 hp.below⟩

theorem k_all (p : ItemV) (w : World)  : Calls Tryz.prog 76 #[evI p] w (fun e w' => ∃ x : Nat, e = .returned (.func (.func 89) #[] #[.pointer (some ⟨x, 0, none⟩)]) ∧ Grow w w' ∧ (∀ g ∈ ([] : List Fact), g.P w' ∧ ∀ b, g.fp b → w.heap.size ≤ b ∧ b < w'.heap.size) ∧ ([] : List Fact).Pairwise (fun f g => ∀ b, f.fp b → ¬ g.fp b) ∧ (∀ g ∈ [ownB x (cellsB 26 [.string p.cls, .slice p.As p.says.length p.cs, .slice p.Ap p.parts.length p.cp])], g.P w' ∧ ∀ b, g.fp b → w.heap.size ≤ b ∧ b < w'.heap.size ∧ ∀ o ∈ ([] : List Fact), ¬ o.fp b)) := by
  refine enter_pure (args := [evI p]) [] Tryz.func76 rfl (by rw [Tryz.ntmps76]; simp) (by simp) ?_
  refine cj_seq (cj_region ?_)
  refine oj_box rfl rfl rfl (fun b1 => ?_)
  refine oj_step (y_assign rfl) rfl rfl rfl ?_
  refine oj_nil ?_
  refine ej_th (cj_seq ?_)
  refine cj_regionG (gj_step (y_makeFunc rfl rfl) rfl rfl rfl (gj_step (y_assign rfl) rfl rfl rfl (gj_nil ?_)))
  refine ej_th (cj_ret ?_)
  exact ej_ret1 rfl Tryz.results76 rfl (fun w' hp => ⟨b1, rfl, hp.below, by simp, List.Pairwise.nil, fun g hg => ⟨(hp.own g hg).1, fun b hb => ⟨Nat.le_of_not_lt ((hp.own g hg).2 b hb).2, ((hp.own g hg).2 b hb).1, by simp⟩⟩⟩)

end Go.Proofs.YtlfbghkcfmcnlaaGreatDoor
namespace Go.Proofs.YtlfbghkcfmcnlaaGreatDoor
open Go.Sx Go.RowKit
set_option maxRecDepth 20000

end Go.Proofs.YtlfbghkcfmcnlaaGreatDoor
namespace Go.Proofs.YtlfbghkcfmcnlaaGreatDoor
open Go.Sx Go.RowKit
set_option maxRecDepth 20000

end Go.Proofs.YtlfbghkcfmcnlaaGreatDoor
namespace Go.Proofs.YtlfbghkcfmcnlaaGreatDoor
open Go.Sx Go.RowKit
set_option maxRecDepth 20000

end Go.Proofs.YtlfbghkcfmcnlaaGreatDoor
namespace Go.Proofs.YtlfbghkcfmcnlaaGreatDoor
open Go.Sx Go.RowKit
set_option maxRecDepth 20000
theorem el24 : ElemIs Tryz.prog 24 26 3 64 := ⟨⟨_, (.agg #[.string ⟨#[]⟩, .slice none 0 0, .slice none 0 0]), Tryz.underlying24, Tryz.type26, by kernel_rfl, by kernel_rfl, by kernel_rfl, by kernel_rfl, by decide⟩⟩
theorem st26 : StructIs Tryz.prog 26 [(0, 1), (1, 1), (2, 1)] [.string ⟨#[]⟩, .slice none 0 0, .slice none 0 0] := ⟨⟨_, Tryz.underlying26, fun w => by simp [Tryz.sizeOf23, Tryz.sizeOf24, Tryz.sizeOf9], Tryz.zeroValue26⟩⟩
end Go.Proofs.YtlfbghkcfmcnlaaGreatDoor
namespace Go.Proofs.YtlfbghkcfmcnlaaGreatDoor
open Go.Sx Go.RowKit
set_option maxRecDepth 20000

end Go.Proofs.YtlfbghkcfmcnlaaGreatDoor
namespace Go.Proofs.YtlfbghkcfmcnlaaGreatDoor
open Go.Sx Go.RowKit
set_option maxRecDepth 20000

end Go.Proofs.YtlfbghkcfmcnlaaGreatDoor
namespace Go.Proofs.YtlfbghkcfmcnlaaGreatDoor
open Go.Sx Go.RowKit
set_option maxRecDepth 20000
theorem fa63_0 : FieldIs Tryz.prog 63 0 0 1 false := ⟨⟨_, _, Tryz.underlying63, rfl, rfl, Tryz.sizeOf54, Tryz.isAgg54, by decide⟩⟩
theorem fa70_0 : FieldIs Tryz.prog 70 0 0 1 false := ⟨⟨_, _, Tryz.underlying70, rfl, rfl, Tryz.sizeOf3, Tryz.isAgg3, by decide⟩⟩
theorem fa70_1 : FieldIs Tryz.prog 70 1 1 1 false := ⟨⟨_, _, Tryz.underlying70, rfl, rfl, Tryz.sizeOf3, Tryz.isAgg3, by decide⟩⟩
theorem fa98_0 : FieldIs Tryz.prog 98 0 0 1 false := ⟨⟨_, _, Tryz.underlying98, rfl, rfl, Tryz.sizeOf3, Tryz.isAgg3, by decide⟩⟩
theorem fa98_1 : FieldIs Tryz.prog 98 1 1 1 false := ⟨⟨_, _, Tryz.underlying98, rfl, rfl, Tryz.sizeOf3, Tryz.isAgg3, by decide⟩⟩
end Go.Proofs.YtlfbghkcfmcnlaaGreatDoor
namespace Go.Proofs.YtlfbghkcfmcnlaaGreatDoor
open Go.Sx Go.RowKit
set_option maxRecDepth 20000
theorem k_clR (n : Int) (w : World)  : Calls Tryz.prog 79 #[.int .i64 n] w (fun e w' => e = .returned (.bool (!(rd1 n))) ∧ Grow w w') := by
  refine enter_pure (args := [.int .i64 n]) [] Tryz.func79 rfl (by rw [Tryz.ntmps79]; simp) (by simp) ?_
  refine cj_seq ?_
  refine cj_regionG (gj_step (y_assign rfl) rfl rfl rfl (gj_nil ?_))
  refine ej_th (cj_seq ?_)
  refine cj_regionG ?_
  refine gj_step (y_move rfl) rfl rfl rfl (?_)
  refine gj_step (y_call Tryz.call45 rfl (fun w hp => k_within1 _ _ _ w)) rfl rfl rfl ?_
  refine gj_step (y_not rfl) rfl rfl rfl (gj_step (y_assign rfl) rfl rfl rfl (?_))
  refine gj_nil ?_
  refine ej_th (cj_ret ?_)
  exact ej_ret1 rfl Tryz.results79 rfl (fun w' hp => ⟨rfl, hp.below⟩)

theorem k_clP (n : Int) (w : World)  : Calls Tryz.prog 53 #[.int .i64 n] w (fun e w' => e = .returned (.bool (!(prc1 n))) ∧ Grow w w') := by
  refine enter_pure (args := [.int .i64 n]) [] Tryz.func53 rfl (by rw [Tryz.ntmps53]; simp) (by simp) ?_
  refine cj_seq ?_
  refine cj_regionG (gj_step (y_assign rfl) rfl rfl rfl (gj_nil ?_))
  refine ej_th (cj_seq ?_)
  refine cj_regionG ?_
  refine gj_step (y_move rfl) rfl rfl rfl (?_)
  refine gj_step (y_call Tryz.call45 rfl (fun w hp => k_within1 _ _ _ w)) rfl rfl rfl ?_
  refine gj_step (y_not rfl) rfl rfl rfl (gj_step (y_assign rfl) rfl rfl rfl (?_))
  refine gj_nil ?_
  refine ej_th (cj_ret ?_)
  exact ej_ret1 rfl Tryz.results53 rfl (fun w' hp => ⟨rfl, hp.below⟩)

theorem k_id (n : Int) (w : World)  : Calls Tryz.prog 55 #[.int .i64 n] w (fun e w' => e = .returned (.int .i64 n) ∧ Grow w w') := by
  refine enter_pure (args := [.int .i64 n]) [] Tryz.func55 rfl (by rw [Tryz.ntmps55]; simp) (by simp) ?_
  refine cj_seq ?_
  refine cj_regionG (gj_step (y_assign rfl) rfl rfl rfl (gj_nil ?_))
  refine ej_th (cj_seq ?_)
  refine cj_regionG (gj_step (y_move rfl) rfl rfl rfl (gj_step (y_assign rfl) rfl rfl rfl (gj_nil ?_)))
  refine ej_th (cj_ret ?_)
  exact ej_ret1 rfl Tryz.results55 rfl (fun w' hp => ⟨rfl, hp.below⟩)

theorem k_IndexFR (l : List Int) (A : Option Addr) (c : Nat) (w : World) (hl : Rd w 1 enInt A l) : Calls Tryz.prog 82 #[.slice A l.length c, .func (.func 79) #[] #[]] w (fun e w' => e = .returned (.int .i64 (firstBad l 0)) ∧ Grow w w') := by
  have hlen := hl.len
  refine enter_pure (args := [.slice A l.length c, .func (.func 79) #[] #[]]) [sl (fun b => b < w.heap.size) 1 enInt A l] Tryz.func82 rfl (by rw [Tryz.ntmps82]; simp) (fun g hg => by simp at hg; subst hg; exact ⟨hl, fun _ h => h⟩) ?_
  refine cj_seq ?_
  refine cj_regionG (gj_step (y_assign rfl) rfl rfl rfl (gj_nil ?_))
  refine ej_th (cj_seq (cj_seq ?_))
  refine cj_regionG (gj_step (y_move rfl) rfl rfl rfl (gj_step (y_lenA Tryz.underlying49 rfl) rfl rfl rfl (gj_step (y_move rfl) rfl rfl rfl (gj_nil ?_))))
  refine ej_th (cj_block ?_)
  refine cj_lpic (X := Nat) [(0, _), (1, _), (7, _)] (fun k => k ≤ l.length ∧ firstBad (l.drop k) k = firstBad l 0) (fun k => [(8, .int .i64 k)]) (fun k => l.length - k) 0 (⟨Nat.zero_le _, rfl⟩) ⟨rfl, rfl, rfl, rfl, trivial⟩ ?_
  rintro k ⟨hk, hsk⟩
  dsimp only [List.cons_append, List.nil_append]
  refine cj_seq ?_
  refine cj_regionG (gj_step (y_lss rfl rfl) rfl rfl rfl (gj_nil ?_))
  refine ej_th (cj_seq ?_)
  refine cj_cond rfl (fun h9 => ?_) (fun h9 => ?_)
  · have h9b := h9
    try simp only [sxb] at h9
    obtain ⟨x, hx⟩ : ∃ x, l[k]? = some x := ⟨_, List.getElem?_eq_getElem (by omega)⟩
    rw [firstBad_drop l k x hx] at hsk
    refine cj_skip (ej_th (cj_seq (cj_block (cj_seq ?_))))
    refine cj_regionG (gj_step (y_move rfl) rfl rfl rfl (gj_step (y_assign rfl) rfl rfl rfl (gj_nil ?_)))
    refine ej_th (cj_seq ?_)
    refine cj_regionG ?_
    refine gj_step (y_move rfl) rfl rfl rfl (gj_step (y_move rfl) rfl rfl rfl (gj_step (y_move rfl) rfl rfl rfl (gj_step (y_ixR (reads_sl) Tryz.underlying49 Tryz.sizeOf3 rfl rfl (⟨by omega, by omega⟩)) rfl rfl rfl (gj_step (y_ld0 (reads_sl) Tryz.isAgg3 rfl (hx) rfl) rfl rfl rfl (?_)))))
    refine gj_step (y_callV Tryz.call79 rfl rfl (fun w hp => k_clR x w)) rfl rfl rfl ?_
    refine gj_nil ?_
    refine ej_th ?_
    refine cj_cond rfl (fun h16 => ?_) (fun h16 => ?_)
    · have h16b := h16
      try simp only [sxb] at h16
      refine cj_seq ?_
      refine cj_regionG (gj_step (y_move rfl) rfl rfl rfl (gj_step (y_assign rfl) rfl rfl rfl (gj_nil ?_)))
      refine ej_th (cj_ret (ej_blk_ret (ej_then_ret (ej_then_ret (ej_blk_ret (ej_then_ret ?_))))))
      refine ej_ret1 rfl Tryz.results82 rfl (fun w' hp => ⟨?_, hp.below⟩)
      rw [← hsk, if_pos h16]
    · have h16b := h16
      try simp only [sxb] at h16
      refine cj_skip (ej_blk (ej_th ?_))
      refine cj_regionG (gj_step (y_add rfl rfl (by omega)) rfl rfl rfl (gj_step (y_move rfl) rfl rfl rfl (gj_nil ?_)))
      exact ej_nx (k + 1) (by omega) ⟨by omega, by rw [← hsk, if_neg (by simp [h16])]⟩ ⟨rfl, rfl, rfl, rfl, trivial⟩
  · have h9b := h9
    try simp only [sxb] at h9
    refine cj_exit (ej_then_exit (ej_then_exit (ej_blk_hit (ej_th (cj_seq ?_)))))
    refine cj_regionG (gj_step (y_assign rfl) rfl rfl rfl (gj_nil ?_))
    refine ej_th (cj_ret ?_)
    refine ej_ret1 rfl Tryz.results82 rfl (fun w' hp => ⟨?_, hp.below⟩)
    rw [← hsk, List.drop_of_length_le (by omega)]; rfl

theorem k_ContainsFR (l : List Int) (A : Option Addr) (c : Nat) (w : World) (hl : Rd w 1 enInt A l) : Calls Tryz.prog 52 #[.slice A l.length c, .func (.func 79) #[] #[]] w (fun e w' => e = .returned (.bool (!(l.all rd1))) ∧ Grow w w') := by
  refine enter_pure (args := [.slice A l.length c, .func (.func 79) #[] #[]]) [sl (fun b => b < w.heap.size) 1 enInt A l] Tryz.func52 rfl (by rw [Tryz.ntmps52]; simp) (fun g hg => by simp at hg; subst hg; exact ⟨hl, fun _ h => h⟩) ?_
  refine cj_seq ?_
  refine cj_regionG (gj_step (y_assign rfl) rfl rfl rfl (gj_nil ?_))
  refine ej_th (cj_seq ?_)
  refine cj_regionG ?_
  refine gj_step (y_move rfl) rfl rfl rfl (gj_step (y_move rfl) rfl rfl rfl (?_))
  refine gj_step (y_call Tryz.call82 rfl (fun w hp => k_IndexFR l A c w hp.rd)) rfl rfl rfl ?_
  refine gj_step (y_geq rfl rfl) rfl rfl rfl (gj_step (y_assign rfl) rfl rfl rfl (?_))
  refine gj_nil ?_
  refine ej_th (cj_ret ?_)
  refine ej_ret1 rfl Tryz.results52 rfl (fun w' hp => ⟨?_, hp.below⟩)
  rw [firstBad_all]

theorem k_IndexFP (l : List Int) (A : Option Addr) (c : Nat) (w : World) (hl : Rd w 1 enInt A l) : Calls Tryz.prog 82 #[.slice A l.length c, .func (.func 53) #[] #[]] w (fun e w' => e = .returned (.int .i64 (firstPrc l 0)) ∧ Grow w w') := by
  have hlen := hl.len
  refine enter_pure (args := [.slice A l.length c, .func (.func 53) #[] #[]]) [sl (fun b => b < w.heap.size) 1 enInt A l] Tryz.func82 rfl (by rw [Tryz.ntmps82]; simp) (fun g hg => by simp at hg; subst hg; exact ⟨hl, fun _ h => h⟩) ?_
  refine cj_seq ?_
  refine cj_regionG (gj_step (y_assign rfl) rfl rfl rfl (gj_nil ?_))
  refine ej_th (cj_seq (cj_seq ?_))
  refine cj_regionG (gj_step (y_move rfl) rfl rfl rfl (gj_step (y_lenA Tryz.underlying49 rfl) rfl rfl rfl (gj_step (y_move rfl) rfl rfl rfl (gj_nil ?_))))
  refine ej_th (cj_block ?_)
  refine cj_lpic (X := Nat) [(0, _), (1, _), (7, _)] (fun k => k ≤ l.length ∧ firstPrc (l.drop k) k = firstPrc l 0) (fun k => [(8, .int .i64 k)]) (fun k => l.length - k) 0 (⟨Nat.zero_le _, rfl⟩) ⟨rfl, rfl, rfl, rfl, trivial⟩ ?_
  rintro k ⟨hk, hsk⟩
  dsimp only [List.cons_append, List.nil_append]
  refine cj_seq ?_
  refine cj_regionG (gj_step (y_lss rfl rfl) rfl rfl rfl (gj_nil ?_))
  refine ej_th (cj_seq ?_)
  refine cj_cond rfl (fun h9 => ?_) (fun h9 => ?_)
  · have h9b := h9
    try simp only [sxb] at h9
    obtain ⟨x, hx⟩ : ∃ x, l[k]? = some x := ⟨_, List.getElem?_eq_getElem (by omega)⟩
    rw [firstPrc_drop l k x hx] at hsk
    refine cj_skip (ej_th (cj_seq (cj_block (cj_seq ?_))))
    refine cj_regionG (gj_step (y_move rfl) rfl rfl rfl (gj_step (y_assign rfl) rfl rfl rfl (gj_nil ?_)))
    refine ej_th (cj_seq ?_)
    refine cj_regionG ?_
    refine gj_step (y_move rfl) rfl rfl rfl (gj_step (y_move rfl) rfl rfl rfl (gj_step (y_move rfl) rfl rfl rfl (gj_step (y_ixR (reads_sl) Tryz.underlying49 Tryz.sizeOf3 rfl rfl (⟨by omega, by omega⟩)) rfl rfl rfl (gj_step (y_ld0 (reads_sl) Tryz.isAgg3 rfl (hx) rfl) rfl rfl rfl (?_)))))
    refine gj_step (y_callV Tryz.call53 rfl rfl (fun w hp => k_clP x w)) rfl rfl rfl ?_
    refine gj_nil ?_
    refine ej_th ?_
    refine cj_cond rfl (fun h16 => ?_) (fun h16 => ?_)
    · have h16b := h16
      try simp only [sxb] at h16
      refine cj_seq ?_
      refine cj_regionG (gj_step (y_move rfl) rfl rfl rfl (gj_step (y_assign rfl) rfl rfl rfl (gj_nil ?_)))
      refine ej_th (cj_ret (ej_blk_ret (ej_then_ret (ej_then_ret (ej_blk_ret (ej_then_ret ?_))))))
      refine ej_ret1 rfl Tryz.results82 rfl (fun w' hp => ⟨?_, hp.below⟩)
      rw [← hsk, if_pos h16]
    · have h16b := h16
      try simp only [sxb] at h16
      refine cj_skip (ej_blk (ej_th ?_))
      refine cj_regionG (gj_step (y_add rfl rfl (by omega)) rfl rfl rfl (gj_step (y_move rfl) rfl rfl rfl (gj_nil ?_)))
      exact ej_nx (k + 1) (by omega) ⟨by omega, by rw [← hsk, if_neg (by simp [h16])]⟩ ⟨rfl, rfl, rfl, rfl, trivial⟩
  · have h9b := h9
    try simp only [sxb] at h9
    refine cj_exit (ej_then_exit (ej_then_exit (ej_blk_hit (ej_th (cj_seq ?_)))))
    refine cj_regionG (gj_step (y_assign rfl) rfl rfl rfl (gj_nil ?_))
    refine ej_th (cj_ret ?_)
    refine ej_ret1 rfl Tryz.results82 rfl (fun w' hp => ⟨?_, hp.below⟩)
    rw [← hsk, List.drop_of_length_le (by omega)]; rfl

theorem k_ContainsFP (l : List Int) (A : Option Addr) (c : Nat) (w : World) (hl : Rd w 1 enInt A l) : Calls Tryz.prog 52 #[.slice A l.length c, .func (.func 53) #[] #[]] w (fun e w' => e = .returned (.bool (!(l.all prc1))) ∧ Grow w w') := by
  refine enter_pure (args := [.slice A l.length c, .func (.func 53) #[] #[]]) [sl (fun b => b < w.heap.size) 1 enInt A l] Tryz.func52 rfl (by rw [Tryz.ntmps52]; simp) (fun g hg => by simp at hg; subst hg; exact ⟨hl, fun _ h => h⟩) ?_
  refine cj_seq ?_
  refine cj_regionG (gj_step (y_assign rfl) rfl rfl rfl (gj_nil ?_))
  refine ej_th (cj_seq ?_)
  refine cj_regionG ?_
  refine gj_step (y_move rfl) rfl rfl rfl (gj_step (y_move rfl) rfl rfl rfl (?_))
  refine gj_step (y_call Tryz.call82 rfl (fun w hp => k_IndexFP l A c w hp.rd)) rfl rfl rfl ?_
  refine gj_step (y_geq rfl rfl) rfl rfl rfl (gj_step (y_assign rfl) rfl rfl rfl (?_))
  refine gj_nil ?_
  refine ej_th (cj_ret ?_)
  refine ej_ret1 rfl Tryz.results52 rfl (fun w' hp => ⟨?_, hp.below⟩)
  rw [firstPrc_all]

theorem k_IndexI (l : List Int) (A : Option Addr) (c : Nat) (n : Int) (w : World) (hl : Rd w 1 enInt A l) : Calls Tryz.prog 96 #[.slice A l.length c, .int .i64 n] w (fun e w' => e = .returned (.int .i64 (seek l n 0)) ∧ Grow w w') := by
  have hlen := hl.len
  refine enter_pure (args := [.slice A l.length c, .int .i64 n]) [sl (fun b => b < w.heap.size) 1 enInt A l] Tryz.func96 rfl (by rw [Tryz.ntmps96]; simp) (fun g hg => by simp at hg; subst hg; exact ⟨hl, fun _ h => h⟩) ?_
  refine cj_seq ?_
  refine cj_regionG (gj_step (y_assign rfl) rfl rfl rfl (gj_nil ?_))
  refine ej_th (cj_seq (cj_seq ?_))
  refine cj_regionG (gj_step (y_move rfl) rfl rfl rfl (gj_step (y_lenA Tryz.underlying49 rfl) rfl rfl rfl (gj_step (y_move rfl) rfl rfl rfl (gj_nil ?_))))
  refine ej_th (cj_block ?_)
  refine cj_lpic (X := Nat) [(0, _), (1, _), (7, _)] (fun k => k ≤ l.length ∧ seek (l.drop k) n k = seek l n 0) (fun k => [(8, .int .i64 k)]) (fun k => l.length - k) 0 (⟨Nat.zero_le _, rfl⟩) ⟨rfl, rfl, rfl, rfl, trivial⟩ ?_
  rintro k ⟨hk, hsk⟩
  dsimp only [List.cons_append, List.nil_append]
  refine cj_seq ?_
  refine cj_regionG (gj_step (y_lss rfl rfl) rfl rfl rfl (gj_nil ?_))
  refine ej_th (cj_seq ?_)
  refine cj_cond rfl (fun h9 => ?_) (fun h9 => ?_)
  · have h9b := h9
    try simp only [sxb] at h9
    obtain ⟨x, hx⟩ : ∃ x, l[k]? = some x := ⟨_, List.getElem?_eq_getElem (by omega)⟩
    rw [seek_drop l n k x hx] at hsk
    refine cj_skip (ej_th (cj_seq (cj_block (cj_seq ?_))))
    refine cj_regionG (gj_step (y_move rfl) rfl rfl rfl (gj_step (y_assign rfl) rfl rfl rfl (gj_nil ?_)))
    refine ej_th (cj_seq ?_)
    refine cj_regionG (gj_step (y_move rfl) rfl rfl rfl (gj_step (y_move rfl) rfl rfl rfl (gj_step (y_move rfl) rfl rfl rfl (gj_step (y_ixR (reads_sl) Tryz.underlying49 Tryz.sizeOf3 rfl rfl (⟨by omega, by omega⟩)) rfl rfl rfl (gj_step (y_ld0 (reads_sl) Tryz.isAgg3 rfl (hx) rfl) rfl rfl rfl (gj_step (y_eql rfl rfl) rfl rfl rfl (gj_nil ?_)))))))
    refine ej_th ?_
    refine cj_cond rfl (fun h16 => ?_) (fun h16 => ?_)
    · have h16b := h16
      try simp only [sxb] at h16
      refine cj_seq ?_
      refine cj_regionG (gj_step (y_move rfl) rfl rfl rfl (gj_step (y_assign rfl) rfl rfl rfl (gj_nil ?_)))
      refine ej_th (cj_ret (ej_blk_ret (ej_then_ret (ej_then_ret (ej_blk_ret (ej_then_ret ?_))))))
      refine ej_ret1 rfl Tryz.results96 rfl (fun w' hp => ⟨?_, hp.below⟩)
      rw [← hsk, if_pos h16.symm]
    · have h16b := h16
      try simp only [sxb] at h16
      refine cj_skip (ej_blk (ej_th ?_))
      refine cj_regionG (gj_step (y_add rfl rfl (by omega)) rfl rfl rfl (gj_step (y_move rfl) rfl rfl rfl (gj_nil ?_)))
      exact ej_nx (k + 1) (by omega) ⟨by omega, by rw [← hsk, if_neg (fun e => h16 e.symm)]⟩ ⟨rfl, rfl, rfl, rfl, trivial⟩
  · have h9b := h9
    try simp only [sxb] at h9
    refine cj_exit (ej_then_exit (ej_then_exit (ej_blk_hit (ej_th (cj_seq ?_)))))
    refine cj_regionG (gj_step (y_assign rfl) rfl rfl rfl (gj_nil ?_))
    refine ej_th (cj_ret ?_)
    refine ej_ret1 rfl Tryz.results96 rfl (fun w' hp => ⟨?_, hp.below⟩)
    rw [← hsk, List.drop_of_length_le (by omega)]; rfl

theorem k_ContainsI (l : List Int) (A : Option Addr) (c : Nat) (n : Int) (w : World) (hl : Rd w 1 enInt A l) : Calls Tryz.prog 80 #[.slice A l.length c, .int .i64 n] w (fun e w' => e = .returned (.bool (hasI l n)) ∧ Grow w w') := by
  refine enter_pure (args := [.slice A l.length c, .int .i64 n]) [sl (fun b => b < w.heap.size) 1 enInt A l] Tryz.func80 rfl (by rw [Tryz.ntmps80]; simp) (fun g hg => by simp at hg; subst hg; exact ⟨hl, fun _ h => h⟩) ?_
  refine cj_seq ?_
  refine cj_regionG (gj_step (y_assign rfl) rfl rfl rfl (gj_nil ?_))
  refine ej_th (cj_seq ?_)
  refine cj_regionG ?_
  refine gj_step (y_move rfl) rfl rfl rfl (gj_step (y_move rfl) rfl rfl rfl (?_))
  refine gj_step (y_call Tryz.call96 rfl (fun w hp => k_IndexI _ _ _ _ w hp.rd)) rfl rfl rfl ?_
  refine gj_step (y_geq rfl rfl) rfl rfl rfl (gj_step (y_assign rfl) rfl rfl rfl (?_))
  refine gj_nil ?_
  refine ej_th (cj_ret ?_)
  refine ej_ret1 rfl Tryz.results80 rfl (fun w' hp => ⟨?_, hp.below⟩)
  rw [← seekI l n 0]; rfl

theorem k_CheckM (ms : List Meas) (A : Option Addr) (c : Nat) (w : World) (hm : Rd w 2 encMe A ms) : Calls Tryz.prog 43 #[.slice A ms.length c] w (fun e w' => e = .returned (.int .i64 (measE ms)) ∧ Grow w w') := by
  have hlen := hm.len
  refine enter_pure (args := [.slice A ms.length c]) [sl (fun b => b < w.heap.size) 2 encMe A ms] Tryz.func43 rfl (by rw [Tryz.ntmps43]; simp) (fun g hg => by simp at hg; subst hg; exact ⟨hm, fun _ h => h⟩) ?_
  refine cj_seq ?_
  refine cj_regionG (gj_step (y_assign rfl) rfl rfl rfl (gj_nil ?_))
  refine ej_th (cj_seq (cj_seq ?_))
  refine cj_regionG ?_
  refine gj_step (y_move rfl) rfl rfl rfl (gj_step (y_lenA Tryz.underlying48 rfl) rfl rfl rfl (?_))
  refine gj_step (y_call Tryz.call45 rfl (fun w hp => k_within1 _ _ _ w)) rfl rfl rfl ?_
  refine gj_step (y_not rfl) rfl rfl rfl (?_)
  refine gj_nil ?_
  refine ej_th ?_
  refine cj_cond rfl (fun h8 => ?_) (fun h8 => ?_)
  · have h8b := h8
    try simp only [sxb] at h8
    refine cj_seq ?_
    refine cj_regionG (gj_step (y_assign rfl) rfl rfl rfl (gj_nil ?_))
    refine ej_th (cj_ret (ej_then_ret ?_))
    refine ej_ret1 rfl Tryz.results43 rfl (fun w' hp => ⟨?_, hp.below⟩)
    rw [measE, show measOk ms = false by rw [measOk, show btw 1 ms.length 8 = false from not_t h8b]; rfl]; rfl
  · have h8b := h8
    try simp only [sxb] at h8
    refine cj_skip (ej_th (cj_seq (cj_seq ?_)))
    refine cj_regionG (gj_step (y_move rfl) rfl rfl rfl (gj_step (y_lenA Tryz.underlying48 rfl) rfl rfl rfl (gj_step (y_move rfl) rfl rfl rfl (gj_nil ?_))))
    refine ej_th (cj_block ?_)
    refine cj_lpic (X := Nat) [(9, _), (10, _)] (fun k => k ≤ ms.length ∧ (ms.drop k).all meas1 = ms.all meas1) (fun k => [(11, .int .i64 k)]) (fun k => ms.length - k) 0 (⟨Nat.zero_le _, rfl⟩) ⟨rfl, rfl, rfl, trivial⟩ ?_
    rintro k ⟨hk, hsk⟩
    dsimp only [List.cons_append, List.nil_append]
    refine cj_seq ?_
    refine cj_regionG (gj_step (y_lss rfl rfl) rfl rfl rfl (gj_nil ?_))
    refine ej_th (cj_seq ?_)
    refine cj_cond rfl (fun h12 => ?_) (fun h12 => ?_)
    · have h12b := h12
      try simp only [sxb] at h12
      obtain ⟨m, hx⟩ : ∃ m, ms[k]? = some m := ⟨_, List.getElem?_eq_getElem (by omega)⟩
      rw [all_drop meas1 ms k m hx] at hsk
      refine cj_skip (ej_th (cj_seq (cj_block (cj_seq (cj_region ?_)))))
      refine oj_step (y_ixR (reads_sl) Tryz.underlying48 Tryz.sizeOf98 rfl rfl (⟨by omega, by omega⟩)) rfl rfl rfl ?_
      refine oj_step (y_ldW (reads_sl) Tryz.isAgg98 Tryz.sizeOf98 rfl (hx) (fun _ => rfl)) rfl rfl rfl ?_
      refine oj_alloc Tryz.zeroValue98 rfl rfl (fun b4 => ?_)
      refine oj_store rfl rfl rfl rfl Tryz.sizeOf98 rfl ?_
      refine oj_nil ?_
      refine ej_th (cj_seq ?_)
      refine cj_regionG ?_
      refine gj_step (y_fa0 fa98_0 rfl) rfl rfl rfl (gj_step (y_load1 Tryz.isAgg3 rfl rfl) rfl rfl rfl (?_))
      refine gj_step (y_call Tryz.call45 rfl (fun w hp => k_within1 _ _ _ w)) rfl rfl rfl ?_
      refine gj_step (y_not rfl) rfl rfl rfl (gj_step (y_move rfl) rfl rfl rfl (?_))
      refine gj_g 4 19 23 rfl rfl rfl rfl (fun hg19 => gj_yes rfl rfl rfl (y_fa fa98_1 rfl) rfl rfl (gj_yes rfl rfl rfl (y_load1 Tryz.isAgg3 rfl rfl) rfl rfl (gj_yes rfl rfl rfl (y_call Tryz.call45 rfl (fun w hp => k_within1 _ _ _ w)) rfl rfl (gj_yes rfl rfl rfl (y_not rfl) rfl rfl (gj_nil rfl))))) ?_
      refine gj_step (y_or rfl rfl rfl) rfl rfl rfl (?_)
      refine gj_nil ?_
      refine ej_th ?_
      refine cj_cond rfl (fun h24 => ?_) (fun h24 => ?_)
      · have h24b := h24
        try simp only [sxb] at h24
        refine cj_seq ?_
        refine cj_regionG (gj_step (y_assign rfl) rfl rfl rfl (gj_nil ?_))
        refine ej_th (cj_ret (ej_blk_ret (ej_then_ret (ej_then_ret (ej_blk_ret (ej_then_ret ?_))))))
        refine ej_ret1 rfl Tryz.results43 rfl (fun w' hp => ⟨?_, hp.below⟩)
        rw [measE, show measOk ms = false by rw [measOk, ← hsk, not_t ((meas1_V m).symm.trans h24b)]; simp]; rfl
      · have h24b := h24
        try simp only [sxb] at h24
        refine cj_skip (ej_blk (ej_th ?_))
        refine cj_regionG (gj_step (y_add rfl rfl (by omega)) rfl rfl rfl (gj_step (y_move rfl) rfl rfl rfl (gj_nil ?_)))
        exact ej_nx (k + 1) (by omega) ⟨by omega, by rw [← hsk, not_f ((meas1_V m).symm.trans h24b), Bool.true_and]⟩ ⟨rfl, rfl, rfl, trivial⟩
    · have h12b := h12
      try simp only [sxb] at h12
      refine cj_exit (ej_then_exit (ej_then_exit (ej_blk_hit (ej_th (cj_seq ?_)))))
      refine cj_regionG (gj_step (y_assign rfl) rfl rfl rfl (gj_nil ?_))
      refine ej_th (cj_ret ?_)
      refine ej_ret1 rfl Tryz.results43 rfl (fun w' hp => ⟨?_, hp.below⟩)
      rw [measE, show measOk ms = true by rw [measOk, show btw 1 ms.length 8 = true from not_f h8b, ← hsk, List.drop_of_length_le (by omega)]; rfl]; rfl

theorem k_readings (ms : List Meas) (A : Option Addr) (c : Nat) (ls : List ListV) (B : Option Addr) (d : Nat) (w : World) (hl : Rd w 1 encLs B ls) (hgl : ∀ r ∈ ls, GoodL w r) : Calls Tryz.prog 44 #[.slice A ms.length c, .slice B ls.length d] w (fun e w' => e = .returned (.int .i64 (rdsE ms.length ls)) ∧ Grow w w') := by
  have hlen := hl.len
  refine enter_pure (args := [.slice A ms.length c, .slice B ls.length d]) [sl (fun b => b < w.heap.size) 1 encLs B ls] Tryz.func44 rfl (by rw [Tryz.ntmps44]; simp) (fun g hg => by simp at hg; subst hg; exact ⟨hl, fun _ h => h⟩) ?_
  refine cj_seq ?_
  refine cj_regionG (gj_step (y_assign rfl) rfl rfl rfl (gj_nil ?_))
  refine ej_th (cj_seq (cj_seq ?_))
  refine cj_regionG (gj_step (y_move rfl) rfl rfl rfl (gj_step (y_lenA Tryz.underlying57 rfl) rfl rfl rfl (gj_step (y_move rfl) rfl rfl rfl (gj_nil ?_))))
  refine ej_th (cj_block ?_)
  refine cj_lpic (X := Nat) [(0, _), (7, _), (8, _)] (fun k => k ≤ ls.length ∧ (ls.drop k).all (rdOkV ms.length) = ls.all (rdOkV ms.length)) (fun k => [(9, .int .i64 k)]) (fun k => ls.length - k) 0 (⟨Nat.zero_le _, rfl⟩) ⟨rfl, rfl, rfl, rfl, trivial⟩ ?_
  rintro k ⟨hk, hsk⟩
  dsimp only [List.cons_append, List.nil_append]
  refine cj_seq ?_
  refine cj_regionG (gj_step (y_lss rfl rfl) rfl rfl rfl (gj_nil ?_))
  refine ej_th (cj_seq ?_)
  refine cj_cond rfl (fun h10 => ?_) (fun h10 => ?_)
  · have h10b := h10
    try simp only [sxb] at h10
    obtain ⟨r, hx⟩ : ∃ r, ls[k]? = some r := ⟨_, List.getElem?_eq_getElem (by omega)⟩
    rw [all_drop (rdOkV ms.length) ls k r hx] at hsk
    have hgr := hgl r (List.mem_of_getElem? hx)
    have hl2 := hgr.len
    refine cj_rd hgr (fun _ h => h) ?_
    refine cj_skip (ej_th (cj_seq (cj_block (cj_seq ?_))))
    refine cj_regionG (gj_step (y_ixR (reads_sl) Tryz.underlying57 Tryz.sizeOf49 rfl rfl (⟨by omega, by omega⟩)) rfl rfl rfl (gj_step (y_ld0 (reads_sl) Tryz.isAgg49 rfl (hx) rfl) rfl rfl rfl (gj_step (y_assign rfl) rfl rfl rfl (gj_nil ?_))))
    refine ej_th (cj_seq ?_)
    refine cj_regionG ?_
    refine gj_step (y_move rfl) rfl rfl rfl (gj_step (y_lenA Tryz.underlying49 rfl) rfl rfl rfl (gj_step (y_move rfl) rfl rfl rfl (gj_step (y_lenA Tryz.underlying48 rfl) rfl rfl rfl (gj_step (y_neq rfl rfl) rfl rfl rfl (gj_step (y_move rfl) rfl rfl rfl (?_))))))
    refine gj_g 2 18 20 rfl rfl rfl rfl (fun hg18 => gj_yes rfl rfl rfl (y_move rfl) rfl rfl (gj_yes rfl rfl rfl (y_call Tryz.call52 rfl (fun w hp => k_ContainsFR r.l _ _ w hp.rd)) rfl rfl (gj_nil rfl))) ?_
    refine gj_step (y_or rfl rfl rfl) rfl rfl rfl (?_)
    refine gj_nil ?_
    refine ej_th ?_
    refine cj_cond rfl (fun h21 => ?_) (fun h21 => ?_)
    · have h21b := h21
      try simp only [sxb] at h21
      refine cj_seq ?_
      refine cj_regionG (gj_step (y_assign rfl) rfl rfl rfl (gj_nil ?_))
      refine ej_th (cj_ret (ej_blk_ret (ej_then_ret (ej_then_ret (ej_blk_ret (ej_then_ret ?_))))))
      refine ej_ret1 rfl Tryz.results44 rfl (fun w' hp => ⟨?_, hp.below⟩)
      rw [rdsE, ← hsk, show rdOkV ms.length r = false from not_t ((rd_V _ _ _).symm.trans h21b)]; rfl
    · have h21b := h21
      try simp only [sxb] at h21
      refine cj_skip (ej_blk (ej_th ?_))
      refine cj_regionG (gj_step (y_add rfl rfl (by omega)) rfl rfl rfl (gj_step (y_move rfl) rfl rfl rfl (gj_nil ?_)))
      exact ej_nx (k + 1) (by omega) ⟨by omega, by rw [← hsk, show rdOkV ms.length r = true from not_f ((rd_V _ _ _).symm.trans h21b), Bool.true_and]⟩ ⟨rfl, rfl, rfl, rfl, trivial⟩
  · have h10b := h10
    try simp only [sxb] at h10
    refine cj_exit (ej_then_exit (ej_then_exit (ej_blk_hit (ej_th (cj_seq ?_)))))
    refine cj_regionG (gj_step (y_assign rfl) rfl rfl rfl (gj_nil ?_))
    refine ej_th (cj_ret ?_)
    refine ej_ret1 rfl Tryz.results44 rfl (fun w' hp => ⟨?_, hp.below⟩)
    rw [rdsE, ← hsk, List.drop_of_length_le (by omega)]; rfl

theorem k_skill (ms : List Meas) (A : Option Addr) (c : Nat) (tk : List Int) (At : Option Addr) (ct : Nat) (fs : List FakeV) (Af : Option Addr) (cf : Nat) (w : World) (hm : Rd w 2 encMe A ms) (ht : Rd w 1 enInt At tk) (hf : Rd w 1 encFk Af fs) (hgf : ∀ f ∈ fs, GoodK w f) : Calls Tryz.prog 46 #[.slice A ms.length c, .slice At tk.length ct, .slice Af fs.length cf] w (fun e w' => e = .returned (.int .i64 (skillE ms tk fs)) ∧ Grow w w') := by
  have hlm := hm.len
  have hlf := hf.len
  refine enter_pure (args := [.slice A ms.length c, .slice At tk.length ct, .slice Af fs.length cf]) [sl (fun b => b < w.heap.size) 2 encMe A ms, sl (fun b => b < w.heap.size) 1 enInt At tk, sl (fun b => b < w.heap.size) 1 encFk Af fs] Tryz.func46 rfl (by rw [Tryz.ntmps46]; simp) (fun g hg => by simp at hg; rcases hg with rfl | rfl | rfl; exact ⟨hm, fun _ h => h⟩; exact ⟨ht, fun _ h => h⟩; exact ⟨hf, fun _ h => h⟩) ?_
  refine cj_seq ?_
  refine cj_regionG (gj_step (y_assign rfl) rfl rfl rfl (gj_nil ?_))
  refine ej_th (cj_seq (cj_seq ?_))
  refine cj_regionG ?_
  refine gj_step (y_move rfl) rfl rfl rfl (?_)
  refine gj_step (y_call Tryz.call43 rfl (fun w hp => k_CheckM _ _ _ w hp.rd)) rfl rfl rfl ?_
  refine gj_step (y_assign rfl) rfl rfl rfl (?_)
  refine gj_nil ?_
  refine ej_th (cj_seq ?_)
  refine cj_regionG (gj_step (y_move rfl) rfl rfl rfl (gj_step (y_neq rfl rfl) rfl rfl rfl (gj_nil ?_)))
  refine ej_th ?_
  refine cj_cond rfl (fun h16 => ?_) (fun h16 => ?_)
  · have h16b := h16
    try simp only [sxb] at h16
    have hno := meas_no h16b
    refine cj_seq ?_
    refine cj_regionG (gj_step (y_move rfl) rfl rfl rfl (gj_step (y_assign rfl) rfl rfl rfl (gj_nil ?_)))
    refine ej_th (cj_ret (ej_then_ret ?_))
    refine ej_ret1 rfl Tryz.results46 rfl (fun w' hp => ⟨?_, hp.below⟩)
    rw [skillE, measE, hno]; rfl
  · have h16b := h16
    try simp only [sxb] at h16
    have hmo := meas_0 h16b
    obtain ⟨hml, hmb⟩ := meas_bd hmo
    refine cj_skip (ej_th (cj_seq (cj_seq (cj_region ?_))))
    refine oj_step (y_move rfl) rfl rfl rfl ?_
    refine oj_step (y_move rfl) rfl rfl rfl ?_
    refine oj_buildSlice (cs := [.slice At tk.length ct]) [.slice none 0 0] Tryz.underlying57 Tryz.sizeOf49 Tryz.zeroValue49 rfl rfl (by kernel_rfl) (by kernel_rfl) rfl (fun b20 => ?_)
    refine oj_step (y_call Tryz.call44 rfl (fun w hp => k_readings ms A c [⟨At, ct, tk⟩] (some ⟨b20, 0, none⟩) 1 w (hp.rdLit (sz := 1) (enc := encLs) [⟨At, ct, tk⟩] (fun _ => rfl) rfl (by unfold maxLen; simp)) (fun r hr => by rw [List.mem_singleton.1 hr]; exact ht.mono hp.below))) rfl rfl rfl ?_
    refine oj_step (y_assign rfl) rfl rfl rfl ?_
    refine oj_nil ?_
    refine ej_th (cj_seq ?_)
    refine cj_regionG (gj_step (y_move rfl) rfl rfl rfl (gj_step (y_neq rfl rfl) rfl rfl rfl (gj_nil ?_)))
    refine ej_th ?_
    refine cj_cond rfl (fun h23 => ?_) (fun h23 => ?_)
    · have h23b := h23
      try simp only [sxb] at h23
      have hno : rdOk ms.length tk = false := by have := rds_no h23b; simpa [rdOkV] using this
      refine cj_seq ?_
      refine cj_regionG (gj_step (y_move rfl) rfl rfl rfl (gj_step (y_assign rfl) rfl rfl rfl (gj_nil ?_)))
      refine ej_th (cj_ret (ej_then_ret ?_))
      refine ej_ret1 rfl Tryz.results46 rfl (fun w' hp => ⟨?_, hp.below⟩)
      rw [skillE, hmo, if_pos rfl, hno, rdsE, show [(⟨At, ct, tk⟩ : ListV)].all (rdOkV ms.length) = false by simpa [rdOkV] using hno]; rfl
    · have h23b := h23
      try simp only [sxb] at h23
      have hto : rdOk ms.length tk = true := by have := rds_0 h23b; simpa [rdOkV] using this
      refine cj_skip (ej_th (cj_seq (cj_seq ?_)))
      refine cj_regionG (gj_step (y_move rfl) rfl rfl rfl (gj_step (y_lenA Tryz.underlying50 rfl) rfl rfl rfl (gj_step (y_gtr rfl rfl) rfl rfl rfl (gj_nil ?_))))
      refine ej_th ?_
      refine cj_cond rfl (fun h27 => ?_) (fun h27 => ?_)
      · have h27b := h27
        try simp only [sxb] at h27
        refine cj_seq ?_
        refine cj_regionG (gj_step (y_assign rfl) rfl rfl rfl (gj_nil ?_))
        refine ej_th (cj_ret (ej_then_ret ?_))
        refine ej_ret1 rfl Tryz.results46 rfl (fun w' hp => ⟨?_, hp.below⟩)
        rw [skillE, hmo, hto, if_pos rfl, if_pos rfl, show fakesOk ms.length fs = false by rw [fakesOk, decide_eq_false (by omega)]; rfl]; rfl
      · have h27b := h27
        try simp only [sxb] at h27
        refine cj_skip (ej_th (cj_seq (cj_seq ?_)))
        refine cj_regionG (gj_step (y_move rfl) rfl rfl rfl (gj_step (y_lenA Tryz.underlying50 rfl) rfl rfl rfl (gj_step (y_move rfl) rfl rfl rfl (gj_nil ?_))))
        refine ej_th (cj_block ?_)
        refine cj_lpic (X := Nat) [(0, _), (28, _), (29, _)] (fun k => k ≤ fs.length ∧ (fs.drop k).all (fake1 ms.length) = fs.all (fake1 ms.length)) (fun k => [(30, .int .i64 k)]) (fun k => fs.length - k) 0 (⟨Nat.zero_le _, rfl⟩) ⟨rfl, rfl, rfl, rfl, trivial⟩ ?_
        rintro k ⟨hk, hsk⟩
        dsimp only [List.cons_append, List.nil_append]
        refine cj_seq ?_
        refine cj_regionG (gj_step (y_lss rfl rfl) rfl rfl rfl (gj_nil ?_))
        refine ej_th (cj_seq ?_)
        refine cj_cond rfl (fun h31 => ?_) (fun h31 => ?_)
        · have h31b := h31
          try simp only [sxb] at h31
          obtain ⟨f, hx⟩ : ∃ f, fs[k]? = some f := ⟨_, List.getElem?_eq_getElem (by omega)⟩
          rw [all_drop (fake1 ms.length) fs k f hx] at hsk
          have hgr := hgf f (List.mem_of_getElem? hx)
          have hl2 := hgr.len
          refine cj_rd hgr (fun _ h => h) ?_
          refine cj_skip (ej_th (cj_seq (cj_block (cj_seq (cj_region ?_)))))
          refine oj_step (y_ixR (reads_sl) Tryz.underlying50 Tryz.sizeOf63 rfl rfl (⟨by omega, by omega⟩)) rfl rfl rfl ?_
          refine oj_step (y_ldW (reads_sl) Tryz.isAgg63 Tryz.sizeOf63 rfl (hx) (fun _ => rfl)) rfl rfl rfl ?_
          refine oj_alloc Tryz.zeroValue63 rfl rfl (fun b10 => ?_)
          refine oj_store rfl rfl rfl rfl Tryz.sizeOf63 rfl ?_
          refine oj_nil ?_
          refine ej_th (cj_seq (cj_seq ?_))
          refine cj_regionG (gj_step (y_fa0 fa63_0 rfl) rfl rfl rfl (gj_step (y_load1 Tryz.isAgg54 rfl rfl) rfl rfl rfl (gj_step (y_lenA Tryz.underlying54 rfl) rfl rfl rfl (gj_step (y_move rfl) rfl rfl rfl (gj_step (y_lenA Tryz.underlying48 rfl) rfl rfl rfl (gj_step (y_neq rfl rfl) rfl rfl rfl (gj_nil ?_)))))))
          refine ej_th ?_
          refine cj_cond rfl (fun h39 => ?_) (fun h39 => ?_)
          · have h39b := h39
            try simp only [sxb] at h39
            have hbad : fake1 ms.length f = false := by unfold fake1; rw [show ((f.has.length : Int) == (ms.length : Int)) = false by simpa [bne] using h39b]; rfl
            refine cj_seq ?_
            refine cj_regionG (gj_step (y_assign rfl) rfl rfl rfl (gj_nil ?_))
            refine ej_th (cj_ret (ej_then_ret (ej_blk_ret (ej_then_ret (ej_then_ret (ej_blk_ret (ej_then_ret ?_)))))))
            refine ej_ret1 rfl Tryz.results46 rfl (fun w' hp => ⟨?_, hp.below⟩)
            rw [skillE, hmo, hto, if_pos rfl, if_pos rfl, show fakesOk ms.length fs = false by rw [fakesOk, ← hsk, hbad]; simp]; rfl
          · have h39b := h39
            try simp only [sxb] at h39
            have hfl : ((f.has.length : Int) == (ms.length : Int)) = true := by simpa [bne] using h39b
            refine cj_skip (ej_th (cj_seq ?_))
            refine cj_regionG (gj_step (y_fa0 fa63_0 rfl) rfl rfl rfl (gj_step (y_load1 Tryz.isAgg54 rfl rfl) rfl rfl rfl (gj_step (y_lenA Tryz.underlying54 rfl) rfl rfl rfl (gj_step (y_move rfl) rfl rfl rfl (gj_nil ?_)))))
            refine ej_th (cj_block ?_)
            refine cj_lpic (X := Nat) [(30, _), (0, _), (28, _), (29, _), (41, _), (42, _)] (fun j => j ≤ f.has.length ∧ (f.has.drop j).all goodSp = f.has.all goodSp) (fun j => [(43, .int .i64 j)]) (fun j => f.has.length - j) 0 (⟨Nat.zero_le _, rfl⟩) ⟨rfl, rfl, rfl, rfl, rfl, rfl, rfl, trivial⟩ ?_
            rintro j ⟨hj, hsj⟩
            dsimp only [List.cons_append, List.nil_append]
            refine cj_seq ?_
            refine cj_regionG (gj_step (y_lss rfl rfl) rfl rfl rfl (gj_nil ?_))
            refine ej_th (cj_seq ?_)
            refine cj_cond rfl (fun h44 => ?_) (fun h44 => ?_)
            · have h44b := h44
              try simp only [sxb] at h44
              obtain ⟨s, hy⟩ : ∃ s, f.has[j]? = some s := ⟨_, List.getElem?_eq_getElem (by omega)⟩
              rw [all_drop goodSp f.has j s hy] at hsj
              refine cj_skip (ej_th (cj_seq (cj_block (cj_seq (cj_region ?_)))))
              refine oj_step (y_ixR (reads_sl) Tryz.underlying54 Tryz.sizeOf70 rfl rfl (⟨by omega, by omega⟩)) rfl rfl rfl ?_
              refine oj_step (y_ldW (reads_sl) Tryz.isAgg70 Tryz.sizeOf70 rfl (hy) (fun _ => rfl)) rfl rfl rfl ?_
              refine oj_alloc Tryz.zeroValue70 rfl rfl (fun b12 => ?_)
              refine oj_store rfl rfl rfl rfl Tryz.sizeOf70 rfl ?_
              refine oj_nil ?_
              refine ej_th (cj_seq ?_)
              refine cj_regionG (gj_step (y_fa0 fa70_0 rfl) rfl rfl rfl (gj_step (y_load1 Tryz.isAgg3 rfl rfl) rfl rfl rfl (gj_step (y_lss rfl rfl) rfl rfl rfl (gj_step (y_move rfl) rfl rfl rfl (gj_g 5 50 55 rfl rfl rfl rfl (fun hg50 => gj_yes rfl rfl rfl (y_fa0 fa70_0 rfl) rfl rfl (gj_yes rfl rfl rfl (y_load1 Tryz.isAgg3 rfl rfl) rfl rfl (gj_yes rfl rfl rfl (y_fa fa70_1 rfl) rfl rfl (gj_yes rfl rfl rfl (y_load1 Tryz.isAgg3 rfl rfl) rfl rfl (gj_yes rfl rfl rfl (y_gtr rfl rfl) rfl rfl (gj_nil rfl)))))) (gj_step (y_or rfl rfl rfl) rfl rfl rfl (gj_step (y_move rfl) rfl rfl rfl (gj_g 3 57 60 rfl rfl rfl rfl (fun hg57 => gj_yes rfl rfl rfl (y_fa fa70_1 rfl) rfl rfl (gj_yes rfl rfl rfl (y_load1 Tryz.isAgg3 rfl rfl) rfl rfl (gj_yes rfl rfl rfl (y_gtr rfl rfl) rfl rfl (gj_nil rfl)))) (gj_step (y_or rfl rfl rfl) rfl rfl rfl (gj_nil ?_))))))))))
              refine ej_th ?_
              refine cj_cond rfl (fun h61 => ?_) (fun h61 => ?_)
              · have h61b := h61
                try simp only [sxb] at h61
                refine cj_seq ?_
                refine cj_regionG (gj_step (y_assign rfl) rfl rfl rfl (gj_nil ?_))
                refine ej_th (cj_ret (ej_blk_ret (ej_then_ret (ej_then_ret (ej_blk_ret (ej_blk_ret (ej_then_ret (ej_then_ret (ej_blk_ret (ej_then_ret ?_))))))))))
                refine ej_ret1 rfl Tryz.results46 rfl (fun w' hp => ⟨?_, hp.below⟩)
                rw [skillE, hmo, hto, if_pos rfl, if_pos rfl, show fakesOk ms.length fs = false by rw [fakesOk, ← hsk, fake1, ← hsj, show goodSp s = false by unfold goodSp badSp; rw [h61b]; rfl]; simp]; rfl
              · have h61b := h61
                try simp only [sxb] at h61
                refine cj_skip (ej_blk (ej_th ?_))
                refine cj_regionG (gj_step (y_add rfl rfl (by omega)) rfl rfl rfl (gj_step (y_move rfl) rfl rfl rfl (gj_nil ?_)))
                exact ej_nx (j + 1) (by omega) ⟨by omega, by rw [← hsj, show goodSp s = true by unfold goodSp badSp; rw [h61b]; rfl, Bool.true_and]⟩ ⟨rfl, rfl, rfl, rfl, rfl, rfl, rfl, trivial⟩
            · have h44b := h44
              try simp only [sxb] at h44
              have hfo : fake1 ms.length f = true := by unfold fake1; rw [hfl, ← hsj, List.drop_of_length_le (by omega)]; rfl
              refine cj_exit (ej_then_exit (ej_then_exit (ej_blk_hit (ej_blk (ej_th ?_)))))
              refine cj_regionG (gj_step (y_add rfl rfl (by omega)) rfl rfl rfl (gj_step (y_move rfl) rfl rfl rfl (gj_nil ?_)))
              exact ej_nx (k + 1) (by omega) ⟨by omega, by rw [← hsk, hfo, Bool.true_and]⟩ ⟨rfl, rfl, rfl, rfl, trivial⟩
        · have h31b := h31
          try simp only [sxb] at h31
          refine cj_exit (ej_then_exit (ej_then_exit (ej_blk_hit (ej_th (cj_seq ?_)))))
          refine cj_regionG (gj_step (y_assign rfl) rfl rfl rfl (gj_nil ?_))
          refine ej_th (cj_ret ?_)
          refine ej_ret1 rfl Tryz.results46 rfl (fun w' hp => ⟨?_, hp.below⟩)
          rw [skillE, hmo, hto, if_pos rfl, if_pos rfl, show fakesOk ms.length fs = true by rw [fakesOk, decide_eq_true (by omega), ← hsk, List.drop_of_length_le (by omega)]; rfl]; rfl

theorem k_finds (m : Meas) (r : Int) (s : Span) (w : World) (hb : (-1 ≤ r ∧ r ≤ 100000) ∧ (0 ≤ m.tol ∧ m.tol ≤ 1000)) : Calls Tryz.prog 54 #[evMe m, .int .i64 r, evSp s] w (fun e w' => e = .returned (.bool (fnd m r s)) ∧ Grow w w') := by
  refine enter_pure (args := [evMe m, .int .i64 r, evSp s]) [] Tryz.func54 rfl (by rw [Tryz.ntmps54]; simp) (by simp) ?_
  refine cj_seq (cj_region ?_)
  refine oj_box rfl rfl rfl (fun b3 => ?_)
  refine oj_box rfl rfl rfl (fun b5 => ?_)
  refine oj_step (y_assign rfl) rfl rfl rfl ?_
  refine oj_nil ?_
  refine ej_th (cj_seq ?_)
  refine cj_regionG (gj_step (y_move rfl) rfl rfl rfl (gj_step (y_geq rfl rfl) rfl rfl rfl (gj_step (y_move rfl) rfl rfl rfl (gj_g 18 9 27 rfl rfl rfl rfl (fun hg9 => gj_yes rfl rfl rfl (y_fa0 fa70_0 rfl) rfl rfl (gj_yes rfl rfl rfl (y_load1 Tryz.isAgg3 rfl rfl) rfl rfl (gj_yes rfl rfl rfl (y_move rfl) rfl rfl (gj_yes rfl rfl rfl (y_fa0 fa98_0 rfl) rfl rfl (gj_yes rfl rfl rfl (y_load1 Tryz.isAgg3 rfl rfl) rfl rfl (gj_yes rfl rfl rfl (y_mul rfl rfl (by omega)) rfl rfl (gj_yes rfl rfl rfl (y_add rfl rfl (by omega)) rfl rfl (gj_yes rfl rfl rfl (y_gtr rfl rfl) rfl rfl (gj_yes rfl rfl rfl (y_move rfl) rfl rfl (gj_g 8 18 26 rfl rfl rfl rfl (fun hg18 => gj_yes rfl rfl rfl (y_fa fa70_1 rfl) rfl rfl (gj_yes rfl rfl rfl (y_load1 Tryz.isAgg3 rfl rfl) rfl rfl (gj_yes rfl rfl rfl (y_move rfl) rfl rfl (gj_yes rfl rfl rfl (y_fa0 fa98_0 rfl) rfl rfl (gj_yes rfl rfl rfl (y_load1 Tryz.isAgg3 rfl rfl) rfl rfl (gj_yes rfl rfl rfl (y_mul rfl rfl (by omega)) rfl rfl (gj_yes rfl rfl rfl (y_sub rfl rfl (by omega)) rfl rfl (gj_yes rfl rfl rfl (y_lss rfl rfl) rfl rfl (gj_nil rfl))))))))) (gj_yes rfl rfl rfl (y_or rfl rfl rfl) rfl rfl (gj_nil rfl)))))))))))) (gj_step (y_and rfl rfl rfl) rfl rfl rfl (gj_step (y_assign rfl) rfl rfl rfl (gj_nil ?_)))))))
  refine ej_th (cj_ret ?_)
  exact ej_ret1 rfl Tryz.results54 rfl (fun w' hp => ⟨rfl, hp.below⟩)

end Go.Proofs.YtlfbghkcfmcnlaaGreatDoor
namespace Go.Proofs.YtlfbghkcfmcnlaaGreatDoor
open Go.Sx Go.RowKit
set_option maxRecDepth 20000
theorem el49 : ElemIs Tryz.prog 49 3 1 8 := ⟨⟨_, (.int .i64 0), Tryz.underlying49, Tryz.type3, by kernel_rfl, by kernel_rfl, by kernel_rfl, by kernel_rfl, by decide⟩⟩
end Go.Proofs.YtlfbghkcfmcnlaaGreatDoor
namespace Go.Proofs.YtlfbghkcfmcnlaaGreatDoor
open Go.Sx Go.RowKit
set_option maxRecDepth 20000
theorem k_found (ms : List Meas) (A : Option Addr) (c : Nat) (tk : List Int) (At : Option Addr) (ct : Nat) (f : FakeV) (w : World) (hm : Rd w 2 encMe A ms) (ht : Rd w 1 enInt At tk) (hr : Rd w 2 encSp f.A f.has) (hml : ms.length ≤ 8) (hmb : ∀ m ∈ ms, (0 ≤ m.tol ∧ m.tol ≤ 1000) ∧ (1 ≤ m.lab ∧ m.lab ≤ 1000)) (htl : tk.length = ms.length ∧ ∀ x ∈ tk, -1 ≤ x ∧ x ≤ 100000) (hhl : f.has.length = ms.length) : Calls Tryz.prog 47 #[.slice A ms.length c, .slice At tk.length ct, evFk f] w (fun e w' => ∃ A c, e = .returned (.slice A (foundL ms tk f).length c) ∧ Grow w w' ∧ Res w w' 1 enInt A (foundL ms tk f)) := by
  refine enter_pure (args := [.slice A ms.length c, .slice At tk.length ct, evFk f]) [sl (fun b => b < w.heap.size) 2 encMe A ms, sl (fun b => b < w.heap.size) 1 enInt At tk, sl (fun b => b < w.heap.size) 2 encSp f.A f.has] Tryz.func47 rfl (by rw [Tryz.ntmps47]; simp) (fun g hg => by simp at hg; rcases hg with rfl | rfl | rfl; exact ⟨hm, fun _ h => h⟩; exact ⟨ht, fun _ h => h⟩; exact ⟨hr, fun _ h => h⟩) ?_
  refine cj_seq (cj_region ?_)
  refine oj_box rfl rfl rfl (fun b5 => ?_)
  refine oj_step (y_assign rfl) rfl rfl rfl ?_
  refine oj_nil ?_
  refine ej_th (cj_seq ?_)
  refine cj_regionG (gj_step (y_assign rfl) rfl rfl rfl (gj_nil ?_))
  refine ej_th (cj_seq (cj_seq ?_))
  refine cj_regionG (gj_step (y_move rfl) rfl rfl rfl (gj_step (y_lenA Tryz.underlying48 rfl) rfl rfl rfl (gj_step (y_move rfl) rfl rfl rfl (gj_nil ?_))))
  refine ej_th (cj_block ?_)
  refine cj_ownNil 3 1 enInt ?_
  refine cj_eqO [ow 3 1 enInt none 0 ([] : List Int), ownB b5 (cellsB 63 [.slice f.A f.has.length f.c])] rfl ?_
  refine cj_lpi (X := Nat × Option Addr × Nat × List Int) [(1, _), (5, _), (6, _), (10, _), (11, _)] (fun ⟨k, A1, c1, xs⟩ => k ≤ ms.length ∧ xs.length ≤ k ∧ xs ++ fndF (ms.drop k) (tk.drop k) (f.has.drop k) k = (foundL ms tk f)) (fun ⟨k, A1, c1, xs⟩ => [(7, .slice A1 xs.length c1), (12, .int .i64 k)]) (fun ⟨k, A1, c1, xs⟩ => [ow 3 1 enInt A1 c1 xs, ownB b5 (cellsB 63 [.slice f.A f.has.length f.c])]) (fun ⟨k, A1, c1, xs⟩ => [sl (fun b => b < w.heap.size) 2 encMe A ms, sl (fun b => b < w.heap.size) 1 enInt At tk, sl (fun b => b < w.heap.size) 2 encSp f.A f.has]) (fun ⟨k, A1, c1, xs⟩ => ms.length - k) (0, none, 0, []) (⟨Nat.zero_le _, Nat.zero_le _, rfl⟩) ⟨rfl, rfl, rfl, rfl, rfl, rfl, rfl, trivial⟩ ?_
  rintro ⟨k, A1, c1, xs⟩ ⟨hk, hxl, hxs⟩
  dsimp only [List.cons_append, List.nil_append]
  refine cj_seq ?_
  refine cj_regionG (gj_step (y_lss rfl rfl) rfl rfl rfl (gj_nil ?_))
  refine ej_th (cj_seq ?_)
  refine cj_cond rfl (fun h13 => ?_) (fun h13 => ?_)
  · have h13b := h13
    try simp only [sxb] at h13
    obtain ⟨m, hx⟩ : ∃ m, ms[k]? = some m := ⟨_, List.getElem?_eq_getElem (by omega)⟩
    obtain ⟨r, hy⟩ : ∃ r, tk[k]? = some r := ⟨_, List.getElem?_eq_getElem (by omega)⟩
    obtain ⟨s, hz⟩ : ∃ s, f.has[k]? = some s := ⟨_, List.getElem?_eq_getElem (by omega)⟩
    rw [fndF_drop ms tk f.has k m r s hx hy hz] at hxs
    refine cj_skip (ej_th (cj_seq (cj_block (cj_seq (cj_region ?_)))))
    refine oj_step (y_move rfl) rfl rfl rfl ?_
    refine oj_step (y_ixR (reads_sl) Tryz.underlying48 Tryz.sizeOf98 rfl rfl (⟨by omega, by omega⟩)) rfl rfl rfl ?_
    refine oj_step (y_ldW (reads_sl) Tryz.isAgg98 Tryz.sizeOf98 rfl (hx) (fun _ => rfl)) rfl rfl rfl ?_
    refine oj_alloc Tryz.zeroValue98 rfl rfl (fun b9 => ?_)
    refine oj_step (y_assign rfl) rfl rfl rfl ?_
    refine oj_store rfl rfl rfl rfl Tryz.sizeOf98 rfl ?_
    refine oj_nil ?_
    refine ej_th (cj_seq ?_)
    refine cj_draw (by kernel_rfl) (by kernel_rfl) ?_
    refine gj_step (y_loadN Tryz.isAgg98 Tryz.sizeOf98 rfl) rfl rfl rfl (gj_step (y_move rfl) rfl rfl rfl (gj_step (y_move rfl) rfl rfl rfl (gj_step (y_ixR (reads_sl) Tryz.underlying49 Tryz.sizeOf3 rfl rfl (⟨by omega, by omega⟩)) rfl rfl rfl (gj_step (y_ld0 (reads_sl) Tryz.isAgg3 rfl (hy) rfl) rfl rfl rfl (gj_step (y_fa0 fa63_0 rfl) rfl rfl rfl (gj_step (y_load1 Tryz.isAgg54 rfl rfl) rfl rfl rfl (gj_step (y_move rfl) rfl rfl rfl (gj_step (y_ixR (reads_sl) Tryz.underlying54 Tryz.sizeOf70 rfl rfl (⟨by omega, by omega⟩)) rfl rfl rfl (gj_step (y_ldW (reads_sl) Tryz.isAgg70 Tryz.sizeOf70 rfl (hz) (fun _ => rfl)) rfl rfl rfl (?_))))))))))
    refine gj_step (y_call Tryz.call54 rfl (fun w hp => k_finds m r s w ⟨htl.2 r (List.mem_of_getElem? hy), (hmb m (List.mem_of_getElem? hx)).1⟩)) rfl rfl rfl ?_
    refine gj_nil ?_
    refine ej_th ?_
    refine cj_cond rfl (fun h27 => ?_) (fun h27 => ?_)
    · have h27b := h27
      try simp only [sxb] at h27
      rw [if_pos h27b] at hxs
      refine cj_region ?_
      refine oj_step (y_move rfl) rfl rfl rfl ?_
      refine oj_step (y_move rfl) rfl rfl rfl ?_
      refine oj_buildSlice [.int .i64 0] Tryz.underlying49 Tryz.sizeOf3 Tryz.zeroValue3 rfl rfl (by kernel_rfl) rfl rfl (fun b30 => ?_)
      refine oj_append  el49 (fun _ => rfl) enInt_one rfl rfl rfl (reads_lit [(k : Int)] (fun _ => rfl) rfl) (by simp [maxLen]; omega) (by simp; omega) rfl (fun A31 c31 => ?_)
      refine oj_step (y_assign rfl) rfl rfl rfl ?_
      refine oj_nil ?_
      refine ej_blk (ej_th ?_)
      refine cj_regionG (gj_step (y_add rfl rfl (by omega)) rfl rfl rfl (gj_step (y_move rfl) rfl rfl rfl (gj_nil ?_)))
      exact ej_nx (k + 1, A31, c31, xs ++ [(k : Int)]) (by simp only; omega) ⟨by first | omega | (simp only; omega), by simp only [List.length_append, List.length_cons, List.length_nil]; omega, by rw [List.append_assoc]; exact hxs⟩ ⟨rfl, rfl, rfl, rfl, rfl, rfl, rfl, trivial⟩
    · have h27b := h27
      try simp only [sxb] at h27
      rw [if_neg (by simp [h27b])] at hxs
      refine cj_skip (ej_blk (ej_th ?_))
      refine cj_regionG (gj_step (y_add rfl rfl (by omega)) rfl rfl rfl (gj_step (y_move rfl) rfl rfl rfl (gj_nil ?_)))
      exact ej_nx (k + 1, A1, c1, xs) (by simp only; omega) ⟨by first | omega | (simp only; omega), by simp only; omega, hxs⟩ ⟨rfl, rfl, rfl, rfl, rfl, rfl, rfl, trivial⟩
  · have h13b := h13
    try simp only [sxb] at h13
    have hxe : xs = (foundL ms tk f) := by rw [← hxs, List.drop_of_length_le (show ms.length ≤ k by omega), fndF_nil, List.append_nil]
    refine cj_exit (ej_then_exit (ej_then_exit (ej_blk_hit (ej_th (cj_seq ?_)))))
    refine cj_regionG (gj_step (y_move rfl) rfl rfl rfl (gj_step (y_assign rfl) rfl rfl rfl (gj_nil ?_)))
    refine ej_th (cj_ret ?_)
    exact ej_ret1 rfl Tryz.results47 rfl (fun w' hp => ⟨A1, c1, by rw [← hxe], hp.below, by rw [← hxe]; exact hp.res (fun _ => rfl) (by unfold maxLen; omega)⟩)

theorem k_Finds (ms : List Meas) (A : Option Addr) (c : Nat) (tk : List Int) (At : Option Addr) (ct : Nat) (f : FakeV) (w : World) (hm : Rd w 2 encMe A ms) (ht : Rd w 1 enInt At tk) (hr : Rd w 2 encSp f.A f.has) : Calls Tryz.prog 22 #[.slice A ms.length c, .slice At tk.length ct, evFk f] w (fun e w' => ∃ A c, e = .returned (.tuple #[.slice A (FndL ms tk f).length c, .int .i64 (FndE ms tk f)]) ∧ Grow w w' ∧ Res w w' 1 enInt A (FndL ms tk f)) := by
  refine enter_pure (args := [.slice A ms.length c, .slice At tk.length ct, evFk f]) [sl (fun b => b < w.heap.size) 2 encMe A ms, sl (fun b => b < w.heap.size) 1 enInt At tk, sl (fun b => b < w.heap.size) 2 encSp f.A f.has] Tryz.func22 rfl (by rw [Tryz.ntmps22]; simp) (fun g hg => by simp at hg; rcases hg with rfl | rfl | rfl; exact ⟨hm, fun _ h => h⟩; exact ⟨ht, fun _ h => h⟩; exact ⟨hr, fun _ h => h⟩) ?_
  refine cj_seq (cj_region ?_)
  refine oj_box rfl rfl rfl (fun b5 => ?_)
  refine oj_step (y_assign rfl) rfl rfl rfl ?_
  refine oj_step (y_assign rfl) rfl rfl rfl ?_
  refine oj_nil ?_
  refine ej_th (cj_seq (cj_seq (cj_region ?_)))
  refine oj_step (y_move rfl) rfl rfl rfl ?_
  refine oj_step (y_move rfl) rfl rfl rfl ?_
  refine oj_step (y_loadN Tryz.isAgg63 Tryz.sizeOf63 rfl) rfl rfl rfl ?_
  refine oj_buildSlice (cs := [.slice f.A f.has.length f.c]) [.slice none 0 0] Tryz.underlying50 Tryz.sizeOf63 Tryz.zeroValue63 rfl rfl (by kernel_rfl) (by kernel_rfl) rfl (fun b12 => ?_)
  refine oj_step (y_call Tryz.call46 rfl (fun w hp => k_skill ms A c tk At ct [f] (some ⟨b12, 0, none⟩) 1 w hp.rd hp.rd (hp.rdLit (sz := 1) (enc := encFk) [f] (fun _ => rfl) rfl (by unfold maxLen; simp)) (fun g hg => by rw [List.mem_singleton.1 hg]; exact hr.mono hp.below))) rfl rfl rfl ?_
  refine oj_step (y_assign rfl) rfl rfl rfl ?_
  refine oj_nil ?_
  refine ej_th (cj_seq ?_)
  refine cj_regionG (gj_step (y_move rfl) rfl rfl rfl (gj_step (y_neq rfl rfl) rfl rfl rfl (gj_nil ?_)))
  refine ej_th ?_
  refine cj_cond rfl (fun h15 => ?_) (fun h15 => ?_)
  · have h15b := h15
    try simp only [sxb] at h15
    have hno := skill_no h15b
    refine cj_seq ?_
    refine cj_regionG (gj_step (y_move rfl) rfl rfl rfl (gj_step (y_assign rfl) rfl rfl rfl (gj_step (y_assign rfl) rfl rfl rfl (gj_nil ?_))))
    refine ej_th (cj_ret (ej_then_ret ?_))
    have e1 : FndL ms tk f = [] := by rw [FndL, FndE, if_neg hno]
    exact ej_ret2 rfl Tryz.results22 rfl rfl (fun w' hp => ⟨none, 0, by rw [e1]; rfl, hp.below, by rw [e1]; exact Res.nil⟩)
  · have h15b := h15
    try simp only [sxb] at h15
    obtain ⟨hmo, hto, hfo, hz⟩ := skill_0 h15b
    obtain ⟨hml, hmb⟩ := meas_bd hmo
    have htb := rdOk_bd hto
    obtain ⟨hfl, hfb⟩ := fakes_bd hfo
    refine cj_skip (ej_th (cj_seq (cj_region ?_)))
    refine oj_step (y_move rfl) rfl rfl rfl ?_
    refine oj_step (y_move rfl) rfl rfl rfl ?_
    refine oj_step (y_loadN Tryz.isAgg63 Tryz.sizeOf63 rfl) rfl rfl rfl ?_
    refine oj_callS (fun A c => .slice A (foundL ms tk f).length c) 1 enInt (foundL ms tk f) Tryz.call47 rfl (fun w hp => k_found ms A c tk At ct f w hp.rd hp.rd hp.rd hml.2 hmb htb (hfb f (List.mem_singleton.2 rfl)).1) rfl (fun A20 c20 fp20 hfp20 => ?_)
    refine oj_step (y_assign rfl) rfl rfl rfl ?_
    refine oj_step (y_assign rfl) rfl rfl rfl ?_
    refine oj_nil ?_
    refine ej_th (cj_ret ?_)
    have e1 : FndL ms tk f = (foundL ms tk f) := by rw [FndL, FndE, if_pos hz]
    have e2 : FndE ms tk f = 0 := hz
    exact ej_ret2 rfl Tryz.results22 rfl rfl (fun w' hp => ⟨A20, c20, by rw [e1, e2], hp.below, by rw [e1]; exact hp.resS hfp20⟩)

end Go.Proofs.YtlfbghkcfmcnlaaGreatDoor
namespace Go.Proofs.YtlfbghkcfmcnlaaGreatDoor
open Go.Sx Go.RowKit
set_option maxRecDepth 20000
theorem el54 : ElemIs Tryz.prog 54 70 2 16 := ⟨⟨_, (.agg #[.int .i64 0, .int .i64 0]), Tryz.underlying54, Tryz.type70, by kernel_rfl, by kernel_rfl, by kernel_rfl, by kernel_rfl, by decide⟩⟩
theorem st70 : StructIs Tryz.prog 70 [(0, 1), (1, 1)] [.int .i64 0, .int .i64 0] := ⟨⟨_, Tryz.underlying70, fun w => by simp [Tryz.sizeOf3], Tryz.zeroValue70⟩⟩
end Go.Proofs.YtlfbghkcfmcnlaaGreatDoor
namespace Go.Proofs.YtlfbghkcfmcnlaaGreatDoor
open Go.Sx Go.RowKit
set_option maxRecDepth 20000
theorem k_shows (ms : List Meas) (A : Option Addr) (c : Nat) (tk : List Int) (At : Option Addr) (ct : Nat) (fs : List FakeV) (Af : Option Addr) (cf : Nat) (set : List Int) (As : Option Addr) (cs : Nat) (w : World) (hm : Rd w 2 encMe A ms) (ht : Rd w 1 enInt At tk) (hf : Rd w 1 encFk Af fs) (hgf : ∀ f ∈ fs, GoodK w f) (hs : Rd w 1 enInt As set) (hml : ms.length ≤ 8) (hmb : ∀ m ∈ ms, (0 ≤ m.tol ∧ m.tol ≤ 1000) ∧ (1 ≤ m.lab ∧ m.lab ≤ 1000)) (htl : tk.length = ms.length ∧ ∀ x ∈ tk, -1 ≤ x ∧ x ≤ 100000) (hfb : ∀ f ∈ fs, f.has.length = ms.length) : Calls Tryz.prog 48 #[.slice A ms.length c, .slice At tk.length ct, .slice Af fs.length cf, .slice As set.length cs] w (fun e w' => e = .returned (.bool (shwB ms tk fs set)) ∧ Grow w w') := by
  have hlf := hf.len
  have hls := hs.len
  refine enter_pure (args := [.slice A ms.length c, .slice At tk.length ct, .slice Af fs.length cf, .slice As set.length cs]) [sl (fun b => b < w.heap.size) 2 encMe A ms, sl (fun b => b < w.heap.size) 1 enInt At tk, sl (fun b => b < w.heap.size) 1 encFk Af fs, sl (fun b => b < w.heap.size) 1 enInt As set] Tryz.func48 rfl (by rw [Tryz.ntmps48]; simp) (fun g hg => by simp at hg; rcases hg with rfl | rfl | rfl | rfl; exact ⟨hm, fun _ h => h⟩; exact ⟨ht, fun _ h => h⟩; exact ⟨hf, fun _ h => h⟩; exact ⟨hs, fun _ h => h⟩) ?_
  refine cj_seq ?_
  refine cj_regionG (gj_step (y_assign rfl) rfl rfl rfl (gj_nil ?_))
  refine ej_th ?_
  refine cj_scope rfl ?_
  refine cj_seq (cj_label (ej_th (cj_seq (cj_seq ?_))))
  refine cj_regionG (gj_step (y_move rfl) rfl rfl rfl (gj_step (y_lenA Tryz.underlying50 rfl) rfl rfl rfl (gj_step (y_move rfl) rfl rfl rfl (gj_nil ?_))))
  refine ej_th (cj_block ?_)
  refine cj_lpic (X := Nat) [(0, _), (1, _), (3, _), (13, _), (14, _)] (fun k => k ≤ fs.length ∧ (fs.drop k).all (shwF ms tk set) = shwB ms tk fs set) (fun k => [(15, .int .i64 k)]) (fun k => fs.length - k) 0 (⟨Nat.zero_le _, rfl⟩) ⟨rfl, rfl, rfl, rfl, rfl, rfl, trivial⟩ ?_
  rintro k ⟨hk, hsk⟩
  dsimp only [List.cons_append, List.nil_append]
  refine cj_seq ?_
  refine cj_regionG (gj_step (y_lss rfl rfl) rfl rfl rfl (gj_nil ?_))
  refine ej_th (cj_seq ?_)
  refine cj_cond rfl (fun h16 => ?_) (fun h16 => ?_)
  · have h16b := h16
    try simp only [sxb] at h16
    obtain ⟨f, hx⟩ : ∃ f, fs[k]? = some f := ⟨_, List.getElem?_eq_getElem (by omega)⟩
    rw [all_drop (shwF ms tk set) fs k f hx] at hsk
    have hgr := hgf f (List.mem_of_getElem? hx)
    have hl2 := hgr.len
    have hfn : (foundL ms tk f).length ≤ ms.length := fndF_len ms tk f.has 0
    refine cj_rd hgr (fun _ h => h) ?_
    refine cj_skip (ej_th (cj_seq (cj_block (cj_seq (cj_region ?_)))))
    refine oj_step (y_ixR (reads_sl) Tryz.underlying50 Tryz.sizeOf63 rfl rfl (⟨by omega, by omega⟩)) rfl rfl rfl ?_
    refine oj_step (y_ldW (reads_sl) Tryz.isAgg63 Tryz.sizeOf63 rfl (hx) (fun _ => rfl)) rfl rfl rfl ?_
    refine oj_alloc Tryz.zeroValue63 rfl rfl (fun b10 => ?_)
    refine oj_store rfl rfl rfl rfl Tryz.sizeOf63 rfl ?_
    refine oj_nil ?_
    refine ej_th (cj_seq (cj_seq (cj_region ?_)))
    refine oj_step (y_move rfl) rfl rfl rfl ?_
    refine oj_step (y_move rfl) rfl rfl rfl ?_
    refine oj_step (y_loadN Tryz.isAgg63 Tryz.sizeOf63 rfl) rfl rfl rfl ?_
    refine oj_callS (fun A c => .slice A (foundL ms tk f).length c) 1 enInt (foundL ms tk f) Tryz.call47 rfl (fun w hp => k_found ms A c tk At ct f w hp.rd hp.rd hp.rd hml hmb htl (hfb f (List.mem_of_getElem? hx))) rfl (fun A22 c22 fp22 hfp22 => ?_)
    refine oj_step (y_lenA Tryz.underlying49 rfl) rfl rfl rfl ?_
    refine oj_step (y_move rfl) rfl rfl rfl ?_
    refine oj_nil ?_
    refine ej_th (cj_block ?_)
    refine cj_lpic (X := Nat) [(15, _), (0, _), (1, _), (3, _), (13, _), (14, _), (22, _), (23, _)] (fun j => j ≤ (foundL ms tk f).length ∧ ((foundL ms tk f).drop j).any (hasI set) = shwF ms tk set f) (fun j => [(24, .int .i64 j)]) (fun j => (foundL ms tk f).length - j) 0 (⟨Nat.zero_le _, rfl⟩) ⟨rfl, rfl, rfl, rfl, rfl, rfl, rfl, rfl, rfl, trivial⟩ ?_
    rintro j ⟨hj, hsj⟩
    dsimp only [List.cons_append, List.nil_append]
    refine cj_seq ?_
    refine cj_regionG (gj_step (y_lss rfl rfl) rfl rfl rfl (gj_nil ?_))
    refine ej_th (cj_seq ?_)
    refine cj_cond rfl (fun h25 => ?_) (fun h25 => ?_)
    · have h25b := h25
      try simp only [sxb] at h25
      obtain ⟨i, hy⟩ : ∃ i, (foundL ms tk f)[j]? = some i := ⟨_, List.getElem?_eq_getElem (by omega)⟩
      rw [any_drop (hasI set) (foundL ms tk f) j i hy] at hsj
      refine cj_skip (ej_th (cj_seq (cj_block (cj_seq ?_))))
      refine cj_regionG (gj_step (y_ixR (reads_sl) Tryz.underlying49 Tryz.sizeOf3 rfl rfl (⟨by omega, by omega⟩)) rfl rfl rfl (gj_step (y_ld0 (reads_sl) Tryz.isAgg3 rfl (hy) rfl) rfl rfl rfl (gj_step (y_assign rfl) rfl rfl rfl (gj_nil ?_))))
      refine ej_th (cj_seq ?_)
      refine cj_regionG ?_
      refine gj_step (y_move rfl) rfl rfl rfl (gj_step (y_move rfl) rfl rfl rfl (?_))
      refine gj_step (y_call Tryz.call80 rfl (fun w hp => k_ContainsI _ _ _ _ w hp.rd)) rfl rfl rfl ?_
      refine gj_nil ?_
      refine ej_th ?_
      refine cj_cond rfl (fun h30 => ?_) (fun h30 => ?_)
      · have h30b := h30
        try simp only [sxb] at h30
        have hsf : shwF ms tk set f = true := by rw [← hsj, h30b]; rfl
        refine cj_exit (ej_blk_pass rfl (ej_then_exit (ej_then_exit (ej_blk_pass rfl (ej_then_exit (ej_blk_hit (ej_th ?_)))))))
        refine cj_regionG (gj_step (y_add rfl rfl (by omega)) rfl rfl rfl (gj_step (y_move rfl) rfl rfl rfl (gj_nil ?_)))
        exact ej_nx (k + 1) (by omega) ⟨by omega, by rw [← hsk, hsf, Bool.true_and]⟩ ⟨rfl, rfl, rfl, rfl, rfl, rfl, trivial⟩
      · have h30b := h30
        try simp only [sxb] at h30
        refine cj_skip (ej_blk (ej_th ?_))
        refine cj_regionG (gj_step (y_add rfl rfl (by omega)) rfl rfl rfl (gj_step (y_move rfl) rfl rfl rfl (gj_nil ?_)))
        exact ej_nx (j + 1) (by omega) ⟨by omega, by rw [← hsj, h30b, Bool.false_or]⟩ ⟨rfl, rfl, rfl, rfl, rfl, rfl, rfl, rfl, rfl, trivial⟩
    · have h25b := h25
      try simp only [sxb] at h25
      have hsf : shwF ms tk set f = false := by rw [← hsj, List.drop_of_length_le (show (foundL ms tk f).length ≤ j by omega)]; rfl
      refine cj_exit (ej_then_exit (ej_then_exit (ej_blk_hit (ej_th (cj_seq ?_)))))
      refine cj_regionG (gj_step (y_assign rfl) rfl rfl rfl (gj_nil ?_))
      refine ej_th (cj_ret (ej_blk_ret (ej_then_ret (ej_then_ret (ej_blk_ret (ej_then_ret (ej_noGoto_ret ?_)))))))
      refine ej_ret1 rfl Tryz.results48 rfl (fun w' hp => ⟨?_, hp.below⟩)
      rw [← hsk, hsf]; rfl
  · have h16b := h16
    try simp only [sxb] at h16
    refine cj_exit (ej_then_exit (ej_then_exit (ej_blk_hit (ej_th (cj_seq ?_)))))
    refine cj_regionG (gj_step (y_assign rfl) rfl rfl rfl (gj_nil ?_))
    refine ej_th (cj_ret (ej_noGoto_ret ?_))
    refine ej_ret1 rfl Tryz.results48 rfl (fun w' hp => ⟨?_, hp.below⟩)
    rw [← hsk, List.drop_of_length_le (by omega)]; rfl

theorem k_Shows (ms : List Meas) (A : Option Addr) (c : Nat) (tk : List Int) (At : Option Addr) (ct : Nat) (fs : List FakeV) (Af : Option Addr) (cf : Nat) (set : List Int) (As : Option Addr) (cs : Nat) (w : World) (hm : Rd w 2 encMe A ms) (ht : Rd w 1 enInt At tk) (hf : Rd w 1 encFk Af fs) (hgf : ∀ f ∈ fs, GoodK w f) (hs : Rd w 1 enInt As set) : Calls Tryz.prog 23 #[.slice A ms.length c, .slice At tk.length ct, .slice Af fs.length cf, .slice As set.length cs] w (fun e w' => e = .returned (.tuple #[.bool (ShwB ms tk fs set), .int .i64 (ShwE ms tk fs set)]) ∧ Grow w w') := by
  have hls := hs.len
  have hlm := hm.len
  refine enter_pure (args := [.slice A ms.length c, .slice At tk.length ct, .slice Af fs.length cf, .slice As set.length cs]) [sl (fun b => b < w.heap.size) 2 encMe A ms, sl (fun b => b < w.heap.size) 1 enInt At tk, sl (fun b => b < w.heap.size) 1 encFk Af fs, sl (fun b => b < w.heap.size) 1 enInt As set] Tryz.func23 rfl (by rw [Tryz.ntmps23]; simp) (fun g hg => by simp at hg; rcases hg with rfl | rfl | rfl | rfl; exact ⟨hm, fun _ h => h⟩; exact ⟨ht, fun _ h => h⟩; exact ⟨hf, fun _ h => h⟩; exact ⟨hs, fun _ h => h⟩) ?_
  refine cj_seq ?_
  refine cj_regionG (gj_step (y_assign rfl) rfl rfl rfl (gj_step (y_assign rfl) rfl rfl rfl (gj_nil ?_)))
  refine ej_th (cj_seq (cj_seq ?_))
  refine cj_regionG ?_
  refine gj_step (y_move rfl) rfl rfl rfl (gj_step (y_move rfl) rfl rfl rfl (gj_step (y_move rfl) rfl rfl rfl (?_)))
  refine gj_step (y_call Tryz.call46 rfl (fun w hp => k_skill ms A c tk At ct fs Af cf w hp.rd hp.rd hp.rd (fun f h => (hgf f h).mono hp.below))) rfl rfl rfl ?_
  refine gj_step (y_assign rfl) rfl rfl rfl (?_)
  refine gj_nil ?_
  refine ej_th (cj_seq ?_)
  refine cj_regionG (gj_step (y_move rfl) rfl rfl rfl (gj_step (y_neq rfl rfl) rfl rfl rfl (gj_nil ?_)))
  refine ej_th ?_
  refine cj_cond rfl (fun h18 => ?_) (fun h18 => ?_)
  · have h18b := h18
    try simp only [sxb] at h18
    have hno := skill_no h18b
    refine cj_seq ?_
    refine cj_regionG (gj_step (y_move rfl) rfl rfl rfl (gj_step (y_assign rfl) rfl rfl rfl (gj_step (y_assign rfl) rfl rfl rfl (gj_nil ?_))))
    refine ej_th (cj_ret (ej_then_ret ?_))
    obtain ⟨e1, e2⟩ := shw_no1 (set := set) hno
    exact ej_ret2 rfl Tryz.results23 rfl rfl (fun w' hp => ⟨by rw [e2, e1], hp.below⟩)
  · have h18b := h18
    try simp only [sxb] at h18
    obtain ⟨hmo, hto, hfo, hz⟩ := skill_0 h18b
    obtain ⟨hml, hmb⟩ := meas_bd hmo
    have htb := rdOk_bd hto
    obtain ⟨hfl, hfb⟩ := fakes_bd hfo
    refine cj_skip (ej_th (cj_seq (cj_seq ?_)))
    refine cj_regionG (gj_step (y_move rfl) rfl rfl rfl (gj_step (y_lenA Tryz.underlying49 rfl) rfl rfl rfl (gj_step (y_move rfl) rfl rfl rfl (gj_nil ?_))))
    refine ej_th (cj_block ?_)
    refine cj_lpic (X := Nat) [(0, _), (1, _), (2, _), (3, _), (20, _), (21, _)] (fun k => k ≤ set.length ∧ setF ms.length (set.drop k) (prevI set k) = setOk ms.length set) (fun k => [(22, .int .i64 k)]) (fun k => set.length - k) 0 (⟨Nat.zero_le _, rfl⟩) ⟨rfl, rfl, rfl, rfl, rfl, rfl, rfl, trivial⟩ ?_
    rintro k ⟨hk, hsk⟩
    dsimp only [List.cons_append, List.nil_append]
    refine cj_seq ?_
    refine cj_regionG (gj_step (y_lss rfl rfl) rfl rfl rfl (gj_nil ?_))
    refine ej_th (cj_seq ?_)
    refine cj_cond rfl (fun h23 => ?_) (fun h23 => ?_)
    · have h23b := h23
      try simp only [sxb] at h23
      obtain ⟨i, hx⟩ : ∃ i, set[k]? = some i := ⟨_, List.getElem?_eq_getElem (by omega)⟩
      rw [setF_drop ms.length set k i _ hx] at hsk
      have hq : prevI set k = if k = 0 then -1 else set.getD ((k : Int) - 1).toNat default := by
        unfold prevI
        rw [show ((k : Int) - 1).toNat = k - 1 by omega]
        rfl
      have hV := set_V ms.length i (set.getD ((k : Int) - 1).toNat default) k _ hq
      refine cj_skip (ej_th (cj_seq (cj_block (cj_seq ?_))))
      refine cj_regionG (gj_step (y_move rfl) rfl rfl rfl (gj_step (y_ixR (reads_sl) Tryz.underlying49 Tryz.sizeOf3 rfl rfl (⟨by omega, by omega⟩)) rfl rfl rfl (gj_step (y_ld0 (reads_sl) Tryz.isAgg3 rfl (hx) rfl) rfl rfl rfl (gj_step (y_assign rfl) rfl rfl rfl (gj_step (y_assign rfl) rfl rfl rfl (gj_nil ?_))))))
      refine ej_th (cj_seq ?_)
      refine cj_regionG ?_
      refine gj_step (y_move rfl) rfl rfl rfl (gj_step (y_move rfl) rfl rfl rfl (gj_step (y_lenA Tryz.underlying48 rfl) rfl rfl rfl (gj_step (y_sub rfl rfl (by omega)) rfl rfl rfl (?_))))
      refine gj_step (y_call Tryz.call45 rfl (fun w hp => k_within1 _ _ _ w)) rfl rfl rfl ?_
      refine gj_step (y_not rfl) rfl rfl rfl (gj_step (y_move rfl) rfl rfl rfl (?_))
      refine gj_g 11 33 44 rfl rfl rfl rfl (fun hg33 => gj_yes rfl rfl rfl (y_move rfl) rfl rfl (gj_yes rfl rfl rfl (y_gtr rfl rfl) rfl rfl (gj_yes rfl rfl rfl (y_move rfl) rfl rfl (gj_g 7 36 43 rfl rfl rfl rfl (fun hg36 => gj_yes rfl rfl rfl (y_move rfl) rfl rfl (gj_yes rfl rfl rfl (y_move rfl) rfl rfl (gj_yes rfl rfl rfl (y_sub rfl rfl (by omega)) rfl rfl (gj_yes rfl rfl rfl (y_ixR (reads_sl) Tryz.underlying49 Tryz.sizeOf3 rfl rfl (⟨by have := hg36; simp only [sxb] at this; omega, by have := hg36; simp only [sxb] at this; omega⟩)) rfl rfl (gj_yes rfl rfl rfl (y_ld0 (reads_sl) Tryz.isAgg3 rfl (geq default (by have := hg36; simp only [sxb] at this; omega)) rfl) rfl rfl (gj_yes rfl rfl rfl (y_move rfl) rfl rfl (gj_yes rfl rfl rfl (y_geq rfl rfl) rfl rfl (gj_nil rfl)))))))) (gj_yes rfl rfl rfl (y_and rfl rfl rfl) rfl rfl (gj_nil rfl)))))) ?_
      refine gj_step (y_or rfl rfl rfl) rfl rfl rfl (?_)
      refine gj_nil ?_
      refine ej_th ?_
      refine cj_cond rfl (fun h45 => ?_) (fun h45 => ?_)
      · have h45b := h45
        try simp only [sxb] at h45
        refine cj_seq ?_
        refine cj_regionG (gj_step (y_assign rfl) rfl rfl rfl (gj_step (y_assign rfl) rfl rfl rfl (gj_nil ?_)))
        refine ej_th (cj_ret (ej_blk_ret (ej_then_ret (ej_then_ret (ej_blk_ret (ej_then_ret ?_))))))
        obtain ⟨e1, e2⟩ := shw_no2 hz (show setOk ms.length set = false by rw [← hsk, not_t (hV.symm.trans h45b)]; rfl)
        exact ej_ret2 rfl Tryz.results23 rfl rfl (fun w' hp => ⟨by rw [e2, e1], hp.below⟩)
      · have h45b := h45
        try simp only [sxb] at h45
        refine cj_skip (ej_blk (ej_th ?_))
        refine cj_regionG (gj_step (y_add rfl rfl (by omega)) rfl rfl rfl (gj_step (y_move rfl) rfl rfl rfl (gj_nil ?_)))
        exact ej_nx (k + 1) (by omega) ⟨by omega, by rw [← hsk, not_f (hV.symm.trans h45b), Bool.true_and, prevI_succ set k i hx]⟩ ⟨rfl, rfl, rfl, rfl, rfl, rfl, rfl, trivial⟩
    · have h23b := h23
      try simp only [sxb] at h23
      have hso : setOk ms.length set = true := by rw [← hsk, List.drop_of_length_le (by omega)]; rfl
      refine cj_exit (ej_then_exit (ej_then_exit (ej_blk_hit (ej_th (cj_seq ?_)))))
      refine cj_regionG ?_
      refine gj_step (y_move rfl) rfl rfl rfl (gj_step (y_move rfl) rfl rfl rfl (gj_step (y_move rfl) rfl rfl rfl (gj_step (y_move rfl) rfl rfl rfl (?_))))
      refine gj_step (y_call Tryz.call48 rfl (fun w hp => k_shows ms A c tk At ct fs Af cf set As cs w hp.rd hp.rd hp.rd (fun f h => (hgf f h).mono hp.below) hp.rd hml.2 hmb htb (fun f h => (hfb f h).1))) rfl rfl rfl ?_
      refine gj_step (y_assign rfl) rfl rfl rfl (gj_step (y_assign rfl) rfl rfl rfl (?_))
      refine gj_nil ?_
      refine ej_th (cj_ret ?_)
      obtain ⟨e1, e2⟩ := shw_yes hz hso
      exact ej_ret2 rfl Tryz.results23 rfl rfl (fun w' hp => ⟨by rw [e2, e1], hp.below⟩)

theorem k_Narrow (ms : List Meas) (A : Option Addr) (c : Nat) (ls : List ListV) (B : Option Addr) (d : Nat) (w : World) (hm : Rd w 2 encMe A ms) (hl : Rd w 1 encLs B ls) (hgl : ∀ r ∈ ls, GoodL w r) : Calls Tryz.prog 20 #[.slice A ms.length c, .slice B ls.length d] w (fun e w' => ∃ A c, e = .returned (.tuple #[.slice A (NarL ms ls).length c, .int .i64 (NarE ms ls)]) ∧ Grow w w' ∧ Res w w' 2 encSp A (NarL ms ls)) := by
  have hlm := hm.len
  have hll := hl.len
  refine enter_pure (args := [.slice A ms.length c, .slice B ls.length d]) [sl (fun b => b < w.heap.size) 2 encMe A ms, sl (fun b => b < w.heap.size) 1 encLs B ls] Tryz.func20 rfl (by rw [Tryz.ntmps20]; simp) (fun g hg => by simp at hg; rcases hg with rfl | rfl; exact ⟨hm, fun _ h => h⟩; exact ⟨hl, fun _ h => h⟩) ?_
  refine cj_seq ?_
  refine cj_regionG (gj_step (y_assign rfl) rfl rfl rfl (gj_step (y_assign rfl) rfl rfl rfl (gj_nil ?_)))
  refine ej_th (cj_seq (cj_seq ?_))
  refine cj_regionG ?_
  refine gj_step (y_move rfl) rfl rfl rfl (?_)
  refine gj_step (y_call Tryz.call43 rfl (fun w hp => k_CheckM _ _ _ w hp.rd)) rfl rfl rfl ?_
  refine gj_step (y_assign rfl) rfl rfl rfl (?_)
  refine gj_nil ?_
  refine ej_th (cj_seq ?_)
  refine cj_regionG (gj_step (y_move rfl) rfl rfl rfl (gj_step (y_neq rfl rfl) rfl rfl rfl (gj_nil ?_)))
  refine ej_th ?_
  refine cj_cond rfl (fun h17 => ?_) (fun h17 => ?_)
  · have h17b := h17
    try simp only [sxb] at h17
    have hno := meas_no h17b
    refine cj_seq ?_
    refine cj_regionG (gj_step (y_move rfl) rfl rfl rfl (gj_step (y_assign rfl) rfl rfl rfl (gj_step (y_assign rfl) rfl rfl rfl (gj_nil ?_))))
    refine ej_th (cj_ret (ej_then_ret ?_))
    obtain ⟨e1, e2⟩ := nar_no1 (ls := ls) hno
    exact ej_ret2 rfl Tryz.results20 rfl rfl (fun w' hp => ⟨none, 0, by rw [e1, e2, measE, hno]; rfl, hp.below, by rw [e2]; exact Res.nil⟩)
  · have h17b := h17
    try simp only [sxb] at h17
    have hmo := meas_0 h17b
    obtain ⟨hml, hmb⟩ := meas_bd hmo
    refine cj_skip (ej_th (cj_seq (cj_seq ?_)))
    refine cj_regionG (gj_step (y_move rfl) rfl rfl rfl (gj_step (y_lenA Tryz.underlying57 rfl) rfl rfl rfl (gj_step (y_gtr rfl rfl) rfl rfl rfl (gj_nil ?_))))
    refine ej_th ?_
    refine cj_cond rfl (fun h21 => ?_) (fun h21 => ?_)
    · have h21b := h21
      try simp only [sxb] at h21
      refine cj_seq ?_
      refine cj_regionG (gj_step (y_assign rfl) rfl rfl rfl (gj_step (y_assign rfl) rfl rfl rfl (gj_nil ?_)))
      refine ej_th (cj_ret (ej_then_ret ?_))
      obtain ⟨e1, e2⟩ := nar_no2 hmo h21b
      exact ej_ret2 rfl Tryz.results20 rfl rfl (fun w' hp => ⟨none, 0, by rw [e1, e2]; rfl, hp.below, by rw [e2]; exact Res.nil⟩)
    · have h21b := h21
      try simp only [sxb] at h21
      refine cj_skip (ej_th (cj_seq (cj_seq ?_)))
      refine cj_regionG ?_
      refine gj_step (y_move rfl) rfl rfl rfl (gj_step (y_move rfl) rfl rfl rfl (?_))
      refine gj_step (y_call Tryz.call44 rfl (fun w hp => k_readings ms A c ls B d w hp.rd (fun r h => (hgl r h).mono hp.below))) rfl rfl rfl ?_
      refine gj_step (y_assign rfl) rfl rfl rfl (?_)
      refine gj_nil ?_
      refine ej_th (cj_seq ?_)
      refine cj_regionG (gj_step (y_move rfl) rfl rfl rfl (gj_step (y_neq rfl rfl) rfl rfl rfl (gj_nil ?_)))
      refine ej_th ?_
      refine cj_cond rfl (fun h26 => ?_) (fun h26 => ?_)
      · have h26b := h26
        try simp only [sxb] at h26
        have hro := rds_no h26b
        refine cj_seq ?_
        refine cj_regionG (gj_step (y_move rfl) rfl rfl rfl (gj_step (y_assign rfl) rfl rfl rfl (gj_step (y_assign rfl) rfl rfl rfl (gj_nil ?_))))
        refine ej_th (cj_ret (ej_then_ret ?_))
        obtain ⟨e1, e2⟩ := nar_no3 hmo h21b hro
        exact ej_ret2 rfl Tryz.results20 rfl rfl (fun w' hp => ⟨none, 0, by rw [e1, e2, rdsE, hro]; rfl, hp.below, by rw [e2]; exact Res.nil⟩)
      · have h26b := h26
        try simp only [sxb] at h26
        have hro := rds_0 h26b
        have hrb := rdsV_bd hro
        refine cj_skip (ej_th (cj_seq ?_))
        refine cj_regionG (gj_step (y_assign rfl) rfl rfl rfl (gj_nil ?_))
        refine ej_th (cj_seq (cj_seq ?_))
        refine cj_regionG (gj_step (y_move rfl) rfl rfl rfl (gj_step (y_lenA Tryz.underlying48 rfl) rfl rfl rfl (gj_step (y_move rfl) rfl rfl rfl (gj_nil ?_))))
        refine ej_th (cj_block ?_)
        refine cj_ownNil 70 2 encSp ?_
        refine cj_lpi (X := Nat × Option Addr × Nat × List Span) [(1, _), (28, _), (29, _)] (fun ⟨k, A1, c1, xs⟩ => k ≤ ms.length ∧ xs.length ≤ k ∧ (narF ls (ms.drop k) k).map (xs ++ ·) = narF ls ms 0) (fun ⟨k, A1, c1, xs⟩ => [(8, .slice A1 xs.length c1), (30, .int .i64 k)]) (fun ⟨k, A1, c1, xs⟩ => [ow 70 2 encSp A1 c1 xs]) (fun ⟨k, A1, c1, xs⟩ => [sl (fun b => b < w.heap.size) 2 encMe A ms, sl (fun b => b < w.heap.size) 1 encLs B ls]) (fun ⟨k, A1, c1, xs⟩ => ms.length - k) (0, none, 0, []) (⟨Nat.zero_le _, Nat.zero_le _, by simp⟩) ⟨rfl, rfl, rfl, rfl, rfl, trivial⟩ ?_
        rintro ⟨k, A1, c1, xs⟩ ⟨hk, hxl, hxs⟩
        dsimp only [List.cons_append, List.nil_append]
        refine cj_seq ?_
        refine cj_regionG (gj_step (y_lss rfl rfl) rfl rfl rfl (gj_nil ?_))
        refine ej_th (cj_seq ?_)
        refine cj_cond rfl (fun h31 => ?_) (fun h31 => ?_)
        · have h31b := h31
          try simp only [sxb] at h31
          obtain ⟨m, hx⟩ : ∃ m, ms[k]? = some m := ⟨_, List.getElem?_eq_getElem (by omega)⟩
          rw [narF_drop ls ms k m hx] at hxs
          have hmt := hmb m (List.mem_of_getElem? hx)
          refine cj_skip (ej_th (cj_seq (cj_block (cj_seq (cj_region ?_)))))
          refine oj_step (y_move rfl) rfl rfl rfl ?_
          refine oj_step (y_ixR (reads_sl) Tryz.underlying48 Tryz.sizeOf98 rfl rfl (⟨by omega, by omega⟩)) rfl rfl rfl ?_
          refine oj_step (y_ldW (reads_sl) Tryz.isAgg98 Tryz.sizeOf98 rfl (hx) (fun _ => rfl)) rfl rfl rfl ?_
          refine oj_alloc Tryz.zeroValue98 rfl rfl (fun b10 => ?_)
          refine oj_step (y_assign rfl) rfl rfl rfl ?_
          refine oj_store rfl rfl rfl rfl Tryz.sizeOf98 rfl ?_
          refine oj_nil ?_
          refine ej_th (cj_seq (cj_region ?_))
          refine oj_step (y_build (cs := [.int .i64 0, .int .i64 100000]) st70 rfl (by kernel_rfl)) rfl rfl rfl ?_
          refine oj_alloc Tryz.zeroValue70 rfl rfl (fun b11 => ?_)
          refine oj_store rfl rfl rfl rfl Tryz.sizeOf70 rfl ?_
          refine oj_nil ?_
          refine ej_th (cj_seq (cj_seq ?_))
          refine cj_regionG (gj_step (y_move rfl) rfl rfl rfl (gj_step (y_lenA Tryz.underlying57 rfl) rfl rfl rfl (gj_step (y_move rfl) rfl rfl rfl (gj_nil ?_))))
          refine ej_th (cj_block ?_)
          refine cj_lpi (X := Nat × Int × Int) [(8, _), (30, _), (1, _), (28, _), (29, _), (10, _), (9, _), (11, _), (36, _), (37, _)] (fun ⟨j, lo, hi⟩ => j ≤ ls.length ∧ (-2000 ≤ lo ∧ lo ≤ 102000 ∧ -2000 ≤ hi ∧ hi ≤ 102000) ∧ narS m.tol ⟨lo, hi⟩ ((col k ls).drop j) = spK ls k m) (fun ⟨j, lo, hi⟩ => [(38, .int .i64 j)]) (fun ⟨j, lo, hi⟩ => [ownB b11 (cellsB 70 [.int .i64 lo, .int .i64 hi]), ownB b10 (cellsB 98 [.int .i64 m.tol, .int .i64 m.lab]), ow 70 2 encSp A1 c1 xs]) (fun ⟨j, lo, hi⟩ => [sl (fun b => b < w.heap.size) 2 encMe A ms, sl (fun b => b < w.heap.size) 1 encLs B ls]) (fun ⟨j, lo, hi⟩ => ls.length - j) (0, 0, 100000) (⟨Nat.zero_le _, by omega, rfl⟩) ⟨rfl, rfl, rfl, rfl, rfl, rfl, rfl, rfl, rfl, rfl, rfl, trivial⟩ ?_
          rintro ⟨j, lo, hi⟩ ⟨hj, hbd, hsj⟩
          dsimp only [List.cons_append, List.nil_append]
          refine cj_seq ?_
          refine cj_regionG (gj_step (y_lss rfl rfl) rfl rfl rfl (gj_nil ?_))
          refine ej_th (cj_seq ?_)
          refine cj_cond rfl (fun h39 => ?_) (fun h39 => ?_)
          · have h39b := h39
            try simp only [sxb] at h39
            obtain ⟨r, hy⟩ : ∃ r, ls[j]? = some r := ⟨_, List.getElem?_eq_getElem (by omega)⟩
            have hgr := hgl r (List.mem_of_getElem? hy)
            have hl2 := hgr.len
            have hrr := hrb r (List.mem_of_getElem? hy)
            obtain ⟨n, hn⟩ : ∃ n, r.l[k]? = some n := ⟨_, List.getElem?_eq_getElem (by omega)⟩
            have hnb := hrr.2 n (List.mem_of_getElem? hn)
            rw [narS_drop m.tol ⟨lo, hi⟩ _ j n (col_get ls j k r n hy hn)] at hsj
            refine cj_rd hgr (fun _ h => h) ?_
            refine cj_skip (ej_th (cj_seq (cj_block (cj_seq ?_))))
            refine cj_regionG (gj_step (y_ixR (reads_sl) Tryz.underlying57 Tryz.sizeOf49 rfl rfl (⟨by omega, by omega⟩)) rfl rfl rfl (gj_step (y_ld0 (reads_sl) Tryz.isAgg49 rfl (hy) rfl) rfl rfl rfl (gj_step (y_assign rfl) rfl rfl rfl (gj_nil ?_))))
            refine ej_th (cj_seq ?_)
            refine cj_regionG (gj_step (y_move rfl) rfl rfl rfl (gj_step (y_move rfl) rfl rfl rfl (gj_step (y_ixR (reads_sl) Tryz.underlying49 Tryz.sizeOf3 rfl rfl (⟨by omega, by omega⟩)) rfl rfl rfl (gj_step (y_ld0 (reads_sl) Tryz.isAgg3 rfl (hn) rfl) rfl rfl rfl (gj_step (y_geq rfl rfl) rfl rfl rfl (gj_nil ?_))))))
            refine ej_th ?_
            refine cj_cond rfl (fun h46 => ?_) (fun h46 => ?_)
            · have h46b := h46
              try simp only [sxb] at h46
              have hn1 : nar1 m.tol ⟨lo, hi⟩ n = ⟨max lo (n - m.tol), min hi (n + m.tol)⟩ := by unfold nar1; rw [if_pos h46]
              rw [hn1] at hsj
              refine cj_plan 22 (by kernel_rfl) (by kernel_rfl) ?_
              refine pl_y 0 rfl (y_fa0 fa70_0 rfl) rfl rfl rfl rfl (by kernel_rfl) ?_
              refine pl_y 1 rfl (y_load1 Tryz.isAgg3 rfl rfl) rfl rfl rfl rfl (by kernel_rfl) ?_
              refine pl_y 2 rfl (y_move rfl) rfl rfl rfl rfl (by kernel_rfl) ?_
              refine pl_y 3 rfl (y_move rfl) rfl rfl rfl rfl (by kernel_rfl) ?_
              refine pl_y 4 rfl (y_ixR (reads_sl) Tryz.underlying49 Tryz.sizeOf3 rfl rfl (⟨by omega, by omega⟩)) rfl rfl rfl rfl (by kernel_rfl) ?_
              refine pl_y 5 rfl (y_ld0 (reads_sl) Tryz.isAgg3 rfl (hn) rfl) rfl rfl rfl rfl (by kernel_rfl) ?_
              refine pl_y 6 rfl (y_fa0 fa98_0 rfl) rfl rfl rfl rfl (by kernel_rfl) ?_
              refine pl_y 7 rfl (y_load1 Tryz.isAgg3 rfl rfl) rfl rfl rfl rfl (by kernel_rfl) ?_
              refine pl_y 8 rfl (y_sub rfl rfl (by omega)) rfl rfl rfl rfl (by kernel_rfl) ?_
              refine pl_y 9 rfl (y_max rfl rfl) rfl rfl rfl rfl (by kernel_rfl) ?_
              refine pl_y 10 rfl (y_fa fa70_1 rfl) rfl rfl rfl rfl (by kernel_rfl) ?_
              refine pl_y 11 rfl (y_load1 Tryz.isAgg3 rfl rfl) rfl rfl rfl rfl (by kernel_rfl) ?_
              refine pl_y 12 rfl (y_move rfl) rfl rfl rfl rfl (by kernel_rfl) ?_
              refine pl_y 13 rfl (y_move rfl) rfl rfl rfl rfl (by kernel_rfl) ?_
              refine pl_y 14 rfl (y_ixR (reads_sl) Tryz.underlying49 Tryz.sizeOf3 rfl rfl (⟨by omega, by omega⟩)) rfl rfl rfl rfl (by kernel_rfl) ?_
              refine pl_y 15 rfl (y_ld0 (reads_sl) Tryz.isAgg3 rfl (hn) rfl) rfl rfl rfl rfl (by kernel_rfl) ?_
              refine pl_y 16 rfl (y_fa0 fa98_0 rfl) rfl rfl rfl rfl (by kernel_rfl) ?_
              refine pl_y 17 rfl (y_load1 Tryz.isAgg3 rfl rfl) rfl rfl rfl rfl (by kernel_rfl) ?_
              refine pl_y 18 rfl (y_add rfl rfl (by omega)) rfl rfl rfl rfl (by kernel_rfl) ?_
              refine pl_y 19 rfl (y_min rfl rfl) rfl rfl rfl rfl (by kernel_rfl) ?_
              refine pl_y 20 rfl (y_build (cs := [.int .i64 (max lo (n - m.tol)), .int .i64 (min hi (n + m.tol))]) st70 rfl (by kernel_rfl)) rfl rfl rfl rfl (by kernel_rfl) ?_
              refine pl_w1 21 (by kernel_rfl) rfl rfl (pl_fire rfl rfl rfl (by kernel_rfl) ?_)
              refine oj_store rfl rfl rfl rfl Tryz.sizeOf70 rfl ?_
              refine oj_nil ?_
              refine ej_pl (lt_w (by kernel_rfl) (lt_w (by kernel_rfl) (lt_w (by kernel_rfl) (lt_w (by kernel_rfl) (lt_w (by kernel_rfl) (lt_w (by kernel_rfl) (lt_w (by kernel_rfl) (lt_w (by kernel_rfl) (lt_w (by kernel_rfl) (lt_w (by kernel_rfl) (lt_w (by kernel_rfl) (lt_w (by kernel_rfl) (lt_w (by kernel_rfl) (lt_w (by kernel_rfl) (lt_w (by kernel_rfl) (lt_w (by kernel_rfl) (lt_w (by kernel_rfl) (lt_w (by kernel_rfl) (lt_w (by kernel_rfl) (lt_w (by kernel_rfl) (lt_w (by kernel_rfl) (lt_nil)))))))))))))))))))))) ?_
              refine pl_end (by kernel_rfl) ?_
              refine ej_blk (ej_th ?_)
              refine cj_regionG (gj_step (y_add rfl rfl (by omega)) rfl rfl rfl (gj_step (y_move rfl) rfl rfl rfl (gj_nil ?_)))
              exact ej_nx (j + 1, max lo (n - m.tol), min hi (n + m.tol)) (by simp only; omega) ⟨by first | omega | (simp only; omega), by simp only; omega, hsj⟩ ⟨rfl, rfl, rfl, rfl, rfl, rfl, rfl, rfl, rfl, rfl, rfl, trivial⟩
            · have h46b := h46
              try simp only [sxb] at h46
              have hn1 : nar1 m.tol ⟨lo, hi⟩ n = ⟨lo, hi⟩ := by unfold nar1; rw [if_neg (by omega)]
              rw [hn1] at hsj
              refine cj_skip (ej_blk (ej_th ?_))
              refine cj_regionG (gj_step (y_add rfl rfl (by omega)) rfl rfl rfl (gj_step (y_move rfl) rfl rfl rfl (gj_nil ?_)))
              exact ej_nx (j + 1, lo, hi) (by simp only; omega) ⟨by first | omega | (simp only; omega), hbd, hsj⟩ ⟨rfl, rfl, rfl, rfl, rfl, rfl, rfl, rfl, rfl, rfl, rfl, trivial⟩
          · have h39b := h39
            try simp only [sxb] at h39
            rw [List.drop_of_length_le (by rw [col_len]; omega)] at hsj
            have hsp : spK ls k m = ⟨lo, hi⟩ := hsj.symm
            refine cj_exit (ej_then_exit (ej_then_exit (ej_blk_hit (ej_th (cj_seq (cj_seq ?_))))))
            refine cj_regionG (gj_step (y_fa0 fa70_0 rfl) rfl rfl rfl (gj_step (y_load1 Tryz.isAgg3 rfl rfl) rfl rfl rfl (gj_step (y_fa fa70_1 rfl) rfl rfl rfl (gj_step (y_load1 Tryz.isAgg3 rfl rfl) rfl rfl rfl (gj_step (y_gtr rfl rfl) rfl rfl rfl (gj_nil ?_))))))
            refine ej_th ?_
            refine cj_cond rfl (fun h73 => ?_) (fun h73 => ?_)
            · have h73b := h73
              try simp only [sxb] at h73
              rw [hsp, if_pos (by simp only; omega)] at hxs
              refine cj_seq ?_
              refine cj_regionG (gj_step (y_assign rfl) rfl rfl rfl (gj_step (y_assign rfl) rfl rfl rfl (gj_nil ?_)))
              refine ej_th (cj_ret (ej_then_ret (ej_blk_ret (ej_then_ret (ej_then_ret (ej_blk_ret (ej_then_ret ?_)))))))
              obtain ⟨e1, e2⟩ := nar_no4 hmo h21b hro hxs.symm
              exact ej_ret2 rfl Tryz.results20 rfl rfl (fun w' hp => ⟨none, 0, by rw [e1, e2]; rfl, hp.below, by rw [e2]; exact Res.nil⟩)
            · have h73b := h73
              try simp only [sxb] at h73
              rw [hsp, if_neg (by simp only; omega)] at hxs
              refine cj_skip (ej_th (cj_region ?_))
              refine oj_step (y_move rfl) rfl rfl rfl ?_
              refine oj_step (y_loadN Tryz.isAgg70 Tryz.sizeOf70 rfl) rfl rfl rfl ?_
              refine oj_buildSlice (cs := [.int .i64 lo, .int .i64 hi]) [.int .i64 0, .int .i64 0] Tryz.underlying54 Tryz.sizeOf70 Tryz.zeroValue70 rfl rfl (by kernel_rfl) (by kernel_rfl) rfl (fun b76 => ?_)
              refine oj_append  el54 (fun _ => rfl) encSp_one rfl rfl rfl (reads_lit [(⟨lo, hi⟩ : Span)] (fun _ => rfl) rfl) (by simp [maxLen]; omega) (by simp; omega) rfl (fun A77 c77 => ?_)
              refine oj_step (y_assign rfl) rfl rfl rfl ?_
              refine oj_nil ?_
              refine ej_blk (ej_th ?_)
              refine cj_regionG (gj_step (y_add rfl rfl (by omega)) rfl rfl rfl (gj_step (y_move rfl) rfl rfl rfl (gj_nil ?_)))
              exact ej_nx (k + 1, A77, c77, xs ++ [⟨lo, hi⟩]) (by simp only; omega) ⟨by first | omega | (simp only; omega), by simp only [List.length_append, List.length_cons, List.length_nil]; omega, by rw [← hxs]; cases narF ls (ms.drop (k + 1)) (k + 1) <;> simp⟩ ⟨rfl, rfl, rfl, rfl, rfl, trivial⟩
        · have h31b := h31
          try simp only [sxb] at h31
          rw [List.drop_of_length_le (show ms.length ≤ k by omega)] at hxs
          refine cj_exit (ej_then_exit (ej_then_exit (ej_blk_hit (ej_th (cj_seq ?_)))))
          refine cj_regionG (gj_step (y_move rfl) rfl rfl rfl (gj_step (y_assign rfl) rfl rfl rfl (gj_step (y_assign rfl) rfl rfl rfl (gj_nil ?_))))
          refine ej_th (cj_ret ?_)
          obtain ⟨e1, e2⟩ := nar_yes hmo h21b hro (hxs.symm.trans (by simp [narF] : _ = some xs))
          exact ej_ret2 rfl Tryz.results20 rfl rfl (fun w' hp => ⟨A1, c1, by rw [e1, e2], hp.below, by rw [e2]; exact hp.res (fun _ => rfl) (by unfold maxLen; omega)⟩)

theorem k_Agree (ms : List Meas) (A : Option Addr) (c : Nat) (a b : List Int) (Aa Ab : Option Addr) (ca cb : Nat) (w : World) (hm : Rd w 2 encMe A ms) (ha : Rd w 1 enInt Aa a) (hb : Rd w 1 enInt Ab b) : Calls Tryz.prog 21 #[.slice A ms.length c, .slice Aa a.length ca, .slice Ab b.length cb] w (fun e w' => e = .returned (.tuple #[.bool (AgrB ms a b), .int .i64 (AgrE ms a b)]) ∧ Grow w w') := by
  have hlm := hm.len
  refine enter_pure (args := [.slice A ms.length c, .slice Aa a.length ca, .slice Ab b.length cb]) [sl (fun b => b < w.heap.size) 2 encMe A ms, sl (fun b => b < w.heap.size) 1 enInt Aa a, sl (fun b => b < w.heap.size) 1 enInt Ab b] Tryz.func21 rfl (by rw [Tryz.ntmps21]; simp) (fun g hg => by simp at hg; rcases hg with rfl | rfl | rfl; exact ⟨hm, fun _ h => h⟩; exact ⟨ha, fun _ h => h⟩; exact ⟨hb, fun _ h => h⟩) ?_
  refine cj_seq ?_
  refine cj_regionG (gj_step (y_assign rfl) rfl rfl rfl (gj_step (y_assign rfl) rfl rfl rfl (gj_nil ?_)))
  refine ej_th (cj_seq (cj_seq ?_))
  refine cj_regionG ?_
  refine gj_step (y_move rfl) rfl rfl rfl (?_)
  refine gj_step (y_call Tryz.call43 rfl (fun w hp => k_CheckM _ _ _ w hp.rd)) rfl rfl rfl ?_
  refine gj_step (y_assign rfl) rfl rfl rfl (?_)
  refine gj_nil ?_
  refine ej_th (cj_seq ?_)
  refine cj_regionG (gj_step (y_move rfl) rfl rfl rfl (gj_step (y_neq rfl rfl) rfl rfl rfl (gj_nil ?_)))
  refine ej_th ?_
  refine cj_cond rfl (fun h15 => ?_) (fun h15 => ?_)
  · have h15b := h15
    try simp only [sxb] at h15
    have hno := meas_no h15b
    refine cj_seq ?_
    refine cj_regionG (gj_step (y_move rfl) rfl rfl rfl (gj_step (y_assign rfl) rfl rfl rfl (gj_step (y_assign rfl) rfl rfl rfl (gj_nil ?_))))
    refine ej_th (cj_ret (ej_then_ret ?_))
    obtain ⟨e1, e2⟩ := agr_no1 (a := a) (b := b) hno
    exact ej_ret2 rfl Tryz.results21 rfl rfl (fun w' hp => ⟨by rw [e2, e1, measE, hno]; rfl, hp.below⟩)
  · have h15b := h15
    try simp only [sxb] at h15
    have hmo := meas_0 h15b
    obtain ⟨hml, hmb⟩ := meas_bd hmo
    refine cj_skip (ej_th (cj_seq (cj_seq (cj_region ?_))))
    refine oj_step (y_move rfl) rfl rfl rfl ?_
    refine oj_step (y_move rfl) rfl rfl rfl ?_
    refine oj_step (y_move rfl) rfl rfl rfl ?_
    refine oj_buildSlice (cs := [.slice Aa a.length ca, .slice Ab b.length cb]) [.slice none 0 0, .slice none 0 0] Tryz.underlying57 Tryz.sizeOf49 Tryz.zeroValue49 rfl rfl (by kernel_rfl) (by kernel_rfl) rfl (fun b20 => ?_)
    refine oj_step (y_call Tryz.call44 rfl (fun w hp => k_readings ms A c [⟨Aa, ca, a⟩, ⟨Ab, cb, b⟩] (some ⟨b20, 0, none⟩) 2 w (hp.rdLit (sz := 1) (enc := encLs) [⟨Aa, ca, a⟩, ⟨Ab, cb, b⟩] (fun _ => rfl) rfl (by unfold maxLen; simp)) (fun r hr => by
      simp only [List.mem_cons, List.mem_nil_iff, or_false] at hr
      rcases hr with rfl | rfl
      · exact ha.mono hp.below
      · exact hb.mono hp.below))) rfl rfl rfl ?_
    refine oj_step (y_assign rfl) rfl rfl rfl ?_
    refine oj_nil ?_
    refine ej_th (cj_seq ?_)
    refine cj_regionG (gj_step (y_move rfl) rfl rfl rfl (gj_step (y_neq rfl rfl) rfl rfl rfl (gj_nil ?_)))
    refine ej_th ?_
    refine cj_cond rfl (fun h23 => ?_) (fun h23 => ?_)
    · have h23b := h23
      try simp only [sxb] at h23
      have hro : (rdOk ms.length a && rdOk ms.length b) = false := by have := rds_no h23b; simpa [rdOkV] using this
      refine cj_seq ?_
      refine cj_regionG (gj_step (y_move rfl) rfl rfl rfl (gj_step (y_assign rfl) rfl rfl rfl (gj_step (y_assign rfl) rfl rfl rfl (gj_nil ?_))))
      refine ej_th (cj_ret (ej_then_ret ?_))
      have hr0 := rds_no h23b
      obtain ⟨e1, e2⟩ := agr_no2 hmo hro
      exact ej_ret2 rfl Tryz.results21 rfl rfl (fun w' hp => ⟨by rw [e2, e1, rdsE, hr0]; rfl, hp.below⟩)
    · have h23b := h23
      try simp only [sxb] at h23
      have hro : (rdOk ms.length a && rdOk ms.length b) = true := by have := rds_0 h23b; simpa [rdOkV] using this
      have hrp := Bool.and_eq_true_iff.1 hro
      have hab := rdOk_bd hrp.1
      have hbb := rdOk_bd hrp.2
      refine cj_skip (ej_th (cj_seq (cj_seq ?_)))
      refine cj_regionG (gj_step (y_move rfl) rfl rfl rfl (gj_step (y_lenA Tryz.underlying48 rfl) rfl rfl rfl (gj_step (y_move rfl) rfl rfl rfl (gj_nil ?_))))
      refine ej_th (cj_block ?_)
      refine cj_lpic (X := Nat) [(1, _), (2, _), (25, _), (26, _)] (fun k => k ≤ ms.length ∧ agrF (ms.drop k) (a.drop k) (b.drop k) = agrF ms a b) (fun k => [(27, .int .i64 k)]) (fun k => ms.length - k) 0 (⟨Nat.zero_le _, rfl⟩) ⟨rfl, rfl, rfl, rfl, rfl, trivial⟩ ?_
      rintro k ⟨hk, hsk⟩
      dsimp only [List.cons_append, List.nil_append]
      refine cj_seq ?_
      refine cj_regionG (gj_step (y_lss rfl rfl) rfl rfl rfl (gj_nil ?_))
      refine ej_th (cj_seq ?_)
      refine cj_cond rfl (fun h28 => ?_) (fun h28 => ?_)
      · have h28b := h28
        try simp only [sxb] at h28
        obtain ⟨m, hx⟩ : ∃ m, ms[k]? = some m := ⟨_, List.getElem?_eq_getElem (by omega)⟩
        obtain ⟨p, hy⟩ : ∃ p, a[k]? = some p := ⟨_, List.getElem?_eq_getElem (by omega)⟩
        obtain ⟨q, hz⟩ : ∃ q, b[k]? = some q := ⟨_, List.getElem?_eq_getElem (by omega)⟩
        rw [agrF_drop ms a b k m p q hx hy hz] at hsk
        have hmt := hmb m (List.mem_of_getElem? hx)
        have hpb := hab.2 p (List.mem_of_getElem? hy)
        have hqb := hbb.2 q (List.mem_of_getElem? hz)
        refine cj_skip (ej_th (cj_seq (cj_block (cj_seq (cj_region ?_)))))
        refine oj_step (y_move rfl) rfl rfl rfl ?_
        refine oj_step (y_ixR (reads_sl) Tryz.underlying48 Tryz.sizeOf98 rfl rfl (⟨by omega, by omega⟩)) rfl rfl rfl ?_
        refine oj_step (y_ldW (reads_sl) Tryz.isAgg98 Tryz.sizeOf98 rfl (hx) (fun _ => rfl)) rfl rfl rfl ?_
        refine oj_alloc Tryz.zeroValue98 rfl rfl (fun b11 => ?_)
        refine oj_step (y_assign rfl) rfl rfl rfl ?_
        refine oj_store rfl rfl rfl rfl Tryz.sizeOf98 rfl ?_
        refine oj_nil ?_
        refine ej_th (cj_seq ?_)
        refine cj_draw (by kernel_rfl) (by kernel_rfl) ?_
        refine gj_step (y_move rfl) rfl rfl rfl (gj_step (y_move rfl) rfl rfl rfl (gj_step (y_ixR (reads_sl) Tryz.underlying49 Tryz.sizeOf3 rfl rfl (⟨by omega, by omega⟩)) rfl rfl rfl (gj_step (y_ld0 (reads_sl) Tryz.isAgg3 rfl (hy) rfl) rfl rfl rfl (gj_step (y_geq rfl rfl) rfl rfl rfl (gj_step (y_move rfl) rfl rfl rfl (?_))))))
        refine gj_g 5 37 42 rfl rfl rfl rfl (fun hg37 => gj_yes rfl rfl rfl (y_move rfl) rfl rfl (gj_yes rfl rfl rfl (y_move rfl) rfl rfl (gj_yes rfl rfl rfl (y_ixR (reads_sl) Tryz.underlying49 Tryz.sizeOf3 rfl rfl (⟨by omega, by omega⟩)) rfl rfl (gj_yes rfl rfl rfl (y_ld0 (reads_sl) Tryz.isAgg3 rfl (hz) rfl) rfl rfl (gj_yes rfl rfl rfl (y_geq rfl rfl) rfl rfl (gj_nil rfl)))))) ?_
        refine gj_step (y_and rfl rfl rfl) rfl rfl rfl (gj_step (y_move rfl) rfl rfl rfl (?_))
        refine gj_g 17 44 61 rfl rfl rfl rfl (fun hg44 => gj_yes rfl rfl rfl (y_move rfl) rfl rfl (gj_yes rfl rfl rfl (y_move rfl) rfl rfl (gj_yes rfl rfl rfl (y_ixR (reads_sl) Tryz.underlying49 Tryz.sizeOf3 rfl rfl (⟨by omega, by omega⟩)) rfl rfl (gj_yes rfl rfl rfl (y_ld0 (reads_sl) Tryz.isAgg3 rfl (hz) rfl) rfl rfl (gj_yes rfl rfl rfl (y_move rfl) rfl rfl (gj_yes rfl rfl rfl (y_move rfl) rfl rfl (gj_yes rfl rfl rfl (y_ixR (reads_sl) Tryz.underlying49 Tryz.sizeOf3 rfl rfl (⟨by omega, by omega⟩)) rfl rfl (gj_yes rfl rfl rfl (y_ld0 (reads_sl) Tryz.isAgg3 rfl (hy) rfl) rfl rfl (gj_yes rfl rfl rfl (y_sub rfl rfl (by omega)) rfl rfl (gj_yes rfl rfl rfl (y_fa0 fa98_0 rfl) rfl rfl (gj_yes rfl rfl rfl (y_load1 Tryz.isAgg3 rfl rfl) rfl rfl (gj_yes rfl rfl rfl (y_mul rfl rfl (by omega)) rfl rfl (gj_yes rfl rfl rfl (y_fa0 fa98_0 rfl) rfl rfl (gj_yes rfl rfl rfl (y_load1 Tryz.isAgg3 rfl rfl) rfl rfl (gj_yes rfl rfl rfl (y_mul rfl rfl (by omega)) rfl rfl (gj_yes rfl rfl rfl (y_call Tryz.call45 rfl (fun w hp => k_within1 _ _ _ w)) rfl rfl (gj_yes rfl rfl rfl (y_not rfl) rfl rfl (gj_nil rfl)))))))))))))))))) ?_
        refine gj_step (y_and rfl rfl rfl) rfl rfl rfl (?_)
        refine gj_nil ?_
        refine ej_th ?_
        refine cj_cond rfl (fun h62 => ?_) (fun h62 => ?_)
        · have h62b := h62
          try simp only [sxb] at h62
          refine cj_seq ?_
          refine cj_regionG (gj_step (y_assign rfl) rfl rfl rfl (gj_step (y_assign rfl) rfl rfl rfl (gj_nil ?_)))
          refine ej_th (cj_ret (ej_blk_ret (ej_then_ret (ej_then_ret (ej_blk_ret (ej_then_ret ?_))))))
          obtain ⟨e1, e2⟩ := agr_yes hmo hro
          rw [← hsk, show disag m p q = true from h62b] at e2
          exact ej_ret2 rfl Tryz.results21 rfl rfl (fun w' hp => ⟨by rw [e2, e1 ]; rfl, hp.below⟩)
        · have h62b := h62
          try simp only [sxb] at h62
          refine cj_skip (ej_blk (ej_th ?_))
          refine cj_regionG (gj_step (y_add rfl rfl (by omega)) rfl rfl rfl (gj_step (y_move rfl) rfl rfl rfl (gj_nil ?_)))
          exact ej_nx (k + 1) (by omega) ⟨by omega, by rw [← hsk, show disag m p q = false from h62b]; rfl⟩ ⟨rfl, rfl, rfl, rfl, rfl, trivial⟩
      · have h28b := h28
        try simp only [sxb] at h28
        refine cj_exit (ej_then_exit (ej_then_exit (ej_blk_hit (ej_th (cj_seq ?_)))))
        refine cj_regionG (gj_step (y_assign rfl) rfl rfl rfl (gj_step (y_assign rfl) rfl rfl rfl (gj_nil ?_)))
        refine ej_th (cj_ret ?_)
        obtain ⟨e1, e2⟩ := agr_yes hmo hro
        rw [← hsk, List.drop_of_length_le (show ms.length ≤ k by omega)] at e2
        exact ej_ret2 rfl Tryz.results21 rfl rfl (fun w' hp => ⟨by rw [e2, e1 ]; rfl, hp.below⟩)

end Go.Proofs.YtlfbghkcfmcnlaaGreatDoor
namespace Go.Proofs.YtlfbghkcfmcnlaaGreatDoor
open Go.Sx Go.RowKit
set_option maxRecDepth 20000

end Go.Proofs.YtlfbghkcfmcnlaaGreatDoor
