/- Texts of ours, joined: 25 of them. Conditions: none. -/
import Derived.Test.YtlfbghkcfmcnlaaGreatDoorZc
import Derived.Test.YtlfbghkcfmcnlaaGreatDoorProg
import Derived.Laws.StructEq
import Derived.Shelf.Strings.OnBuilder
import Derived.Laws.Cover3
namespace Go.Proofs.YtlfbghkcfmcnlaaGreatDoor
open Go.Sx Go.RowKit
set_option maxRecDepth 20000

end Go.Proofs.YtlfbghkcfmcnlaaGreatDoor
namespace Go.Proofs.YtlfbghkcfmcnlaaGreatDoor
open Go.Sx Go.RowKit
set_option maxRecDepth 20000

end Go.Proofs.YtlfbghkcfmcnlaaGreatDoor
namespace Go.Proofs.YtlfbghkcfmcnlaaGreatDoor
open Go.Sx Go.RowKit
set_option maxRecDepth 20000
end Go.Proofs.YtlfbghkcfmcnlaaGreatDoor
namespace Go.Proofs.YtlfbghkcfmcnlaaGreatDoor
open Go.Sx Go.RowKit
set_option maxRecDepth 20000
theorem k_IsWord (s : ByteArray) (w : World) (hs : s.size ≤ 9223372036854775807) : Calls Tryz.prog 14 #[.string s] w (fun e w' => e = .returned (.bool (isW s)) ∧ Grow w w') := by
  refine enter_pure (args := [.string s]) [] Tryz.func14 rfl (by rw [Tryz.ntmps14]; simp) (by simp) ?_
  refine cj_seq ?_
  refine cj_regionG (gj_step (y_assign rfl) rfl rfl rfl (gj_nil ?_))
  refine ej_th (cj_seq (cj_seq ?_))
  refine cj_regionG (gj_step (y_move rfl) rfl rfl rfl (gj_step (y_lenS Tryz.underlying9 rfl) rfl rfl rfl (gj_step (y_eql rfl rfl) rfl rfl rfl (gj_step (y_move rfl) rfl rfl rfl (gj_g 3 8 11 rfl rfl rfl rfl (fun hg8 => gj_yes rfl rfl rfl (y_move rfl) rfl rfl (gj_yes rfl rfl rfl (y_lenS Tryz.underlying9 rfl) rfl rfl (gj_yes rfl rfl rfl (y_gtr rfl rfl) rfl rfl (gj_nil rfl)))) (gj_step (y_or rfl rfl rfl) rfl rfl rfl (gj_step (y_move rfl) rfl rfl rfl (gj_g 3 13 16 rfl rfl rfl rfl (fun hg13 => gj_yes rfl rfl rfl (y_move rfl) rfl rfl (gj_yes rfl rfl rfl (y_indexS Tryz.underlying9 rfl rfl (by omega) (bs_first (by have := hg13; simp only [sxb] at this; omega))) rfl rfl (gj_yes rfl rfl rfl (y_lss rfl rfl) rfl rfl (gj_nil rfl)))) (gj_step (y_or rfl rfl rfl) rfl rfl rfl (gj_step (y_move rfl) rfl rfl rfl (gj_g 3 18 21 rfl rfl rfl rfl (fun hg18 => gj_yes rfl rfl rfl (y_move rfl) rfl rfl (gj_yes rfl rfl rfl (y_indexS Tryz.underlying9 rfl rfl (by omega) (bs_first (by have := hg18; simp only [sxb] at this; omega))) rfl rfl (gj_yes rfl rfl rfl (y_gtr rfl rfl) rfl rfl (gj_nil rfl)))) (gj_step (y_or rfl rfl rfl) rfl rfl rfl (gj_nil ?_)))))))))))))
  refine ej_th ?_
  refine cj_cond rfl (fun h22 => ?_) (fun h22 => ?_)
  · have h22b := h22
    try simp only [sxb] at h22
    refine cj_seq ?_
    refine cj_regionG (gj_step (y_assign rfl) rfl rfl rfl (gj_nil ?_))
    refine ej_th (cj_ret (ej_then_ret ?_))
    refine ej_ret1 rfl Tryz.results14 rfl (fun w' hp => ⟨?_, hp.below⟩)
    have : isW s = false := by
      unfold isW letB
      simp only [Bool.and_eq_false_iff, decide_eq_false_iff_not]
      omega
    rw [this]
  · have h22b := h22
    try simp only [sxb] at h22
    simp only [Bool.or_eq_false_iff, decide_eq_false_iff_not] at h22b
    refine cj_skip (ej_th (cj_seq (cj_seq ?_)))
    refine cj_regionG (gj_step (y_move rfl) rfl rfl rfl (gj_step (y_lenS Tryz.underlying9 rfl) rfl rfl rfl (gj_step (y_move rfl) rfl rfl rfl (gj_nil ?_))))
    refine ej_th (cj_block ?_)
    refine cj_lpic (X := Nat) [(0, _), (24, _)] (fun k => k ≤ s.size ∧ ((bsOf s).drop k).all okBs = (bsOf s).all okBs) (fun k => [(25, .int .i64 k)]) (fun k => s.size - k) 0 (⟨Nat.zero_le _, rfl⟩) ⟨rfl, rfl, rfl, trivial⟩ ?_
    rintro k ⟨hk, hl⟩
    dsimp only [List.cons_append, List.nil_append]
    refine cj_seq ?_
    refine cj_regionG (gj_step (y_lss rfl rfl) rfl rfl rfl (gj_nil ?_))
    refine ej_th (cj_seq ?_)
    refine cj_cond rfl (fun h26 => ?_) (fun h26 => ?_)
    · have h26b := h26
      try simp only [sxb] at h26
      have hbl := bs_len s
      obtain ⟨b, hx⟩ : ∃ b, (bsOf s)[k]? = some b := ⟨_, List.getElem?_eq_getElem (by omega)⟩
      rw [all_drop okBs (bsOf s) k b hx] at hl
      refine cj_skip (ej_th (cj_seq (cj_block (cj_seq ?_))))
      refine cj_regionG (gj_step (y_move rfl) rfl rfl rfl (gj_step (y_assign rfl) rfl rfl rfl (gj_nil ?_)))
      refine ej_th (cj_seq ?_)
      refine cj_regionG (gj_step (y_move rfl) rfl rfl rfl (gj_step (y_move rfl) rfl rfl rfl (gj_step (y_indexS Tryz.underlying9 rfl rfl (by omega) (bs_get hx)) rfl rfl rfl (gj_step (y_assign rfl) rfl rfl rfl (gj_nil ?_)))))
      refine ej_th (cj_seq ?_)
      refine cj_regionG (gj_step (y_move rfl) rfl rfl rfl (gj_step (y_lss rfl rfl) rfl rfl rfl (gj_step (y_move rfl) rfl rfl rfl (gj_g 2 33 35 rfl rfl rfl rfl (fun hg33 => gj_yes rfl rfl rfl (y_move rfl) rfl rfl (gj_yes rfl rfl rfl (y_gtr rfl rfl) rfl rfl (gj_nil rfl))) (gj_step (y_or rfl rfl rfl) rfl rfl rfl (gj_step (y_move rfl) rfl rfl rfl (gj_g 6 37 43 rfl rfl rfl rfl (fun hg37 => gj_yes rfl rfl rfl (y_move rfl) rfl rfl (gj_yes rfl rfl rfl (y_lss rfl rfl) rfl rfl (gj_yes rfl rfl rfl (y_move rfl) rfl rfl (gj_g 2 40 42 rfl rfl rfl rfl (fun hg40 => gj_yes rfl rfl rfl (y_move rfl) rfl rfl (gj_yes rfl rfl rfl (y_gtr rfl rfl) rfl rfl (gj_nil rfl))) (gj_yes rfl rfl rfl (y_or rfl rfl rfl) rfl rfl (gj_nil rfl)))))) (gj_step (y_and rfl rfl rfl) rfl rfl rfl (gj_step (y_move rfl) rfl rfl rfl (gj_g 2 45 47 rfl rfl rfl rfl (fun hg45 => gj_yes rfl rfl rfl (y_move rfl) rfl rfl (gj_yes rfl rfl rfl (y_neq rfl rfl) rfl rfl (gj_nil rfl))) (gj_step (y_and rfl rfl rfl) rfl rfl rfl (gj_nil ?_))))))))))))
      refine ej_th ?_
      refine cj_cond rfl (fun h48 => ?_) (fun h48 => ?_)
      · have h48b := h48
        try simp only [sxb] at h48
        refine cj_seq ?_
        refine cj_regionG (gj_step (y_assign rfl) rfl rfl rfl (gj_nil ?_))
        refine ej_th (cj_ret (ej_blk_ret (ej_then_ret (ej_then_ret (ej_blk_ret (ej_then_ret ?_))))))
        exact ej_ret1 rfl Tryz.results14 rfl (fun w' hp => ⟨by rw [isW, ← hl, show okBs b = false from not_t ((okB_V b.toNat).symm.trans h48b)]; simp, hp.below⟩)
      · have h48b := h48
        try simp only [sxb] at h48
        refine cj_skip (ej_blk (ej_th ?_))
        refine cj_regionG (gj_step (y_add rfl rfl (by omega)) rfl rfl rfl (gj_step (y_move rfl) rfl rfl rfl (gj_nil ?_)))
        refine ej_nx (k + 1) (by omega) ⟨by omega, ?_⟩ ⟨rfl, rfl, rfl, trivial⟩
        rw [← hl, show okBs b = true from not_f ((okB_V b.toNat).symm.trans h48b), Bool.true_and]
    · have h26b := h26
      try simp only [sxb] at h26
      refine cj_exit (ej_then_exit (ej_then_exit (ej_blk_hit (ej_th (cj_seq ?_)))))
      refine cj_regionG (gj_step (y_assign rfl) rfl rfl rfl (gj_nil ?_))
      refine ej_th (cj_ret ?_)
      refine ej_ret1 rfl Tryz.results14 rfl (fun w' hp => ⟨?_, hp.below⟩)
      have hbl := bs_len s
      rw [List.drop_of_length_le (by omega)] at hl
      rw [isW, ← hl, decide_eq_true (by omega), decide_eq_true (by omega)]
      unfold letB
      rw [decide_eq_true (by omega), decide_eq_true (by omega)]; rfl

end Go.Proofs.YtlfbghkcfmcnlaaGreatDoor
namespace Go.Proofs.YtlfbghkcfmcnlaaGreatDoor
open Go.Sx Go.RowKit
set_option maxRecDepth 20000

end Go.Proofs.YtlfbghkcfmcnlaaGreatDoor
namespace Go.Proofs.YtlfbghkcfmcnlaaGreatDoor
open Go.Sx Go.RowKit
set_option maxRecDepth 20000
theorem k_within1 (n lo hi : Int) (w : World)  : Calls Tryz.prog 45 #[.int .i64 n, .int .i64 lo, .int .i64 hi] w (fun e w' => e = .returned (.bool (decide (lo ≤ n) && decide (n ≤ hi))) ∧ Grow w w') := by
  refine enter_pure (args := [.int .i64 n, .int .i64 lo, .int .i64 hi]) [] Tryz.func45 rfl (by rw [Tryz.ntmps45]; simp) (by simp) ?_
  refine cj_seq ?_
  refine cj_regionG (gj_step (y_assign rfl) rfl rfl rfl (gj_nil ?_))
  refine ej_th (cj_seq ?_)
  refine cj_regionG (gj_step (y_move rfl) rfl rfl rfl (gj_step (y_move rfl) rfl rfl rfl (gj_step (y_geq rfl rfl) rfl rfl rfl (gj_step (y_move rfl) rfl rfl rfl (gj_g 3 10 13 rfl rfl rfl rfl (fun hg10 => gj_yes rfl rfl rfl (y_move rfl) rfl rfl (gj_yes rfl rfl rfl (y_move rfl) rfl rfl (gj_yes rfl rfl rfl (y_leq rfl rfl) rfl rfl (gj_nil rfl)))) (gj_step (y_and rfl rfl rfl) rfl rfl rfl (gj_step (y_assign rfl) rfl rfl rfl (gj_nil ?_))))))))
  refine ej_th (cj_ret ?_)
  exact ej_ret1 rfl Tryz.results45 rfl (fun w' hp => ⟨rfl, hp.below⟩)

theorem k_IndexS (l : List ByteArray) (A : Option Addr) (c : Nat) (s : ByteArray) (w : World) (hl : Rd w 1 enStr A l) : Calls Tryz.prog 85 #[.slice A l.length c, .string s] w (fun e w' => e = .returned (.int .i64 (firstS s l 0)) ∧ Grow w w') := by
  have hlen := hl.len
  refine enter_pure (args := [.slice A l.length c, .string s]) [sl (fun b => b < w.heap.size) 1 enStr A l] Tryz.func85 rfl (by rw [Tryz.ntmps85]; simp) (fun g hg => by simp at hg; subst hg; exact ⟨hl, fun _ h => h⟩) ?_
  refine cj_seq ?_
  refine cj_regionG (gj_step (y_assign rfl) rfl rfl rfl (gj_nil ?_))
  refine ej_th (cj_seq (cj_seq ?_))
  refine cj_regionG (gj_step (y_move rfl) rfl rfl rfl (gj_step (y_lenA Tryz.underlying23 rfl) rfl rfl rfl (gj_step (y_move rfl) rfl rfl rfl (gj_nil ?_))))
  refine ej_th (cj_block ?_)
  refine cj_lpic (X := Nat) [(0, _), (1, _), (7, _)] (fun k => k ≤ l.length ∧ firstS s (l.drop k) k = firstS s l 0) (fun k => [(8, .int .i64 k)]) (fun k => l.length - k) 0 (⟨Nat.zero_le _, rfl⟩) ⟨rfl, rfl, rfl, rfl, trivial⟩ ?_
  rintro k ⟨hk, hs⟩
  dsimp only [List.cons_append, List.nil_append]
  refine cj_seq ?_
  refine cj_regionG (gj_step (y_lss rfl rfl) rfl rfl rfl (gj_nil ?_))
  refine ej_th (cj_seq ?_)
  refine cj_cond rfl (fun h9 => ?_) (fun h9 => ?_)
  · have h9b := h9
    try simp only [sxb] at h9
    obtain ⟨x, hx⟩ : ∃ x, l[k]? = some x := ⟨_, List.getElem?_eq_getElem (by omega)⟩
    rw [firstS_drop s l k x hx] at hs
    refine cj_skip (ej_th (cj_seq (cj_block (cj_seq ?_))))
    refine cj_regionG (gj_step (y_move rfl) rfl rfl rfl (gj_step (y_assign rfl) rfl rfl rfl (gj_nil ?_)))
    refine ej_th (cj_seq ?_)
    refine cj_regionG (gj_step (y_move rfl) rfl rfl rfl (gj_step (y_move rfl) rfl rfl rfl (gj_step (y_move rfl) rfl rfl rfl (gj_step (y_ixR (reads_sl) Tryz.underlying23 Tryz.sizeOf9 rfl rfl (⟨by omega, by omega⟩)) rfl rfl rfl (gj_step (y_ld0 (reads_sl) Tryz.isAgg9 rfl (hx) rfl) rfl rfl rfl (gj_step (y_eqlS rfl rfl) rfl rfl rfl (gj_nil ?_)))))))
    refine ej_th ?_
    refine cj_cond rfl (fun h16 => ?_) (fun h16 => ?_)
    · have h16b := h16
      try simp only [sxb] at h16
      refine cj_seq ?_
      refine cj_regionG (gj_step (y_move rfl) rfl rfl rfl (gj_step (y_assign rfl) rfl rfl rfl (gj_nil ?_)))
      refine ej_th (cj_ret (ej_blk_ret (ej_then_ret (ej_then_ret (ej_blk_ret (ej_then_ret ?_))))))
      refine ej_ret1 rfl Tryz.results85 rfl (fun w' hp => ⟨?_, hp.below⟩)
      rw [← hs, if_pos (bytes_eq h16).symm]
    · have h16b := h16
      try simp only [sxb] at h16
      refine cj_skip (ej_blk (ej_th ?_))
      refine cj_regionG (gj_step (y_add rfl rfl (by omega)) rfl rfl rfl (gj_step (y_move rfl) rfl rfl rfl (gj_nil ?_)))
      exact ej_nx (k + 1) (by omega) ⟨by omega, by rw [← hs, if_neg (fun e => bytes_ne h16 e.symm)]⟩ ⟨rfl, rfl, rfl, rfl, trivial⟩
  · have h9b := h9
    try simp only [sxb] at h9
    refine cj_exit (ej_then_exit (ej_then_exit (ej_blk_hit (ej_th (cj_seq ?_)))))
    refine cj_regionG (gj_step (y_assign rfl) rfl rfl rfl (gj_nil ?_))
    refine ej_th (cj_ret ?_)
    refine ej_ret1 rfl Tryz.results85 rfl (fun w' hp => ⟨?_, hp.below⟩)
    rw [← hs, List.drop_of_length_le (by omega)]; rfl

theorem k_ContainsS (l : List ByteArray) (A : Option Addr) (c : Nat) (s : ByteArray) (w : World) (hl : Rd w 1 enStr A l) : Calls Tryz.prog 64 #[.slice A l.length c, .string s] w (fun e w' => e = .returned (.bool (hasW l s)) ∧ Grow w w') := by
  refine enter_pure (args := [.slice A l.length c, .string s]) [sl (fun b => b < w.heap.size) 1 enStr A l] Tryz.func64 rfl (by rw [Tryz.ntmps64]; simp) (fun g hg => by simp at hg; subst hg; exact ⟨hl, fun _ h => h⟩) ?_
  refine cj_seq ?_
  refine cj_regionG (gj_step (y_assign rfl) rfl rfl rfl (gj_nil ?_))
  refine ej_th (cj_seq ?_)
  refine cj_regionG ?_
  refine gj_step (y_move rfl) rfl rfl rfl (gj_step (y_move rfl) rfl rfl rfl (?_))
  refine gj_step (y_call Tryz.call85 rfl (fun w hp => k_IndexS _ _ _ _ w hp.rd)) rfl rfl rfl ?_
  refine gj_step (y_geq rfl rfl) rfl rfl rfl (gj_step (y_assign rfl) rfl rfl rfl (?_))
  refine gj_nil ?_
  refine ej_th (cj_ret ?_)
  refine ej_ret1 rfl Tryz.results64 rfl (fun w' hp => ⟨?_, hp.below⟩)
  rw [firstS_has]

theorem k_words (l : List ByteArray) (A : Option Addr) (c : Nat) (w : World) (hl : Rd w 1 enStr A l) (hsm : smS l) : Calls Tryz.prog 61 #[.slice A l.length c] w (fun e w' => e = .returned (.bool (wordsB l)) ∧ Grow w w') := by
  have hlen := hl.len
  refine enter_pure (args := [.slice A l.length c]) [sl (fun b => b < w.heap.size) 1 enStr A l] Tryz.func61 rfl (by rw [Tryz.ntmps61]; simp) (fun g hg => by simp at hg; subst hg; exact ⟨hl, fun _ h => h⟩) ?_
  refine cj_seq ?_
  refine cj_regionG (gj_step (y_assign rfl) rfl rfl rfl (gj_nil ?_))
  refine ej_th (cj_seq (cj_region ?_))
  refine oj_makeMap ekS evB rfl (fun b6 => ?_)
  refine oj_step (y_assign rfl) rfl rfl rfl ?_
  refine oj_nil ?_
  refine ej_th (cj_seq (cj_seq ?_))
  refine cj_regionG (gj_step (y_move rfl) rfl rfl rfl (gj_step (y_lenA Tryz.underlying23 rfl) rfl rfl rfl (gj_step (y_move rfl) rfl rfl rfl (gj_nil ?_))))
  refine ej_th (cj_block ?_)
  refine cj_eqO [mp ekS evB b6 (mapW (l.take 0))] rfl ?_
  refine cj_lpi (X := Nat) [(3, _), (7, _), (8, _)] (fun k => k ≤ l.length ∧ wordsG (l.take k) (l.drop k) = wordsB l) (fun k => [(9, .int .i64 k)]) (fun k => [mp ekS evB b6 (mapW (l.take k))]) (fun k => [sl (fun b => b < w.heap.size) 1 enStr A l]) (fun k => l.length - k) 0 (⟨Nat.zero_le _, rfl⟩) ⟨rfl, rfl, rfl, rfl, trivial⟩ ?_
  rintro k ⟨hk, hs⟩
  dsimp only [List.cons_append, List.nil_append]
  refine cj_seq ?_
  refine cj_regionG (gj_step (y_lss rfl rfl) rfl rfl rfl (gj_nil ?_))
  refine ej_th (cj_seq ?_)
  refine cj_cond rfl (fun h10 => ?_) (fun h10 => ?_)
  · have h10b := h10
    try simp only [sxb] at h10
    obtain ⟨x, hx⟩ : ∃ x, l[k]? = some x := ⟨_, List.getElem?_eq_getElem (by omega)⟩
    rw [wordsG_drop l k x hx] at hs
    have hgl := getL_mapW (l.take k) x
    have htk : l.take (k + 1) = l.take k ++ [x] := by rw [List.take_add_one, hx]; rfl
    refine cj_skip (ej_th (cj_seq (cj_block (cj_seq ?_))))
    refine cj_regionG (gj_step (y_ixR (reads_sl) Tryz.underlying23 Tryz.sizeOf9 rfl rfl (⟨by omega, by omega⟩)) rfl rfl rfl (gj_step (y_ld0 (reads_sl) Tryz.isAgg9 rfl (hx) rfl) rfl rfl rfl (gj_step (y_assign rfl) rfl rfl rfl (gj_nil ?_))))
    refine ej_th (cj_seq (cj_seq ?_))
    refine cj_regionG ?_
    refine gj_step (y_move rfl) rfl rfl rfl (?_)
    refine gj_step (y_call Tryz.call14 rfl (fun w hp => k_IsWord _ w (hsm x (List.mem_of_getElem? hx)))) rfl rfl rfl ?_
    refine gj_step (y_not rfl) rfl rfl rfl (gj_step (y_move rfl) rfl rfl rfl (?_))
    refine gj_g 3 16 19 rfl rfl rfl rfl (fun hg16 => gj_yes rfl rfl rfl (y_move rfl) rfl rfl (gj_yes rfl rfl rfl (y_move rfl) rfl rfl (gj_yes rfl rfl rfl (y_lookup1 (ek := ekS) (ev := evB) false Tryz.underlying139 Tryz.underlying9 Tryz.zeroValue4 rfl rfl) rfl rfl (gj_nil rfl)))) ?_
    refine gj_step (y_or rfl rfl rfl) rfl rfl rfl (?_)
    refine gj_nil ?_
    refine ej_th ?_
    refine cj_cond rfl (fun h20 => ?_) (fun h20 => ?_)
    · have h20b := h20
      try simp only [sxb] at h20
      rw [hgl] at h20b
      have hgo := not_t ((words_V (l.take k) x).symm.trans h20b)
      refine cj_seq ?_
      refine cj_regionG (gj_step (y_assign rfl) rfl rfl rfl (gj_nil ?_))
      refine ej_th (cj_ret (ej_then_ret (ej_blk_ret (ej_then_ret (ej_then_ret (ej_blk_ret (ej_then_ret ?_)))))))
      refine ej_ret1 rfl Tryz.results61 rfl (fun w' hp => ⟨?_, hp.below⟩)
      rw [← hs, hgo]; rfl
    · have h20b := h20
      try simp only [sxb] at h20
      rw [hgl] at h20b
      have hgo := not_f ((words_V (l.take k) x).symm.trans h20b)
      have hnh : hasW (l.take k) x = false := by have := hgo; simp only [Bool.and_eq_true] at this; exact not_t this.2
      refine cj_skip (ej_th (cj_region ?_))
      refine oj_step (y_move rfl) rfl rfl rfl ?_
      refine oj_step (y_move rfl) rfl rfl rfl ?_
      refine oj_mapUpdate (ek := ekS) (ev := evB) (v := true) Tryz.underlying139 Tryz.underlying9 rfl rfl rfl ?_
      rw [putL_newW _ _ hnh, ← htk]
      refine oj_nil ?_
      refine ej_blk (ej_th ?_)
      refine cj_regionG (gj_step (y_add rfl rfl (by omega)) rfl rfl rfl (gj_step (y_move rfl) rfl rfl rfl (gj_nil ?_)))
      exact ej_nx (k + 1) (by omega) ⟨by omega, by rw [← hs, hgo, Bool.true_and]⟩ ⟨rfl, rfl, rfl, rfl, trivial⟩
  · have h10b := h10
    try simp only [sxb] at h10
    refine cj_exit (ej_then_exit (ej_then_exit (ej_blk_hit (ej_th (cj_seq ?_)))))
    refine cj_regionG (gj_step (y_assign rfl) rfl rfl rfl (gj_nil ?_))
    refine ej_th (cj_ret ?_)
    refine ej_ret1 rfl Tryz.results61 rfl (fun w' hp => ⟨?_, hp.below⟩)
    rw [← hs, List.drop_of_length_le (by omega)]; rfl

theorem k_gcl (s : ByteArray) (ns : List ByteArray) (B : Option Addr) (d : Nat) (b : Nat) (w : World) (hb : (ownB b (cellsB 23 [.slice B ns.length d])).P w) (hn : Rd w 1 enStr B ns) : Calls Tryz.prog 63 #[.string s, .pointer (some ⟨b, 0, none⟩)] w (fun e w' => e = .returned (.bool (!(hasW ns s))) ∧ Grow w w') := by
  refine enter_pure (args := [.string s, .pointer (some ⟨b, 0, none⟩)]) [sl (fun b => b < w.heap.size) 1 enStr B ns, ownB b (cellsB 23 [.slice B ns.length d])] Tryz.func63 rfl (by rw [Tryz.ntmps63]; simp) (fun g hg => by simp at hg; rcases hg with rfl | rfl; exact ⟨hn, fun _ h => h⟩; exact ⟨hb, fun i hi => by have : i = b := hi; subst this; exact (Array.getElem?_eq_some_iff.1 hb).1⟩) ?_
  refine cj_seq ?_
  refine cj_regionG (gj_step (y_assign rfl) rfl rfl rfl (gj_nil ?_))
  refine ej_th (cj_seq ?_)
  refine cj_regionG ?_
  refine gj_step (y_loadS1 Tryz.isAgg23 rfl rfl) rfl rfl rfl (gj_step (y_move rfl) rfl rfl rfl (?_))
  refine gj_step (y_call Tryz.call64 rfl (fun w hp => k_ContainsS _ _ _ _ w hp.rd)) rfl rfl rfl ?_
  refine gj_step (y_not rfl) rfl rfl rfl (gj_step (y_assign rfl) rfl rfl rfl (?_))
  refine gj_nil ?_
  refine ej_th (cj_ret ?_)
  exact ej_ret1 rfl Tryz.results63 rfl (fun w' hp => ⟨rfl, hp.below⟩)

theorem k_IndexFS (l : List ByteArray) (A : Option Addr) (c : Nat) (ns : List ByteArray) (B : Option Addr) (d : Nat) (b : Nat) (w : World) (hl : Rd w 1 enStr A l) (hb : (ownB b (cellsB 23 [.slice B ns.length d])).P w) (hn : Rd w 1 enStr B ns) : Calls Tryz.prog 84 #[.slice A l.length c, .func (.func 63) #[] #[.pointer (some ⟨b, 0, none⟩)]] w (fun e w' => e = .returned (.int .i64 (firstN ns l 0)) ∧ Grow w w') := by
  have hlen := hl.len
  refine enter_pure (args := [.slice A l.length c, .func (.func 63) #[] #[.pointer (some ⟨b, 0, none⟩)]]) [sl (fun b => b < w.heap.size) 1 enStr A l, sl (fun b => b < w.heap.size) 1 enStr B ns, ownB b (cellsB 23 [.slice B ns.length d])] Tryz.func84 rfl (by rw [Tryz.ntmps84]; simp) (fun g hg => by simp at hg; rcases hg with rfl | rfl | rfl; exact ⟨hl, fun _ h => h⟩; exact ⟨hn, fun _ h => h⟩; exact ⟨hb, fun i hi => by have : i = b := hi; subst this; exact (Array.getElem?_eq_some_iff.1 hb).1⟩) ?_
  refine cj_seq ?_
  refine cj_regionG (gj_step (y_assign rfl) rfl rfl rfl (gj_nil ?_))
  refine ej_th (cj_seq (cj_seq ?_))
  refine cj_regionG (gj_step (y_move rfl) rfl rfl rfl (gj_step (y_lenA Tryz.underlying23 rfl) rfl rfl rfl (gj_step (y_move rfl) rfl rfl rfl (gj_nil ?_))))
  refine ej_th (cj_block ?_)
  refine cj_lpic (X := Nat) [(0, _), (1, _), (7, _)] (fun k => k ≤ l.length ∧ firstN ns (l.drop k) k = firstN ns l 0) (fun k => [(8, .int .i64 k)]) (fun k => l.length - k) 0 (⟨Nat.zero_le _, rfl⟩) ⟨rfl, rfl, rfl, rfl, trivial⟩ ?_
  rintro k ⟨hk, hs⟩
  dsimp only [List.cons_append, List.nil_append]
  refine cj_seq ?_
  refine cj_regionG (gj_step (y_lss rfl rfl) rfl rfl rfl (gj_nil ?_))
  refine ej_th (cj_seq ?_)
  refine cj_cond rfl (fun h9 => ?_) (fun h9 => ?_)
  · have h9b := h9
    try simp only [sxb] at h9
    obtain ⟨x, hx⟩ : ∃ x, l[k]? = some x := ⟨_, List.getElem?_eq_getElem (by omega)⟩
    rw [firstN_drop ns l k x hx] at hs
    refine cj_skip (ej_th (cj_seq (cj_block (cj_seq ?_))))
    refine cj_regionG (gj_step (y_move rfl) rfl rfl rfl (gj_step (y_assign rfl) rfl rfl rfl (gj_nil ?_)))
    refine ej_th (cj_seq ?_)
    refine cj_regionG ?_
    refine gj_step (y_move rfl) rfl rfl rfl (gj_step (y_move rfl) rfl rfl rfl (gj_step (y_move rfl) rfl rfl rfl (gj_step (y_ixR (reads_sl) Tryz.underlying23 Tryz.sizeOf9 rfl rfl (⟨by omega, by omega⟩)) rfl rfl rfl (gj_step (y_ld0 (reads_sl) Tryz.isAgg9 rfl (hx) rfl) rfl rfl rfl (?_)))))
    refine gj_step (y_callV Tryz.call63 rfl rfl (fun w hp => k_gcl x ns B d b w hp.bs hp.rd)) rfl rfl rfl ?_
    refine gj_nil ?_
    refine ej_th ?_
    refine cj_cond rfl (fun h16 => ?_) (fun h16 => ?_)
    · have h16b := h16
      try simp only [sxb] at h16
      refine cj_seq ?_
      refine cj_regionG (gj_step (y_move rfl) rfl rfl rfl (gj_step (y_assign rfl) rfl rfl rfl (gj_nil ?_)))
      refine ej_th (cj_ret (ej_blk_ret (ej_then_ret (ej_then_ret (ej_blk_ret (ej_then_ret ?_))))))
      refine ej_ret1 rfl Tryz.results84 rfl (fun w' hp => ⟨?_, hp.below⟩)
      rw [← hs, if_pos h16]
    · have h16b := h16
      try simp only [sxb] at h16
      refine cj_skip (ej_blk (ej_th ?_))
      refine cj_regionG (gj_step (y_add rfl rfl (by omega)) rfl rfl rfl (gj_step (y_move rfl) rfl rfl rfl (gj_nil ?_)))
      exact ej_nx (k + 1) (by omega) ⟨by omega, by rw [← hs, if_neg (by simp [h16])]⟩ ⟨rfl, rfl, rfl, rfl, trivial⟩
  · have h9b := h9
    try simp only [sxb] at h9
    refine cj_exit (ej_then_exit (ej_then_exit (ej_blk_hit (ej_th (cj_seq ?_)))))
    refine cj_regionG (gj_step (y_assign rfl) rfl rfl rfl (gj_nil ?_))
    refine ej_th (cj_ret ?_)
    refine ej_ret1 rfl Tryz.results84 rfl (fun w' hp => ⟨?_, hp.below⟩)
    rw [← hs, List.drop_of_length_le (by omega)]; rfl

theorem k_ContainsFS (l : List ByteArray) (A : Option Addr) (c : Nat) (ns : List ByteArray) (B : Option Addr) (d : Nat) (b : Nat) (w : World) (hl : Rd w 1 enStr A l) (hb : (ownB b (cellsB 23 [.slice B ns.length d])).P w) (hn : Rd w 1 enStr B ns) : Calls Tryz.prog 62 #[.slice A l.length c, .func (.func 63) #[] #[.pointer (some ⟨b, 0, none⟩)]] w (fun e w' => e = .returned (.bool (!(l.all (hasW ns)))) ∧ Grow w w') := by
  refine enter_pure (args := [.slice A l.length c, .func (.func 63) #[] #[.pointer (some ⟨b, 0, none⟩)]]) [sl (fun b => b < w.heap.size) 1 enStr A l, sl (fun b => b < w.heap.size) 1 enStr B ns, ownB b (cellsB 23 [.slice B ns.length d])] Tryz.func62 rfl (by rw [Tryz.ntmps62]; simp) (fun g hg => by simp at hg; rcases hg with rfl | rfl | rfl; exact ⟨hl, fun _ h => h⟩; exact ⟨hn, fun _ h => h⟩; exact ⟨hb, fun i hi => by have : i = b := hi; subst this; exact (Array.getElem?_eq_some_iff.1 hb).1⟩) ?_
  refine cj_seq ?_
  refine cj_regionG (gj_step (y_assign rfl) rfl rfl rfl (gj_nil ?_))
  refine ej_th (cj_seq ?_)
  refine cj_regionG ?_
  refine gj_step (y_move rfl) rfl rfl rfl (gj_step (y_move rfl) rfl rfl rfl (?_))
  refine gj_step (y_call Tryz.call84 rfl (fun w hp => k_IndexFS l A c ns B d b w hp.rd hp.bs hp.rd)) rfl rfl rfl ?_
  refine gj_step (y_geq rfl rfl) rfl rfl rfl (gj_step (y_assign rfl) rfl rfl rfl (?_))
  refine gj_nil ?_
  refine ej_th (cj_ret ?_)
  refine ej_ret1 rfl Tryz.results62 rfl (fun w' hp => ⟨?_, hp.below⟩)
  rw [firstN_all]

end Go.Proofs.YtlfbghkcfmcnlaaGreatDoor
namespace Go.Proofs.YtlfbghkcfmcnlaaGreatDoor
open Go.Sx Go.RowKit
set_option maxRecDepth 20000
theorem el23 : ElemIs Tryz.prog 23 9 1 16 := ⟨⟨_, (.string ⟨#[]⟩), Tryz.underlying23, Tryz.type9, by kernel_rfl, by kernel_rfl, by kernel_rfl, by kernel_rfl, by decide⟩⟩
theorem fa37_0 : FieldIs Tryz.prog 37 0 0 1 false := ⟨⟨_, _, Tryz.underlying37, rfl, rfl, Tryz.sizeOf9, Tryz.isAgg9, by decide⟩⟩
theorem fa37_1 : FieldIs Tryz.prog 37 1 1 1 false := ⟨⟨_, _, Tryz.underlying37, rfl, rfl, Tryz.sizeOf35, Tryz.isAgg35, by decide⟩⟩
theorem fa37_2 : FieldIs Tryz.prog 37 2 2 1 false := ⟨⟨_, _, Tryz.underlying37, rfl, rfl, Tryz.sizeOf23, Tryz.isAgg23, by decide⟩⟩
theorem fa37_3 : FieldIs Tryz.prog 37 3 3 1 false := ⟨⟨_, _, Tryz.underlying37, rfl, rfl, Tryz.sizeOf3, Tryz.isAgg3, by decide⟩⟩
theorem fa39_0 : FieldIs Tryz.prog 39 0 0 1 false := ⟨⟨_, _, Tryz.underlying39, rfl, rfl, Tryz.sizeOf9, Tryz.isAgg9, by decide⟩⟩
theorem fa39_1 : FieldIs Tryz.prog 39 1 1 1 false := ⟨⟨_, _, Tryz.underlying39, rfl, rfl, Tryz.sizeOf23, Tryz.isAgg23, by decide⟩⟩
end Go.Proofs.YtlfbghkcfmcnlaaGreatDoor
namespace Go.Proofs.YtlfbghkcfmcnlaaGreatDoor
open Go.Sx Go.RowKit
set_option maxRecDepth 20000
set_option maxHeartbeats 1000000 in
theorem k_grammarOf (l : List ClassV) (A : Option Addr) (c : Nat) (w : World) (hl : Rd w 4 encCl A l) (hgc : ∀ c ∈ l, GoodC w c) : Calls Tryz.prog 31 #[.slice A l.length c] w (fun e w' => ∃ b, e = .returned (.tuple #[.map (bif gramOk l then some b else none), .int .i64 (gramE l)]) ∧ Grow w w' ∧ (gramOk l = true → (mp ekS evC b (gramM l)).P w' ∧ w.heap.size ≤ b ∧ b < w'.heap.size)) := by
  have hlen := hl.len
  refine enter_pure (args := [.slice A l.length c]) [sl (fun b => b < w.heap.size) 4 encCl A l] Tryz.func31 rfl (by rw [Tryz.ntmps31]; simp) (fun g hg => by simp at hg; subst hg; exact ⟨hl, fun _ h => h⟩) ?_
  refine cj_seq ?_
  refine cj_regionG (gj_step (y_assign rfl) rfl rfl rfl (gj_step (y_assign rfl) rfl rfl rfl (gj_nil ?_)))
  refine ej_th (cj_seq (cj_seq ?_))
  refine cj_regionG ?_
  refine gj_step (y_move rfl) rfl rfl rfl (gj_step (y_lenA Tryz.underlying22 rfl) rfl rfl rfl (?_))
  refine gj_step (y_call Tryz.call45 rfl (fun w hp => k_within1 _ _ _ w)) rfl rfl rfl ?_
  refine gj_step (y_not rfl) rfl rfl rfl (?_)
  refine gj_nil ?_
  refine ej_th ?_
  refine cj_cond rfl (fun h16 => ?_) (fun h16 => ?_)
  · have h16b := h16
    try simp only [sxb] at h16
    refine cj_seq ?_
    refine cj_regionG (gj_step (y_assign rfl) rfl rfl rfl (gj_step (y_assign rfl) rfl rfl rfl (gj_nil ?_)))
    refine ej_th (cj_ret (ej_then_ret ?_))
    have hg : gramOk l = false := by rw [gramOk, not_t h16b]; rfl
    exact ej_ret2 rfl Tryz.results31 rfl rfl (fun w' hp => ⟨0, by rw [gramE, hg]; rfl, hp.below, fun h => by rw [hg] at h; cases h⟩)
  · have h16b := h16
    try simp only [sxb] at h16
    have hwi := not_f h16b
    try simp only [Bool.and_eq_true, decide_eq_true_eq] at h16
    refine cj_skip (ej_th (cj_seq (cj_region ?_)))
    refine oj_makeMap ekS evC rfl (fun b17 => ?_)
    refine oj_step (y_assign rfl) rfl rfl rfl ?_
    refine oj_nil ?_
    refine ej_th (cj_seq (cj_region ?_))
    refine oj_alloc Tryz.zeroValue23 rfl rfl (fun b5 => ?_)
    refine oj_nil ?_
    refine ej_th (cj_seq (cj_seq ?_))
    refine cj_regionG (gj_step (y_move rfl) rfl rfl rfl (gj_step (y_lenA Tryz.underlying22 rfl) rfl rfl rfl (gj_step (y_move rfl) rfl rfl rfl (gj_nil ?_))))
    refine ej_th (cj_block ?_)
    refine cj_ownNil 9 1 enStr ?_
    refine cj_eqO [ow 9 1 enStr none 0 [], ownB b5 (cellsB 23 [.slice none ([] : List ByteArray).length 0]), mp ekS evC b17 (putAll [] (l.take 0))] rfl ?_
    refine cj_lpi (X := Nat × Option Addr × Nat × List ByteArray) [(0, _), (2, _), (3, _), (4, _), (5, _), (18, _), (19, _)] (fun ⟨k, A1, c1, xs⟩ => k ≤ l.length ∧ xs = namesC (l.take k)) (fun ⟨k, A1, c1, xs⟩ => [(20, .int .i64 k)]) (fun ⟨k, A1, c1, xs⟩ => [ow 9 1 enStr A1 c1 xs, ownB b5 (cellsB 23 [.slice A1 xs.length c1]), mp ekS evC b17 (putAll [] (l.take k))]) (fun ⟨k, A1, c1, xs⟩ => [sl (fun b => b < w.heap.size) 4 encCl A l]) (fun ⟨k, A1, c1, xs⟩ => l.length - k) (0, none, 0, []) (⟨Nat.zero_le _, rfl⟩) ⟨rfl, rfl, rfl, rfl, rfl, rfl, rfl, rfl, trivial⟩ ?_
    rintro ⟨k, A1, c1, xs⟩ ⟨hk, hxs⟩
    dsimp only [List.cons_append, List.nil_append]
    refine cj_seq ?_
    refine cj_regionG (gj_step (y_lss rfl rfl) rfl rfl rfl (gj_nil ?_))
    refine ej_th (cj_seq ?_)
    refine cj_cond rfl (fun h21 => ?_) (fun h21 => ?_)
    · have h21b := h21
      try simp only [sxb] at h21
      obtain ⟨x, hx⟩ : ∃ x, l[k]? = some x := ⟨_, List.getElem?_eq_getElem (by omega)⟩
      have htk : l.take (k + 1) = l.take k ++ [x] := by rw [List.take_add_one, hx]; rfl
      have hpk : putL (putAll [] (l.take k)) x.name x = putAll [] (l.take (k + 1)) := by rw [htk, putAll_add]
      have hxl : xs.length = k := by rw [hxs]; simp [namesC]; omega
      refine cj_skip (ej_th (cj_seq (cj_block (cj_seq (cj_region ?_)))))
      refine oj_step (y_ixR (reads_sl) Tryz.underlying22 Tryz.sizeOf37 rfl rfl (⟨by omega, by omega⟩)) rfl rfl rfl ?_
      refine oj_step (y_ldW (reads_sl) Tryz.isAgg37 Tryz.sizeOf37 rfl (hx) (fun _ => rfl)) rfl rfl rfl ?_
      refine oj_alloc Tryz.zeroValue37 rfl rfl (fun b7 => ?_)
      refine oj_store rfl rfl rfl rfl Tryz.sizeOf37 rfl ?_
      refine oj_nil ?_
      refine ej_th (cj_seq (cj_region ?_))
      refine oj_step (y_move rfl) rfl rfl rfl ?_
      refine oj_step (y_fa0 fa37_0 rfl) rfl rfl rfl ?_
      refine oj_step (y_load1 Tryz.isAgg9 rfl rfl) rfl rfl rfl ?_
      refine oj_step (y_loadN Tryz.isAgg37 Tryz.sizeOf37 rfl) rfl rfl rfl ?_
      refine oj_mapUpdate (ek := ekS) (ev := evC) (v := x) Tryz.underlying73 Tryz.underlying9 rfl rfl rfl ?_
      rw [hpk]
      refine oj_nil ?_
      refine ej_th (cj_region ?_)
      refine oj_step (y_load1 Tryz.isAgg23 rfl rfl) rfl rfl rfl ?_
      refine oj_step (y_fa0 fa37_0 rfl) rfl rfl rfl ?_
      refine oj_step (y_load1 Tryz.isAgg9 rfl rfl) rfl rfl rfl ?_
      refine oj_buildSlice (cs := [.string x.name]) [.string ⟨#[]⟩] Tryz.underlying23 Tryz.sizeOf9 Tryz.zeroValue9 rfl rfl (by kernel_rfl) (by kernel_rfl) rfl (fun b31 => ?_)
      refine oj_append  el23 (fun _ => rfl) enStr_one rfl rfl rfl (reads_lit [x.name] (fun _ => rfl) rfl) (by simp [maxLen]; omega) (by simp; omega) rfl (fun A32 c32 => ?_)
      refine oj_store rfl rfl rfl rfl Tryz.sizeOf23 rfl ?_
      refine oj_nil ?_
      refine ej_blk (ej_th ?_)
      refine cj_regionG (gj_step (y_add rfl rfl (by omega)) rfl rfl rfl (gj_step (y_move rfl) rfl rfl rfl (gj_nil ?_)))
      exact ej_nx (k + 1, A32, c32, xs ++ [x.name]) (by simp only; omega) ⟨by first | omega | (simp only; omega), by rw [hxs, htk]; simp [namesC]⟩ ⟨rfl, rfl, rfl, rfl, rfl, rfl, rfl, rfl, trivial⟩
    · have h21b := h21
      try simp only [sxb] at h21
      rw [List.take_of_length_le (by omega)] at hxs
      rw [List.take_of_length_le (by omega)]
      subst hxs
      have hnl : (namesC l).length = l.length := by simp [namesC]
      have hns : smS (namesC l) := by
        intro s hs
        obtain ⟨c, hc, rfl⟩ := List.mem_map.1 hs
        exact (hgc c hc).nm
      refine cj_exit (ej_then_exit (ej_then_exit (ej_blk_hit (ej_th (cj_seq (cj_seq ?_))))))
      refine cj_regionG ?_
      refine gj_step (y_load1 Tryz.isAgg23 rfl rfl) rfl rfl rfl (?_)
      refine gj_step (y_call Tryz.call61 rfl (fun w hp => k_words (namesC l) _ _ w (hp.rdO (fun _ => rfl) (by unfold maxLen; rw [hnl]; omega)) hns)) rfl rfl rfl ?_
      refine gj_step (y_not rfl) rfl rfl rfl (?_)
      refine gj_nil ?_
      refine ej_th ?_
      refine cj_cond rfl (fun h36 => ?_) (fun h36 => ?_)
      · have h36b := h36
        try simp only [sxb] at h36
        refine cj_seq ?_
        refine cj_regionG (gj_step (y_assign rfl) rfl rfl rfl (gj_step (y_assign rfl) rfl rfl rfl (gj_nil ?_)))
        refine ej_th (cj_ret (ej_then_ret ?_))
        have hg : gramOk l = false := by rw [gramOk, not_t h36b]; simp
        exact ej_ret2 rfl Tryz.results31 rfl rfl (fun w' hp => ⟨0, by rw [gramE, hg]; rfl, hp.below, fun h => by rw [hg] at h; cases h⟩)
      · have h36b := h36
        try simp only [sxb] at h36
        refine cj_skip (ej_th (cj_seq (cj_seq ?_)))
        refine cj_regionG (gj_step (y_move rfl) rfl rfl rfl (gj_step (y_lenA Tryz.underlying22 rfl) rfl rfl rfl (gj_step (y_move rfl) rfl rfl rfl (gj_nil ?_))))
        refine ej_th (cj_block ?_)
        refine cj_lpic (X := Nat) [(4, _), (5, _), (37, _), (38, _)] (fun k => k ≤ l.length ∧ (l.drop k).all (classOk (namesC l)) = l.all (classOk (namesC l))) (fun k => [(39, .int .i64 k)]) (fun k => l.length - k) 0 (⟨Nat.zero_le _, rfl⟩) ⟨rfl, rfl, rfl, rfl, rfl, trivial⟩ ?_
        rintro k ⟨hk, hal⟩
        dsimp only [List.cons_append, List.nil_append]
        refine cj_seq ?_
        refine cj_regionG (gj_step (y_lss rfl rfl) rfl rfl rfl (gj_nil ?_))
        refine ej_th (cj_seq ?_)
        refine cj_cond rfl (fun h40 => ?_) (fun h40 => ?_)
        · have h40b := h40
          try simp only [sxb] at h40
          obtain ⟨x, hx⟩ : ∃ x, l[k]? = some x := ⟨_, List.getElem?_eq_getElem (by omega)⟩
          rw [all_drop _ l k x hx] at hal
          have hgx := hgc x (List.mem_of_getElem? hx)
          have hl1 := hgx.rt.len
          have hl2 := hgx.rp.len
          refine cj_rd hgx.rp (fun _ h => h) ?_
          refine cj_rd hgx.rt (fun _ h => h) ?_
          refine cj_skip (ej_th (cj_seq (cj_block (cj_seq (cj_region ?_)))))
          refine oj_step (y_ixR (reads_sl) Tryz.underlying22 Tryz.sizeOf37 rfl rfl (⟨by omega, by omega⟩)) rfl rfl rfl ?_
          refine oj_step (y_ldW (reads_sl) Tryz.isAgg37 Tryz.sizeOf37 rfl (hx) (fun _ => rfl)) rfl rfl rfl ?_
          refine oj_alloc Tryz.zeroValue37 rfl rfl (fun b9 => ?_)
          refine oj_store rfl rfl rfl rfl Tryz.sizeOf37 rfl ?_
          refine oj_nil ?_
          refine ej_th (cj_seq (cj_seq ?_))
          refine cj_regionG ?_
          refine gj_step (y_fa fa37_1 rfl) rfl rfl rfl (gj_step (y_load1 Tryz.isAgg35 rfl rfl) rfl rfl rfl (gj_step (y_lenA Tryz.underlying35 rfl) rfl rfl rfl (gj_step (y_gtr rfl rfl) rfl rfl rfl (gj_step (y_move rfl) rfl rfl rfl (?_)))))
          refine gj_g 4 47 51 rfl rfl rfl rfl (fun hg47 => gj_yes rfl rfl rfl (y_fa fa37_3 rfl) rfl rfl (gj_yes rfl rfl rfl (y_load1 Tryz.isAgg3 rfl rfl) rfl rfl (gj_yes rfl rfl rfl (y_call Tryz.call45 rfl (fun w hp => k_within1 _ _ _ w)) rfl rfl (gj_yes rfl rfl rfl (y_not rfl) rfl rfl (gj_nil rfl))))) ?_
          refine gj_step (y_or rfl rfl rfl) rfl rfl rfl (gj_step (y_move rfl) rfl rfl rfl (?_))
          refine gj_g 9 53 62 rfl rfl rfl rfl (fun hg53 => gj_yes rfl rfl rfl (y_fa fa37_2 rfl) rfl rfl (gj_yes rfl rfl rfl (y_load1 Tryz.isAgg23 rfl rfl) rfl rfl (gj_yes rfl rfl rfl (y_lenA Tryz.underlying23 rfl) rfl rfl (gj_yes rfl rfl rfl (y_eql rfl rfl) rfl rfl (gj_yes rfl rfl rfl (y_move rfl) rfl rfl (gj_g 3 58 61 rfl rfl rfl rfl (fun hg58 => gj_yes rfl rfl rfl (y_fa fa37_3 rfl) rfl rfl (gj_yes rfl rfl rfl (y_load1 Tryz.isAgg3 rfl rfl) rfl rfl (gj_yes rfl rfl rfl (y_neq rfl rfl) rfl rfl (gj_nil rfl)))) (gj_yes rfl rfl rfl (y_and rfl rfl rfl) rfl rfl (gj_nil rfl)))))))) ?_
          refine gj_step (y_or rfl rfl rfl) rfl rfl rfl (gj_step (y_move rfl) rfl rfl rfl (?_))
          refine gj_g 4 64 68 rfl rfl rfl rfl (fun hg64 => gj_yes rfl rfl rfl (y_fa fa37_2 rfl) rfl rfl (gj_yes rfl rfl rfl (y_load1 Tryz.isAgg23 rfl rfl) rfl rfl (gj_yes rfl rfl rfl (y_call Tryz.call61 rfl (fun w hp => k_words x.parts _ _ w hp.rd hgx.sm)) rfl rfl (gj_yes rfl rfl rfl (y_not rfl) rfl rfl (gj_nil rfl))))) ?_
          refine gj_step (y_or rfl rfl rfl) rfl rfl rfl (?_)
          refine gj_nil ?_
          refine ej_th ?_
          refine cj_cond rfl (fun h69 => ?_) (fun h69 => ?_)
          · have h69b := h69
            try simp only [sxb] at h69
            have hc1 : class1 x = false := by unfold class1; rw [h69b]; rfl
            refine cj_seq ?_
            refine cj_regionG (gj_step (y_assign rfl) rfl rfl rfl (gj_step (y_assign rfl) rfl rfl rfl (gj_nil ?_)))
            refine ej_th (cj_ret (ej_then_ret (ej_blk_ret (ej_then_ret (ej_then_ret (ej_blk_ret (ej_then_ret ?_)))))))
            have hg : gramOk l = false := by rw [gramOk, ← hal, classOk, hc1]; simp
            exact ej_ret2 rfl Tryz.results31 rfl rfl (fun w' hp => ⟨0, by rw [gramE, hg]; rfl, hp.below, fun h => by rw [hg] at h; cases h⟩)
          · have h69b := h69
            try simp only [sxb] at h69
            have hc1 : class1 x = true := by unfold class1; rw [h69b]; rfl
            have ht8 := class1_tr hc1
            refine cj_skip (ej_th (cj_seq (cj_seq ?_)))
            refine cj_regionG ?_
            refine gj_step (y_fa fa37_2 rfl) rfl rfl rfl (gj_step (y_load1 Tryz.isAgg23 rfl rfl) rfl rfl rfl (gj_step (y_makeFunc rfl rfl) rfl rfl rfl (?_)))
            refine gj_step (y_call Tryz.call62 rfl (fun w hp => k_ContainsFS x.parts _ _ (namesC l) A1 c1 b5 w hp.rd hp.bo (hp.rdO (fun _ => rfl) (by unfold maxLen; rw [hnl]; omega)))) rfl rfl rfl ?_
            refine gj_nil ?_
            refine ej_th ?_
            refine cj_cond rfl (fun h73 => ?_) (fun h73 => ?_)
            · have h73b := h73
              try simp only [sxb] at h73
              have hpa := not_t h73b
              refine cj_seq ?_
              refine cj_regionG (gj_step (y_assign rfl) rfl rfl rfl (gj_step (y_assign rfl) rfl rfl rfl (gj_nil ?_)))
              refine ej_th (cj_ret (ej_then_ret (ej_blk_ret (ej_then_ret (ej_then_ret (ej_blk_ret (ej_then_ret ?_)))))))
              have hg : gramOk l = false := by rw [gramOk, ← hal, classOk, hpa]; simp
              exact ej_ret2 rfl Tryz.results31 rfl rfl (fun w' hp => ⟨0, by rw [gramE, hg]; rfl, hp.below, fun h => by rw [hg] at h; cases h⟩)
            · have h73b := h73
              try simp only [sxb] at h73
              have hpa := not_f h73b
              refine cj_skip (ej_th (cj_seq ?_))
              refine cj_regionG (gj_step (y_assign rfl) rfl rfl rfl (gj_nil ?_))
              refine ej_th (cj_seq (cj_seq ?_))
              refine cj_regionG (gj_step (y_fa fa37_1 rfl) rfl rfl rfl (gj_step (y_load1 Tryz.isAgg35 rfl rfl) rfl rfl rfl (gj_step (y_lenA Tryz.underlying35 rfl) rfl rfl rfl (gj_step (y_move rfl) rfl rfl rfl (gj_nil ?_)))))
              refine ej_th (cj_block ?_)
              refine cj_ownNil 9 1 enStr ?_
              refine cj_lpi (X := Nat × Option Addr × Nat × List ByteArray) [(39, _), (4, _), (5, _), (37, _), (38, _), (75, _), (76, _)] (fun ⟨j, A2, c2, ys⟩ => j ≤ x.traits.length ∧ ys = (x.traits.take j).map (·.name) ∧ (x.traits.drop j).all traitOk = x.traits.all traitOk) (fun ⟨j, A2, c2, ys⟩ => [(10, .slice A2 ys.length c2), (77, .int .i64 j)]) (fun ⟨j, A2, c2, ys⟩ => [ow 9 1 enStr A2 c2 ys, ow 9 1 enStr A1 c1 (namesC l), ownB b5 (cellsB 23 [.slice A1 (namesC l).length c1]), mp ekS evC b17 (putAll [] l)]) (fun ⟨j, A2, c2, ys⟩ => [sl (fun b => b < w.heap.size) 3 encTr x.At x.traits, sl (fun b => b < w.heap.size) 1 enStr x.Ap x.parts, sl (fun b => b < w.heap.size) 4 encCl A l]) (fun ⟨j, A2, c2, ys⟩ => x.traits.length - j) (0, none, 0, []) (⟨Nat.zero_le _, rfl, rfl⟩) ⟨rfl, rfl, rfl, rfl, rfl, rfl, rfl, rfl, rfl, trivial⟩ ?_
              rintro ⟨j, A2, c2, ys⟩ ⟨hj, hys, htl⟩
              dsimp only [List.cons_append, List.nil_append]
              refine cj_seq ?_
              refine cj_regionG (gj_step (y_lss rfl rfl) rfl rfl rfl (gj_nil ?_))
              refine ej_th (cj_seq ?_)
              refine cj_cond rfl (fun h78 => ?_) (fun h78 => ?_)
              · have h78b := h78
                try simp only [sxb] at h78
                obtain ⟨t, hy⟩ : ∃ t, x.traits[j]? = some t := ⟨_, List.getElem?_eq_getElem (by omega)⟩
                rw [all_drop _ x.traits j t hy] at htl
                have htk2 : x.traits.take (j + 1) = x.traits.take j ++ [t] := by rw [List.take_add_one, hy]; rfl
                have hyl : ys.length = j := by rw [hys]; simp; omega
                have hgt := hgx.tr t (List.mem_of_getElem? hy)
                have hl3 := hgt.rd.len
                refine cj_rd hgt.rd (fun _ h => h) ?_
                refine cj_skip (ej_th (cj_seq (cj_block (cj_seq (cj_region ?_)))))
                refine oj_step (y_ixR (reads_sl) Tryz.underlying35 Tryz.sizeOf39 rfl rfl (⟨by omega, by omega⟩)) rfl rfl rfl ?_
                refine oj_step (y_ldW (reads_sl) Tryz.isAgg39 Tryz.sizeOf39 rfl (hy) (fun _ => rfl)) rfl rfl rfl ?_
                refine oj_alloc Tryz.zeroValue39 rfl rfl (fun b12 => ?_)
                refine oj_store rfl rfl rfl rfl Tryz.sizeOf39 rfl ?_
                refine oj_nil ?_
                refine ej_th (cj_seq (cj_region ?_))
                refine oj_step (y_move rfl) rfl rfl rfl ?_
                refine oj_step (y_fa0 fa39_0 rfl) rfl rfl rfl ?_
                refine oj_step (y_load1 Tryz.isAgg9 rfl rfl) rfl rfl rfl ?_
                refine oj_buildSlice (cs := [.string t.name]) [.string ⟨#[]⟩] Tryz.underlying23 Tryz.sizeOf9 Tryz.zeroValue9 rfl rfl (by kernel_rfl) (by kernel_rfl) rfl (fun b84 => ?_)
                refine oj_append  el23 (fun _ => rfl) enStr_one rfl rfl rfl (reads_lit [t.name] (fun _ => rfl) rfl) (by simp [maxLen]; omega) (by simp; omega) rfl (fun A85 c85 => ?_)
                refine oj_step (y_assign rfl) rfl rfl rfl ?_
                refine oj_nil ?_
                refine ej_th (cj_seq ?_)
                refine cj_regionG ?_
                refine gj_step (y_fa fa39_1 rfl) rfl rfl rfl (gj_step (y_load1 Tryz.isAgg23 rfl rfl) rfl rfl rfl (gj_step (y_lenA Tryz.underlying23 rfl) rfl rfl rfl (?_)))
                refine gj_step (y_call Tryz.call45 rfl (fun w hp => k_within1 _ _ _ w)) rfl rfl rfl ?_
                refine gj_step (y_not rfl) rfl rfl rfl (gj_step (y_move rfl) rfl rfl rfl (?_))
                refine gj_g 4 91 95 rfl rfl rfl rfl (fun hg91 => gj_yes rfl rfl rfl (y_fa fa39_1 rfl) rfl rfl (gj_yes rfl rfl rfl (y_load1 Tryz.isAgg23 rfl rfl) rfl rfl (gj_yes rfl rfl rfl (y_call Tryz.call61 rfl (fun w hp => k_words t.vals _ _ w hp.rd (hgx.tr t (List.mem_of_getElem? hy)).sm)) rfl rfl (gj_yes rfl rfl rfl (y_not rfl) rfl rfl (gj_nil rfl))))) ?_
                refine gj_step (y_or rfl rfl rfl) rfl rfl rfl (?_)
                refine gj_nil ?_
                refine ej_th ?_
                refine cj_cond rfl (fun h96 => ?_) (fun h96 => ?_)
                · have h96b := h96
                  try simp only [sxb] at h96
                  have hto : traitOk t = false := by unfold traitOk; rw [h96b]; rfl
                  refine cj_seq ?_
                  refine cj_regionG (gj_step (y_assign rfl) rfl rfl rfl (gj_step (y_assign rfl) rfl rfl rfl (gj_nil ?_)))
                  refine ej_th (cj_ret (ej_blk_ret (ej_then_ret (ej_then_ret (ej_blk_ret (ej_then_ret (ej_blk_ret (ej_then_ret (ej_then_ret (ej_blk_ret (ej_then_ret ?_)))))))))))
                  have hg : gramOk l = false := by rw [gramOk, ← hal, classOk, ← htl, hto]; simp
                  exact ej_ret2 rfl Tryz.results31 rfl rfl (fun w' hp => ⟨0, by rw [gramE, hg]; rfl, hp.below, fun h => by rw [hg] at h; cases h⟩)
                · have h96b := h96
                  try simp only [sxb] at h96
                  have hto : traitOk t = true := by unfold traitOk; rw [h96b]; rfl
                  refine cj_skip (ej_blk (ej_th ?_))
                  refine cj_regionG (gj_step (y_add rfl rfl (by omega)) rfl rfl rfl (gj_step (y_move rfl) rfl rfl rfl (gj_nil ?_)))
                  exact ej_nx (j + 1, A85, c85, ys ++ [t.name]) (by simp only; omega) ⟨by first | omega | (simp only; omega), by rw [hys, htk2]; simp, by rw [← htl, hto, Bool.true_and]⟩ ⟨rfl, rfl, rfl, rfl, rfl, rfl, rfl, rfl, rfl, trivial⟩
              · have h78b := h78
                try simp only [sxb] at h78
                rw [List.take_of_length_le (by omega)] at hys
                rw [List.drop_of_length_le (by omega)] at htl
                have hts : smS ys := by
                  rw [hys]
                  intro s hs
                  obtain ⟨t, ht, rfl⟩ := List.mem_map.1 hs
                  exact (hgx.tr t ht).nm
                have hml : ys.length ≤ maxLen := by rw [hys]; unfold maxLen; simp only [List.length_map]; omega
                refine cj_exit (ej_then_exit (ej_then_exit (ej_blk_hit (ej_th (cj_seq ?_)))))
                refine cj_regionG ?_
                refine gj_step (y_move rfl) rfl rfl rfl (?_)
                refine gj_step (y_call Tryz.call61 rfl (fun w hp => k_words ys A2 c2 w (hp.rdO (A := A2) (fun _ => rfl) hml) hts)) rfl rfl rfl ?_
                refine gj_step (y_not rfl) rfl rfl rfl (?_)
                refine gj_nil ?_
                refine ej_th ?_
                refine cj_cond rfl (fun h100 => ?_) (fun h100 => ?_)
                · have h100b := h100
                  try simp only [sxb] at h100
                  refine cj_seq ?_
                  refine cj_regionG (gj_step (y_assign rfl) rfl rfl rfl (gj_step (y_assign rfl) rfl rfl rfl (gj_nil ?_)))
                  refine ej_th (cj_ret (ej_blk_ret (ej_then_ret (ej_then_ret (ej_blk_ret (ej_then_ret ?_))))))
                  have hg : gramOk l = false := by rw [gramOk, ← hal, classOk, ← hys, not_t h100b]; simp
                  exact ej_ret2 rfl Tryz.results31 rfl rfl (fun w' hp => ⟨0, by rw [gramE, hg]; rfl, hp.below, fun h => by rw [hg] at h; cases h⟩)
                · have h100b := h100
                  try simp only [sxb] at h100
                  have hco : classOk (namesC l) x = true := by rw [classOk, hc1, hpa, ← htl, ← hys, not_f h100b]; rfl
                  refine cj_skip (ej_blk (ej_th ?_))
                  refine cj_regionG (gj_step (y_add rfl rfl (by omega)) rfl rfl rfl (gj_step (y_move rfl) rfl rfl rfl (gj_nil ?_)))
                  exact ej_nx (k + 1) (by omega) ⟨by omega, by rw [← hal, hco, Bool.true_and]⟩ ⟨rfl, rfl, rfl, rfl, rfl, trivial⟩
        · have h40b := h40
          try simp only [sxb] at h40
          refine cj_exit (ej_then_exit (ej_then_exit (ej_blk_hit (ej_th (cj_seq ?_)))))
          refine cj_regionG (gj_step (y_move rfl) rfl rfl rfl (gj_step (y_assign rfl) rfl rfl rfl (gj_step (y_assign rfl) rfl rfl rfl (gj_nil ?_))))
          refine ej_th (cj_ret ?_)
          have hg : gramOk l = true := by rw [gramOk, hwi, not_f h36b, ← hal, List.drop_of_length_le (by omega)]; rfl
          exact ej_ret2 rfl Tryz.results31 rfl rfl (fun w' hp => ⟨b17, by rw [gramE, hg]; rfl, hp.below, fun _ => hp.newM⟩)

end Go.Proofs.YtlfbghkcfmcnlaaGreatDoor
namespace Go.Proofs.YtlfbghkcfmcnlaaGreatDoor
open Go.Sx Go.RowKit
set_option maxRecDepth 20000
theorem fa26_0 : FieldIs Tryz.prog 26 0 0 1 false := ⟨⟨_, _, Tryz.underlying26, rfl, rfl, Tryz.sizeOf9, Tryz.isAgg9, by decide⟩⟩
theorem fa26_1 : FieldIs Tryz.prog 26 1 1 1 false := ⟨⟨_, _, Tryz.underlying26, rfl, rfl, Tryz.sizeOf23, Tryz.isAgg23, by decide⟩⟩
theorem fa26_2 : FieldIs Tryz.prog 26 2 2 1 false := ⟨⟨_, _, Tryz.underlying26, rfl, rfl, Tryz.sizeOf24, Tryz.isAgg24, by decide⟩⟩
theorem fa39_2 : FieldIs Tryz.prog 39 2 2 1 false := ⟨⟨_, _, Tryz.underlying39, rfl, rfl, Tryz.sizeOf4, Tryz.isAgg4, by decide⟩⟩
end Go.Proofs.YtlfbghkcfmcnlaaGreatDoor
namespace Go.Proofs.YtlfbghkcfmcnlaaGreatDoor
open Go.Sx Go.RowKit
set_option maxRecDepth 20000
set_option maxHeartbeats 4000000 in
theorem k_fits (x : ItemV) (b : Nat) (g : List (ByteArray × ClassV)) (deep most : Int) (w : World) (hM : (mp ekS evC b g).P w) (hbl : b < w.heap.size) (hgg : ∀ p ∈ g, GoodC w p.2) (hx : GoodI w x) (hd : 1 ≤ deep ∧ deep ≤ 4) (hmo : 0 ≤ most ∧ most ≤ 24) (ih : ∀ p ∈ x.parts, ∀ (w1 : World) (dp mo : Int), Grow w w1 → 1 ≤ dp ∧ dp ≤ 4 → 0 ≤ mo ∧ mo ≤ 24 → Calls Tryz.prog 34 #[.map (some b), evI p, .int .i64 dp, .int .i64 mo] w1 (fun e w' => e = .returned (.tuple #[.int .i64 ((fitsI g p dp mo).getD 0), .bool (fitsI g p dp mo).isSome]) ∧ Grow w1 w')) : Calls Tryz.prog 34 #[.map (some b), evI x, .int .i64 deep, .int .i64 most] w (fun e w' => e = .returned (.tuple #[.int .i64 ((fitsI g x deep most).getD 0), .bool (fitsI g x deep most).isSome]) ∧ Grow w w') := by
  have hl1 := hx.rs.len
  have hl2 := hx.rp.len
  refine enter_pure (args := [.map (some b), evI x, .int .i64 deep, .int .i64 most]) [mp ekS evC b g] Tryz.func34 rfl (by rw [Tryz.ntmps34]; simp) (fun f hf => by simp at hf; subst hf; exact ⟨hM, fun i hi => by have : i = b := hi; subst this; exact hbl⟩) ?_
  refine cj_seq (cj_region ?_)
  refine oj_box rfl rfl rfl (fun b5 => ?_)
  refine oj_step (y_assign rfl) rfl rfl rfl ?_
  refine oj_step (y_assign rfl) rfl rfl rfl ?_
  refine oj_nil ?_
  refine ej_th (cj_seq (cj_region ?_))
  refine oj_step (y_move rfl) rfl rfl rfl ?_
  refine oj_step (y_fa0 fa26_0 rfl) rfl rfl rfl ?_
  refine oj_step (y_load1 Tryz.isAgg9 rfl rfl) rfl rfl rfl ?_
  refine oj_step (y_lookupS (ek := ekS) (ev := evC) zC Tryz.underlying73 Tryz.underlying9 Tryz.zeroValue37 rfl rfl) rfl rfl rfl ?_
  refine oj_step (y_move rfl) rfl rfl rfl ?_
  refine oj_step (y_extract rfl rfl) rfl rfl rfl ?_
  refine oj_step (y_extract rfl rfl) rfl rfl rfl ?_
  refine oj_alloc Tryz.zeroValue37 rfl rfl (fun b10 => ?_)
  refine oj_store rfl rfl rfl rfl Tryz.sizeOf37 rfl ?_
  refine oj_step (y_assign rfl) rfl rfl rfl ?_
  refine oj_nil ?_
  refine ej_th (cj_seq (cj_seq ?_))
  refine cj_regionG (gj_step (y_move rfl) rfl rfl rfl (gj_step (y_not rfl) rfl rfl rfl (gj_step (y_move rfl) rfl rfl rfl (gj_g 2 28 30 rfl rfl rfl rfl (fun hg28 => gj_yes rfl rfl rfl (y_move rfl) rfl rfl (gj_yes rfl rfl rfl (y_gtr rfl rfl) rfl rfl (gj_nil rfl))) (gj_step (y_or rfl rfl rfl) rfl rfl rfl (gj_step (y_move rfl) rfl rfl rfl (gj_g 2 32 34 rfl rfl rfl rfl (fun hg32 => gj_yes rfl rfl rfl (y_move rfl) rfl rfl (gj_yes rfl rfl rfl (y_lss rfl rfl) rfl rfl (gj_nil rfl))) (gj_step (y_or rfl rfl rfl) rfl rfl rfl (gj_step (y_move rfl) rfl rfl rfl (gj_g 7 36 43 rfl rfl rfl rfl (fun hg36 => gj_yes rfl rfl rfl (y_fa fa26_1 rfl) rfl rfl (gj_yes rfl rfl rfl (y_load1 Tryz.isAgg23 rfl rfl) rfl rfl (gj_yes rfl rfl rfl (y_lenA Tryz.underlying23 rfl) rfl rfl (gj_yes rfl rfl rfl (y_fa fa37_1 rfl) rfl rfl (gj_yes rfl rfl rfl (y_load1 Tryz.isAgg35 rfl rfl) rfl rfl (gj_yes rfl rfl rfl (y_lenA Tryz.underlying35 rfl) rfl rfl (gj_yes rfl rfl rfl (y_neq rfl rfl) rfl rfl (gj_nil rfl)))))))) (gj_step (y_or rfl rfl rfl) rfl rfl rfl (gj_step (y_move rfl) rfl rfl rfl (gj_g 6 45 51 rfl rfl rfl rfl (fun hg45 => gj_yes rfl rfl rfl (y_fa fa26_2 rfl) rfl rfl (gj_yes rfl rfl rfl (y_load1 Tryz.isAgg24 rfl rfl) rfl rfl (gj_yes rfl rfl rfl (y_lenA Tryz.underlying24 rfl) rfl rfl (gj_yes rfl rfl rfl (y_fa fa37_3 rfl) rfl rfl (gj_yes rfl rfl rfl (y_load1 Tryz.isAgg3 rfl rfl) rfl rfl (gj_yes rfl rfl rfl (y_gtr rfl rfl) rfl rfl (gj_nil rfl))))))) (gj_step (y_or rfl rfl rfl) rfl rfl rfl (gj_nil ?_)))))))))))))))
  refine ej_th ?_
  refine cj_cond rfl (fun h52 => ?_) (fun h52 => ?_)
  · have h52b := h52
    try simp only [sxb] at h52
    refine cj_seq ?_
    refine cj_regionG (gj_step (y_assign rfl) rfl rfl rfl (gj_step (y_assign rfl) rfl rfl rfl (gj_nil ?_)))
    refine ej_th (cj_ret (ej_then_ret ?_))
    have hf : fitsI g x deep most = none := by exact fitsI_none h52b
    exact ej_ret2 rfl Tryz.results34 rfl rfl (fun w' hp => ⟨by rw [hf]; rfl, hp.below⟩)
  · have h52b := h52
    try simp only [sxb] at h52
    obtain ⟨c, hc, hd3, hm1, hsl, hfi⟩ := fitsI_some h52b
    rw [hc]
    dsimp only [Option.getD_some]
    obtain ⟨pc, hpc, hpe⟩ := getL_mem hc
    have hgc := hgg pc hpc
    rw [hpe] at hgc
    have hl3 := hgc.rt.len
    have hl4 := hgc.rp.len
    refine cj_rd hx.rs (fun _ h => h) ?_
    refine cj_rd hx.rp (fun _ h => h) ?_
    refine cj_rd hgc.rt (fun _ h => h) ?_
    refine cj_rd hgc.rp (fun _ h => h) ?_
    refine cj_skip (ej_th (cj_seq (cj_seq ?_)))
    refine cj_regionG (gj_step (y_fa fa37_1 rfl) rfl rfl rfl (gj_step (y_load1 Tryz.isAgg35 rfl rfl) rfl rfl rfl (gj_step (y_lenA Tryz.underlying35 rfl) rfl rfl rfl (gj_step (y_move rfl) rfl rfl rfl (gj_nil ?_)))))
    refine ej_th (cj_block ?_)
    refine cj_lpic (X := Nat) [(0, _), (2, _), (3, _), (5, _), (10, _), (54, _), (55, _)] (fun k => k ≤ c.traits.length ∧ saysOk (c.traits.drop k) (x.says.drop k) = saysOk c.traits x.says) (fun k => [(56, .int .i64 k)]) (fun k => c.traits.length - k) 0 (⟨Nat.zero_le _, rfl⟩) ⟨rfl, rfl, rfl, rfl, rfl, rfl, rfl, rfl, trivial⟩ ?_
    rintro k ⟨hk, hso⟩
    dsimp only [List.cons_append, List.nil_append]
    refine cj_seq ?_
    refine cj_regionG (gj_step (y_lss rfl rfl) rfl rfl rfl (gj_nil ?_))
    refine ej_th (cj_seq ?_)
    refine cj_cond rfl (fun h57 => ?_) (fun h57 => ?_)
    · have h57b := h57
      try simp only [sxb] at h57
      obtain ⟨t, ht⟩ : ∃ t, c.traits[k]? = some t := ⟨_, List.getElem?_eq_getElem (by omega)⟩
      obtain ⟨s, hs⟩ : ∃ s, x.says[k]? = some s := ⟨_, List.getElem?_eq_getElem (by omega)⟩
      rw [saysOk_drop _ _ k t s ht hs] at hso
      have hgt := hgc.tr t (List.mem_of_getElem? ht)
      have hl5 := hgt.rd.len
      refine cj_rd hgt.rd (fun _ h => h) ?_
      refine cj_skip (ej_th (cj_seq (cj_block (cj_seq (cj_region ?_)))))
      refine oj_step (y_move rfl) rfl rfl rfl ?_
      refine oj_step (y_ixR (reads_sl) Tryz.underlying35 Tryz.sizeOf39 rfl rfl (⟨by omega, by omega⟩)) rfl rfl rfl ?_
      refine oj_step (y_ldW (reads_sl) Tryz.isAgg39 Tryz.sizeOf39 rfl (ht) (fun _ => rfl)) rfl rfl rfl ?_
      refine oj_alloc Tryz.zeroValue39 rfl rfl (fun b13 => ?_)
      refine oj_step (y_assign rfl) rfl rfl rfl ?_
      refine oj_store rfl rfl rfl rfl Tryz.sizeOf39 rfl ?_
      refine oj_nil ?_
      refine ej_th (cj_seq ?_)
      refine cj_draw (by kernel_rfl) (by kernel_rfl) ?_
      refine gj_step (y_fa fa26_1 rfl) rfl rfl rfl (gj_step (y_load1 Tryz.isAgg23 rfl rfl) rfl rfl rfl (gj_step (y_move rfl) rfl rfl rfl (gj_step (y_ixR (reads_sl) Tryz.underlying23 Tryz.sizeOf9 rfl rfl (⟨by omega, by omega⟩)) rfl rfl rfl (gj_step (y_ld0 (reads_sl) Tryz.isAgg9 rfl (hs) rfl) rfl rfl rfl (gj_step (y_eqlS rfl rfl) rfl rfl rfl (gj_step (y_move rfl) rfl rfl rfl (?_)))))))
      refine gj_g 2 67 69 rfl rfl rfl rfl (fun hg67 => gj_yes rfl rfl rfl (y_fa fa39_2 rfl) rfl rfl (gj_yes rfl rfl rfl (y_load1 Tryz.isAgg4 rfl rfl) rfl rfl (gj_nil rfl))) ?_
      refine gj_step (y_and rfl rfl rfl) rfl rfl rfl (gj_step (y_move rfl) rfl rfl rfl (?_))
      refine gj_g 17 71 88 rfl rfl rfl rfl (fun hg71 => gj_yes rfl rfl rfl (y_fa fa26_1 rfl) rfl rfl (gj_yes rfl rfl rfl (y_load1 Tryz.isAgg23 rfl rfl) rfl rfl (gj_yes rfl rfl rfl (y_move rfl) rfl rfl (gj_yes rfl rfl rfl (y_ixR (reads_sl) Tryz.underlying23 Tryz.sizeOf9 rfl rfl (⟨by omega, by omega⟩)) rfl rfl (gj_yes rfl rfl rfl (y_ld0 (reads_sl) Tryz.isAgg9 rfl (hs) rfl) rfl rfl (gj_yes rfl rfl rfl (y_neqS rfl rfl) rfl rfl (gj_yes rfl rfl rfl (y_move rfl) rfl rfl (gj_g 9 78 87 rfl rfl rfl rfl (fun hg78 => gj_yes rfl rfl rfl (y_fa fa39_1 rfl) rfl rfl (gj_yes rfl rfl rfl (y_load1 Tryz.isAgg23 rfl rfl) rfl rfl (gj_yes rfl rfl rfl (y_fa fa26_1 rfl) rfl rfl (gj_yes rfl rfl rfl (y_load1 Tryz.isAgg23 rfl rfl) rfl rfl (gj_yes rfl rfl rfl (y_move rfl) rfl rfl (gj_yes rfl rfl rfl (y_ixR (reads_sl) Tryz.underlying23 Tryz.sizeOf9 rfl rfl (⟨by omega, by omega⟩)) rfl rfl (gj_yes rfl rfl rfl (y_ld0 (reads_sl) Tryz.isAgg9 rfl (hs) rfl) rfl rfl (gj_yes rfl rfl rfl (y_call Tryz.call64 rfl (fun w hp => k_ContainsS t.vals _ _ s w hp.rd)) rfl rfl (gj_yes rfl rfl rfl (y_not rfl) rfl rfl (gj_nil rfl)))))))))) (gj_yes rfl rfl rfl (y_and rfl rfl rfl) rfl rfl (gj_nil rfl)))))))))) ?_
      refine gj_step (y_or rfl rfl rfl) rfl rfl rfl (?_)
      refine gj_nil ?_
      refine ej_th ?_
      refine cj_cond rfl (fun h89 => ?_) (fun h89 => ?_)
      · have h89b := h89
        try simp only [sxb] at h89
        have hon : saysOne t s = false := congrArg Bool.not h89b
        refine cj_seq ?_
        refine cj_regionG (gj_step (y_assign rfl) rfl rfl rfl (gj_step (y_assign rfl) rfl rfl rfl (gj_nil ?_)))
        refine ej_th (cj_ret (ej_blk_ret (ej_then_ret (ej_then_ret (ej_blk_ret (ej_then_ret ?_))))))
        have hf : fitsI g x deep most = none := by rw [hfi, ← hso, hon]; rfl
        exact ej_ret2 rfl Tryz.results34 rfl rfl (fun w' hp => ⟨by rw [hf]; rfl, hp.below⟩)
      · have h89b := h89
        try simp only [sxb] at h89
        have hon : saysOne t s = true := congrArg Bool.not h89b
        refine cj_skip (ej_blk (ej_th ?_))
        refine cj_regionG (gj_step (y_add rfl rfl (by omega)) rfl rfl rfl (gj_step (y_move rfl) rfl rfl rfl (gj_nil ?_)))
        exact ej_nx (k + 1) (by omega) ⟨by omega, by rw [← hso, hon, Bool.true_and]⟩ ⟨rfl, rfl, rfl, rfl, rfl, rfl, rfl, rfl, trivial⟩
    · have h57b := h57
      try simp only [sxb] at h57
      have hsk : saysOk c.traits x.says = true := by rw [← hso, List.drop_of_length_le (by omega)]; rfl
      rw [if_pos hsk] at hfi
      refine cj_exit (ej_then_exit (ej_then_exit (ej_blk_hit (ej_th (cj_seq ?_)))))
      refine cj_regionG (gj_step (y_assign rfl) rfl rfl rfl (gj_nil ?_))
      refine ej_th (cj_seq (cj_seq ?_))
      refine cj_regionG (gj_step (y_fa fa26_2 rfl) rfl rfl rfl (gj_step (y_load1 Tryz.isAgg24 rfl rfl) rfl rfl rfl (gj_step (y_lenA Tryz.underlying24 rfl) rfl rfl rfl (gj_step (y_move rfl) rfl rfl rfl (gj_nil ?_)))))
      refine ej_th (cj_block ?_)
      refine cj_lpic (X := Nat × Int) [(0, _), (2, _), (3, _), (10, _), (92, _), (93, _)] (fun ⟨k, many⟩ => k ≤ x.parts.length ∧ (1 ≤ many ∧ many ≤ most) ∧ fitsL g c.parts (x.parts.drop k) deep most many = fitsL g c.parts x.parts deep most 1) (fun ⟨k, many⟩ => [(14, .int .i64 many), (94, .int .i64 k)]) (fun ⟨k, many⟩ => x.parts.length - k) (0, 1) (⟨Nat.zero_le _, ⟨Int.le_refl _, hm1⟩, rfl⟩) ⟨rfl, rfl, rfl, rfl, rfl, rfl, rfl, rfl, trivial⟩ ?_
      rintro ⟨k, many⟩ ⟨hk, hmn, hfl⟩
      dsimp only [List.cons_append, List.nil_append]
      refine cj_seq ?_
      refine cj_regionG (gj_step (y_lss rfl rfl) rfl rfl rfl (gj_nil ?_))
      refine ej_th (cj_seq ?_)
      refine cj_cond rfl (fun h95 => ?_) (fun h95 => ?_)
      · have h95b := h95
        try simp only [sxb] at h95
        obtain ⟨q, hq⟩ : ∃ q, x.parts[k]? = some q := ⟨_, List.getElem?_eq_getElem (by omega)⟩
        rw [fitsL_drop _ _ _ k q _ _ _ hq] at hfl
        refine cj_skip (ej_th (cj_seq (cj_block (cj_seq (cj_region ?_)))))
        refine oj_step (y_ixR (reads_sl) Tryz.underlying24 Tryz.sizeOf26 rfl rfl (⟨by omega, by omega⟩)) rfl rfl rfl ?_
        refine oj_step (y_ldW (reads_sl) Tryz.isAgg26 Tryz.sizeOf26 rfl (hq) (fun _ => rfl)) rfl rfl rfl ?_
        refine oj_alloc Tryz.zeroValue26 rfl rfl (fun b16 => ?_)
        refine oj_store rfl rfl rfl rfl Tryz.sizeOf26 rfl ?_
        refine oj_nil ?_
        refine ej_th (cj_seq (cj_seq ?_))
        refine cj_regionG ?_
        refine gj_step (y_fa fa37_2 rfl) rfl rfl rfl (gj_step (y_load1 Tryz.isAgg23 rfl rfl) rfl rfl rfl (gj_step (y_fa0 fa26_0 rfl) rfl rfl rfl (gj_step (y_load1 Tryz.isAgg9 rfl rfl) rfl rfl rfl (?_))))
        refine gj_step (y_call Tryz.call64 rfl (fun w hp => k_ContainsS c.parts _ _ q.cls w hp.rd)) rfl rfl rfl ?_
        refine gj_step (y_not rfl) rfl rfl rfl (?_)
        refine gj_nil ?_
        refine ej_th ?_
        refine cj_cond rfl (fun h103 => ?_) (fun h103 => ?_)
        · have h103b := h103
          try simp only [sxb] at h103
          have hhw := not_t h103b
          refine cj_seq ?_
          refine cj_regionG (gj_step (y_assign rfl) rfl rfl rfl (gj_step (y_assign rfl) rfl rfl rfl (gj_nil ?_)))
          refine ej_th (cj_ret (ej_then_ret (ej_blk_ret (ej_then_ret (ej_then_ret (ej_blk_ret (ej_then_ret ?_)))))))
          have hf : fitsI g x deep most = none := by rw [hfi, ← hfl, if_neg (by rw [hhw]; simp)]
          exact ej_ret2 rfl Tryz.results34 rfl rfl (fun w' hp => ⟨by rw [hf]; rfl, hp.below⟩)
        · have h103b := h103
          try simp only [sxb] at h103
          have hhw := not_f h103b
          rw [if_pos hhw] at hfl
          refine cj_skip (ej_th (cj_seq ?_))
          refine cj_regionG ?_
          refine gj_step (y_move rfl) rfl rfl rfl (gj_step (y_loadN Tryz.isAgg26 Tryz.sizeOf26 rfl) rfl rfl rfl (gj_step (y_move rfl) rfl rfl rfl (gj_step (y_add rfl rfl (by omega)) rfl rfl rfl (gj_step (y_move rfl) rfl rfl rfl (gj_step (y_move rfl) rfl rfl rfl (gj_step (y_sub rfl rfl (by omega)) rfl rfl rfl (?_)))))))
          refine gj_step (y_call Tryz.call34 rfl (fun w hp => ih q (List.mem_of_getElem? hq) w (deep + 1) (most - many) hp.below (by omega) (by omega))) rfl rfl rfl ?_
          refine gj_step (y_move rfl) rfl rfl rfl (gj_step (y_extract rfl rfl) rfl rfl rfl (gj_step (y_extract rfl rfl) rfl rfl rfl (gj_step (y_assign rfl) rfl rfl rfl (gj_step (y_assign rfl) rfl rfl rfl (?_)))))
          refine gj_nil ?_
          refine ej_th (cj_seq (cj_seq ?_))
          refine cj_regionG (gj_step (y_move rfl) rfl rfl rfl (gj_step (y_not rfl) rfl rfl rfl (gj_nil ?_)))
          refine ej_th ?_
          refine cj_cond rfl (fun h116 => ?_) (fun h116 => ?_)
          · have h116b := h116
            try simp only [sxb] at h116
            have hno : fitsI g q (deep + 1) (most - many) = none := by have := not_t h116b; simpa using this
            refine cj_seq ?_
            refine cj_regionG (gj_step (y_assign rfl) rfl rfl rfl (gj_step (y_assign rfl) rfl rfl rfl (gj_nil ?_)))
            refine ej_th (cj_ret (ej_then_ret (ej_blk_ret (ej_then_ret (ej_then_ret (ej_blk_ret (ej_then_ret ?_)))))))
            have hf : fitsI g x deep most = none := by rw [hfi, ← hfl, hno]
            exact ej_ret2 rfl Tryz.results34 rfl rfl (fun w' hp => ⟨by rw [hf]; rfl, hp.below⟩)
          · have h116b := h116
            try simp only [sxb] at h116
            obtain ⟨n, hn⟩ := Option.isSome_iff_exists.1 (not_f h116b)
            have hnb := fitsI_bd g q _ _ n hn
            rw [hn]
            dsimp only [Option.getD_some]
            rw [hn] at hfl
            refine cj_skip (ej_th ?_)
            refine cj_regionG (gj_step (y_move rfl) rfl rfl rfl (gj_step (y_move rfl) rfl rfl rfl (gj_step (y_add rfl rfl (by omega)) rfl rfl rfl (gj_step (y_assign rfl) rfl rfl rfl (gj_nil ?_)))))
            refine ej_blk (ej_th ?_)
            refine cj_regionG (gj_step (y_add rfl rfl (by omega)) rfl rfl rfl (gj_step (y_move rfl) rfl rfl rfl (gj_nil ?_)))
            exact ej_nx (k + 1, many + n) (by simp only; omega) ⟨by first | omega | (simp only; omega), by first | omega | (simp only; omega), hfl⟩ ⟨rfl, rfl, rfl, rfl, rfl, rfl, rfl, rfl, trivial⟩
      · have h95b := h95
        try simp only [sxb] at h95
        refine cj_exit (ej_then_exit (ej_then_exit (ej_blk_hit (ej_th (cj_seq ?_)))))
        refine cj_regionG (gj_step (y_move rfl) rfl rfl rfl (gj_step (y_assign rfl) rfl rfl rfl (gj_step (y_assign rfl) rfl rfl rfl (gj_nil ?_))))
        refine ej_th (cj_ret ?_)
        have hf : fitsI g x deep most = some many := by rw [hfi, ← hfl, List.drop_of_length_le (by omega)]; rfl
        exact ej_ret2 rfl Tryz.results34 rfl rfl (fun w' hp => ⟨by rw [hf]; rfl, hp.below⟩)

theorem k_fitsA {w0 : World} {x : ItemV} (hx : GoodI w0 x) : ∀ (w : World) (b : Nat) (g : List (ByteArray × ClassV)) (deep most : Int), Grow w0 w → (mp ekS evC b g).P w → b < w.heap.size → (∀ p ∈ g, GoodC w p.2) → 1 ≤ deep ∧ deep ≤ 4 → 0 ≤ most ∧ most ≤ 24 →
    Calls Tryz.prog 34 #[.map (some b), evI x, .int .i64 deep, .int .i64 most] w (fun e w' => e = .returned (.tuple #[.int .i64 ((fitsI g x deep most).getD 0), .bool (fitsI g x deep most).isSome]) ∧ Grow w w') := by
  induction hx with
  | mk hs hp hn hm hr ih =>
    intro w b g deep most hg hM hb hgg hd hmo
    exact k_fits _ b g deep most w hM hb hgg ((GoodI.mk hs hp hn hm hr).mono hg) hd hmo (fun p hpm w1 dp mo hg1 h1 h2 => ih p hpm w1 b g dp mo (grow_trans hg hg1) ((mp ekS evC b g).stab (fun i hi => by have : i = b := hi; subst this; exact hg1.block _ hb) hM) (Nat.lt_of_lt_of_le hb hg1.size) (fun q hq => (hgg q hq).mono hg1) h1 h2)

end Go.Proofs.YtlfbghkcfmcnlaaGreatDoor
namespace Go.Proofs.YtlfbghkcfmcnlaaGreatDoor
open Go.Sx Go.RowKit
set_option maxRecDepth 20000

end Go.Proofs.YtlfbghkcfmcnlaaGreatDoor
namespace Go.Proofs.YtlfbghkcfmcnlaaGreatDoor
open Go.Sx Go.RowKit
set_option maxRecDepth 20000
theorem k_gram_bad (l : List ClassV) (A : Option Addr) (c : Nat) (w : World) (hl : Rd w 4 encCl A l) (hgc : ∀ c ∈ l, GoodC w c) (hok : gramOk l = false) : Calls Tryz.prog 31 #[.slice A l.length c] w (fun e w' => e = .returned (.tuple #[.map none, .int .i64 10]) ∧ Grow w w') :=
  (k_grammarOf l A c w hl hgc).mono fun e w' ⟨b, he, hg, _⟩ => ⟨by rw [he, gramE, hok]; rfl, hg⟩
theorem k_gram_ok (l : List ClassV) (A : Option Addr) (c : Nat) (w : World) (hl : Rd w 4 encCl A l) (hgc : ∀ c ∈ l, GoodC w c) (hok : gramOk l = true) : Calls Tryz.prog 31 #[.slice A l.length c] w (fun e w' => ∃ b, e = .returned (.tuple #[.map (some b), .int .i64 0]) ∧ Grow w w' ∧ (mp ekS evC b (gramM l)).P w' ∧ w.heap.size ≤ b ∧ b < w'.heap.size) :=
  (k_grammarOf l A c w hl hgc).mono fun e w' ⟨b, he, hg, h⟩ => ⟨b, by rw [he, gramE, hok]; rfl, hg, h hok⟩

theorem k_pasked_bad (l : List ClassV) (A : Option Addr) (c : Nat) (xs : List ItemV) (B : Option Addr) (d : Nat) (w : World) (hl : Rd w 4 encCl A l) (hgc : ∀ c ∈ l, GoodC w c) (hr : Rd w 3 encIt B xs) (hok : gramOk l = false) : Calls Tryz.prog 27 #[.slice A l.length c, .slice B xs.length d] w (fun e w' => ∃ b, e = .returned (.tuple #[.map (bif askIOk l xs then some b else none), .int .i64 (askIE l xs)]) ∧ Grow w w' ∧ (askIOk l xs = true → (mp ekS evC b (gramM l)).P w' ∧ w.heap.size ≤ b ∧ b < w'.heap.size)) := by
  refine enter_pure (args := [.slice A l.length c, .slice B xs.length d]) [sl (fun b => b < w.heap.size) 4 encCl A l, sl (fun b => b < w.heap.size) 3 encIt B xs] Tryz.func27 rfl (by rw [Tryz.ntmps27]; simp) (fun g hg => by simp at hg; rcases hg with rfl | rfl; exact ⟨hl, fun _ h => h⟩; exact ⟨hr, fun _ h => h⟩) ?_
  refine cj_seq ?_
  refine cj_regionG (gj_step (y_assign rfl) rfl rfl rfl (gj_step (y_assign rfl) rfl rfl rfl (gj_nil ?_)))
  refine ej_th (cj_seq ?_)
  refine cj_regionG ?_
  refine gj_step (y_move rfl) rfl rfl rfl (?_)
  refine gj_step (y_call Tryz.call31 rfl (fun w hp => k_gram_bad l A c w hp.rd (fun c hc => (hgc c hc).mono hp.below) hok)) rfl rfl rfl ?_
  refine gj_step (y_move rfl) rfl rfl rfl (gj_step (y_extract rfl rfl) rfl rfl rfl (gj_step (y_extract rfl rfl) rfl rfl rfl (gj_step (y_assign rfl) rfl rfl rfl (gj_step (y_assign rfl) rfl rfl rfl (?_)))))
  refine gj_nil ?_
  refine ej_th (cj_seq (cj_seq ?_))
  refine cj_regionG (gj_step (y_move rfl) rfl rfl rfl (gj_step (y_neq rfl rfl) rfl rfl rfl (gj_nil ?_)))
  refine ej_th ?_
  refine cj_cond rfl (fun h18 => ?_) (fun h18 => ?_)
  · have h18b := h18
    try simp only [sxb] at h18
    refine cj_seq ?_
    refine cj_regionG (gj_step (y_move rfl) rfl rfl rfl (gj_step (y_assign rfl) rfl rfl rfl (gj_step (y_assign rfl) rfl rfl rfl (gj_nil ?_))))
    refine ej_th (cj_ret (ej_then_ret ?_))
    have hg : askIOk l xs = false := by rw [askIOk, hok]; rfl
    exact ej_ret2 rfl Tryz.results27 rfl rfl (fun w' hp => ⟨0, by rw [hg, show askIE l xs = 10 from by simp [askIE, hok]]; rfl, hp.below, fun h => by rw [hg] at h; cases h⟩)
  · exact absurd h18 (by simp)

theorem k_pasked_ok (l : List ClassV) (A : Option Addr) (c : Nat) (xs : List ItemV) (B : Option Addr) (d : Nat) (w : World) (hl : Rd w 4 encCl A l) (hgc : ∀ c ∈ l, GoodC w c) (hr : Rd w 3 encIt B xs) (hxs : ∀ x ∈ xs, GoodI w x) (hok : gramOk l = true) : Calls Tryz.prog 27 #[.slice A l.length c, .slice B xs.length d] w (fun e w' => ∃ b, e = .returned (.tuple #[.map (bif askIOk l xs then some b else none), .int .i64 (askIE l xs)]) ∧ Grow w w' ∧ (askIOk l xs = true → (mp ekS evC b (gramM l)).P w' ∧ w.heap.size ≤ b ∧ b < w'.heap.size)) := by
  have hlen := hr.len
  refine enter_pure (args := [.slice A l.length c, .slice B xs.length d]) [sl (fun b => b < w.heap.size) 4 encCl A l, sl (fun b => b < w.heap.size) 3 encIt B xs] Tryz.func27 rfl (by rw [Tryz.ntmps27]; simp) (fun g hg => by simp at hg; rcases hg with rfl | rfl; exact ⟨hl, fun _ h => h⟩; exact ⟨hr, fun _ h => h⟩) ?_
  refine cj_seq ?_
  refine cj_regionG (gj_step (y_assign rfl) rfl rfl rfl (gj_step (y_assign rfl) rfl rfl rfl (gj_nil ?_)))
  refine ej_th (cj_seq (cj_region ?_))
  refine oj_step (y_move rfl) rfl rfl rfl ?_
  refine oj_call (X := {b : Nat // w.heap.size ≤ b}) (fun b => .tuple #[.map (some b.1), .int .i64 0]) (fun _ => []) (fun b => [mp ekS evC b.1 (gramM l)]) Tryz.call31 rfl (fun w hp => (k_gram_ok l A c w hp.rd (fun c hc => (hgc c hc).mono hp.below) hok).mono fun e w' ⟨b, he, hg, hm, h1, h2⟩ => ⟨⟨b, Nat.le_trans hp.size h1⟩, he, hg, by simp, by simp, fun g hg' => by simp only [List.mem_singleton] at hg'; subst hg'; exact ⟨hm, fun i hi => by have : i = b := hi; subst this; exact ⟨h1, h2, by simp⟩⟩⟩) rfl (fun b14 => ?_)
  obtain ⟨g14, hg14⟩ := b14
  dsimp only [List.cons_append, List.nil_append]
  refine oj_step (y_move rfl) rfl rfl rfl ?_
  refine oj_step (y_extract rfl rfl) rfl rfl rfl ?_
  refine oj_step (y_extract rfl rfl) rfl rfl rfl ?_
  refine oj_step (y_assign rfl) rfl rfl rfl ?_
  refine oj_step (y_assign rfl) rfl rfl rfl ?_
  refine oj_nil ?_
  refine ej_th (cj_seq (cj_seq ?_))
  refine cj_regionG (gj_step (y_move rfl) rfl rfl rfl (gj_step (y_neq rfl rfl) rfl rfl rfl (gj_nil ?_)))
  refine ej_th ?_
  refine cj_cond rfl (fun h18 => ?_) (fun h18 => ?_)
  · exact absurd h18 (by simp)
  · have h18b := h18
    try simp only [sxb] at h18
    refine cj_skip (ej_th (cj_seq (cj_seq ?_)))
    refine cj_regionG (gj_step (y_move rfl) rfl rfl rfl (gj_step (y_lenA Tryz.underlying24 rfl) rfl rfl rfl (gj_step (y_move rfl) rfl rfl rfl (gj_nil ?_))))
    refine ej_th (cj_block ?_)
    refine cj_lpic (X := Nat) [(6, _), (20, _), (21, _)] (fun k => k ≤ xs.length ∧ (xs.drop k).all (itemOk l) = xs.all (itemOk l)) (fun k => [(22, .int .i64 k)]) (fun k => xs.length - k) 0 (⟨Nat.zero_le _, rfl⟩) ⟨rfl, rfl, rfl, rfl, trivial⟩ ?_
    rintro k ⟨hk, hal⟩
    dsimp only [List.cons_append, List.nil_append]
    refine cj_seq ?_
    refine cj_regionG (gj_step (y_lss rfl rfl) rfl rfl rfl (gj_nil ?_))
    refine ej_th (cj_seq ?_)
    refine cj_cond rfl (fun h23 => ?_) (fun h23 => ?_)
    · have h23b := h23
      try simp only [sxb] at h23
      obtain ⟨x, hx⟩ : ∃ x, xs[k]? = some x := ⟨_, List.getElem?_eq_getElem (by omega)⟩
      rw [all_drop _ xs k x hx] at hal
      refine cj_skip (ej_th (cj_seq (cj_block (cj_seq (cj_region ?_)))))
      refine oj_step (y_ixR (reads_sl) Tryz.underlying24 Tryz.sizeOf26 rfl rfl (⟨by omega, by omega⟩)) rfl rfl rfl ?_
      refine oj_step (y_ldW (reads_sl) Tryz.isAgg26 Tryz.sizeOf26 rfl (hx) (fun _ => rfl)) rfl rfl rfl ?_
      refine oj_alloc Tryz.zeroValue26 rfl rfl (fun b9 => ?_)
      refine oj_store rfl rfl rfl rfl Tryz.sizeOf26 rfl ?_
      refine oj_nil ?_
      refine ej_th (cj_seq ?_)
      refine cj_regionG ?_
      refine gj_step (y_move rfl) rfl rfl rfl (gj_step (y_loadN Tryz.isAgg26 Tryz.sizeOf26 rfl) rfl rfl rfl (?_))
      refine gj_step (y_call Tryz.call34 rfl (fun w hp => (k_fitsA (hxs x (List.mem_of_getElem? hx)) w g14 (gramM l) 1 24 hp.below (hp.mpS (K := ByteArray) (V := ClassV)).1 (hp.mpS (K := ByteArray) (V := ClassV) (b := g14)).2 (fun p hm => (hgc _ (gramM_mem hm)).mono hp.below) ⟨by omega, by omega⟩ ⟨by omega, by omega⟩))) rfl rfl rfl ?_
      refine gj_step (y_move rfl) rfl rfl rfl (gj_step (y_extract rfl rfl) rfl rfl rfl (gj_step (y_extract rfl rfl) rfl rfl rfl (gj_step (y_assign rfl) rfl rfl rfl (gj_step (y_assign rfl) rfl rfl rfl (?_)))))
      refine gj_nil ?_
      refine ej_th (cj_seq ?_)
      refine cj_regionG (gj_step (y_move rfl) rfl rfl rfl (gj_step (y_not rfl) rfl rfl rfl (gj_nil ?_)))
      refine ej_th ?_
      refine cj_cond rfl (fun h33 => ?_) (fun h33 => ?_)
      · have h33b := h33
        try simp only [sxb] at h33
        have hio : itemOk l x = false := not_t h33b
        refine cj_seq ?_
        refine cj_regionG (gj_step (y_assign rfl) rfl rfl rfl (gj_step (y_assign rfl) rfl rfl rfl (gj_nil ?_)))
        refine ej_th (cj_ret (ej_blk_ret (ej_then_ret (ej_then_ret (ej_blk_ret (ej_then_ret ?_))))))
        have hg : askIOk l xs = false := by rw [askIOk, hok, ← hal, hio]; rfl
        exact ej_ret2 rfl Tryz.results27 rfl rfl (fun w' hp => ⟨0, by rw [hg, show askIE l xs = 11 from by simp [askIE, hok, ← hal, hio]]; rfl, hp.below, fun h => by rw [hg] at h; cases h⟩)
      · have h33b := h33
        try simp only [sxb] at h33
        have hio : itemOk l x = true := not_f h33b
        refine cj_skip (ej_blk (ej_th ?_))
        refine cj_regionG (gj_step (y_add rfl rfl (by omega)) rfl rfl rfl (gj_step (y_move rfl) rfl rfl rfl (gj_nil ?_)))
        exact ej_nx (k + 1) (by omega) ⟨by omega, by rw [← hal, hio, Bool.true_and]⟩ ⟨rfl, rfl, rfl, rfl, trivial⟩
    · have h23b := h23
      try simp only [sxb] at h23
      refine cj_exit (ej_then_exit (ej_then_exit (ej_blk_hit (ej_th (cj_seq ?_)))))
      refine cj_regionG (gj_step (y_move rfl) rfl rfl rfl (gj_step (y_assign rfl) rfl rfl rfl (gj_step (y_assign rfl) rfl rfl rfl (gj_nil ?_))))
      refine ej_th (cj_ret ?_)
      have ha : xs.all (itemOk l) = true := by rw [← hal, List.drop_of_length_le (by omega)]; rfl
      have hg : askIOk l xs = true := by rw [askIOk, hok, ha]; rfl
      exact ej_ret2 rfl Tryz.results27 rfl rfl (fun w' hp => ⟨g14, by rw [hg, show askIE l xs = 0 by simp [askIE, hok, ha]]; rfl, hp.below, fun _ => ⟨(hp.mpS (K := ByteArray) (V := ClassV)).1, hg14, (hp.mpS (K := ByteArray) (V := ClassV) (b := g14)).2⟩⟩)

theorem k_pasked (l : List ClassV) (A : Option Addr) (c : Nat) (xs : List ItemV) (B : Option Addr) (d : Nat) (w : World) (hl : Rd w 4 encCl A l) (hgc : ∀ c ∈ l, GoodC w c) (hr : Rd w 3 encIt B xs) (hxs : ∀ x ∈ xs, GoodI w x) : Calls Tryz.prog 27 #[.slice A l.length c, .slice B xs.length d] w (fun e w' => ∃ b, e = .returned (.tuple #[.map (bif askIOk l xs then some b else none), .int .i64 (askIE l xs)]) ∧ Grow w w' ∧ (askIOk l xs = true → (mp ekS evC b (gramM l)).P w' ∧ w.heap.size ≤ b ∧ b < w'.heap.size)) := by
  cases hok : gramOk l with
  | false => exact k_pasked_bad l A c xs B d w hl hgc hr hok
  | true => exact k_pasked_ok l A c xs B d w hl hgc hr hxs hok

end Go.Proofs.YtlfbghkcfmcnlaaGreatDoor
namespace Go.Sx
open Go.RowKit

/-- As Iter; but the iterator may hold on to facts of its own ('X') from round to round. -/
def IterX {α : Type} (P : Program) (gf : Nat) (lb : Array Value) (encs : α → List Value) (xs : List α) (Sit : List Fact) : Prop :=
  ∀ (l : Nat) (J Jx : List Fact → Nat → World → Prop) (W : World), (∀ X k W W', J X k W → Grow W W' → J X k W') →
    (∀ (fs X : List Fact) k W W', J X k W → Grow W W' → (∀ f ∈ fs, f.P W' ∧ ∀ b, f.fp b → W.heap.size ≤ b ∧ b < W'.heap.size) → J (fs ++ X) k W') → (∀ (f : Fact) X k W, J (f :: X) k W → J X k W) →
    (∀ X k W, J X k W → ∀ g ∈ Sit ++ X, g.P W ∧ ∀ b, g.fp b → b < W.heap.size) → (∀ X k W W', Jx X k W → Grow W W' → Jx X k W') → (∀ (f : Fact) X k W, Jx (f :: X) k W → Jx X k W) →
    (∀ X k W, Jx X k W → ∀ g ∈ Sit ++ X, g.P W ∧ ∀ b, g.fp b → b < W.heap.size) →
    (∀ X k x W, xs[k]? = some x → J X k W → YieldAt (FR none) 0 P l (encs x).toArray W (fun e W' => (e = .returned (.bool true) ∧ J X (k + 1) W') ∨ (e = .returned (.bool false) ∧ Jx X (k + 1) W'))) → J [] 0 W →
    Calls P gf (#[.func (.yield l) #[] #[]] ++ lb) W (fun e W' => (∃ v, e = .returned v) ∧ (J [] xs.length W' ∨ ∃ k, Jx [] k W'))

theorem hp_addL {F : Nat → Prop} {w0 : World} {O S X : List Fact} {W W' : World} (h : Hp F w0 O (S ++ X) W) (hgr : Grow W W') (fs : List Fact) (hfs : ∀ f ∈ fs, f.P W' ∧ ∀ b, f.fp b → W.heap.size ≤ b ∧ b < W'.heap.size) : Hp F w0 O (S ++ (fs ++ X)) W' :=
  { h.grow hgr with
    shared := fun g hg => by
      rcases List.mem_append.1 hg with hg | hg
      · exact (h.grow hgr).shared g (List.mem_append_left _ hg)
      · rcases List.mem_append.1 hg with hg | hg
        · exact ⟨(hfs g hg).1, fun b hb => ((hfs g hg).2 b hb).2, fun o ho b hb hob => by
            have h1 := ((hfs g hg).2 b hb).1
            have h2 := ((h.own o ho).2 b hob).1
            omega⟩
        · exact (h.grow hgr).shared g (List.mem_append_right _ hg) }

section
variable {P : Program} {F : Nat → Prop} {w0 : World} {N : Nat} {S : List Fact}
/-- THE CALLER'S RULE. -/
theorem cj_rangeX {α Y Z : Type} {g : Operand} {ps : List Tmp} {assign body : Code} {Q : Exit → Act → World → Prop} {L : Regs} {O : List Fact} {gf : Nat} {lb : Array Value} {encs : α → List Value} {xs : List α} {Sit : List Fact}
    (hseq : IterX P gf lb encs xs Sit) (inv : Nat → Y → Prop) (Ox : Nat → Y → List Fact) (cz : Z → Code) (Oz : Z → List Fact) (y0 : Y) (h0 : inv 0 y0)
    (hg : val L g = some (.func (.func gf) #[] lb)) (hf : ∀ args w, (callFunc gf args).run P w = .ok (.enter gf args) w) (hps : ∀ x, (encs x).length = ps.length) (hpN : (ps.all fun p => Nat.blt p N) = true) [hO : SubO (Ox 0 y0) O] [hSit : SubO Sit S]
    (round : ∀ (X : List Fact) (l Db : Nat) (r0 r1 : Obj) k x y, xs[k]? = some x → inv k y → CJ (CR P F w0 N l) assign (BegQ (CR P F w0 N l) (S ++ X) l r0 r1 body (BodyQ F w0 (S ++ X) l Db r1 (inv (k + 1)) (Ox (k + 1)) cz Oz)) (parR (ps.zip (encs x)) L) (ownB l r0 :: ownB Db (.deferred (some [])) :: Ox k y) (S ++ X))
    (done : ∀ Db y, inv xs.length y → EJ ⟨P, none, F, w0, N, [⟨.collected Db, #[]⟩]⟩ Q .normal L (ownB Db (.deferred (some [])) :: Ox xs.length y) S)
    (stop : ∀ Db z, CJ ⟨P, none, F, w0, N, [⟨.collected Db, #[]⟩]⟩ (cz z) Q L (ownB Db (.deferred (some [])) :: Oz z) S) :
    CJ ⟨P, none, F, w0, N, []⟩ (.rangeFunc g ps.toArray assign body) Q L O S := by
  intro a w hr hp
  refine wpIn_rangeFunc (n := 0) ?_
  intro fn hfn
  obtain ⟨rec, hrec⟩ : ∃ rec : LoopState → Option Code → Loop, rec = fun st pe => { state := st, pending := pe, fn, tmps := a.tmps, params := ps.toArray, assign, body, defers := w.heap.size } := ⟨_, rfl⟩
  obtain ⟨W1, hW1⟩ : ∃ W1, (w.alloc (.deferred (some []))).alloc (.loop (rec .ready none)) = W1 := ⟨_, rfl⟩
  have hpW : Hp F w0 (ownB (w.heap.size + 1) (.loop (rec .ready none)) :: ownB w.heap.size (.deferred (some [])) :: Ox 0 y0) S W1 := by
    rw [← hW1]
    have h1 : Hp F w0 (ownB w.heap.size (.deferred (some [])) :: Ox 0 y0) S (w.alloc (.deferred (some []))) :=
      (hp.sub hO.sub (fun _ h => h)).addO ((Below.refl _ _).alloc (Nat.le_refl _) _) _ (heap_alloc_new w _) (fun b hb => by
        have : b = w.heap.size := hb
        subst this; simp)
    refine h1.addO ((Below.refl _ _).alloc (Nat.le_refl _) _) _ ?_ (fun b hb => by
      have : b = w.heap.size + 1 := hb
      subst this; simp)
    have := heap_alloc_new (w.alloc (.deferred (some []))) (.loop (rec .ready none))
    rwa [World.size_alloc] at this
  refine ⟨w.heap.size + 1, [{ target := .collected w.heap.size, args := #[] }], W1, { target := .fn (.func gf) lb, args := #[.func (.yield (w.heap.size + 1)) #[] #[]] }, W1, gf,
    #[.func (.yield (w.heap.size + 1)) #[] #[]] ++ lb, W1, ?_, ?_, fun _ _ => trivial, ?_, (fun h => by cases h), ?_⟩
  · rw [← hW1, hrec]; exact run_enterLoop_outer _ _ _ _ _
  · simp only [resolve, hr.val hg]
    simp [go_sem]
  · simp [invoke, hf]
  · refine callsIn_FR.2 ((hseq (w.heap.size + 1) (fun X k W => ∃ y, inv k y ∧ Hp F w0 (ownB (w.heap.size + 1) (.loop (rec .ready none)) :: ownB w.heap.size (.deferred (some [])) :: Ox k y) (S ++ X) W)
      (fun X _ W => ∃ z, Hp F w0 (ownB (w.heap.size + 1) (.loop (rec .done (some (cz z)))) :: ownB w.heap.size (.deferred (some [])) :: Oz z) (S ++ X) W) W1 ?_ ?_ ?_ ?_ ?_ ?_ ?_ ?_ ⟨y0, h0, by rw [List.append_nil]; exact hpW⟩).mono ?_)
    · rintro X k W W' ⟨y, hi, h⟩ hgr; exact ⟨y, hi, h.grow hgr⟩
    · rintro fs X k W W' ⟨y, hi, h⟩ hgr hfs
      exact ⟨y, hi, hp_addL h hgr fs hfs⟩
    · rintro f X k W ⟨y, hi, h⟩
      exact ⟨y, hi, h.sub (List.Sublist.refl _) (fun g hg => by
        rcases List.mem_append.1 hg with h | h
        · exact List.mem_append_left _ h
        · exact List.mem_append_right _ (List.mem_cons_of_mem _ h))⟩
    · rintro X k W ⟨y, hi, h⟩ g hg'
      rcases List.mem_append.1 hg' with hg' | hg'
      · have h9 := h.shared g (List.mem_append_left _ (hSit.sub.subset hg'))
        exact ⟨h9.1, h9.2.1⟩
      · have h9 := h.shared g (List.mem_append_right _ hg')
        exact ⟨h9.1, h9.2.1⟩
    · rintro X k W W' ⟨z, h⟩ hgr; exact ⟨z, h.grow hgr⟩
    · rintro f X k W ⟨z, h⟩
      exact ⟨z, h.sub (List.Sublist.refl _) (fun g hg => by
        rcases List.mem_append.1 hg with h | h
        · exact List.mem_append_left _ h
        · exact List.mem_append_right _ (List.mem_cons_of_mem _ h))⟩
    · rintro X k W ⟨z, h⟩ g hg'
      rcases List.mem_append.1 hg' with hg' | hg'
      · have h9 := h.shared g (List.mem_append_left _ (hSit.sub.subset hg'))
        exact ⟨h9.1, h9.2.1⟩
      · have h9 := h.shared g (List.mem_append_right _ hg')
        exact ⟨h9.1, h9.2.1⟩
    · rintro X k x W hx ⟨y, hi, h⟩
      have hl : W.heap[w.heap.size + 1]? = some (.loop (rec .ready none)) := h.at (List.mem_cons_self ..)
      have hy := run_yield (P := P) (args := (encs x).toArray) hl (by rw [hrec]; simpa using hps x)
      rw [hrec] at hy
      refine ⟨fn, _, assign, body, hy, roundIn_of_wpIn hfn ?_⟩
      have hreg : RegsOk N [] (parR (ps.zip (encs x)) L) ⟨(ps.toArray.zip (encs x).toArray).foldl (fun tmps (t, a) => tmps.setIfInBounds t a) a.tmps, []⟩ := by
        have h1 := parR_ok (D := []) (ps.zip (encs x)) L a.tmps (fun p hp => by
          have := List.all_eq_true.1 hpN p.1 (List.of_mem_zip hp).1
          simpa [Nat.blt_eq] using this) ⟨rfl, hr.size, hr.look⟩
        have e : (ps.toArray.zip (encs x).toArray).foldl (fun tmps (t, a) => tmps.setIfInBounds t a) a.tmps = (ps.zip (encs x)).foldl (fun t p => t.setIfInBounds p.1 p.2) a.tmps := by simp
        rw [e]; exact h1
      refine wpIn_mono (round X _ w.heap.size (.loop (rec .ready none)) (.loop (rec .busy none)) k x y hx hi _ W hreg h) ?_
      intro e a1 w1 hq
      cases e <;> first | exact (show False from hq).elim | skip
      obtain ⟨L1, O1, O2, hr1, hp1, hrep, hb⟩ := hq
      have hl1 : w1.heap[w.heap.size + 1]? = some (.loop (rec .ready none)) := hp1.at hrep.mem
      refine ⟨_, run_beginRound hl1 (by rw [hrec]), ?_⟩
      have hp2 := hp1.put hrep
      have hbusy : ({ rec .ready none with state := .busy } : Loop) = rec .busy none := by rw [hrec]
      rw [hbusy]
      refine wpIn_mono (hb a1 _ hr1 hp2) ?_
      intro e a2 w2 hq2
      have fin : ∀ (jump : Option Code) (Oq : List Fact), Hp F w0 (ownB (w.heap.size + 1) (.loop (rec .busy none)) :: ownB w.heap.size (.deferred (some [])) :: Oq) (S ++ X) w2 →
          ∃ w3, (Instr.endRound (w.heap.size + 1) jump).run P w2 = .ok (.bool jump.isNone) w3 ∧ Hp F w0 (ownB (w.heap.size + 1) (.loop (rec (if jump.isNone then .ready else .done) jump)) :: ownB w.heap.size (.deferred (some [])) :: Oq) (S ++ X) w3 := fun jump Oq hq3 => by
        have hl2 : w2.heap[w.heap.size + 1]? = some (.loop (rec .busy none)) := hq3.at (List.mem_cons_self ..)
        refine ⟨_, run_endRound (P := P) jump hl2, ?_⟩
        have hb2 : ({ rec .busy none with state := if jump.isNone then .ready else .done, pending := jump } : Loop) = rec (if jump.isNone then .ready else .done) jump := by rw [hrec]
        rw [hb2]
        exact hq3.put (.head _ _ _)
      cases e with
      | normal =>
        obtain ⟨y', hi', hp3⟩ := hq2
        obtain ⟨w3, hr3, hp4⟩ := fin none _ hp3
        exact ⟨_, w3, hr3, .inl ⟨rfl, y', hi', hp4⟩⟩
      | ret =>
        obtain ⟨z, hz, hp3⟩ := hq2
        obtain ⟨w3, hr3, hp4⟩ := fin (some .ret) _ hp3
        exact ⟨_, w3, hr3, .inr ⟨rfl, z, by rw [hz]; exact hp4⟩⟩
      | exit id =>
        obtain ⟨z, hz, hp3⟩ := hq2
        obtain ⟨w3, hr3, hp4⟩ := fin (some (.exit id)) _ hp3
        exact ⟨_, w3, hr3, .inr ⟨rfl, z, by rw [hz]; exact hp4⟩⟩
      | goto t => exact (show False from hq2).elim
      | panic ch => exact (show False from hq2).elim
      | outgrown => exact (show False from hq2).elim
    · rintro e W2 ⟨⟨v, rfl⟩, h⟩
      have hd : ∀ (Db : Nat), RegsOk N [⟨.collected Db, #[]⟩] L { a with defers := [{ target := .collected Db, args := #[] }] ++ a.defers } := fun Db => by
        have := hr.defers
        exact ⟨by show [_] ++ a.defers = _; rw [this]; rfl, hr.size, hr.look⟩
      simp only [List.append_nil] at h
      rcases h with ⟨y, hi, h⟩ | ⟨_, z, h⟩
      · have hl : W2.heap[w.heap.size + 1]? = some (.loop (rec .ready none)) := h.at (List.mem_cons_self ..)
        refine ⟨none, _, (by have := run_endLoop (P := P) hl (by rw [hrec]; simp); rw [hrec] at this; exact this), ?_⟩
        exact done w.heap.size y hi _ _ (hd _) ((h.put (.head _ _ _)).sub (List.sublist_cons_self ..) (fun _ h => h))
      · have hl : W2.heap[w.heap.size + 1]? = some (.loop (rec .done (some (cz z)))) := h.at (List.mem_cons_self ..)
        refine ⟨some (cz z), _, (by have := run_endLoop (P := P) hl (by rw [hrec]; simp); rw [hrec] at this; exact this), ?_⟩
        exact stop w.heap.size z _ _ (hd _) ((h.put (.head _ _ _)).sub (List.sublist_cons_self ..) (fun _ h => h))
end


section
variable {C : Cx} {Q : Exit → Act → World → Prop} {L : Regs} {O S : List Fact} {ops : Array Oper} {rest : List Oper} {ty : TypeId} {pos : String} {aft : Array Edge} {d : Nat}
/-- A yield, whatever is told. -/
theorem oj_yieldB {l : Nat} {x : Operand} {xs : List Operand} {vs : List Value} {ats : Array TypeId} {T : Bool → World → Prop} (S' : List Fact) (hro : C.ro = none) (hx : val L x = some (.func (.yield l) #[] #[])) (hv : valsO L xs = some vs)
    (hy : ∀ w, Hp C.F C.w0 O S w → YieldAt (FR none) 0 C.P l vs.toArray w (fun e W' => (e = .returned (.bool true) ∧ T true W') ∨ (e = .returned (.bool false) ∧ T false W'))) (hdN : Nat.blt d C.N = true)
    (hS : ∀ b W', T b W' → ∀ g ∈ S', g.P W' ∧ ∀ i, g.fp i → i < W'.heap.size) (k1 : ∀ b W', T b W' → OJ (C.rb W') ops Q rest ((d, .bool b) :: L) [] S') :
    OJ C ops Q (⟨some d, .call ⟨.value x, xs.toArray, ats⟩, ty, pos, aft, none⟩ :: rest) L O S :=
  oj_yield (T := T true) (U := T false) S' hro hx hv hy hdN (fun W' h => ⟨hS true W' h, k1 true W' h⟩) (fun W' h => fun a w hr hp => k1 false W' h a w hr (by
    have h2 := hp.grow (Below.refl _ _)
    exact ⟨h2.os, h2.tape, h2.output, h2.size, h2.fr, h2.own, h2.apart, fun g hg => ⟨g.stab (fun b hb => (hp.below.block b ((hS false W' h g hg).2 b hb))) (hS false W' h g hg).1, fun b hb => Nat.lt_of_lt_of_le ((hS false W' h g hg).2 b hb) hp.size, by simp⟩⟩))
/-- A call of a function value that may turn much; what it leaves is told by 'T'. -/
theorem oj_callJ {x : Operand} {xs : List Operand} {vs : List Value} {ats : Array TypeId} {f : FuncId} {fi ca : Array Value} {T : Bool → World → Prop} (S' : List Fact) (hf : ∀ args w, (callFunc f args).run C.P w = .ok (.enter f args) w) (hx : val L x = some (.func (.func f) fi ca)) (hv : valsO L xs = some vs)
    (hc : ∀ w, Hp C.F C.w0 O S w → Calls C.P f (fi ++ vs.toArray ++ ca) w (fun e W' => ∃ b, e = .returned (.bool b) ∧ T b W')) (hdN : Nat.blt d C.N = true)
    (hS : ∀ b W', T b W' → ∀ g ∈ S', g.P W' ∧ ∀ i, g.fp i → i < W'.heap.size) (k1 : ∀ b W', T b W' → OJ (C.rb W') ops Q rest ((d, .bool b) :: L) [] S') :
    OJ C ops Q (⟨some d, .call ⟨.value x, xs.toArray, ats⟩, ty, pos, aft, none⟩ :: rest) L O S := by
  intro a w hr hp
  have hdN' : d < C.N := by simpa [Nat.blt_eq] using hdN
  unfold wpListIn
  rw [if_pos (by simp [Region.wanted])]
  refine ⟨fun _ _ => trivial, ?_⟩
  rw [Oper.semAt_eq _ _ _ (by intro c h; cases h), run_callV hr hf hx hv]
  refine ⟨fun h => (by cases h), callsIn_FR.2 ((hc w hp).mono fun en w' hx => ?_)⟩
  obtain ⟨b, rfl, hT⟩ := hx
  have := k1 b w' hT (a.put (some d) (.bool b)) w' (hr.put hdN' _) (Hp.base w' S' (hS b w' hT))
  exact this
theorem ej_rdS {Y Z : Type} {C : Cx} {l Db : Nat} {r1 : Obj} {inv : Y → Prop} {Ox : Y → List Fact} {cz : Z → Code} {Oz : Z → List Fact} {L : Regs} {O S S' : List Fact} (y : Y) (hi : inv y) [hO : SubO (ownB l r1 :: ownB Db (.deferred (some [])) :: Ox y) O] (hS : ∀ f ∈ S, f ∈ S') :
    EJ C (BodyQ C.F C.w0 S l Db r1 inv Ox cz Oz) .normal L O S' := fun _ _ _ hp => ⟨y, hi, hp.sub hO.sub hS⟩
/-! ### Results of a function that holds such a loop: two cells and a number -/
theorem ej_retMC0 {fn : Func} {R : Ending → World → Prop} {p q u : Tmp} {t : TypeId} {a b : Addr} {v x y : Value} (hD : C.D = []) (h : fn.results = #[.cell p t, .cell q t, .tmp u]) (hx : val L (.tmp p) = some (.pointer (some a))) (hy : Yi C ⟨none, .load t (.tmp p), 0, "", #[], none⟩ L O S v)
    (hx2 : val L (.tmp q) = some (.pointer (some b))) (hy2 : Yi C ⟨none, .load t (.tmp q), 0, "", #[], none⟩ L O S x) (hu : look L u = some y) (hR : ∀ w, Hp C.F C.w0 O S w → R (.returned (.tuple #[v, x, y])) w) :
    EJ C (bodyPostM (FR none) 0 C.P fn R) .ret L O S := fun ac w hr hp => by
  show LeavesInM _ _ _ _ _ _ _ _ _
  rw [hr.defers, hD]
  refine ⟨_, ?_, hR w hp⟩
  have h0 := getQ_of_look hr hx
  have h1 := getQ_of_look hr hx2
  simp [results, h, h0, h1, asAddr, yi_loadVar hx hy hr hp, yi_loadVar hx2 hy2 hr hp, getQ_of_look hr hu]
theorem ej_retMC1 {fn : Func} {R : Ending → World → Prop} {p q u : Tmp} {t : TypeId} {a b : Addr} {v x y : Value} {Db : Nat} {O' : List Fact} (hD : C.D = [⟨.collected Db, #[]⟩]) (h : fn.results = #[.cell p t, .cell q t, .tmp u]) [hup : UpdB O Db (.deferred (some [])) (.deferred none) O'] (hx : val L (.tmp p) = some (.pointer (some a))) (hy : Yi C ⟨none, .load t (.tmp p), 0, "", #[], none⟩ L O' S v)
    (hx2 : val L (.tmp q) = some (.pointer (some b))) (hy2 : Yi C ⟨none, .load t (.tmp q), 0, "", #[], none⟩ L O' S x) (hu : look L u = some y) (hR : ∀ w, Hp C.F C.w0 O' S w → R (.returned (.tuple #[v, x, y])) w) :
    EJ C (bodyPostM (FR none) 0 C.P fn R) .ret L O S := fun ac w hr hp => by
  show LeavesInM _ _ _ _ _ _ _ _ _
  rw [hr.defers, hD]
  refine ⟨by simp, .inl ⟨Db, _, rfl, run_takeDeferred (hp.at hup.rep.mem), ?_⟩⟩
  refine ⟨_, ?_, hR _ (hp.put hup.rep)⟩
  have h0 := getQ_of_look hr hx
  have h1 := getQ_of_look hr hx2
  simp [results, h, h0, h1, asAddr, yi_loadVar hx hy hr (hp.put hup.rep), yi_loadVar hx2 hy2 hr (hp.put hup.rep), getQ_of_look hr hu]
end
end Go.Sx
namespace Go.Proofs.YtlfbghkcfmcnlaaGreatDoor
open Go.Sx Go.RowKit

theorem GoodF.hs {fp : Nat → Prop} {w : World} {x : ItemV} (h : GoodF fp w x) : (sl fp 1 enStr x.As x.says).P w := by cases h; assumption
theorem GoodF.hp {fp : Nat → Prop} {w : World} {x : ItemV} (h : GoodF fp w x) : (sl fp 3 encIt x.Ap x.parts).P w := by cases h; assumption
theorem GoodF.pt {fp : Nat → Prop} {w : World} {x : ItemV} (h : GoodF fp w x) : ∀ p ∈ x.parts, GoodF fp w p := by cases h; assumption
theorem allL_app : ∀ a b : List ItemV, allL (a ++ b) = allL a ++ allL b
  | [], b => by rw [List.nil_append, allL, List.nil_append]
  | x :: a, b => by rw [List.cons_append, allL, allL, allL_app a b, List.append_assoc]
theorem allL_take (l : List ItemV) (j : Nat) (q : ItemV) (h : l[j]? = some q) : allL (l.take (j + 1)) = allL (l.take j) ++ q.all := by
  rw [List.take_add_one, h, allL_app]
  show _ ++ allL [q] = _
  rw [allL, allL, List.append_nil]
theorem allL_get (l : List ItemV) (j i : Nat) (q r : ItemV) (h : l[j]? = some q) (hr : q.all[i]? = some r) : (allL l)[(allL (l.take j)).length + i]? = some r := by
  have e : l = l.take j ++ (q :: l.drop (j + 1)) := by
    obtain ⟨h1, h2⟩ := List.getElem?_eq_some_iff.1 h
    rw [← h2, ← List.drop_eq_getElem_cons h1, List.take_append_drop]
  have h3 : allL l = allL (l.take j) ++ (q.all ++ allL (l.drop (j + 1))) := by
    have := congrArg allL e
    rw [allL_app, allL] at this; exact this
  rw [h3, List.getElem?_append_right (by omega), Nat.add_sub_cancel_left]
  obtain ⟨h4, h5⟩ := List.getElem?_eq_some_iff.1 hr
  rw [List.getElem?_append_left h4, hr]
theorem GoodF.all {fp : Nat → Prop} {w : World} {x : ItemV} (h : GoodF fp w x) : ∀ q ∈ x.all, GoodF fp w q := by
  induction h with
  | @mk x hs hp hn hm hr ih =>
    have hL : ∀ l : List ItemV, (∀ p ∈ l, p ∈ x.parts) → ∀ q ∈ allL l, GoodF fp w q := by
      intro l
      induction l with
      | nil => intro _ q hq; rw [allL] at hq; cases hq
      | cons p l ihl =>
        intro hl q hq
        rw [allL] at hq
        rcases List.mem_append.1 hq with hq | hq
        · exact ih p (hl p (List.mem_cons_self ..)) q hq
        · exact ihl (fun p hp => hl p (List.mem_cons_of_mem _ hp)) q hq
    intro q hq
    rw [all_eq] at hq
    rcases List.mem_cons.1 hq with rfl | hq
    · exact .mk hs hp hn hm hr
    · exact hL x.parts (fun p hp => hp) q hq
mutual
theorem says8 {g : List (ByteArray × ClassV)} : ∀ x : ItemV, OkT g x.pl → ∀ q ∈ x.all, q.says.length ≤ 8
  | .mk cls As cs says Ap cp parts, h => by
    intro q hq
    rw [ItemV.all] at hq
    rcases List.mem_cons.1 hq with rfl | hq
    · obtain ⟨c, _, h1, h2, _⟩ := h.get
      rw [pl_says] at h1
      omega
    · exact says8L parts (fun p hp => h.pt p (by rw [pl_parts, ← plL_map]; exact hp)) q hq
theorem says8L {g : List (ByteArray × ClassV)} : ∀ l : List ItemV, (∀ p ∈ plL l, OkT g p) → ∀ q ∈ allL l, q.says.length ≤ 8
  | [], _ => by simp [allL]
  | p :: l, h => by
    intro q hq
    rw [allL] at hq
    rcases List.mem_append.1 hq with hq | hq
    · exact says8 p (h p.pl (by rw [plL]; exact List.mem_cons_self ..)) q hq
    · exact says8L l (fun p hp => h p (by rw [plL]; exact List.mem_cons_of_mem _ hp)) q hq
end
theorem saidN_bd (l : List ByteArray) : 0 ≤ saidN l ∧ saidN l ≤ l.length := by
  unfold saidN
  induction l with
  | nil => simp
  | cons s l ih =>
    rw [List.map_cons, List.sum_cons, List.length_cons]
    split <;> omega
theorem saidN_take (l : List ByteArray) (j : Nat) (s : ByteArray) (h : l[j]? = some s) : saidN (l.take (j + 1)) = saidN (l.take j) + (if s == (⟨#[]⟩ : ByteArray) then 0 else 1) := by
  unfold saidN
  rw [List.take_add_one, h, List.map_append, List.sum_append]
  show _ + ([s].map _).sum = _
  rw [List.map_cons, List.sum_cons]; simp
theorem sdAll_bd (l : List ItemV) (h : ∀ q ∈ l, q.says.length ≤ 8) : 0 ≤ sdAll l ∧ sdAll l ≤ 8 * l.length := by
  unfold sdAll
  induction l with
  | nil => simp
  | cons x l ih =>
    have h1 := ih (fun q hq => h q (List.mem_cons_of_mem _ hq))
    have h2 := h x (List.mem_cons_self ..)
    have h3 := saidN_bd x.says
    rw [List.map_cons, List.sum_cons, List.length_cons]; omega
theorem sdAll_take (l : List ItemV) (k : Nat) (q : ItemV) (h : l[k]? = some q) : sdAll (l.take (k + 1)) = sdAll (l.take k) + saidN q.says := by
  rw [List.take_add_one, h, sdAll_append]
  show _ + ([q].map _).sum = _
  rw [List.map_cons, List.sum_cons]; simp
/-- what goes on around the iterator -/
structure ItOk (P : Program) (l : Nat) (xs : List ItemV) (J Jx : List Fact → Nat → World → Prop) : Prop where
  grow : ∀ X k W W', J X k W → Grow W W' → J X k W'
  add : ∀ (fs X : List Fact) k W W', J X k W → Grow W W' → (∀ f ∈ fs, f.P W' ∧ ∀ b, f.fp b → W.heap.size ≤ b ∧ b < W'.heap.size) → J (fs ++ X) k W'
  drop : ∀ (f : Fact) X k W, J (f :: X) k W → J X k W
  facts : ∀ X k W, J X k W → ∀ g ∈ X, g.P W ∧ ∀ b, g.fp b → b < W.heap.size
  growx : ∀ X k W W', Jx X k W → Grow W W' → Jx X k W'
  dropx : ∀ (f : Fact) X k W, Jx (f :: X) k W → Jx X k W
  factsx : ∀ X k W, Jx X k W → ∀ g ∈ X, g.P W ∧ ∀ b, g.fp b → b < W.heap.size
  round : ∀ X k x W, xs[k]? = some x → J X k W → YieldAt (FR none) 0 P l #[evI x] W (fun e W' => (e = .returned (.bool true) ∧ J X (k + 1) W') ∨ (e = .returned (.bool false) ∧ Jx X (k + 1) W'))
def TJ (J Jx : List Fact → Nat → World → Prop) (X : List Fact) (k : Nat) (b : Bool) (W : World) : Prop := if b = true then J X k W else ∃ k2, Jx X k2 W
theorem TJ.facts {P : Program} {l : Nat} {xs : List ItemV} {J Jx : List Fact → Nat → World → Prop} (hI : ItOk P l xs J Jx) {X : List Fact} {k : Nat} {b : Bool} {W : World} (h : TJ J Jx X k b W) : ∀ g ∈ X, g.P W ∧ ∀ b, g.fp b → b < W.heap.size := by
  unfold TJ at h
  split at h
  · exact hI.facts X k W h
  · obtain ⟨k2, h⟩ := h; exact hI.factsx X k2 W h
theorem TJ.t {J Jx : List Fact → Nat → World → Prop} {X : List Fact} {k : Nat} {W : World} (h : TJ J Jx X k true W) : J X k W := h
theorem TJ.f {J Jx : List Fact → Nat → World → Prop} {X : List Fact} {k : Nat} {W : World} (h : TJ J Jx X k false W) : ∃ k2, Jx X k2 W := h
end Go.Proofs.YtlfbghkcfmcnlaaGreatDoor
namespace Go.Proofs.YtlfbghkcfmcnlaaGreatDoor
open Go.Sx Go.RowKit
set_option maxRecDepth 20000

end Go.Proofs.YtlfbghkcfmcnlaaGreatDoor
namespace Go.Proofs.YtlfbghkcfmcnlaaGreatDoor
open Go.Sx Go.RowKit
set_option maxRecDepth 20000
set_option maxHeartbeats 1000000 in
theorem k_visit1 (p : ItemV) (l yb vb : Nat) (xs : List ItemV) (fp0 : Nat → Prop) (J Jx : List Fact → Nat → World → Prop) (X : List Fact) (k : Nat) (w : World) (hI : ItOk Tryz.prog l xs J Jx) (hJ : J X k w) (hyX : ownB yb (cellsB 142 [.func (.yield l) #[] #[]]) ∈ X) (hvX : ownB vb (cellsB 142 [.func (.func 90) #[] #[.pointer (some ⟨yb, 0, none⟩), .pointer (some ⟨vb, 0, none⟩)]]) ∈ X) (hGJ : ∀ X k W, J X k W ∨ Jx X k W → GoodF fp0 W p ∧ ∀ b, fp0 b → b < W.heap.size) (hxs : (∀ i r, (p).all[i]? = some r → xs[k + i]? = some r)) (ih : ∀ q ∈ p.parts, ∀ X k w1, J X k w1 → ownB yb (cellsB 142 [.func (.yield l) #[] #[]]) ∈ X → ownB vb (cellsB 142 [.func (.func 90) #[] #[.pointer (some ⟨yb, 0, none⟩), .pointer (some ⟨vb, 0, none⟩)]]) ∈ X → (∀ i r, (q).all[i]? = some r → xs[k + i]? = some r) → Calls Tryz.prog 90 #[evI q, .pointer (some ⟨yb, 0, none⟩), .pointer (some ⟨vb, 0, none⟩)] w1 (fun e w' => ∃ b, e = .returned (.bool b) ∧ TJ J Jx X (k + (q).all.length) b w')) : Calls Tryz.prog 90 #[evI p, .pointer (some ⟨yb, 0, none⟩), .pointer (some ⟨vb, 0, none⟩)] w (fun e w' => ∃ b, e = .returned (.bool b) ∧ TJ J Jx X (k + (p).all.length) b w') := by
  have hl2 : p.parts.length ≤ 9223372036854775807 := by have h9 := ((hGJ X k w (.inl hJ)).1.hp).1; unfold maxLen at h9; omega
  have hGT : ∀ {X k b} W, TJ J Jx X k b W → (sl fp0 3 encIt p.Ap p.parts).P W ∧ ∀ i, fp0 i → i < W.heap.size := fun {X k b} W h => by
    have h9 : GoodF fp0 W p ∧ ∀ b, fp0 b → b < W.heap.size := by
      unfold TJ at h
      split at h
      · exact hGJ X k W (.inl h)
      · obtain ⟨k2, h⟩ := h; exact hGJ X k2 W (.inr h)
    exact ⟨h9.1.hp, h9.2⟩
  refine enter_pure (args := [evI p, .pointer (some ⟨yb, 0, none⟩), .pointer (some ⟨vb, 0, none⟩)]) [ownB yb (cellsB 142 [.func (.yield l) #[] #[]]), ownB vb (cellsB 142 [.func (.func 90) #[] #[.pointer (some ⟨yb, 0, none⟩), .pointer (some ⟨vb, 0, none⟩)]]), sl fp0 3 encIt p.Ap p.parts] Tryz.func90 rfl (by rw [Tryz.ntmps90]; simp) (fun g hg => by simp only [List.mem_cons, List.mem_nil_iff, or_false] at hg; rcases hg with rfl | rfl | rfl; exact hI.facts X k w hJ _ hyX; exact hI.facts X k w hJ _ hvX; exact ⟨(hGJ X k w (.inl hJ)).1.hp, (hGJ X k w (.inl hJ)).2⟩) ?_
  refine cj_seq (cj_region ?_)
  refine oj_box rfl rfl rfl (fun b3 => ?_)
  refine oj_step (y_assign rfl) rfl rfl rfl ?_
  refine oj_nil ?_
  refine ej_th (cj_seq (cj_seq (cj_region ?_)))
  refine oj_step (y_loadS1 Tryz.isAgg142 rfl rfl) rfl rfl rfl ?_
  refine oj_step (y_loadN Tryz.isAgg26 Tryz.sizeOf26 rfl) rfl rfl rfl ?_
  refine oj_yieldB (l := l) (T := TJ J Jx (ownB b3 (cellsB 26 [.string p.cls, .slice p.As p.says.length p.cs, .slice p.Ap p.parts.length p.cp]) :: X) (k + 1)) [ownB b3 (cellsB 26 [.string p.cls, .slice p.As p.says.length p.cs, .slice p.Ap p.parts.length p.cp]), ownB yb (cellsB 142 [.func (.yield l) #[] #[]]), ownB vb (cellsB 142 [.func (.func 90) #[] #[.pointer (some ⟨yb, 0, none⟩), .pointer (some ⟨vb, 0, none⟩)]]), sl fp0 3 encIt p.Ap p.parts] rfl rfl rfl (fun w1 hp => by
    have hJ1 := hI.add [ownB b3 (cellsB 26 [.string p.cls, .slice p.As p.says.length p.cs, .slice p.Ap p.parts.length p.cp])] X k w w1 hJ hp.below (fun f hf => by rw [List.mem_singleton.1 hf]; exact ⟨hp.bo (b := b3), (hp.newB (b := b3)).2⟩)
    have hR := hI.round (ownB b3 (cellsB 26 [.string p.cls, .slice p.As p.says.length p.cs, .slice p.Ap p.parts.length p.cp]) :: X) k p w1 (hxs 0 p (by rw [all_eq]; rfl)) hJ1
    obtain ⟨fn, tmps, asn, bd, g1, g2⟩ := hR
    exact ⟨fn, tmps, asn, bd, g1, RoundIn.mono g2 (fun e W' h => by
      rcases h with ⟨h1, h2⟩ | ⟨h1, h2⟩
      · exact .inl ⟨h1, h2⟩
      · exact .inr ⟨h1, k + 1, h2⟩)⟩) rfl (fun b9 W9 h g hg => by
    simp only [List.mem_cons, List.mem_nil_iff, or_false] at hg
    rcases hg with rfl | rfl | rfl | rfl
    · exact h.facts hI _ (List.mem_cons_self ..)
    · exact h.facts hI _ (List.mem_cons_of_mem _ hyX)
    · exact h.facts hI _ (List.mem_cons_of_mem _ hvX)
    · exact hGT W9 h) (fun b9 W9 hT9 => ?_)
  refine oj_step (y_not rfl) rfl rfl rfl ?_
  refine oj_nil ?_
  refine ej_th ?_
  refine cj_cond rfl (fun h10 => ?_) (fun h10 => ?_)
  · have h10b := h10
    try simp only [sxb] at h10
    have hb9 : b9 = false := not_t h10b
    subst hb9
    obtain ⟨k2, hT⟩ := hT9.f
    refine cj_seq ?_
    refine cj_regionG (gj_step (y_assign rfl) rfl rfl rfl (gj_nil ?_))
    refine ej_th (cj_ret (ej_then_ret ?_))
    exact ej_ret1 rfl Tryz.results90 rfl (fun w' hp => ⟨false, rfl, k2, hI.growx _ _ _ _ (hI.dropx _ _ _ _ hT) hp.below⟩)
  · have h10b := h10
    try simp only [sxb] at h10
    have hb9 : b9 = true := not_f h10b
    subst hb9
    have hT := hT9.t
    refine cj_skip (ej_th (cj_seq (cj_seq ?_)))
    refine cj_regionG (gj_step (y_fa fa26_2 rfl) rfl rfl rfl (gj_step (y_loadS1 Tryz.isAgg24 rfl rfl) rfl rfl rfl (gj_step (y_lenA Tryz.underlying24 rfl) rfl rfl rfl (gj_step (y_move rfl) rfl rfl rfl (gj_nil ?_)))))
    refine ej_th (cj_block ?_)
    refine cj_loopB (X := Nat) (fun j => j ≤ p.parts.length) (fun j => [(2, .pointer (some ⟨vb, 0, none⟩)), (12, .slice p.Ap p.parts.length p.cp), (13, .int .i64 p.parts.length), (14, .int .i64 j)]) (fun j => fun W => J (ownB b3 (cellsB 26 [.string p.cls, .slice p.As p.says.length p.cs, .slice p.Ap p.parts.length p.cp]) :: X) (k + 1 + (allL (p.parts.take j)).length) W) [ownB b3 (cellsB 26 [.string p.cls, .slice p.As p.says.length p.cs, .slice p.Ap p.parts.length p.cp]), ownB yb (cellsB 142 [.func (.yield l) #[] #[]]), ownB vb (cellsB 142 [.func (.func 90) #[] #[.pointer (some ⟨yb, 0, none⟩), .pointer (some ⟨vb, 0, none⟩)]]), sl fp0 3 encIt p.Ap p.parts] (fun j => p.parts.length - j) 0 (Nat.zero_le _) ⟨rfl, rfl, rfl, rfl, trivial⟩ (fun w hp => hI.grow _ _ _ _ hT hp.below) (fun j W h g hg => by
      have h : TJ J Jx (ownB b3 (cellsB 26 [.string p.cls, .slice p.As p.says.length p.cs, .slice p.Ap p.parts.length p.cp]) :: X) (k + 1 + (allL (p.parts.take j)).length) true W := h
      simp only [List.mem_cons, List.mem_nil_iff, or_false] at hg
      rcases hg with rfl | rfl | rfl | rfl
      · exact h.facts hI _ (List.mem_cons_self ..)
      · exact h.facts hI _ (List.mem_cons_of_mem _ hyX)
      · exact h.facts hI _ (List.mem_cons_of_mem _ hvX)
      · exact hGT W h) ?_
    rintro j W hj hJW
    refine cj_seq ?_
    refine cj_regionG (gj_step (y_lss rfl rfl) rfl rfl rfl (gj_nil ?_))
    refine ej_th (cj_seq ?_)
    refine cj_cond rfl (fun h15 => ?_) (fun h15 => ?_)
    · have h15b := h15
      try simp only [sxb] at h15
      obtain ⟨q, hq⟩ : ∃ q, p.parts[j]? = some q := ⟨_, List.getElem?_eq_getElem (by omega)⟩
      refine cj_skip (ej_th (cj_seq (cj_block (cj_seq (cj_region ?_)))))
      refine oj_step (y_ixR (reads_sl) Tryz.underlying24 Tryz.sizeOf26 rfl rfl (⟨by omega, by omega⟩)) rfl rfl rfl ?_
      refine oj_step (y_ldW (reads_sl) Tryz.isAgg26 Tryz.sizeOf26 rfl (hq) (fun _ => rfl)) rfl rfl rfl ?_
      refine oj_alloc Tryz.zeroValue26 rfl rfl (fun b6 => ?_)
      refine oj_store rfl rfl rfl rfl Tryz.sizeOf26 rfl ?_
      refine oj_nil ?_
      refine ej_th (cj_seq (cj_region ?_))
      refine oj_step (y_loadS1 Tryz.isAgg142 rfl rfl) rfl rfl rfl ?_
      refine oj_step (y_loadN Tryz.isAgg26 Tryz.sizeOf26 rfl) rfl rfl rfl ?_
      refine oj_callJ (T := TJ J Jx (ownB b3 (cellsB 26 [.string p.cls, .slice p.As p.says.length p.cs, .slice p.Ap p.parts.length p.cp]) :: X) (k + 1 + (allL (p.parts.take j)).length + q.all.length)) [ownB b3 (cellsB 26 [.string p.cls, .slice p.As p.says.length p.cs, .slice p.Ap p.parts.length p.cp]), ownB yb (cellsB 142 [.func (.yield l) #[] #[]]), ownB vb (cellsB 142 [.func (.func 90) #[] #[.pointer (some ⟨yb, 0, none⟩), .pointer (some ⟨vb, 0, none⟩)]]), sl fp0 3 encIt p.Ap p.parts] Tryz.call90 rfl rfl (fun w1 hp => ih q (List.mem_of_getElem? hq) (ownB b3 (cellsB 26 [.string p.cls, .slice p.As p.says.length p.cs, .slice p.Ap p.parts.length p.cp]) :: X) (k + 1 + (allL (p.parts.take j)).length) w1 (hI.grow _ _ _ _ hJW hp.below) (List.mem_cons_of_mem _ hyX) (List.mem_cons_of_mem _ hvX) (fun i r hr => by
        have h9 := hxs (1 + ((allL (p.parts.take j)).length + i)) r (by rw [all_eq, Nat.add_comm 1, List.getElem?_cons_succ]; exact allL_get p.parts j i q r hq hr)
        rw [show k + 1 + (allL (p.parts.take j)).length + i = k + (1 + ((allL (p.parts.take j)).length + i)) by omega]
        exact h9)) rfl (fun b9 W9 h g hg => by
        simp only [List.mem_cons, List.mem_nil_iff, or_false] at hg
        rcases hg with rfl | rfl | rfl | rfl
        · exact h.facts hI _ (List.mem_cons_self ..)
        · exact h.facts hI _ (List.mem_cons_of_mem _ hyX)
        · exact h.facts hI _ (List.mem_cons_of_mem _ hvX)
        · exact hGT W9 h) (fun b20 W20 hT20 => ?_)
      refine oj_step (y_not rfl) rfl rfl rfl ?_
      refine oj_nil ?_
      refine ej_th ?_
      refine cj_cond rfl (fun h21 => ?_) (fun h21 => ?_)
      · have h21b := h21
        try simp only [sxb] at h21
        have hb20 : b20 = false := not_t h21b
        subst hb20
        obtain ⟨k2, hT2⟩ := hT20.f
        refine cj_seq ?_
        refine cj_regionG (gj_step (y_assign rfl) rfl rfl rfl (gj_nil ?_))
        refine ej_th (cj_ret (ej_blk_ret (ej_then_ret (ej_then_ret (ej_blk_ret (ej_then_ret ?_))))))
        exact ej_ret1 rfl Tryz.results90 rfl (fun w' hp => ⟨false, rfl, k2, hI.growx _ _ _ _ (hI.dropx _ _ _ _ hT2) hp.below⟩)
      · have h21b := h21
        try simp only [sxb] at h21
        have hb20 : b20 = true := not_f h21b
        subst hb20
        have hT2 := hT20.t
        refine cj_skip (ej_blk (ej_th ?_))
        refine cj_regionG (gj_step (y_add rfl rfl (by omega)) rfl rfl rfl (gj_step (y_move rfl) rfl rfl rfl (gj_nil ?_)))
        refine ej_nxB (j + 1) (by omega) (by omega) ⟨rfl, rfl, rfl, rfl, trivial⟩ (fun w hp => ?_)
        rw [allL_take p.parts j q hq, List.length_append, show k + 1 + ((allL (p.parts.take j)).length + q.all.length) = k + 1 + (allL (p.parts.take j)).length + q.all.length by omega]
        exact hI.grow _ _ _ _ hT2 hp
    · have h15b := h15
      try simp only [sxb] at h15
      have hjl : j = p.parts.length := by omega
      subst hjl
      rw [List.take_length] at hJW
      refine cj_exit (ej_then_exit (ej_then_exit (ej_blk_hit (ej_th (cj_seq ?_)))))
      refine cj_regionG (gj_step (y_assign rfl) rfl rfl rfl (gj_nil ?_))
      refine ej_th (cj_ret ?_)
      refine ej_ret1 rfl Tryz.results90 rfl (fun w' hp => ⟨true, rfl, ?_⟩)
      rw [all_eq, List.length_cons, show k + ((allL p.parts).length + 1) = k + 1 + (allL p.parts).length by omega]
      exact hI.grow _ _ _ _ (hI.drop _ _ _ _ hJW) hp.below

theorem k_visit (l yb vb : Nat) (xs : List ItemV) (fp0 : Nat → Prop) (J Jx : List Fact → Nat → World → Prop) (hI : ItOk Tryz.prog l xs J Jx) {w0 : World} {p : ItemV} (hp : GoodI w0 p) : (∀ X k W, J X k W ∨ Jx X k W → GoodF fp0 W p ∧ ∀ b, fp0 b → b < W.heap.size) → ∀ X k w, J X k w → ownB yb (cellsB 142 [.func (.yield l) #[] #[]]) ∈ X → ownB vb (cellsB 142 [.func (.func 90) #[] #[.pointer (some ⟨yb, 0, none⟩), .pointer (some ⟨vb, 0, none⟩)]]) ∈ X → (∀ i r, (p).all[i]? = some r → xs[k + i]? = some r) → Calls Tryz.prog 90 #[evI p, .pointer (some ⟨yb, 0, none⟩), .pointer (some ⟨vb, 0, none⟩)] w (fun e w' => ∃ b, e = .returned (.bool b) ∧ TJ J Jx X (k + (p).all.length) b w') := by
  induction hp with
  | @mk p _ _ _ _ _ ih =>
    intro hGJ X k w hJ hyX hvX hxs
    exact k_visit1 p l yb vb xs fp0 J Jx X k w hI hJ hyX hvX hGJ hxs (fun q hq X k w1 h1 h2 h3 h4 => ih q hq (fun X k W h => ⟨(hGJ X k W h).1.pt q hq, (hGJ X k W h).2⟩) X k w1 h1 h2 h3 h4)

theorem k_allIter {w0 : World} (p : ItemV) (hp0 : GoodI w0 p) (bx : Nat) (fp0 : Nat → Prop) : IterX Tryz.prog 89 #[.pointer (some ⟨bx, 0, none⟩)] (fun q => [evI q]) p.all [itF fp0 [p], ownB bx (cellsB 26 [.string p.cls, .slice p.As p.says.length p.cs, .slice p.Ap p.parts.length p.cp])] := by
  intro l J Jx w hgr hadd hdrop hfacts hgrx hdrx hfx hround hJ
  refine enter_pure (args := [.func (.yield l) #[] #[], .pointer (some ⟨bx, 0, none⟩)]) [ownB bx (cellsB 26 [.string p.cls, .slice p.As p.says.length p.cs, .slice p.Ap p.parts.length p.cp])] Tryz.func89 rfl (by rw [Tryz.ntmps89]; simp) (fun g hg => by rw [List.mem_singleton.1 hg]; exact hfacts [] 0 w hJ _ (List.mem_append_left _ (List.mem_cons_of_mem _ (List.mem_cons_self ..)))) ?_
  refine cj_seq (cj_region ?_)
  refine oj_box rfl rfl rfl (fun b2 => ?_)
  refine oj_nil ?_
  refine ej_th (cj_seq (cj_region ?_))
  refine oj_alloc Tryz.zeroValue142 rfl rfl (fun b3 => ?_)
  refine oj_nil ?_
  refine ej_th (cj_seq (cj_region ?_))
  refine oj_step (y_makeFunc rfl rfl) rfl rfl rfl ?_
  refine oj_store rfl rfl rfl rfl Tryz.sizeOf142 rfl ?_
  refine oj_nil ?_
  refine ej_th (cj_region ?_)
  refine oj_step (y_load1 Tryz.isAgg142 rfl rfl) rfl rfl rfl ?_
  refine oj_step (y_loadSN Tryz.isAgg26 Tryz.sizeOf26 rfl) rfl rfl rfl ?_
  refine oj_callJ (T := TJ J Jx [] p.all.length) [] Tryz.call90 rfl rfl (fun w1 hp => by
    have hI : ItOk Tryz.prog l p.all J Jx := ⟨hgr, hadd, hdrop, fun X k W h g hg => hfacts X k W h g (List.mem_append_right _ hg), hgrx, hdrx, fun X k W h g hg => hfx X k W h g (List.mem_append_right _ hg), hround⟩
    have hJ1 := hadd [ownB b3 (cellsB 142 [.func (.func 90) #[] #[.pointer (some ⟨b2, 0, none⟩), .pointer (some ⟨b3, 0, none⟩)]]), ownB b2 (cellsB 142 [.func (.yield l) #[] #[]])] [] 0 w w1 hJ hp.below (fun f hf => by
      simp only [List.mem_cons, List.mem_nil_iff, or_false] at hf
      rcases hf with rfl | rfl
      · exact ⟨hp.bo (b := b3), (hp.newB (b := b3)).2⟩
      · exact ⟨hp.bo (b := b2), (hp.newB (b := b2)).2⟩)
    have h := k_visit l b2 b3 p.all fp0 J Jx hI hp0 (fun X k W h => by
      rcases h with h | h
      · have h9 := hfacts X k W h (itF fp0 [p]) (List.mem_append_left _ (List.mem_cons_self ..))
        exact ⟨h9.1 p (List.mem_cons_self ..), h9.2⟩
      · have h9 := hfx X k W h (itF fp0 [p]) (List.mem_append_left _ (List.mem_cons_self ..))
        exact ⟨h9.1 p (List.mem_cons_self ..), h9.2⟩) _ 0 w1 hJ1 (List.mem_append_left _ (List.mem_cons_of_mem _ (List.mem_cons_self ..))) (List.mem_append_left _ (List.mem_cons_self ..)) (fun i q hq => by rw [Nat.zero_add]; exact hq)
    exact h.mono (fun e W' ⟨b, h1, h2⟩ => ⟨b, h1, by
      cases b with
      | true => exact hdrop _ _ _ _ (hdrop _ _ _ _ (by have h3 := h2.t; rw [Nat.zero_add] at h3; exact h3))
      | false => obtain ⟨k2, h3⟩ := h2.f; exact ⟨k2, hdrx _ _ _ _ (hdrx _ _ _ _ h3)⟩⟩)) rfl (fun b W h g hg => (by cases hg)) (fun b7 W7 hT7 => ?_)
  refine oj_nil ?_
  refine ej_end0 rfl Tryz.results89 (fun w' hp => ⟨⟨_, rfl⟩, ?_⟩)
  cases b7 with
  | true => exact .inl (hgr _ _ _ _ hT7.t hp.below)
  | false => obtain ⟨k2, h3⟩ := hT7.f; exact .inr ⟨k2, hgrx _ _ _ _ h3 hp.below⟩

theorem k_all (p : ItemV) (w : World)  : Calls Tryz.prog 76 #[evI p] w (fun e w' => ∃ x : Nat, e = .returned (.func (.func 89) #[] #[.pointer (some ⟨x, 0, none⟩)]) ∧ Grow w w' ∧ (∀ g ∈ ([] : List Fact), g.P w' ∧ ∀ b, g.fp b → w.heap.size ≤ b ∧ b < w'.heap.size) ∧ ([] : List Fact).Pairwise (fun f g => ∀ b, f.fp b → ¬ g.fp b) ∧ (∀ g ∈ [ownB x (cellsB 26 [.string p.cls, .slice p.As p.says.length p.cs, .slice p.Ap p.parts.length p.cp])], g.P w' ∧ ∀ b, g.fp b → w.heap.size ≤ b ∧ b < w'.heap.size ∧ ∀ o ∈ ([] : List Fact), ¬ o.fp b)) := by
  refine enter_pure (args := [evI p]) [] Tryz.func76 rfl (by rw [Tryz.ntmps76]; simp) (by simp) ?_
  refine cj_seq (cj_region ?_)
  refine oj_box rfl rfl rfl (fun b1 => ?_)
  refine oj_step (y_assign rfl) rfl rfl rfl ?_
  refine oj_nil ?_
  refine ej_th (cj_seq ?_)
  refine cj_regionG (gj_step (y_makeFunc rfl rfl) rfl rfl rfl (gj_step (y_assign rfl) rfl rfl rfl (gj_nil ?_)))
  refine ej_th (cj_ret ?_)
  exact ej_ret1 rfl Tryz.results76 rfl (fun w' hp => ⟨b1, rfl, hp.below, by simp, List.Pairwise.nil, fun g hg => ⟨(hp.own g hg).1, fun b hb => ⟨Nat.le_of_not_lt ((hp.own g hg).2 b hb).2, ((hp.own g hg).2 b hb).1, by simp⟩⟩⟩)

end Go.Proofs.YtlfbghkcfmcnlaaGreatDoor
namespace Go.Proofs.YtlfbghkcfmcnlaaGreatDoor
open Go.Sx Go.RowKit Go.Shelf Go.Proofs
def lays156_ren : Go.Shelf.Ren := ⟨fun | 156 => 83 | 165 => 98 | 166 => 99 | 169 => 100 | 240 => 107 | 241 => 108 | 276 => 115 | 277 => 116 | n => n, fun | 31 => 23 | 9 => 9 | 3 => 3 | 4 => 4 | 0 => 0 | 20 => 20 | 72 => 152 | 76 => 156 | 70 => 149 | 37 => 150 | 75 => 155 | 127 => 161 | 164 => 168 | 5 => 5 | 80 => 125 | n => n, fun n => n⟩
theorem lays156 : Go.Proofs.Lays.n156 Tryz.prog lays156_ren where
  mixed := by kernel_rfl
  f156 := Tryz.func83.trans (congrArg some (by kernel_rfl))
  f165 := Tryz.func98.trans (congrArg some (by kernel_rfl))
  f166 := Tryz.func99.trans (congrArg some (by kernel_rfl))
  f169 := Tryz.func100.trans (congrArg some (by kernel_rfl))
  f240 := Tryz.func107.trans (congrArg some (by kernel_rfl))
  f241 := Tryz.func108.trans (congrArg some (by kernel_rfl))
  f276 := Tryz.func115.trans (congrArg some (by kernel_rfl))
  f277 := Tryz.func116.trans (congrArg some (by kernel_rfl))
  t0 := Tryz.underlying0
  a0 := Tryz.isAgg0
  z0 := Tryz.sizeOf0
  v0 := Tryz.zeroValue0
  t3 := Tryz.underlying3
  a3 := Tryz.isAgg3
  z3 := Tryz.sizeOf3
  v3 := Tryz.zeroValue3
  t4 := Tryz.underlying4
  a4 := Tryz.isAgg4
  z4 := Tryz.sizeOf4
  v4 := Tryz.zeroValue4
  t9 := Tryz.underlying9
  a9 := Tryz.isAgg9
  z9 := Tryz.sizeOf9
  v9 := Tryz.zeroValue9
  t20 := Tryz.underlying20
  a20 := Tryz.isAgg20
  z20 := Tryz.sizeOf20
  v20 := Tryz.zeroValue20
  t31 := Tryz.underlying23
  a31 := Tryz.isAgg23
  z31 := Tryz.sizeOf23
  v31 := Tryz.zeroValue23
  t37 := Tryz.underlying150
  a37 := Tryz.isAgg150
  z37 := Tryz.sizeOf150
  v37 := Tryz.zeroValue150
  t70 := Tryz.underlying149
  a70 := Tryz.isAgg149
  z70 := Tryz.sizeOf149
  v70 := Tryz.zeroValue149
  t72 := Tryz.underlying152
  a72 := Tryz.isAgg152
  z72 := Tryz.sizeOf152
  v72 := Tryz.zeroValue152
  t75 := Tryz.underlying155
  a75 := Tryz.isAgg155
  z75 := Tryz.sizeOf155
  v75 := Tryz.zeroValue155
  t76 := Tryz.underlying156
  a76 := Tryz.isAgg156
  z76 := Tryz.sizeOf156
  v76 := Tryz.zeroValue156
  t127 := Tryz.underlying161
  a127 := Tryz.isAgg161
  z127 := Tryz.sizeOf161
  v127 := Tryz.zeroValue161
  t164 := Tryz.underlying168
  a164 := Tryz.isAgg168
  z164 := Tryz.sizeOf168
  v164 := Tryz.zeroValue168
theorem Builder_Extra_156 : Builder.Extra Tryz.prog lays156_ren := {
  sizeBuilder := by kernel_rfl
  liesBuilder := by kernel_rfl
  t5 := Tryz.underlying5
  a5 := Tryz.isAgg5
  z5 := Tryz.sizeOf5
  v5 := Tryz.zeroValue5
  infoByte := by kernel_rfl
  cellsByte := by kernel_rfl
  sizeByte := by kernel_rfl
  neB5 := by decide }

theorem join_ok (A : Option Addr) (c : Nat) (xs : List ByteArray) (w : World) (hO : (ow 9 1 enStr A c xs).P w) (hne : xs ≠ []) (hN : xs.length ≤ 1000000) (hlen : (jn xs).size ≤ 1000000) :
    Calls Tryz.prog 83 #[.slice A xs.length c, .string tBl] w (fun e w' => e = .returned (.string (jn xs)) ∧ Grow w w') := by
  obtain ⟨g, rfl, hc, hg⟩ := ow_shape hO hne
  obtain ⟨a, ha, hcell⟩ := ow_cells hO (fun _ => rfl) hne
  injection ha with ha
  subst ha
  have h := Any.strings_Join lays156 Builder_Extra_156 g 0 c xs tBl w (fun j x hx => ?_) hg (by omega) hc (by
    have : (jn xs).size = (Lib.join (xs.map (·.data.toList)) tBl.data.toList).length := by
      show Array.size _ = _
      simp [Lib.join]
    omega)
  · exact h.mono fun e w' ⟨h1, h2⟩ => ⟨h1, h2⟩
  · have := hcell j x 0 (.string x) hx rfl
    unfold Addr.add at this
    simp only [Nat.mul_one, Nat.add_zero] at this
    split at this
    · rename_i h0; rw [h0]; exact this
    · simpa using this
end Go.Proofs.YtlfbghkcfmcnlaaGreatDoor
namespace Go.Proofs.YtlfbghkcfmcnlaaGreatDoor
open Go.Sx Go.RowKit
set_option maxRecDepth 20000

end Go.Proofs.YtlfbghkcfmcnlaaGreatDoor
namespace Go.Proofs.YtlfbghkcfmcnlaaGreatDoor
open Go.Sx Go.RowKit
set_option maxRecDepth 20000
set_option maxHeartbeats 1000000 in
theorem k_tok1 (x : ItemV) (b : Nat) (g : List (ByteArray × ClassV)) (w : World) (hM : (mp ekS evC b g).P w) (hbl : b < w.heap.size) (hgg : ∀ p ∈ g, GoodC w p.2) (hx : GoodI w x) (ho : OkT g x.pl) (hcn : cntT x.pl ≤ 24) (ih : ∀ p ∈ x.parts, ∀ (w1 : World), Grow w w1 → Calls Tryz.prog 57 #[.map (some b), evI p] w1 (fun e w' => ∃ A c, e = .returned (.slice A (tokT g p.pl).length c) ∧ Grow w1 w' ∧ (ow 9 1 enStr A c (tokT g p.pl)).P w' ∧ ∀ i, (ow 9 1 enStr A c (tokT g p.pl)).fp i → w1.heap.size ≤ i)) : Calls Tryz.prog 57 #[.map (some b), evI x] w (fun e w' => ∃ A c, e = .returned (.slice A (tokT g x.pl).length c) ∧ Grow w w' ∧ (ow 9 1 enStr A c (tokT g x.pl)).P w' ∧ ∀ i, (ow 9 1 enStr A c (tokT g x.pl)).fp i → w.heap.size ≤ i) := by
  have hl1 := hx.rs.len
  have hl2 := hx.rp.len
  obtain ⟨c, hgc, hsl, ht8, htn⟩ := ho.get
  rw [pl_cls] at hgc
  rw [pl_says] at hsl
  have hcl : (getL g x.cls).getD zC = c := by rw [hgc]; rfl
  have hGC : GoodC w c := by obtain ⟨p, hp, he⟩ := getL_mem hgc; rw [← he]; exact hgg p hp
  have hTl : (tokT g x.pl).length ≤ 264 := by have := tok_len x.pl ho; omega
  have hTe := tokT_eq g x.pl
  rw [pl_cls, pl_says, pl_parts, List.length_map, show traitsOf g x.cls = c.traits by unfold traitsOf; rw [hcl]] at hTe
  have hss : ∀ s ∈ x.says, s.size ≤ 16 := by have := ho.ssz; rw [pl_says] at this; exact this
  skip
  refine enter_pure (args := [.map (some b), evI x]) [mp ekS evC b g] Tryz.func57 rfl (by rw [Tryz.ntmps57]; simp) (fun f hf => by simp at hf; subst hf; exact ⟨hM, fun i hi => by have : i = b := hi; subst this; exact hbl⟩) ?_
  refine cj_seq (cj_region ?_)
  refine oj_box rfl rfl rfl (fun b3 => ?_)
  refine oj_step (y_assign rfl) rfl rfl rfl ?_
  refine oj_nil ?_
  refine ej_th (cj_seq (cj_region ?_))
  refine oj_step (y_fa0 fa26_0 rfl) rfl rfl rfl ?_
  refine oj_step (y_load1 Tryz.isAgg9 rfl rfl) rfl rfl rfl ?_
  refine oj_buildSlice (cs := [.string x.cls]) [.string ⟨#[]⟩] Tryz.underlying23 Tryz.sizeOf9 Tryz.zeroValue9 rfl rfl (by kernel_rfl) (by kernel_rfl) rfl (fun b12 => ?_)
  refine oj_litOw (b := b12) (e := 9) (c := 1) (sz := 1) (enc := enStr) [x.cls] rfl rfl rfl (by unfold maxLen; simp) ?_
  refine oj_step (y_assign rfl) rfl rfl rfl ?_
  refine oj_nil ?_
  refine ej_th (cj_seq (cj_seq ?_))
  refine cj_regionG (gj_step (y_move rfl) rfl rfl rfl (gj_step (y_fa0 fa26_0 rfl) rfl rfl rfl (gj_step (y_load1 Tryz.isAgg9 rfl rfl) rfl rfl rfl (gj_step (y_lookupS1 (ek := ekS) (ev := evC) zC Tryz.underlying73 Tryz.underlying9 Tryz.zeroValue37 rfl rfl) rfl rfl rfl (gj_step (y_field1 (cs := [.string ((getL g x.cls).getD zC).name, .slice ((getL g x.cls).getD zC).At ((getL g x.cls).getD zC).traits.length ((getL g x.cls).getD zC).ct, .slice ((getL g x.cls).getD zC).Ap ((getL g x.cls).getD zC).parts.length ((getL g x.cls).getD zC).cp, .int .i64 ((getL g x.cls).getD zC).most]) fa37_1 rfl rfl) rfl rfl rfl (gj_step (y_lenA Tryz.underlying35 rfl) rfl rfl rfl (gj_step (y_move rfl) rfl rfl rfl (gj_nil ?_))))))))
  refine ej_th (cj_block ?_)
  rw [hcl]
  refine cj_rd hGC.rt (fun _ h => h) ?_
  refine cj_rd hx.rs (fun _ h => h) ?_
  refine cj_rd hx.rp (fun _ h => h) ?_
  refine cj_lpi (X := Nat × Option Addr × Nat × List ByteArray) [(0, _), (3, _), (4, _), (17, _), (18, _)] (fun ⟨k, A1, c1, xs⟩ => k ≤ c.traits.length ∧ xs ++ (saidTok (c.traits.drop k) (x.says.drop k) ++ (tokP g true (x.parts.map ItemV.pl) ++ (if x.parts.length = 0 then ([] : List ByteArray) else [tClose]))) = tokT g x.pl) (fun ⟨k, A1, c1, xs⟩ => [(5, .slice A1 xs.length c1), (19, .int .i64 k)]) (fun ⟨k, A1, c1, xs⟩ => [ow 9 1 enStr A1 c1 xs, ownB b3 (cellsB 26 [.string x.cls, .slice x.As x.says.length x.cs, .slice x.Ap x.parts.length x.cp])]) (fun ⟨k, A1, c1, xs⟩ => [sl (fun b => b < w.heap.size) 3 encIt x.Ap x.parts, sl (fun b => b < w.heap.size) 1 enStr x.As x.says, sl (fun b => b < w.heap.size) 3 encTr c.At c.traits, mp ekS evC b g]) (fun ⟨k, A1, c1, xs⟩ => c.traits.length - k) (0, some ⟨b12, 0, none⟩, 1, [x.cls]) (⟨Nat.zero_le _, by rw [hTe]; rfl⟩) ⟨rfl, rfl, rfl, rfl, rfl, rfl, rfl, trivial⟩ ?_
  rintro ⟨k, A1, c1, xs⟩ ⟨hk, hxs⟩
  dsimp only [List.cons_append, List.nil_append]
  refine cj_seq ?_
  refine cj_regionG (gj_step (y_lss rfl rfl) rfl rfl rfl (gj_nil ?_))
  refine ej_th (cj_seq ?_)
  refine cj_cond rfl (fun h20 => ?_) (fun h20 => ?_)
  · have h20b := h20
    try simp only [sxb] at h20
    obtain ⟨t, ht⟩ : ∃ t, c.traits[k]? = some t := ⟨_, List.getElem?_eq_getElem (by omega)⟩
    obtain ⟨s, hs⟩ : ∃ s, x.says[k]? = some s := ⟨_, List.getElem?_eq_getElem (by omega)⟩
    rw [saidTok_drop _ _ k t s ht hs] at hxs
    refine cj_skip (ej_th (cj_seq (cj_block (cj_seq (cj_region ?_)))))
    refine oj_step (y_move rfl) rfl rfl rfl ?_
    refine oj_step (y_ixR (reads_sl) Tryz.underlying35 Tryz.sizeOf39 rfl rfl (⟨by omega, by omega⟩)) rfl rfl rfl ?_
    refine oj_step (y_ldW (reads_sl) Tryz.isAgg39 Tryz.sizeOf39 rfl (ht) (fun _ => rfl)) rfl rfl rfl ?_
    refine oj_alloc Tryz.zeroValue39 rfl rfl (fun b7 => ?_)
    refine oj_step (y_assign rfl) rfl rfl rfl ?_
    refine oj_store rfl rfl rfl rfl Tryz.sizeOf39 rfl ?_
    refine oj_nil ?_
    refine ej_th (cj_seq ?_)
    refine cj_regionG (gj_step (y_fa fa26_1 rfl) rfl rfl rfl (gj_step (y_load1 Tryz.isAgg23 rfl rfl) rfl rfl rfl (gj_step (y_move rfl) rfl rfl rfl (gj_step (y_ixR (reads_sl) Tryz.underlying23 Tryz.sizeOf9 rfl rfl (⟨by omega, by omega⟩)) rfl rfl rfl (gj_step (y_ld0 (reads_sl) Tryz.isAgg9 rfl (hs) rfl) rfl rfl rfl (gj_step (y_neqS rfl rfl) rfl rfl rfl (gj_nil ?_)))))))
    refine ej_th ?_
    refine cj_cond rfl (fun h29 => ?_) (fun h29 => ?_)
    · have h29b := h29
      try simp only [sxb] at h29
      rw [if_neg (show ¬ (s == (⟨#[]⟩ : ByteArray)) = true by rw [not_t h29b]; simp)] at hxs
      have hlen := congrArg List.length hxs
      simp only [List.length_append, List.length_cons] at hlen
      refine cj_plan 13 (by kernel_rfl) (by kernel_rfl) ?_
      refine pl_y 0 rfl (y_move rfl) rfl rfl rfl rfl (by kernel_rfl) ?_
      refine pl_y 1 rfl (y_fa0 fa39_0 rfl) rfl rfl rfl rfl (by kernel_rfl) ?_
      refine pl_y 2 rfl (y_load1 Tryz.isAgg9 rfl rfl) rfl rfl rfl rfl (by kernel_rfl) ?_
      refine pl_y 3 rfl (y_addS rfl rfl (by have h1s : (⟨#[61]⟩ : ByteArray).size = 1 := rfl; have := htn t (List.mem_of_getElem? ht); omega)) rfl rfl rfl rfl (by kernel_rfl) ?_
      refine pl_y 4 rfl (y_fa fa26_1 rfl) rfl rfl rfl rfl (by kernel_rfl) ?_
      refine pl_y 5 rfl (y_load1 Tryz.isAgg23 rfl rfl) rfl rfl rfl rfl (by kernel_rfl) ?_
      refine pl_y 6 rfl (y_move rfl) rfl rfl rfl rfl (by kernel_rfl) ?_
      refine pl_y 7 rfl (y_ixR (reads_sl) Tryz.underlying23 Tryz.sizeOf9 rfl rfl (⟨by omega, by omega⟩)) rfl rfl rfl rfl (by kernel_rfl) ?_
      refine pl_y 8 rfl (y_ld0 (reads_sl) Tryz.isAgg9 rfl (hs) rfl) rfl rfl rfl rfl (by kernel_rfl) ?_
      refine pl_y 9 rfl (y_addS rfl rfl (by rw [ByteArray.size_append]; have h1s : (⟨#[61]⟩ : ByteArray).size = 1 := rfl; have := htn t (List.mem_of_getElem? ht); have := hss s (List.mem_of_getElem? hs); omega)) rfl rfl rfl rfl (by kernel_rfl) ?_
      refine pl_w1 10 (by kernel_rfl) rfl rfl (pl_fire rfl rfl rfl (by kernel_rfl) ?_)
      refine oj_buildSlice (cs := [.string (t.name ++ tEq ++ s)]) [.string ⟨#[]⟩] Tryz.underlying23 Tryz.sizeOf9 Tryz.zeroValue9 rfl rfl (by kernel_rfl) (by kernel_rfl) rfl (fun b40 => ?_)
      refine oj_nil ?_
      refine ej_pl (lt_w (by kernel_rfl) (lt_y (y_ld0 (reads_sl) Tryz.isAgg9 rfl (hs) rfl) rfl (lt_y (y_ixR (reads_sl) Tryz.underlying23 Tryz.sizeOf9 rfl rfl (⟨by omega, by omega⟩)) rfl (lt_y (y_move rfl) rfl (lt_y (y_load1 Tryz.isAgg23 rfl rfl) rfl (lt_y (y_fa fa26_1 rfl) rfl (lt_y (y_addS rfl rfl (by have h1s : (⟨#[61]⟩ : ByteArray).size = 1 := rfl; have := htn t (List.mem_of_getElem? ht); omega)) rfl (lt_y (y_load1 Tryz.isAgg9 rfl rfl) rfl (lt_y (y_fa0 fa39_0 rfl) rfl (lt_y (y_move rfl) rfl (lt_nil))))))))))) ?_
      refine pl_w1 11 (by kernel_rfl) rfl rfl (pl_fire rfl rfl rfl (by kernel_rfl) ?_)
      refine oj_append  el23 (fun _ => rfl) enStr_one rfl rfl rfl (reads_lit [(t.name ++ tEq ++ s)] (fun _ => rfl) rfl) (by unfold maxLen; simp only [List.length_cons, List.length_nil]; omega) (by simp only [List.length_cons, List.length_nil]; omega) rfl (fun A41 c41 => ?_)
      refine oj_nil ?_
      refine ej_pl (lt_y (y_addS rfl rfl (by rw [ByteArray.size_append]; have h1s : (⟨#[61]⟩ : ByteArray).size = 1 := rfl; have := htn t (List.mem_of_getElem? ht); have := hss s (List.mem_of_getElem? hs); omega)) rfl (lt_y (y_ld0 (reads_sl) Tryz.isAgg9 rfl (hs) rfl) rfl (lt_y (y_ixR (reads_sl) Tryz.underlying23 Tryz.sizeOf9 rfl rfl (⟨by omega, by omega⟩)) rfl (lt_y (y_move rfl) rfl (lt_y (y_load1 Tryz.isAgg23 rfl rfl) rfl (lt_y (y_fa fa26_1 rfl) rfl (lt_y (y_addS rfl rfl (by have h1s : (⟨#[61]⟩ : ByteArray).size = 1 := rfl; have := htn t (List.mem_of_getElem? ht); omega)) rfl (lt_y (y_load1 Tryz.isAgg9 rfl rfl) rfl (lt_y (y_fa0 fa39_0 rfl) rfl (lt_w (by kernel_rfl) (lt_nil))))))))))) ?_
      refine pl_y 12 rfl (y_assign rfl) rfl rfl rfl rfl (by kernel_rfl) ?_
      refine pl_end (by kernel_rfl) ?_
      refine ej_blk (ej_th ?_)
      refine cj_regionG (gj_step (y_add rfl rfl (by omega)) rfl rfl rfl (gj_step (y_move rfl) rfl rfl rfl (gj_nil ?_)))
      exact ej_nx (k + 1, A41, c41, xs ++ [t.name ++ tEq ++ s]) (by simp only; omega) ⟨by first | omega | (simp only; omega), by rw [List.append_assoc]; exact hxs⟩ ⟨rfl, rfl, rfl, rfl, rfl, rfl, rfl, trivial⟩
    · have h29b := h29
      try simp only [sxb] at h29
      rw [if_pos (not_f h29b)] at hxs
      refine cj_skip (ej_blk (ej_th ?_))
      refine cj_regionG (gj_step (y_add rfl rfl (by omega)) rfl rfl rfl (gj_step (y_move rfl) rfl rfl rfl (gj_nil ?_)))
      exact ej_nx (k + 1, A1, c1, xs) (by simp only; omega) ⟨by first | omega | (simp only; omega), hxs⟩ ⟨rfl, rfl, rfl, rfl, rfl, rfl, rfl, trivial⟩
  · have h20b := h20
    try simp only [sxb] at h20
    rw [List.drop_of_length_le (show c.traits.length ≤ k by omega)] at hxs
    refine cj_exit (ej_then_exit (ej_then_exit (ej_blk_hit (ej_th (cj_seq (cj_seq ?_))))))
    refine cj_regionG (gj_step (y_fa fa26_2 rfl) rfl rfl rfl (gj_step (y_load1 Tryz.isAgg24 rfl rfl) rfl rfl rfl (gj_step (y_lenA Tryz.underlying24 rfl) rfl rfl rfl (gj_step (y_move rfl) rfl rfl rfl (gj_nil ?_)))))
    refine ej_th (cj_block ?_)
    refine cj_lpi (X := Nat × Option Addr × Nat × List ByteArray) [(0, _), (3, _), (4, _), (44, _), (45, _)] (fun ⟨k, A1, c1, xs⟩ => k ≤ x.parts.length ∧ xs ++ (tokP g (decide (k = 0)) ((x.parts.map ItemV.pl).drop k) ++ (if x.parts.length = 0 then ([] : List ByteArray) else [tClose])) = tokT g x.pl) (fun ⟨k, A1, c1, xs⟩ => [(5, .slice A1 xs.length c1), (46, .int .i64 k)]) (fun ⟨k, A1, c1, xs⟩ => [ow 9 1 enStr A1 c1 xs, ownB b3 (cellsB 26 [.string x.cls, .slice x.As x.says.length x.cs, .slice x.Ap x.parts.length x.cp])]) (fun ⟨k, A1, c1, xs⟩ => [sl (fun b => b < w.heap.size) 3 encIt x.Ap x.parts, sl (fun b => b < w.heap.size) 1 enStr x.As x.says, sl (fun b => b < w.heap.size) 3 encTr c.At c.traits, mp ekS evC b g]) (fun ⟨k, A1, c1, xs⟩ => x.parts.length - k) (0, A1, c1, xs) (⟨Nat.zero_le _, by rw [← hxs]; rfl⟩) ⟨rfl, rfl, rfl, rfl, rfl, rfl, rfl, trivial⟩ ?_
    rintro ⟨k, A1, c1, xs⟩ ⟨hk, hxs⟩
    dsimp only [List.cons_append, List.nil_append]
    refine cj_seq ?_
    refine cj_regionG (gj_step (y_lss rfl rfl) rfl rfl rfl (gj_nil ?_))
    refine ej_th (cj_seq ?_)
    refine cj_cond rfl (fun h47 => ?_) (fun h47 => ?_)
    · have h47b := h47
      try simp only [sxb] at h47
      obtain ⟨q, hq⟩ : ∃ q, x.parts[k]? = some q := ⟨_, List.getElem?_eq_getElem (by omega)⟩
      rw [tokP_drop g (x.parts.map ItemV.pl) k q.pl (by rw [List.getElem?_map, hq]; rfl)] at hxs
      have hsep : ([tOpen, tSemi] : List ByteArray)[(min (k : Int) 1).toNat]? = some (if k = 0 then tOpen else tSemi) := by
        by_cases h0 : k = 0
        · subst h0; rfl
        · rw [if_neg h0, show (min (k : Int) 1).toNat = 1 by omega]; rfl
      have hlen := congrArg List.length hxs
      simp only [List.length_append, List.length_cons] at hlen
      refine cj_skip (ej_th (cj_seq (cj_block (cj_seq (cj_region ?_)))))
      refine oj_step (y_move rfl) rfl rfl rfl ?_
      refine oj_step (y_ixR (reads_sl) Tryz.underlying24 Tryz.sizeOf26 rfl rfl (⟨by omega, by omega⟩)) rfl rfl rfl ?_
      refine oj_step (y_ldW (reads_sl) Tryz.isAgg26 Tryz.sizeOf26 rfl (hq) (fun _ => rfl)) rfl rfl rfl ?_
      refine oj_alloc Tryz.zeroValue26 rfl rfl (fun b9 => ?_)
      refine oj_step (y_assign rfl) rfl rfl rfl ?_
      refine oj_store rfl rfl rfl rfl Tryz.sizeOf26 rfl ?_
      refine oj_nil ?_
      refine ej_th (cj_seq (cj_region ?_))
      refine oj_step (y_move rfl) rfl rfl rfl ?_
      refine oj_buildSlice (cs := [.string ⟨#[40]⟩, .string ⟨#[59]⟩]) [.string ⟨#[]⟩, .string ⟨#[]⟩] Tryz.underlying23 Tryz.sizeOf9 Tryz.zeroValue9 rfl rfl (by kernel_rfl) (by kernel_rfl) rfl (fun b52 => ?_)
      refine oj_step (y_move rfl) rfl rfl rfl ?_
      refine oj_step (y_min rfl rfl) rfl rfl rfl ?_
      refine oj_step (y_ixR (reads_lit (enc := enStr) (sz := 1) [tOpen, tSemi] (fun _ => rfl) rfl) Tryz.underlying23 Tryz.sizeOf9 rfl rfl (⟨by omega, by simp only [List.length_cons, List.length_nil]; omega⟩)) rfl rfl rfl ?_
      refine oj_step (y_ld0 (reads_lit (enc := enStr) (sz := 1) [tOpen, tSemi] (fun _ => rfl) rfl) Tryz.isAgg9 rfl (hsep) rfl) rfl rfl rfl ?_
      refine oj_buildSlice (cs := [.string (if k = 0 then tOpen else tSemi)]) [.string ⟨#[]⟩] Tryz.underlying23 Tryz.sizeOf9 Tryz.zeroValue9 rfl rfl (by kernel_rfl) (by kernel_rfl) rfl (fun b57 => ?_)
      refine oj_append  el23 (fun _ => rfl) enStr_one rfl rfl rfl (reads_lit [(if k = 0 then tOpen else tSemi)] (fun _ => rfl) rfl) (by unfold maxLen; simp only [List.length_cons, List.length_nil]; omega) (by simp only [List.length_cons, List.length_nil]; omega) rfl (fun A58 c58 => ?_)
      refine oj_step (y_assign rfl) rfl rfl rfl ?_
      refine oj_nil ?_
      refine ej_th (cj_region ?_)
      refine oj_step (y_move rfl) rfl rfl rfl ?_
      refine oj_step (y_move rfl) rfl rfl rfl ?_
      refine oj_step (y_loadN Tryz.isAgg26 Tryz.sizeOf26 rfl) rfl rfl rfl ?_
      refine oj_callO (fun A c => .slice A (tokT g q.pl).length c) 9 1 enStr (tokT g q.pl) Tryz.call57 rfl (fun w1 hp => by have h := ih q (List.mem_of_getElem? hq) w1 hp.below; exact h) rfl (fun A62 c62 => ?_)
      refine oj_append  el23 (fun _ => rfl) enStr_one rfl rfl rfl (reads_ow (fun _ => rfl)) (by unfold maxLen; simp only [List.length_append, List.length_cons, List.length_nil]; omega) (by simp only [List.length_append, List.length_cons, List.length_nil]; omega) rfl (fun A63 c63 => ?_)
      refine oj_step (y_assign rfl) rfl rfl rfl ?_
      refine oj_nil ?_
      refine ej_blk (ej_th ?_)
      refine cj_regionG (gj_step (y_add rfl rfl (by omega)) rfl rfl rfl (gj_step (y_move rfl) rfl rfl rfl (gj_nil ?_)))
      exact ej_nx (k + 1, A63, c63, (xs ++ [if k = 0 then tOpen else tSemi]) ++ tokT g q.pl) (by simp only; omega) ⟨by first | omega | (simp only; omega), by rw [← hxs]; simp only [List.append_assoc, List.cons_append, List.nil_append]⟩ ⟨rfl, rfl, rfl, rfl, rfl, rfl, rfl, trivial⟩
    · have h47b := h47
      try simp only [sxb] at h47
      rw [List.drop_of_length_le (show (x.parts.map ItemV.pl).length ≤ k by rw [List.length_map]; omega), tokP, List.nil_append] at hxs
      refine cj_exit (ej_then_exit (ej_then_exit (ej_blk_hit (ej_th (cj_seq (cj_seq ?_))))))
      refine cj_regionG (gj_step (y_fa fa26_2 rfl) rfl rfl rfl (gj_step (y_load1 Tryz.isAgg24 rfl rfl) rfl rfl rfl (gj_step (y_lenA Tryz.underlying24 rfl) rfl rfl rfl (gj_step (y_gtr rfl rfl) rfl rfl rfl (gj_nil ?_)))))
      refine ej_th ?_
      refine cj_cond rfl (fun h68 => ?_) (fun h68 => ?_)
      · have h68b := h68
        try simp only [sxb] at h68
        rw [if_neg (show ¬ x.parts.length = 0 by omega)] at hxs
        have hlen := congrArg List.length hxs
        simp only [List.length_append, List.length_cons] at hlen
        refine cj_region ?_
        refine oj_step (y_move rfl) rfl rfl rfl ?_
        refine oj_buildSlice (cs := [.string ⟨#[41]⟩]) [.string ⟨#[]⟩] Tryz.underlying23 Tryz.sizeOf9 Tryz.zeroValue9 rfl rfl (by kernel_rfl) (by kernel_rfl) rfl (fun b70 => ?_)
        refine oj_append  el23 (fun _ => rfl) enStr_one rfl rfl rfl (reads_lit [tClose] (fun _ => rfl) rfl) (by unfold maxLen; simp only [List.length_cons, List.length_nil]; omega) (by simp only [List.length_cons, List.length_nil]; omega) rfl (fun A71 c71 => ?_)
        refine oj_step (y_assign rfl) rfl rfl rfl ?_
        refine oj_nil ?_
        refine ej_th (cj_seq ?_)
        refine cj_regionG (gj_step (y_move rfl) rfl rfl rfl (gj_step (y_assign rfl) rfl rfl rfl (gj_nil ?_)))
        refine ej_th (cj_ret ?_)
        exact ej_ret1 rfl Tryz.results57 rfl (fun w' hp => ⟨A71, c71, by rw [← hxs], hp.below, by rw [← hxs]; exact hp.resO⟩)
      · have h68b := h68
        try simp only [sxb] at h68
        rw [if_pos (show x.parts.length = 0 by omega), List.append_nil] at hxs
        refine cj_skip (ej_th (cj_seq ?_))
        refine cj_regionG (gj_step (y_move rfl) rfl rfl rfl (gj_step (y_assign rfl) rfl rfl rfl (gj_nil ?_)))
        refine ej_th (cj_ret ?_)
        exact ej_ret1 rfl Tryz.results57 rfl (fun w' hp => ⟨A1, c1, by rw [← hxs], hp.below, by rw [← hxs]; exact hp.resO⟩)

theorem k_tok {w0 : World} {b : Nat} {g : List (ByteArray × ClassV)} {x : ItemV} (hx : GoodI w0 x) : ∀ (w : World), Grow w0 w → (mp ekS evC b g).P w → b < w.heap.size → (∀ p ∈ g, GoodC w p.2) → OkT g x.pl → cntT x.pl ≤ 24 → Calls Tryz.prog 57 #[.map (some b), evI x] w (fun e w' => ∃ A c, e = .returned (.slice A (tokT g x.pl).length c) ∧ Grow w w' ∧ (ow 9 1 enStr A c (tokT g x.pl)).P w' ∧ ∀ i, (ow 9 1 enStr A c (tokT g x.pl)).fp i → w.heap.size ≤ i) := by
  induction hx with
  | @mk x hs hp hn hm hr ih =>
    intro w hg hM hbl hgg ho hc
    refine k_tok1 x b g w hM hbl hgg ((GoodI.mk hs hp hn hm hr).mono hg) ho hc (fun p hpm w1 hg1 => ?_)
    have hpo : p.pl ∈ x.pl.parts := by rw [pl_parts]; exact List.mem_map.2 ⟨p, hpm, rfl⟩
    have hcp : cntT p.pl ≤ 24 := by have h1 := cntL_mem _ _ hpo; have h2 := cntT_eq x.pl; omega
    exact ih p hpm w1 (grow_trans hg hg1) ((mp ekS evC b g).stab (fun i hi => hg1.block i (by have : i = b := hi; omega)) hM) (Nat.lt_of_lt_of_le hbl hg1.size) (fun q hq => (hgg q hq).mono hg1) (ho.pt _ hpo) hcp

theorem k_joined (A : Option Addr) (c : Nat) (xs : List ByteArray) (w : World) (hO : (ow 9 1 enStr A c xs).P w) (hne : xs ≠ []) (hN : xs.length ≤ 1000000) (hlen : (jn xs).size ≤ 1000000) : Calls Tryz.prog 56 #[.slice A xs.length c] w (fun e w' => e = .returned (.string (jn xs)) ∧ Grow w w') := by
  refine enter_pure (args := [.slice A xs.length c]) [ow 9 1 enStr A c xs] Tryz.func56 rfl (by rw [Tryz.ntmps56]; simp) (fun g hg => by simp at hg; subst hg; exact ⟨hO, ow_lt hO hne⟩) ?_
  refine cj_seq ?_
  refine cj_regionG (gj_step (y_assign rfl) rfl rfl rfl (gj_nil ?_))
  refine ej_th (cj_seq ?_)
  refine cj_regionG ?_
  refine gj_step (y_move rfl) rfl rfl rfl (?_)
  refine gj_step (y_call Tryz.call83 rfl (fun w hp => join_ok A c xs w (hp.shared _ (List.mem_singleton.2 rfl)).1 hne hN hlen)) rfl rfl rfl ?_
  refine gj_step (y_assign rfl) rfl rfl rfl (?_)
  refine gj_nil ?_
  refine ej_th (cj_ret ?_)
  exact ej_ret1 rfl Tryz.results56 rfl (fun w' hp => ⟨rfl, hp.below⟩)

theorem k_text (x : ItemV) (b : Nat) (g : List (ByteArray × ClassV)) (w : World) (hM : (mp ekS evC b g).P w) (hbl : b < w.heap.size) (hgg : ∀ p ∈ g, GoodC w p.2) (hx : GoodI w x) (ho : OkT g x.pl) (hcn : cntT x.pl ≤ 24) : Calls Tryz.prog 28 #[.map (some b), evI x] w (fun e w' => e = .returned (.string (txtT g x.pl)) ∧ Grow w w') := by
  have hTl : (tokT g x.pl).length ≤ 264 := by have := tok_len x.pl ho; omega
  have hTs := txt_size ho hcn
  refine enter_pure (args := [.map (some b), evI x]) [mp ekS evC b g] Tryz.func28 rfl (by rw [Tryz.ntmps28]; simp) (fun f hf => by simp at hf; subst hf; exact ⟨hM, fun i hi => by have : i = b := hi; subst this; exact hbl⟩) ?_
  refine cj_seq (cj_region ?_)
  refine oj_box rfl rfl rfl (fun b3 => ?_)
  refine oj_step (y_assign rfl) rfl rfl rfl ?_
  refine oj_nil ?_
  refine ej_th (cj_seq (cj_region ?_))
  refine oj_step (y_move rfl) rfl rfl rfl ?_
  refine oj_step (y_loadN Tryz.isAgg26 Tryz.sizeOf26 rfl) rfl rfl rfl ?_
  refine oj_callO (fun A c => .slice A (tokT g x.pl).length c) 9 1 enStr (tokT g x.pl) Tryz.call57 rfl (fun w1 hp => by have h := k_tok hx w1 hp.below hp.mpS.1 (hp.mpS (b := b) (ek := ekS) (ev := evC) (l := g)).2 (fun q hq => (hgg q hq).mono hp.below) ho hcn; exact h) rfl (fun A7 c7 => ?_)
  refine oj_step (y_call Tryz.call56 rfl (fun w hp => k_joined A7 c7 (tokT g x.pl) w (hp.own _ (List.mem_cons_self ..)).1 (tok_ne g x.pl) (by omega) (by unfold txtT at hTs; omega))) rfl rfl rfl ?_
  refine oj_step (y_assign rfl) rfl rfl rfl ?_
  refine oj_nil ?_
  refine ej_th (cj_ret ?_)
  exact ej_ret1 rfl Tryz.results28 rfl (fun w' hp => ⟨rfl, hp.below⟩)

end Go.Proofs.YtlfbghkcfmcnlaaGreatDoor
namespace Go.Proofs.YtlfbghkcfmcnlaaGreatDoor
open Go.Sx Go.RowKit
set_option maxRecDepth 20000

end Go.Proofs.YtlfbghkcfmcnlaaGreatDoor
namespace Go.Proofs.YtlfbghkcfmcnlaaGreatDoor
open Go.Sx Go.RowKit
set_option maxRecDepth 20000
theorem memD {ys : List ItemV} {i : Nat} (h : i < ys.length) : ys.getD i default ∈ ys := by
  rw [List.getD_eq_getElem?_getD, List.getElem?_eq_getElem h]; exact List.getElem_mem _

theorem k_nanS (s : ByteArray) (w : World)  : Calls Tryz.prog 106 #[.string s] w (fun e w' => e = .returned (.bool false) ∧ Grow w w') := by
  refine enter_pure (args := [.string s]) [] Tryz.func106 rfl (by rw [Tryz.ntmps106]; simp) (by simp) ?_
  refine cj_seq ?_
  refine cj_regionG (gj_step (y_assign rfl) rfl rfl rfl (gj_nil ?_))
  refine ej_th (cj_seq ?_)
  refine cj_regionG (gj_step (y_move rfl) rfl rfl rfl (gj_step (y_move rfl) rfl rfl rfl (gj_step (y_neqS rfl rfl) rfl rfl rfl (gj_step (y_assign rfl) rfl rfl rfl (gj_nil ?_)))))
  refine ej_th (cj_ret ?_)
  refine ej_ret1 rfl Tryz.results106 rfl (fun w' hp => ⟨?_, hp.below⟩)
  rw [bytes_beq]; simp

theorem k_CmpS (s t : ByteArray) (w : World)  : Calls Tryz.prog 94 #[.string s, .string t] w (fun e w' => e = .returned (.int .i64 (cmpS s t)) ∧ Grow w w') := by
  refine enter_pure (args := [.string s, .string t]) [] Tryz.func94 rfl (by rw [Tryz.ntmps94]; simp) (by simp) ?_
  refine cj_seq ?_
  refine cj_regionG (gj_step (y_assign rfl) rfl rfl rfl (gj_nil ?_))
  refine ej_th (cj_seq ?_)
  refine cj_regionG ?_
  refine gj_step (y_move rfl) rfl rfl rfl (?_)
  refine gj_step (y_call Tryz.call106 rfl (fun w hp => k_nanS _ w)) rfl rfl rfl ?_
  refine gj_step (y_assign rfl) rfl rfl rfl (?_)
  refine gj_nil ?_
  refine ej_th (cj_seq ?_)
  refine cj_regionG ?_
  refine gj_step (y_move rfl) rfl rfl rfl (?_)
  refine gj_step (y_call Tryz.call106 rfl (fun w hp => k_nanS _ w)) rfl rfl rfl ?_
  refine gj_step (y_assign rfl) rfl rfl rfl (?_)
  refine gj_nil ?_
  refine ej_th (cj_seq (cj_seq ?_))
  refine cj_regionG (gj_step (y_move rfl) rfl rfl rfl (gj_nil ?_))
  refine ej_th ?_
  refine cj_cond rfl (fun h11 => ?_) (fun h11 => ?_)
  · cases h11
  · have h11b := h11
    try simp only [sxb] at h11
    refine cj_skip (ej_th (cj_seq (cj_seq ?_)))
    refine cj_regionG (gj_step (y_move rfl) rfl rfl rfl (gj_nil ?_))
    refine ej_th ?_
    refine cj_cond rfl (fun h13 => ?_) (fun h13 => ?_)
    · have h13b := h13
      try simp only [sxb] at h13
      refine cj_seq ?_
      refine cj_regionG (gj_step (y_assign rfl) rfl rfl rfl (gj_nil ?_))
      refine ej_th (cj_ret (ej_then_ret ?_))
      cases h13
    · have h13b := h13
      try simp only [sxb] at h13
      refine cj_skip (ej_th (cj_seq (cj_seq ?_)))
      refine cj_regionG (gj_step (y_move rfl) rfl rfl rfl (gj_step (y_move rfl) rfl rfl rfl (gj_step (y_lssS rfl rfl) rfl rfl rfl (gj_nil ?_))))
      refine ej_th ?_
      refine cj_cond rfl (fun h16 => ?_) (fun h16 => ?_)
      · have h16b := h16
        try simp only [sxb] at h16
        refine cj_seq ?_
        refine cj_regionG (gj_step (y_assign rfl) rfl rfl rfl (gj_nil ?_))
        refine ej_th (cj_ret (ej_then_ret ?_))
        refine ej_ret1 rfl Tryz.results94 rfl (fun w' hp => ⟨?_, hp.below⟩)
        rw [cmpS, if_pos h16b]
      · have h16b := h16
        try simp only [sxb] at h16
        refine cj_skip (ej_th (cj_seq (cj_seq ?_)))
        refine cj_regionG (gj_step (y_move rfl) rfl rfl rfl (gj_step (y_move rfl) rfl rfl rfl (gj_step (y_gtrS rfl rfl) rfl rfl rfl (gj_nil ?_))))
        refine ej_th ?_
        refine cj_cond rfl (fun h19 => ?_) (fun h19 => ?_)
        · have h19b := h19
          try simp only [sxb] at h19
          refine cj_seq ?_
          refine cj_regionG (gj_step (y_assign rfl) rfl rfl rfl (gj_nil ?_))
          refine ej_th (cj_ret (ej_then_ret ?_))
          refine ej_ret1 rfl Tryz.results94 rfl (fun w' hp => ⟨?_, hp.below⟩)
          rw [cmpS, if_neg (by simp [h16b]), if_pos h19b]
        · have h19b := h19
          try simp only [sxb] at h19
          refine cj_skip (ej_th (cj_seq ?_))
          refine cj_regionG (gj_step (y_assign rfl) rfl rfl rfl (gj_nil ?_))
          refine ej_th (cj_ret ?_)
          refine ej_ret1 rfl Tryz.results94 rfl (fun w' hp => ⟨?_, hp.below⟩)
          rw [cmpS, if_neg (by simp [h16b]), if_neg (by rw [h19b]; simp)]

theorem k_cmpcl (p q : ItemV) (b m : Nat) (g : List (ByteArray × ClassV)) (w : World) (hb : (ownB b (cellsB 73 [.map (some m)])).P w) (hM : (mp ekS evC m g).P w) (hbl : m < w.heap.size) (hgg : ∀ p ∈ g, GoodC w p.2) (hp0 : GoodI w p) (hq0 : GoodI w q) (hsp : SortI g p) (hsq : SortI g q) : Calls Tryz.prog 93 #[evI p, evI q, .pointer (some ⟨b, 0, none⟩)] w (fun e w' => e = .returned (.int .i64 (cmpS (txtT g p.pl) (txtT g q.pl))) ∧ Grow w w') := by
  refine enter_pure (args := [evI p, evI q, .pointer (some ⟨b, 0, none⟩)]) [ownB b (cellsB 73 [.map (some m)]), mp ekS evC m g] Tryz.func93 rfl (by rw [Tryz.ntmps93]; simp) (fun f hf => by simp only [List.mem_cons, List.mem_nil_iff, or_false] at hf; rcases hf with rfl | rfl; exact ⟨hb, fun i hi => by have : i = b := hi; subst this; exact (Array.getElem?_eq_some_iff.1 hb).1⟩; exact ⟨hM, fun i hi => by have : i = m := hi; subst this; exact hbl⟩) ?_
  refine cj_seq (cj_region ?_)
  refine oj_box rfl rfl rfl (fun b3 => ?_)
  refine oj_box rfl rfl rfl (fun b4 => ?_)
  refine oj_step (y_assign rfl) rfl rfl rfl ?_
  refine oj_nil ?_
  refine ej_th (cj_seq ?_)
  refine cj_draw (by kernel_rfl) (by kernel_rfl) ?_
  refine gj_step (y_loadS1 Tryz.isAgg73 rfl rfl) rfl rfl rfl (gj_step (y_loadN Tryz.isAgg26 Tryz.sizeOf26 rfl) rfl rfl rfl (?_))
  refine gj_step (y_call Tryz.call28 rfl (fun w hp => k_text p m g w hp.mpS.1 (hp.mpS (b := m) (ek := ekS) (ev := evC) (l := g)).2 (fun r hr => (hgg r hr).mono hp.below) (hp0.mono hp.below) hsp.ok hsp.cnt)) rfl rfl rfl ?_
  refine gj_step (y_loadS1 Tryz.isAgg73 rfl rfl) rfl rfl rfl (gj_step (y_loadN Tryz.isAgg26 Tryz.sizeOf26 rfl) rfl rfl rfl (?_))
  refine gj_step (y_call Tryz.call28 rfl (fun w hp => k_text q m g w hp.mpS.1 (hp.mpS (b := m) (ek := ekS) (ev := evC) (l := g)).2 (fun r hr => (hgg r hr).mono hp.below) (hq0.mono hp.below) hsq.ok hsq.cnt)) rfl rfl rfl ?_
  refine gj_step (y_call Tryz.call94 rfl (fun w hp => k_CmpS _ _ w)) rfl rfl rfl ?_
  refine gj_step (y_assign rfl) rfl rfl rfl (?_)
  refine gj_nil ?_
  refine ej_th (cj_ret ?_)
  exact ej_ret1 rfl Tryz.results93 rfl (fun w' hp => ⟨rfl, hp.below⟩)

set_option maxHeartbeats 1000000 in
theorem k_insort (l : List ItemV) (A : Option Addr) (cap : Nat) (b m : Nat) (g : List (ByteArray × ClassV)) (hn6 : l.length ≤ 6) (w : World) (hO : (ow 26 3 encIt A cap (l)).P w) (hlt : ∀ i, (ow 26 3 encIt A cap (l)).fp i → i < w.heap.size) (w0 : World) (hw0 : Grow w0 w) (hgg : ∀ p ∈ g, GoodC w0 p.2) (hw0f : ∀ i, (ow 26 3 encIt A cap (l)).fp i → w0.heap.size ≤ i) (fp : Nat → Prop) (hit : (itF fp l).P w) (hfp : ∀ i, fp i → i < w.heap.size ∧ ¬ (ow 26 3 encIt A cap (l)).fp i) (hb : (ownB b (cellsB 73 [.map (some m)])).P w) (hbn : ¬ (ow 26 3 encIt A cap (l)).fp b) (hM : (mp ekS evC m g).P w) (hbl : m < w.heap.size) (hmn : ¬ (ow 26 3 encIt A cap (l)).fp m) (hso : ∀ x ∈ l, SortI g x) : Calls Tryz.prog 113 #[.slice A l.length cap, .int .i64 0, .int .i64 l.length, .func (.func 93) #[] #[.pointer (some ⟨b, 0, none⟩)]] w (fun e w' => e = .returned (.tuple #[]) ∧ Mut (ow 26 3 encIt A cap (l)) w w' ∧ (ow 26 3 encIt A cap (isort (ltV g) [] l)).P w') := by
  have hF : ∀ j, j < w0.heap.size → j < w.heap.size ∧ ¬ (ow 26 3 encIt A cap l).fp j := fun j h => ⟨Nat.lt_of_lt_of_le h hw0.size, fun e => by have := hw0f j e; omega⟩
  refine enter_ow (args := [.slice A l.length cap, .int .i64 0, .int .i64 l.length, .func (.func 93) #[] #[.pointer (some ⟨b, 0, none⟩)]]) [ownB b (cellsB 73 [.map (some m)]), mp ekS evC m g, itF fp l] Tryz.func113 rfl (by rw [Tryz.ntmps113]; simp) hO hlt (fun f hf => by simp only [List.mem_cons, List.mem_nil_iff, or_false] at hf; rcases hf with rfl | rfl | rfl; exact ⟨hb, fun i hi => by have : i = b := hi; subst this; exact ⟨(Array.getElem?_eq_some_iff.1 hb).1, hbn⟩⟩; exact ⟨hM, fun i hi => by have : i = m := hi; subst this; exact ⟨hbl, hmn⟩⟩; exact ⟨hit, hfp⟩) ?_
  refine cj_seq ?_
  refine cj_regionG (gj_step (y_move rfl) rfl rfl rfl (gj_step (y_add rfl rfl (by omega)) rfl rfl rfl (gj_step (y_assign rfl) rfl rfl rfl (gj_nil ?_))))
  refine ej_th (cj_block ?_)
  refine cj_lpi (X := Nat × List ItemV) [(0, _), (1, _), (2, _), (3, _)] (fun ⟨i, xs⟩ => 1 ≤ i ∧ xs = isort (ltV g) [] (l.take i) ++ l.drop i) (fun ⟨i, xs⟩ => [(8, .int .i64 i)]) (fun ⟨i, xs⟩ => [ow 26 3 encIt A cap xs]) (fun ⟨i, xs⟩ => [ownB b (cellsB 73 [.map (some m)]), mp ekS evC m g, itF fp l]) (fun ⟨i, xs⟩ => l.length - i) (1, l) (⟨Nat.le_refl _, by cases l <;> rfl⟩) ⟨rfl, rfl, rfl, rfl, rfl, trivial⟩ ?_
  rintro ⟨i, xs⟩ ⟨hi, hxs⟩
  dsimp only [List.cons_append, List.nil_append]
  refine cj_seq (cj_seq ?_)
  refine cj_regionG (gj_step (y_move rfl) rfl rfl rfl (gj_step (y_move rfl) rfl rfl rfl (gj_step (y_lss rfl rfl) rfl rfl rfl (gj_nil ?_))))
  refine ej_th ?_
  refine cj_cond rfl (fun h14 => ?_) (fun h14 => ?_)
  · have h14b := h14
    try simp only [sxb] at h14
    obtain ⟨x, hx⟩ : ∃ x, l[i]? = some x := ⟨_, List.getElem?_eq_getElem (by omega)⟩
    obtain ⟨P, hP⟩ : ∃ P, P = isort (ltV g) [] (l.take i) := ⟨_, rfl⟩
    rw [← hP] at hxs
    have hPl : P.length = i := by rw [hP, isort_len]; simp only [List.length_take, List.length_nil]; omega
    have hPm : ∀ u ∈ P, u ∈ l := fun u hu => by
      rw [hP, isort_mem] at hu
      rcases hu with hu | hu
      · cases hu
      · exact List.mem_of_mem_take hu
    have hxs2 : xs = P.take i ++ x :: (P.drop i ++ l.drop (i + 1)) := by
      obtain ⟨h1, h2⟩ := List.getElem?_eq_some_iff.1 hx
      have hd : P.drop i = [] := List.drop_of_length_le (by omega)
      have ht : P.take i = P := List.take_of_length_le (by omega)
      rw [hxs, List.drop_eq_getElem_cons h1, h2, hd, ht]; rfl
    have hml : ∀ {j : Nat} (u : ItemV), u ∈ P.take j ++ x :: (P.drop j ++ l.drop (i + 1)) → u ∈ l := by
      intro j u hu
      rw [List.mem_append, List.mem_cons, List.mem_append] at hu
      rcases hu with hu | rfl | hu | hu
      · exact hPm u (List.mem_of_mem_take hu)
      · exact List.mem_of_getElem? hx
      · exact hPm u (List.mem_of_mem_drop hu)
      · exact List.mem_of_mem_drop hu
    have hxl : xs.length = l.length := by rw [hxs2, mid_len P _ x i (by omega)]; simp only [List.length_drop]; omega
    rw [← hxl]
    refine cj_skip (ej_th (cj_seq (cj_block (cj_seq ?_))))
    refine cj_regionG (gj_step (y_move rfl) rfl rfl rfl (gj_step (y_assign rfl) rfl rfl rfl (gj_nil ?_)))
    refine ej_th (cj_block ?_)
    refine cj_lpi (X := Nat × List ItemV) [(8, _), (0, _), (1, _), (2, _), (3, _)] (fun ⟨j, ys⟩ => j ≤ i ∧ ys = P.take j ++ x :: (P.drop j ++ l.drop (i + 1)) ∧ insAt (ltV g) P x j = insAt (ltV g) P x i) (fun ⟨j, ys⟩ => [(9, .int .i64 j)]) (fun ⟨j, ys⟩ => [ow 26 3 encIt A cap ys]) (fun ⟨j, ys⟩ => [ownB b (cellsB 73 [.map (some m)]), mp ekS evC m g, itF fp l]) (fun ⟨j, ys⟩ => j) (i, xs) (⟨Nat.le_refl _, hxs2, rfl⟩) ⟨rfl, rfl, rfl, rfl, rfl, rfl, trivial⟩ ?_
    rintro ⟨j, ys⟩ ⟨hj, hye, hin⟩
    dsimp only [List.cons_append, List.nil_append]
    have hyl : ys.length = l.length := by rw [hye, mid_len P _ x j (by omega)]; simp only [List.length_drop]; omega
    have hys : ∀ u ∈ ys, u ∈ l := fun u hu => hml u (by rw [hye] at hu; exact hu)
    have hAn : A ≠ none := by obtain ⟨g0, h0, _⟩ := ow_shape hO (by rintro rfl; simp at hx); rw [h0]; simp
    have hyx : xs.length = ys.length := hxl.trans hyl.symm
    rw [hyx]
    refine cj_seq (cj_seq ?_)
    refine cj_draw (by kernel_rfl) (by kernel_rfl) ?_
    refine gj_step (y_move rfl) rfl rfl rfl (gj_step (y_move rfl) rfl rfl rfl (gj_step (y_gtr rfl rfl) rfl rfl rfl (gj_step (y_move rfl) rfl rfl rfl (?_))))
    refine gj_g 12 21 33 rfl rfl rfl rfl (fun hg21 => gj_yes rfl rfl rfl (y_move rfl) rfl rfl (gj_yes rfl rfl rfl (y_move rfl) rfl rfl (gj_yes rfl rfl rfl (y_move rfl) rfl rfl (gj_yes rfl rfl rfl (y_ixR (reads_ow encIt_len) Tryz.underlying24 Tryz.sizeOf26 rfl rfl (⟨by have := hg21; simp only [sxb] at this; omega, by have := hg21; simp only [sxb] at this; omega⟩)) rfl rfl (gj_yes rfl rfl rfl (y_ldW (reads_ow encIt_len) Tryz.isAgg26 Tryz.sizeOf26 rfl (geq default (by have := hg21; simp only [sxb] at this; omega)) (fun _ => rfl)) rfl rfl (gj_yes rfl rfl rfl (y_move rfl) rfl rfl (gj_yes rfl rfl rfl (y_move rfl) rfl rfl (gj_yes rfl rfl rfl (y_sub rfl rfl (by omega)) rfl rfl (gj_yes rfl rfl rfl (y_ixR (reads_ow encIt_len) Tryz.underlying24 Tryz.sizeOf26 rfl rfl (⟨by have := hg21; simp only [sxb] at this; omega, by have := hg21; simp only [sxb] at this; omega⟩)) rfl rfl (gj_yes rfl rfl rfl (y_ldW (reads_ow encIt_len) Tryz.isAgg26 Tryz.sizeOf26 rfl (geq default (by have := hg21; simp only [sxb] at this; omega)) (fun _ => rfl)) rfl rfl (gj_yes rfl rfl rfl (y_callV Tryz.call93 rfl rfl (fun w hp => by
      have hj0 := hg21
      simp only [sxb] at hj0
      exact k_cmpcl _ _ b m g w hp.bs hp.mpS.1 (hp.mpS (b := m) (ek := ekS) (ev := evC) (l := g)).2 (fun r hr => (hgg r hr).mono (hp.grow0 hw0 hF)) (it_good hp (.tail _ (.tail _ (.head _))) _ (hys _ (memD (by omega)))) (it_good hp (.tail _ (.tail _ (.head _))) _ (hys _ (memD (by omega)))) (hso _ (hys _ (memD (by omega)))) (hso _ (hys _ (memD (by omega)))))) rfl rfl (gj_yes rfl rfl rfl (y_lss rfl rfl) rfl rfl (gj_nil rfl))))))))))))) ?_
    refine gj_step (y_and rfl rfl rfl) rfl rfl rfl (?_)
    refine gj_nil ?_
    refine ej_th ?_
    refine cj_cond rfl (fun h34 => ?_) (fun h34 => ?_)
    · have h34b := h34
      try simp only [sxb] at h34
      rw [Bool.and_eq_true, decide_eq_true_eq] at h34b
      obtain ⟨q, rfl⟩ : ∃ q, j = q + 1 := ⟨j - 1, by omega⟩
      obtain ⟨y, hy⟩ : ∃ y, P[q]? = some y := ⟨_, List.getElem?_eq_getElem (by omega)⟩
      have hxm : ys[((q + 1 : Nat) : Int).toNat]? = some x := by rw [show ((q + 1 : Nat) : Int).toNat = q + 1 by omega, hye]; exact mid_get P _ x (q + 1) (by omega)
      have hym : ys[(((q + 1 : Nat) : Int) - 1).toNat]? = some y := by rw [show (((q + 1 : Nat) : Int) - 1).toNat = q by omega, hye]; exact mid_get2 P _ x y q hy
      have hc := h34b.2
      rw [List.getD_eq_getElem?_getD, hxm, List.getD_eq_getElem?_getD, hym] at hc
      have hlt2 : ltV g x y = true := by rw [cmpS_neg] at hc; exact hc
      have hin2 : insAt (ltV g) P x q = insAt (ltV g) P x i := by rw [← hin, insAt_step _ P x y q hy hlt2]
      have hsw : (ys.set (q + 1) y).set ((q : Nat) : Int).toNat x = P.take q ++ x :: (P.drop q ++ l.drop (i + 1)) := by rw [hye]; exact swap_nb P _ x y q hy
      refine cj_skip (ej_th (cj_seq (cj_block ?_)))
      refine cj_plan 18 (by kernel_rfl) (by kernel_rfl) ?_
      refine pl_y 0 rfl (y_move rfl) rfl rfl rfl rfl (by kernel_rfl) ?_
      refine pl_y 1 rfl (y_move rfl) rfl rfl rfl rfl (by kernel_rfl) ?_
      refine pl_y 2 rfl (y_move rfl) rfl rfl rfl rfl (by kernel_rfl) ?_
      refine pl_y 3 rfl (y_move rfl) rfl rfl rfl rfl (by kernel_rfl) ?_
      refine pl_y 4 rfl (y_sub rfl rfl (by omega)) rfl rfl rfl rfl (by kernel_rfl) ?_
      refine pl_y 5 rfl (y_move rfl) rfl rfl rfl rfl (by kernel_rfl) ?_
      refine pl_y 6 rfl (y_move rfl) rfl rfl rfl rfl (by kernel_rfl) ?_
      refine pl_y 7 rfl (y_sub rfl rfl (by omega)) rfl rfl rfl rfl (by kernel_rfl) ?_
      refine pl_y 8 rfl (y_ix Tryz.underlying24 Tryz.sizeOf26 rfl rfl ⟨by omega, by omega⟩ hAn) rfl rfl rfl rfl (by kernel_rfl) ?_
      refine pl_y 9 rfl (y_ldW (reads_ow encIt_len) Tryz.isAgg26 Tryz.sizeOf26 rfl hym (fun _ => rfl)) rfl rfl rfl rfl (by kernel_rfl) ?_
      refine pl_y 10 rfl (y_move rfl) rfl rfl rfl rfl (by kernel_rfl) ?_
      refine pl_y 11 rfl (y_move rfl) rfl rfl rfl rfl (by kernel_rfl) ?_
      refine pl_y 12 rfl (y_ix Tryz.underlying24 Tryz.sizeOf26 rfl rfl ⟨by omega, by omega⟩ hAn) rfl rfl rfl rfl (by kernel_rfl) ?_
      refine pl_y 13 rfl (y_ldW (reads_ow encIt_len) Tryz.isAgg26 Tryz.sizeOf26 rfl hxm (fun _ => rfl)) rfl rfl rfl rfl (by kernel_rfl) ?_
      refine pl_y 14 rfl (y_ix Tryz.underlying24 Tryz.sizeOf26 rfl rfl ⟨by omega, by omega⟩ hAn) rfl rfl rfl rfl (by kernel_rfl) ?_
      refine pl_w1 15 (by kernel_rfl) rfl rfl (pl_fire rfl rfl rfl (by kernel_rfl) ?_)
      refine oj_storeE (i := q + 1) (u := y) rfl rfl rfl rfl Tryz.sizeOf26 (fun _ => rfl) (by first | omega | (simp only [List.length_set]; omega) | (simp; omega)) ?_
      refine oj_nil ?_
      refine ej_pl (lt_w (by kernel_rfl) (lt_w (by kernel_rfl) (lt_y (y_ix Tryz.underlying24 Tryz.sizeOf26 rfl rfl ⟨by omega, by omega⟩ hAn) rfl (lt_y (y_move rfl) rfl (lt_y (y_move rfl) rfl (lt_w (by kernel_rfl) (lt_w (by kernel_rfl) (lt_w (by kernel_rfl) (lt_w (by kernel_rfl) (lt_w (by kernel_rfl) (lt_y (y_sub rfl rfl (by omega)) rfl (lt_y (y_move rfl) rfl (lt_y (y_move rfl) rfl (lt_w (by kernel_rfl) (lt_w (by kernel_rfl) (lt_nil)))))))))))))))) ?_
      refine pl_y 16 rfl (y_ix Tryz.underlying24 Tryz.sizeOf26 rfl rfl ⟨by omega, by omega⟩ hAn) rfl rfl rfl rfl (by kernel_rfl) ?_
      refine pl_w1 17 (by kernel_rfl) rfl rfl (pl_fire rfl rfl rfl (by kernel_rfl) ?_)
      refine oj_storeE (i := (((q + 1 : Nat) : Int) - 1).toNat) (u := x) rfl rfl rfl rfl Tryz.sizeOf26 (fun _ => rfl) (by first | omega | (simp only [List.length_set]; omega) | (simp; omega)) ?_
      refine oj_nil ?_
      refine ej_pl (lt_w (by kernel_rfl) (lt_w (by kernel_rfl) (lt_w (by kernel_rfl) (lt_w (by kernel_rfl) (lt_w (by kernel_rfl) (lt_w (by kernel_rfl) (lt_w (by kernel_rfl) (lt_w (by kernel_rfl) (lt_w (by kernel_rfl) (lt_w (by kernel_rfl) (lt_w (by kernel_rfl) (lt_w (by kernel_rfl) (lt_w (by kernel_rfl) (lt_w (by kernel_rfl) (lt_w (by kernel_rfl) (lt_w (by kernel_rfl) (lt_nil))))))))))))))))) ?_
      refine pl_end (by kernel_rfl) ?_
      refine ej_blk (ej_th ?_)
      refine cj_regionG (gj_step (y_move rfl) rfl rfl rfl (gj_step (y_sub rfl rfl (by omega)) rfl rfl rfl (gj_step (y_assign rfl) rfl rfl rfl (gj_nil ?_))))
      rw [← hyx]
      rw [show (((q + 1 : Nat) : Int) - 1) = (q : Int) by omega]
      exact ej_nx (q, (ys.set (q + 1) y).set ((q : Nat) : Int).toNat x) (by simp only; omega) ⟨by simp only; omega, hsw, hin2⟩ ⟨rfl, rfl, rfl, rfl, rfl, rfl, trivial⟩
    · have h34b := h34
      try simp only [sxb] at h34
      have hfin : ys = isort (ltV g) [] (l.take (i + 1)) ++ l.drop (i + 1) := by
        rw [List.take_add_one, hx]
        show _ = isort (ltV g) [] (l.take i ++ [x]) ++ _
        rw [isort_append, ← hP, hPl, ← hin, hye]
        rcases Nat.eq_zero_or_pos j with hj0 | hj0
        · subst hj0; rfl
        · obtain ⟨q, rfl⟩ : ∃ q, j = q + 1 := ⟨j - 1, by omega⟩
          obtain ⟨y, hy⟩ : ∃ y, P[q]? = some y := ⟨_, List.getElem?_eq_getElem (by omega)⟩
          have hxm : ys[((q + 1 : Nat) : Int).toNat]? = some x := by rw [show ((q + 1 : Nat) : Int).toNat = q + 1 by omega, hye]; exact mid_get P _ x (q + 1) (by omega)
          have hym : ys[(((q + 1 : Nat) : Int) - 1).toNat]? = some y := by rw [show (((q + 1 : Nat) : Int) - 1).toNat = q by omega, hye]; exact mid_get2 P _ x y q hy
          rw [decide_eq_true (show (0 : Int) < ((q + 1 : Nat) : Int) by omega), Bool.true_and, List.getD_eq_getElem?_getD, hxm, List.getD_eq_getElem?_getD, hym] at h34b
          have hlt2 : ltV g x y = false := by rw [cmpS_neg] at h34b; exact h34b
          rw [insAt_stop _ P x y q hy hlt2]
          simp only [List.append_assoc, List.cons_append]
      refine cj_exit (ej_then_exit (ej_then_exit (ej_blk_hit (ej_blk (ej_th ?_)))))
      refine cj_regionG (gj_step (y_move rfl) rfl rfl rfl (gj_step (y_add rfl rfl (by omega)) rfl rfl rfl (gj_step (y_assign rfl) rfl rfl rfl (gj_nil ?_))))
      rw [← hyx, hxl]
      exact ej_nx (i + 1, ys) (by simp only; omega) ⟨by omega, hfin⟩ ⟨rfl, rfl, rfl, rfl, rfl, trivial⟩
  · have h14b := h14
    try simp only [sxb] at h14
    have hfe : xs = isort (ltV g) [] l := by rw [hxs, List.take_of_length_le (by omega), List.drop_of_length_le (by omega), List.append_nil]
    refine cj_exit (ej_then_exit (ej_then_exit (ej_blk_hit ?_)))
    exact ej_end0 rfl Tryz.results113 (fun w' hp => ⟨rfl, hp.mutO, by rw [← hfe]; exact hp.owP⟩)

end Go.Proofs.YtlfbghkcfmcnlaaGreatDoor
namespace Go.Sx
open Go.RowKit
theorem y_eqlNil {C : Cx} {L : Regs} {O S : List Fact} {dst : Option Tmp} {ty : TypeId} {pos : String} {aft : Array Edge} {gu : Option (Nat × Bool)} {t t' : TypeId} {x y : Operand} {e : TypeId} {A : Option Addr} {n c : Nat} (ht : C.P.underlying t = some (.slice e)) (hx : val L x = some (.slice A n c)) (hy : val L y = some (.slice none 0 0)) :
    Yi C ⟨dst, .binOp .eql t x y t', ty, pos, aft, gu⟩ L O S (.bool A.isNone) :=
  yi_val (by intro c h; cases h) fun a w hr _ => by
    have h := run_equal_slice_nil w t e A n c ht
    have h2 : (binOp .eql t (.slice A n c) (.slice none 0 0)).run C.P w = .ok (.bool A.isNone) w := by
      simp only [binOp]
      simp [h]
    simp [execOp, hr.val hx, hr.val hy, eqGuard, h2]
end Go.Sx
namespace Go.Proofs.YtlfbghkcfmcnlaaGreatDoor
open Go.Sx Go.RowKit
set_option maxRecDepth 20000

end Go.Proofs.YtlfbghkcfmcnlaaGreatDoor
namespace Go.Proofs.YtlfbghkcfmcnlaaGreatDoor
open Go.Sx Go.RowKit
set_option maxRecDepth 20000
theorem k_stable (l : List ItemV) (A : Option Addr) (cap : Nat) (b m : Nat) (g : List (ByteArray × ClassV)) (hn6 : l.length ≤ 6) (w : World) (hO : (ow 26 3 encIt A cap (l)).P w) (hlt : ∀ i, (ow 26 3 encIt A cap (l)).fp i → i < w.heap.size) (w0 : World) (hw0 : Grow w0 w) (hgg : ∀ p ∈ g, GoodC w0 p.2) (hw0f : ∀ i, (ow 26 3 encIt A cap (l)).fp i → w0.heap.size ≤ i) (fp : Nat → Prop) (hit : (itF fp l).P w) (hfp : ∀ i, fp i → i < w.heap.size ∧ ¬ (ow 26 3 encIt A cap (l)).fp i) (hb : (ownB b (cellsB 73 [.map (some m)])).P w) (hbn : ¬ (ow 26 3 encIt A cap (l)).fp b) (hM : (mp ekS evC m g).P w) (hbl : m < w.heap.size) (hmn : ¬ (ow 26 3 encIt A cap (l)).fp m) (hso : ∀ x ∈ l, SortI g x) : Calls Tryz.prog 105 #[.slice A l.length cap, .int .i64 l.length, .func (.func 93) #[] #[.pointer (some ⟨b, 0, none⟩)]] w (fun e w' => e = .returned (.tuple #[]) ∧ Mut (ow 26 3 encIt A cap (l)) w w' ∧ (ow 26 3 encIt A cap (isort (ltV g) [] l)).P w') := by
  have hF : ∀ j, j < w0.heap.size → j < w.heap.size ∧ ¬ (ow 26 3 encIt A cap l).fp j := fun j h => ⟨Nat.lt_of_lt_of_le h hw0.size, fun e => by have := hw0f j e; omega⟩
  refine enter_ow (args := [.slice A l.length cap, .int .i64 l.length, .func (.func 93) #[] #[.pointer (some ⟨b, 0, none⟩)]]) [ownB b (cellsB 73 [.map (some m)]), mp ekS evC m g, itF fp l] Tryz.func105 rfl (by rw [Tryz.ntmps105]; simp) hO hlt (fun f hf => by simp only [List.mem_cons, List.mem_nil_iff, or_false] at hf; rcases hf with rfl | rfl | rfl; exact ⟨hb, fun i hi => by have : i = b := hi; subst this; exact ⟨(Array.getElem?_eq_some_iff.1 hb).1, hbn⟩⟩; exact ⟨hM, fun i hi => by have : i = m := hi; subst this; exact ⟨hbl, hmn⟩⟩; exact ⟨hit, hfp⟩) ?_
  refine cj_seq ?_
  refine cj_regionG (gj_step (y_assign rfl) rfl rfl rfl (gj_nil ?_))
  refine ej_th (cj_seq ?_)
  refine cj_regionG (gj_step (y_move rfl) rfl rfl rfl (gj_step (y_assign rfl) rfl rfl rfl (gj_step (y_assign rfl) rfl rfl rfl (gj_nil ?_))))
  refine ej_th (cj_seq (cj_block ?_))
  refine cj_lpic (X := Unit) [(0, _), (1, _), (2, _), (6, _)] (fun u => True) (fun u => [(7, .int .i64 0), (8, .int .i64 20)]) (fun u => 0) () (trivial) ⟨rfl, rfl, rfl, rfl, rfl, rfl, trivial⟩ ?_
  rintro u -
  dsimp only [List.cons_append, List.nil_append]
  refine cj_seq (cj_seq ?_)
  refine cj_regionG (gj_step (y_move rfl) rfl rfl rfl (gj_step (y_move rfl) rfl rfl rfl (gj_step (y_leq rfl rfl) rfl rfl rfl (gj_nil ?_))))
  refine ej_th ?_
  refine cj_cond rfl (fun h13 => ?_) (fun h13 => ?_)
  · simp only [sxb] at h13; omega
  · have h13b := h13
    try simp only [sxb] at h13
    refine cj_exit (ej_then_exit (ej_then_exit (ej_blk_hit (ej_th (cj_seq (cj_region ?_))))))
    refine oj_step (y_move rfl) rfl rfl rfl ?_
    refine oj_step (y_move rfl) rfl rfl rfl ?_
    refine oj_step (y_move rfl) rfl rfl rfl ?_
    refine oj_step (y_move rfl) rfl rfl rfl ?_
    refine oj_mutOw (us' := isort (ltV g) [] l) Tryz.call113 rfl (fun w1 hp hP => by have h := k_insort l A cap b m g hn6 w1 hP hp.owL w0 (hp.grow0 hw0 hF) hgg hw0f fp (hp.shared _ (.tail _ (.tail _ (.head _)))).1 (fun i hi => ⟨(hp.shared _ (.tail _ (.tail _ (.head _)))).2.1 i hi, (hp.shared _ (.tail _ (.tail _ (.head _)))).2.2 _ (.head _) i hi⟩) hp.bs ((hp.shared _ (.head _)).2.2 _ (.head _) b rfl) hp.mpS.1 (hp.mpS (b := m) (ek := ekS) (ev := evC) (l := g)).2 ((hp.shared _ (.tail _ (.head _))).2.2 _ (.head _) m rfl) hso; exact h) rfl ?_
    refine oj_nil ?_
    refine ej_th (cj_block ?_)
    refine cj_lpic (X := Unit) [(0, _), (1, _), (2, _)] (fun u => True) (fun u => [(6, .int .i64 20), (7, .int .i64 0), (8, .int .i64 20)]) (fun u => 0) () (trivial) ⟨rfl, rfl, rfl, rfl, rfl, rfl, trivial⟩ ?_
    rintro u -
    dsimp only [List.cons_append, List.nil_append]
    refine cj_seq (cj_seq ?_)
    refine cj_regionG (gj_step (y_move rfl) rfl rfl rfl (gj_step (y_move rfl) rfl rfl rfl (gj_step (y_lss rfl rfl) rfl rfl rfl (gj_nil ?_))))
    refine ej_th ?_
    refine cj_cond rfl (fun h30 => ?_) (fun h30 => ?_)
    · simp only [sxb] at h30; omega
    · have h30b := h30
      try simp only [sxb] at h30
      refine cj_exit (ej_then_exit (ej_then_exit (ej_blk_hit ?_)))
      exact ej_end0 rfl Tryz.results105 (fun w' hp => ⟨rfl, hp.mutO, hp.owP⟩)

theorem k_sortS (l : List ItemV) (A : Option Addr) (cap : Nat) (b m : Nat) (g : List (ByteArray × ClassV)) (hn6 : l.length ≤ 6) (w : World) (hO : (ow 26 3 encIt A cap (l)).P w) (hlt : ∀ i, (ow 26 3 encIt A cap (l)).fp i → i < w.heap.size) (w0 : World) (hw0 : Grow w0 w) (hgg : ∀ p ∈ g, GoodC w0 p.2) (hw0f : ∀ i, (ow 26 3 encIt A cap (l)).fp i → w0.heap.size ≤ i) (fp : Nat → Prop) (hit : (itF fp l).P w) (hfp : ∀ i, fp i → i < w.heap.size ∧ ¬ (ow 26 3 encIt A cap (l)).fp i) (hb : (ownB b (cellsB 73 [.map (some m)])).P w) (hbn : ¬ (ow 26 3 encIt A cap (l)).fp b) (hM : (mp ekS evC m g).P w) (hbl : m < w.heap.size) (hmn : ¬ (ow 26 3 encIt A cap (l)).fp m) (hso : ∀ x ∈ l, SortI g x) : Calls Tryz.prog 92 #[.slice A l.length cap, .func (.func 93) #[] #[.pointer (some ⟨b, 0, none⟩)]] w (fun e w' => e = .returned (.tuple #[]) ∧ Mut (ow 26 3 encIt A cap (l)) w w' ∧ (ow 26 3 encIt A cap (isort (ltV g) [] l)).P w') := by
  have hF : ∀ j, j < w0.heap.size → j < w.heap.size ∧ ¬ (ow 26 3 encIt A cap l).fp j := fun j h => ⟨Nat.lt_of_lt_of_le h hw0.size, fun e => by have := hw0f j e; omega⟩
  refine enter_ow (args := [.slice A l.length cap, .func (.func 93) #[] #[.pointer (some ⟨b, 0, none⟩)]]) [ownB b (cellsB 73 [.map (some m)]), mp ekS evC m g, itF fp l] Tryz.func92 rfl (by rw [Tryz.ntmps92]; simp) hO hlt (fun f hf => by simp only [List.mem_cons, List.mem_nil_iff, or_false] at hf; rcases hf with rfl | rfl | rfl; exact ⟨hb, fun i hi => by have : i = b := hi; subst this; exact ⟨(Array.getElem?_eq_some_iff.1 hb).1, hbn⟩⟩; exact ⟨hM, fun i hi => by have : i = m := hi; subst this; exact ⟨hbl, hmn⟩⟩; exact ⟨hit, hfp⟩) ?_
  refine cj_region ?_
  refine oj_step (y_move rfl) rfl rfl rfl ?_
  refine oj_step (y_move rfl) rfl rfl rfl ?_
  refine oj_step (y_lenA Tryz.underlying24 rfl) rfl rfl rfl ?_
  refine oj_step (y_move rfl) rfl rfl rfl ?_
  refine oj_mutOw (us' := isort (ltV g) [] l) Tryz.call105 rfl (fun w1 hp hP => by have h := k_stable l A cap b m g hn6 w1 hP hp.owL w0 (hp.grow0 hw0 hF) hgg hw0f fp (hp.shared _ (.tail _ (.tail _ (.head _)))).1 (fun i hi => ⟨(hp.shared _ (.tail _ (.tail _ (.head _)))).2.1 i hi, (hp.shared _ (.tail _ (.tail _ (.head _)))).2.2 _ (.head _) i hi⟩) hp.bs ((hp.shared _ (.head _)).2.2 _ (.head _) b rfl) hp.mpS.1 (hp.mpS (b := m) (ek := ekS) (ev := evC) (l := g)).2 ((hp.shared _ (.tail _ (.head _))).2.2 _ (.head _) m rfl) hso; exact h) rfl ?_
  refine oj_nil ?_
  exact ej_end0 rfl Tryz.results92 (fun w' hp => ⟨rfl, hp.mutO, hp.owP⟩)

theorem k_Clone (l : List ByteArray) (A : Option Addr) (c : Nat) (w : World) (hl : Rd w 1 enStr A l) (h8 : l.length ≤ 100) : Calls Tryz.prog 91 #[.slice A l.length c] w (fun e w' => ∃ B d, e = .returned (.slice B l.length d) ∧ Grow w w' ∧ Res w w' 1 enStr B l) := by
  refine enter_pure (args := [.slice A l.length c]) [sl (fun b => b < w.heap.size) 1 enStr A l] Tryz.func91 rfl (by rw [Tryz.ntmps91]; simp) (fun g hg => by simp at hg; subst hg; exact ⟨hl, fun _ h => h⟩) ?_
  refine cj_seq ?_
  refine cj_regionG (gj_step (y_assign rfl) rfl rfl rfl (gj_nil ?_))
  refine ej_th (cj_seq (cj_seq ?_))
  refine cj_regionG (gj_step (y_move rfl) rfl rfl rfl (gj_step (y_eqlNil Tryz.underlying23 rfl rfl) rfl rfl rfl (gj_nil ?_)))
  refine ej_th ?_
  refine cj_cond rfl (fun h4 => ?_) (fun h4 => ?_)
  · have h4b := h4
    try simp only [sxb] at h4
    have hl0 : l = [] := by
      cases l with
      | nil => rfl
      | cons x r => exact absurd (by cases A with | none => rfl | some a => cases h4) (hl.ne (by simp))
    refine cj_seq ?_
    refine cj_regionG (gj_step (y_assign rfl) rfl rfl rfl (gj_nil ?_))
    refine ej_th (cj_ret (ej_then_ret ?_))
    subst hl0
    exact ej_ret1 rfl Tryz.results91 rfl (fun w' hp => ⟨none, 0, rfl, hp.below, Res.nil⟩)
  · have h4b := h4
    try simp only [sxb] at h4
    refine cj_skip (ej_th (cj_seq (cj_region ?_)))
    refine oj_buildSlice (cs := []) [] Tryz.underlying23 Tryz.sizeOf9 Tryz.zeroValue9 rfl rfl (by kernel_rfl) (by kernel_rfl) rfl (fun b5 => ?_)
    refine oj_litOw (b := b5) (e := 9) (c := 0) (sz := 1) (enc := enStr) [] rfl rfl rfl (by unfold maxLen; simp) ?_
    refine oj_step (y_move rfl) rfl rfl rfl ?_
    refine oj_append (xs := ([] : List ByteArray)) (c := 0) el23 (fun _ => rfl) enStr_one rfl rfl rfl (reads_sl) (by unfold maxLen; simp only [List.length_nil]; omega) (by simp only [List.length_nil]; omega) rfl (fun A7 c7 => ?_)
    refine oj_step (y_assign rfl) rfl rfl rfl ?_
    refine oj_nil ?_
    refine ej_th (cj_ret ?_)
    exact ej_ret1 rfl Tryz.results91 rfl (fun w' hp => ⟨A7, c7, by simp, hp.below, by have := hp.res (A := A7) (fun _ => rfl) (by unfold maxLen; simp only [List.nil_append]; omega); simpa using this⟩)

end Go.Proofs.YtlfbghkcfmcnlaaGreatDoor
namespace Go.Proofs.YtlfbghkcfmcnlaaGreatDoor
open Go.Sx Go.RowKit
set_option maxRecDepth 20000
theorem el24 : ElemIs Tryz.prog 24 26 3 64 := ⟨⟨_, (.agg #[.string ⟨#[]⟩, .slice none 0 0, .slice none 0 0]), Tryz.underlying24, Tryz.type26, by kernel_rfl, by kernel_rfl, by kernel_rfl, by kernel_rfl, by decide⟩⟩
theorem st26 : StructIs Tryz.prog 26 [(0, 1), (1, 1), (2, 1)] [.string ⟨#[]⟩, .slice none 0 0, .slice none 0 0] := ⟨⟨_, Tryz.underlying26, fun w => by simp [Tryz.sizeOf23, Tryz.sizeOf24, Tryz.sizeOf9], Tryz.zeroValue26⟩⟩
end Go.Proofs.YtlfbghkcfmcnlaaGreatDoor
