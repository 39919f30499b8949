/- Texts of ours, joined: 23 of them. Conditions: none. -/
import Derived.Test.YtlfbghkcfmcnlaaGreatDoorZe
import Derived.Test.YtlfbghkcfmcnlaaGreatDoorProg
import Derived.Laws.StructEq
namespace Go.Proofs.YtlfbghkcfmcnlaaGreatDoor
open Go.Sx Go.RowKit
set_option maxRecDepth 20000
theorem k_nanI (n : Int) (w : World)  : Calls Tryz.prog 97 #[.int .i64 n] w (fun e w' => e = .returned (.bool false) ∧ Grow w w') := by
  refine enter_pure (args := [.int .i64 n]) [] Tryz.func97 rfl (by rw [Tryz.ntmps97]; simp) (by simp) ?_
  refine cj_seq ?_
  refine cj_regionG (gj_step (y_assign rfl) rfl rfl rfl (gj_nil ?_))
  refine ej_th (cj_seq ?_)
  refine cj_regionG (gj_step (y_move rfl) rfl rfl rfl (gj_step (y_move rfl) rfl rfl rfl (gj_step (y_neq rfl rfl) rfl rfl rfl (gj_step (y_assign rfl) rfl rfl rfl (gj_nil ?_)))))
  refine ej_th (cj_ret ?_)
  refine ej_ret1 rfl Tryz.results97 rfl (fun w' hp => ⟨?_, hp.below⟩)
  simp

theorem k_CmpI (a b : Int) (w : World)  : Calls Tryz.prog 81 #[.int .i64 a, .int .i64 b] w (fun e w' => e = .returned (.int .i64 (cmpI a b)) ∧ Grow w w') := by
  refine enter_pure (args := [.int .i64 a, .int .i64 b]) [] Tryz.func81 rfl (by rw [Tryz.ntmps81]; simp) (by simp) ?_
  refine cj_seq ?_
  refine cj_regionG (gj_step (y_assign rfl) rfl rfl rfl (gj_nil ?_))
  refine ej_th (cj_seq ?_)
  refine cj_regionG ?_
  refine gj_step (y_move rfl) rfl rfl rfl (?_)
  refine gj_step (y_call Tryz.call97 rfl (fun w hp => k_nanI _ w)) rfl rfl rfl ?_
  refine gj_step (y_assign rfl) rfl rfl rfl (?_)
  refine gj_nil ?_
  refine ej_th (cj_seq ?_)
  refine cj_regionG ?_
  refine gj_step (y_move rfl) rfl rfl rfl (?_)
  refine gj_step (y_call Tryz.call97 rfl (fun w hp => k_nanI _ w)) rfl rfl rfl ?_
  refine gj_step (y_assign rfl) rfl rfl rfl (?_)
  refine gj_nil ?_
  refine ej_th (cj_seq (cj_seq ?_))
  refine cj_regionG (gj_step (y_move rfl) rfl rfl rfl (gj_nil ?_))
  refine ej_th ?_
  refine cj_cond rfl (fun h11 => ?_) (fun h11 => ?_)
  · cases h11
  · have h11b := h11
    try simp only [sxb] at h11
    refine cj_skip (ej_th (cj_seq (cj_seq ?_)))
    refine cj_regionG (gj_step (y_move rfl) rfl rfl rfl (gj_nil ?_))
    refine ej_th ?_
    refine cj_cond rfl (fun h13 => ?_) (fun h13 => ?_)
    · have h13b := h13
      try simp only [sxb] at h13
      refine cj_seq ?_
      refine cj_regionG (gj_step (y_assign rfl) rfl rfl rfl (gj_nil ?_))
      refine ej_th (cj_ret (ej_then_ret ?_))
      cases h13
    · have h13b := h13
      try simp only [sxb] at h13
      refine cj_skip (ej_th (cj_seq (cj_seq ?_)))
      refine cj_regionG (gj_step (y_move rfl) rfl rfl rfl (gj_step (y_move rfl) rfl rfl rfl (gj_step (y_lss rfl rfl) rfl rfl rfl (gj_nil ?_))))
      refine ej_th ?_
      refine cj_cond rfl (fun h16 => ?_) (fun h16 => ?_)
      · have h16b := h16
        try simp only [sxb] at h16
        refine cj_seq ?_
        refine cj_regionG (gj_step (y_assign rfl) rfl rfl rfl (gj_nil ?_))
        refine ej_th (cj_ret (ej_then_ret ?_))
        refine ej_ret1 rfl Tryz.results81 rfl (fun w' hp => ⟨?_, hp.below⟩)
        rw [cmpI, if_pos h16]
      · have h16b := h16
        try simp only [sxb] at h16
        refine cj_skip (ej_th (cj_seq (cj_seq ?_)))
        refine cj_regionG (gj_step (y_move rfl) rfl rfl rfl (gj_step (y_move rfl) rfl rfl rfl (gj_step (y_gtr rfl rfl) rfl rfl rfl (gj_nil ?_))))
        refine ej_th ?_
        refine cj_cond rfl (fun h19 => ?_) (fun h19 => ?_)
        · have h19b := h19
          try simp only [sxb] at h19
          refine cj_seq ?_
          refine cj_regionG (gj_step (y_assign rfl) rfl rfl rfl (gj_nil ?_))
          refine ej_th (cj_ret (ej_then_ret ?_))
          refine ej_ret1 rfl Tryz.results81 rfl (fun w' hp => ⟨?_, hp.below⟩)
          rw [cmpI, if_neg (by omega), if_pos h19]
        · have h19b := h19
          try simp only [sxb] at h19
          refine cj_skip (ej_th (cj_seq ?_))
          refine cj_regionG (gj_step (y_assign rfl) rfl rfl rfl (gj_nil ?_))
          refine ej_th (cj_ret ?_)
          refine ej_ret1 rfl Tryz.results81 rfl (fun w' hp => ⟨?_, hp.below⟩)
          rw [cmpI, if_neg (by omega), if_neg (by omega)]

theorem k_Compare (x y : List Int) (Ax Ay : Option Addr) (cx cy : Nat) (w : World) (hx0 : Rd w 1 enInt Ax x) (hy0 : Rd w 1 enInt Ay y) : Calls Tryz.prog 51 #[.slice Ax x.length cx, .slice Ay y.length cy] w (fun e w' => e = .returned (.int .i64 (cmpL x y)) ∧ Grow w w') := by
  have hlx := hx0.len
  have hly := hy0.len
  refine enter_pure (args := [.slice Ax x.length cx, .slice Ay y.length cy]) [sl (fun b => b < w.heap.size) 1 enInt Ax x, sl (fun b => b < w.heap.size) 1 enInt Ay y] Tryz.func51 rfl (by rw [Tryz.ntmps51]; simp) (fun g hg => by simp at hg; rcases hg with rfl | rfl; exact ⟨hx0, fun _ h => h⟩; exact ⟨hy0, fun _ h => h⟩) ?_
  refine cj_seq ?_
  refine cj_regionG (gj_step (y_assign rfl) rfl rfl rfl (gj_nil ?_))
  refine ej_th (cj_seq (cj_seq ?_))
  refine cj_regionG (gj_step (y_move rfl) rfl rfl rfl (gj_step (y_lenA Tryz.underlying49 rfl) rfl rfl rfl (gj_step (y_move rfl) rfl rfl rfl (gj_nil ?_))))
  refine ej_th (cj_block ?_)
  refine cj_lpic (X := Nat) [(0, _), (1, _), (9, _), (10, _)] (fun k => k ≤ x.length ∧ k ≤ y.length ∧ cmpL (x.drop k) (y.drop k) = cmpL x y) (fun k => [(11, .int .i64 k)]) (fun k => x.length - k) 0 (⟨Nat.zero_le _, Nat.zero_le _, rfl⟩) ⟨rfl, rfl, rfl, rfl, rfl, trivial⟩ ?_
  rintro k ⟨hk, hk2, hsk⟩
  dsimp only [List.cons_append, List.nil_append]
  refine cj_seq ?_
  refine cj_regionG (gj_step (y_lss rfl rfl) rfl rfl rfl (gj_nil ?_))
  refine ej_th (cj_seq ?_)
  refine cj_cond rfl (fun h12 => ?_) (fun h12 => ?_)
  · have h12b := h12
    try simp only [sxb] at h12
    obtain ⟨p, hx⟩ : ∃ p, x[k]? = some p := ⟨_, List.getElem?_eq_getElem (by omega)⟩
    refine cj_skip (ej_th (cj_seq (cj_block (cj_seq ?_))))
    refine cj_regionG (gj_step (y_move rfl) rfl rfl rfl (gj_step (y_ixR (reads_sl) Tryz.underlying49 Tryz.sizeOf3 rfl rfl (⟨by omega, by omega⟩)) rfl rfl rfl (gj_step (y_ld0 (reads_sl) Tryz.isAgg3 rfl (hx) rfl) rfl rfl rfl (gj_step (y_assign rfl) rfl rfl rfl (gj_step (y_assign rfl) rfl rfl rfl (gj_nil ?_))))))
    refine ej_th (cj_seq (cj_seq ?_))
    refine cj_regionG (gj_step (y_move rfl) rfl rfl rfl (gj_step (y_move rfl) rfl rfl rfl (gj_step (y_lenA Tryz.underlying49 rfl) rfl rfl rfl (gj_step (y_geq rfl rfl) rfl rfl rfl (gj_nil ?_)))))
    refine ej_th ?_
    refine cj_cond rfl (fun h19 => ?_) (fun h19 => ?_)
    · have h19b := h19
      try simp only [sxb] at h19
      refine cj_seq ?_
      refine cj_regionG (gj_step (y_assign rfl) rfl rfl rfl (gj_nil ?_))
      refine ej_th (cj_ret (ej_then_ret (ej_blk_ret (ej_then_ret (ej_then_ret (ej_blk_ret (ej_then_ret ?_)))))))
      refine ej_ret1 rfl Tryz.results51 rfl (fun w' hp => ⟨?_, hp.below⟩)
      rw [← hsk, cmpL_end x y k p hx (by omega)]
    · have h19b := h19
      try simp only [sxb] at h19
      obtain ⟨q, hy⟩ : ∃ q, y[k]? = some q := ⟨_, List.getElem?_eq_getElem (by omega)⟩
      rw [cmpL_drop x y k p q hx hy] at hsk
      refine cj_skip (ej_th (cj_seq ?_))
      refine cj_regionG (gj_step (y_move rfl) rfl rfl rfl (gj_step (y_move rfl) rfl rfl rfl (gj_step (y_ixR (reads_sl) Tryz.underlying49 Tryz.sizeOf3 rfl rfl (⟨by omega, by omega⟩)) rfl rfl rfl (gj_step (y_ld0 (reads_sl) Tryz.isAgg3 rfl (hy) rfl) rfl rfl rfl (gj_step (y_assign rfl) rfl rfl rfl (gj_nil ?_))))))
      refine ej_th (cj_seq ?_)
      refine cj_regionG ?_
      refine gj_step (y_move rfl) rfl rfl rfl (gj_step (y_move rfl) rfl rfl rfl (?_))
      refine gj_step (y_call Tryz.call81 rfl (fun w hp => k_CmpI _ _ w)) rfl rfl rfl ?_
      refine gj_step (y_assign rfl) rfl rfl rfl (?_)
      refine gj_nil ?_
      refine ej_th (cj_seq ?_)
      refine cj_regionG (gj_step (y_move rfl) rfl rfl rfl (gj_step (y_neq rfl rfl) rfl rfl rfl (gj_nil ?_)))
      refine ej_th ?_
      refine cj_cond rfl (fun h28 => ?_) (fun h28 => ?_)
      · have h28b := h28
        try simp only [sxb] at h28
        refine cj_seq ?_
        refine cj_regionG (gj_step (y_move rfl) rfl rfl rfl (gj_step (y_assign rfl) rfl rfl rfl (gj_nil ?_)))
        refine ej_th (cj_ret (ej_blk_ret (ej_then_ret (ej_then_ret (ej_blk_ret (ej_then_ret ?_))))))
        refine ej_ret1 rfl Tryz.results51 rfl (fun w' hp => ⟨?_, hp.below⟩)
        rw [← hsk, if_neg (by simpa using h28b)]
      · have h28b := h28
        try simp only [sxb] at h28
        refine cj_skip (ej_blk (ej_th ?_))
        refine cj_regionG (gj_step (y_add rfl rfl (by omega)) rfl rfl rfl (gj_step (y_move rfl) rfl rfl rfl (gj_nil ?_)))
        exact ej_nx (k + 1) (by omega) ⟨by omega, by omega, by rw [← hsk, if_pos (by simpa using h28b)]⟩ ⟨rfl, rfl, rfl, rfl, rfl, trivial⟩
  · have h12b := h12
    try simp only [sxb] at h12
    refine cj_exit (ej_then_exit (ej_then_exit (ej_blk_hit (ej_th (cj_seq (cj_seq ?_))))))
    refine cj_regionG (gj_step (y_move rfl) rfl rfl rfl (gj_step (y_lenA Tryz.underlying49 rfl) rfl rfl rfl (gj_step (y_move rfl) rfl rfl rfl (gj_step (y_lenA Tryz.underlying49 rfl) rfl rfl rfl (gj_step (y_lss rfl rfl) rfl rfl rfl (gj_nil ?_))))))
    refine ej_th ?_
    refine cj_cond rfl (fun h35 => ?_) (fun h35 => ?_)
    · have h35b := h35
      try simp only [sxb] at h35
      refine cj_seq ?_
      refine cj_regionG (gj_step (y_assign rfl) rfl rfl rfl (gj_nil ?_))
      refine ej_th (cj_ret (ej_then_ret ?_))
      refine ej_ret1 rfl Tryz.results51 rfl (fun w' hp => ⟨?_, hp.below⟩)
      rw [← hsk, cmpL_end2 x y k (by omega), if_pos (by omega)]
    · have h35b := h35
      try simp only [sxb] at h35
      refine cj_skip (ej_th (cj_seq ?_))
      refine cj_regionG (gj_step (y_assign rfl) rfl rfl rfl (gj_nil ?_))
      refine ej_th (cj_ret ?_)
      refine ej_ret1 rfl Tryz.results51 rfl (fun w' hp => ⟨?_, hp.below⟩)
      rw [← hsk, cmpL_end2 x y k (by omega), if_neg (by omega)]

theorem k_lab (i : Int) (ms : List Meas) (A : Option Addr) (c : Nat) (b : Nat) (w : World) (hi : 0 ≤ i ∧ i < ms.length) (hm : Rd w 2 encMe A ms) (hb : (ownB b (cellsB 48 [.slice A ms.length c])).P w) : Calls Tryz.prog 50 #[.int .i64 i, .pointer (some ⟨b, 0, none⟩)] w (fun e w' => e = .returned (.int .i64 (labAt ms i)) ∧ Grow w w') := by
  refine enter_pure (args := [.int .i64 i, .pointer (some ⟨b, 0, none⟩)]) [sl (fun b => b < w.heap.size) 2 encMe A ms, ownB b (cellsB 48 [.slice A ms.length c])] Tryz.func50 rfl (by rw [Tryz.ntmps50]; simp) (fun g hg => by simp at hg; rcases hg with rfl | rfl; exact ⟨hm, fun _ h => h⟩; exact ⟨hb, fun i hi => by have : i = b := hi; subst this; exact (Array.getElem?_eq_some_iff.1 hb).1⟩) ?_
  refine cj_seq ?_
  refine cj_regionG (gj_step (y_assign rfl) rfl rfl rfl (gj_nil ?_))
  refine ej_th (cj_seq ?_)
  refine cj_regionG (gj_step (y_loadS1 Tryz.isAgg48 rfl rfl) rfl rfl rfl (gj_step (y_move rfl) rfl rfl rfl (gj_step (y_ixR (reads_sl) Tryz.underlying48 Tryz.sizeOf98 rfl rfl (⟨by omega, by omega⟩)) rfl rfl rfl (gj_step (y_faE fa98_1 rfl) rfl rfl rfl (gj_step (y_ld1 (reads_sl) Tryz.isAgg3 rfl (geq default (by omega)) rfl) rfl rfl rfl (gj_step (y_assign rfl) rfl rfl rfl (gj_nil ?_)))))))
  refine ej_th (cj_ret ?_)
  exact ej_ret1 rfl Tryz.results50 rfl (fun w' hp => ⟨rfl, hp.below⟩)

theorem k_totalL (l : List Int) (Al : Option Addr) (cl : Nat) (ms : List Meas) (A : Option Addr) (c : Nat) (b : Nat) (w : World) (hl : Rd w 1 enInt Al l) (hm : Rd w 2 encMe A ms) (hb : (ownB b (cellsB 48 [.slice A ms.length c])).P w) (hmb : ∀ m ∈ ms, (0 ≤ m.tol ∧ m.tol ≤ 1000) ∧ (1 ≤ m.lab ∧ m.lab ≤ 1000)) (hr : ∀ i ∈ l, 0 ≤ i ∧ i < ms.length) (hT : (l.map (labAt ms)).sum ≤ 1000000) : Calls Tryz.prog 49 #[.slice Al l.length cl, .func (.func 50) #[] #[.pointer (some ⟨b, 0, none⟩)]] w (fun e w' => e = .returned (.int .i64 (labN ms l)) ∧ Grow w w') := by
  have hlen := hl.len
  skip
  refine enter_pure (args := [.slice Al l.length cl, .func (.func 50) #[] #[.pointer (some ⟨b, 0, none⟩)]]) [sl (fun b => b < w.heap.size) 1 enInt Al l, sl (fun b => b < w.heap.size) 2 encMe A ms, ownB b (cellsB 48 [.slice A ms.length c])] Tryz.func49 rfl (by rw [Tryz.ntmps49]; simp) (fun g hg => by simp at hg; rcases hg with rfl | rfl | rfl; exact ⟨hl, fun _ h => h⟩; exact ⟨hm, fun _ h => h⟩; exact ⟨hb, fun i hi => by have : i = b := hi; subst this; exact (Array.getElem?_eq_some_iff.1 hb).1⟩) ?_
  refine cj_seq ?_
  refine cj_regionG (gj_step (y_assign rfl) rfl rfl rfl (gj_nil ?_))
  refine ej_th (cj_seq ?_)
  refine cj_regionG (gj_step (y_assign rfl) rfl rfl rfl (gj_nil ?_))
  refine ej_th (cj_seq (cj_seq ?_))
  refine cj_regionG (gj_step (y_move rfl) rfl rfl rfl (gj_step (y_lenA Tryz.underlying49 rfl) rfl rfl rfl (gj_step (y_move rfl) rfl rfl rfl (gj_nil ?_))))
  refine ej_th (cj_block ?_)
  refine cj_lpic (X := Nat × Int) [(1, _), (4, _), (8, _), (9, _)] (fun ⟨k, n⟩ => k ≤ l.length ∧ 0 ≤ n ∧ n + ((l.drop k).map (labAt ms)).sum = (l.map (labAt ms)).sum) (fun ⟨k, n⟩ => [(5, .int .i64 n), (10, .int .i64 k)]) (fun ⟨k, n⟩ => l.length - k) (0, 0) (⟨Nat.zero_le _, Int.le_refl _, by simp⟩) ⟨rfl, rfl, rfl, rfl, rfl, rfl, trivial⟩ ?_
  rintro ⟨k, n⟩ ⟨hk, hn, hsk⟩
  dsimp only [List.cons_append, List.nil_append]
  refine cj_seq ?_
  refine cj_regionG (gj_step (y_lss rfl rfl) rfl rfl rfl (gj_nil ?_))
  refine ej_th (cj_seq ?_)
  refine cj_cond rfl (fun h11 => ?_) (fun h11 => ?_)
  · have h11b := h11
    try simp only [sxb] at h11
    obtain ⟨x, hx⟩ : ∃ x, l[k]? = some x := ⟨_, List.getElem?_eq_getElem (by omega)⟩
    rw [map_sum_drop (labAt ms) l k x hx] at hsk
    have hrest := sum_nn (labAt ms) (l.drop (k + 1)) (fun y hy => by have := labAt_bd hmb (hr y (List.mem_of_mem_drop hy)); omega)
    refine cj_skip (ej_th (cj_seq (cj_block (cj_seq ?_))))
    refine cj_regionG (gj_step (y_ixR (reads_sl) Tryz.underlying49 Tryz.sizeOf3 rfl rfl (⟨by omega, by omega⟩)) rfl rfl rfl (gj_step (y_ld0 (reads_sl) Tryz.isAgg3 rfl (hx) rfl) rfl rfl rfl (gj_step (y_assign rfl) rfl rfl rfl (gj_nil ?_))))
    refine ej_th ?_
    refine cj_regionG ?_
    refine gj_step (y_move rfl) rfl rfl rfl (gj_step (y_move rfl) rfl rfl rfl (gj_step (y_move rfl) rfl rfl rfl (?_)))
    refine gj_step (y_callV Tryz.call50 rfl rfl (fun w hp => k_lab x ms A c b w (hr x (List.mem_of_getElem? hx)) hp.rd hp.bs)) rfl rfl rfl ?_
    refine gj_step (y_add rfl rfl (by have := labAt_bd hmb (hr x (List.mem_of_getElem? hx)); omega)) rfl rfl rfl (gj_step (y_assign rfl) rfl rfl rfl (?_))
    refine gj_nil ?_
    refine ej_blk (ej_th ?_)
    refine cj_regionG (gj_step (y_add rfl rfl (by omega)) rfl rfl rfl (gj_step (y_move rfl) rfl rfl rfl (gj_nil ?_)))
    exact ej_nx (k + 1, n + (labAt ms) x) (by simp only; omega) ⟨by first | omega | (simp only; omega), by have := labAt_bd hmb (hr x (List.mem_of_getElem? hx)); simp only; omega, by simp only; omega⟩ ⟨rfl, rfl, rfl, rfl, rfl, rfl, trivial⟩
  · have h11b := h11
    try simp only [sxb] at h11
    refine cj_exit (ej_then_exit (ej_then_exit (ej_blk_hit (ej_th (cj_seq ?_)))))
    refine cj_regionG (gj_step (y_move rfl) rfl rfl rfl (gj_step (y_assign rfl) rfl rfl rfl (gj_nil ?_)))
    refine ej_th (cj_ret ?_)
    refine ej_ret1 rfl Tryz.results49 rfl (fun w' hp => ⟨?_, hp.below⟩)
    rw [List.drop_of_length_le (show l.length ≤ k by omega)] at hsk
    have hn2 : n = (l.map (labAt ms)).sum := by simpa using hsk
    rw [hn2]; rfl

theorem k_totalI (l : List Int) (Al : Option Addr) (cl : Nat)  (w : World) (hl : Rd w 1 enInt Al l) (hp0 : l.all prc1 = true) (hT : (l.map (fun x => x)).sum ≤ 1000000) : Calls Tryz.prog 49 #[.slice Al l.length cl, .func (.func 55) #[] #[]] w (fun e w' => e = .returned (.int .i64 l.sum) ∧ Grow w w') := by
  have hlen := hl.len
  skip
  refine enter_pure (args := [.slice Al l.length cl, .func (.func 55) #[] #[]]) [sl (fun b => b < w.heap.size) 1 enInt Al l] Tryz.func49 rfl (by rw [Tryz.ntmps49]; simp) (fun g hg => by simp at hg; subst hg; exact ⟨hl, fun _ h => h⟩) ?_
  refine cj_seq ?_
  refine cj_regionG (gj_step (y_assign rfl) rfl rfl rfl (gj_nil ?_))
  refine ej_th (cj_seq ?_)
  refine cj_regionG (gj_step (y_assign rfl) rfl rfl rfl (gj_nil ?_))
  refine ej_th (cj_seq (cj_seq ?_))
  refine cj_regionG (gj_step (y_move rfl) rfl rfl rfl (gj_step (y_lenA Tryz.underlying49 rfl) rfl rfl rfl (gj_step (y_move rfl) rfl rfl rfl (gj_nil ?_))))
  refine ej_th (cj_block ?_)
  refine cj_lpic (X := Nat × Int) [(1, _), (4, _), (8, _), (9, _)] (fun ⟨k, n⟩ => k ≤ l.length ∧ 0 ≤ n ∧ n + ((l.drop k).map (fun x => x)).sum = (l.map (fun x => x)).sum) (fun ⟨k, n⟩ => [(5, .int .i64 n), (10, .int .i64 k)]) (fun ⟨k, n⟩ => l.length - k) (0, 0) (⟨Nat.zero_le _, Int.le_refl _, by simp⟩) ⟨rfl, rfl, rfl, rfl, rfl, rfl, trivial⟩ ?_
  rintro ⟨k, n⟩ ⟨hk, hn, hsk⟩
  dsimp only [List.cons_append, List.nil_append]
  refine cj_seq ?_
  refine cj_regionG (gj_step (y_lss rfl rfl) rfl rfl rfl (gj_nil ?_))
  refine ej_th (cj_seq ?_)
  refine cj_cond rfl (fun h11 => ?_) (fun h11 => ?_)
  · have h11b := h11
    try simp only [sxb] at h11
    obtain ⟨x, hx⟩ : ∃ x, l[k]? = some x := ⟨_, List.getElem?_eq_getElem (by omega)⟩
    rw [map_sum_drop (fun x => x) l k x hx] at hsk
    have hrest := sum_nn (fun x => x) (l.drop (k + 1)) (fun y hy => by have := prc_bd hp0 y (List.mem_of_mem_drop hy); omega)
    refine cj_skip (ej_th (cj_seq (cj_block (cj_seq ?_))))
    refine cj_regionG (gj_step (y_ixR (reads_sl) Tryz.underlying49 Tryz.sizeOf3 rfl rfl (⟨by omega, by omega⟩)) rfl rfl rfl (gj_step (y_ld0 (reads_sl) Tryz.isAgg3 rfl (hx) rfl) rfl rfl rfl (gj_step (y_assign rfl) rfl rfl rfl (gj_nil ?_))))
    refine ej_th ?_
    refine cj_regionG ?_
    refine gj_step (y_move rfl) rfl rfl rfl (gj_step (y_move rfl) rfl rfl rfl (gj_step (y_move rfl) rfl rfl rfl (?_)))
    refine gj_step (y_callV Tryz.call55 rfl rfl (fun w hp => k_id x w)) rfl rfl rfl ?_
    refine gj_step (y_add rfl rfl (by have := prc_bd hp0 x (List.mem_of_getElem? hx); omega)) rfl rfl rfl (gj_step (y_assign rfl) rfl rfl rfl (?_))
    refine gj_nil ?_
    refine ej_blk (ej_th ?_)
    refine cj_regionG (gj_step (y_add rfl rfl (by omega)) rfl rfl rfl (gj_step (y_move rfl) rfl rfl rfl (gj_nil ?_)))
    exact ej_nx (k + 1, n + (fun x => x) x) (by simp only; omega) ⟨by first | omega | (simp only; omega), by have := prc_bd hp0 x (List.mem_of_getElem? hx); simp only; omega, by simp only; omega⟩ ⟨rfl, rfl, rfl, rfl, rfl, rfl, trivial⟩
  · have h11b := h11
    try simp only [sxb] at h11
    refine cj_exit (ej_then_exit (ej_then_exit (ej_blk_hit (ej_th (cj_seq ?_)))))
    refine cj_regionG (gj_step (y_move rfl) rfl rfl rfl (gj_step (y_assign rfl) rfl rfl rfl (gj_nil ?_)))
    refine ej_th (cj_ret ?_)
    refine ej_ret1 rfl Tryz.results49 rfl (fun w' hp => ⟨?_, hp.below⟩)
    rw [List.drop_of_length_le (show l.length ≤ k by omega)] at hsk
    have hn2 : n = (l.map (fun x => x)).sum := by simpa using hsk
    rw [hn2]; simp

end Go.Proofs.YtlfbghkcfmcnlaaGreatDoor
namespace Go.Proofs.YtlfbghkcfmcnlaaGreatDoor
open Go.Sx Go.RowKit
set_option maxRecDepth 20000

end Go.Proofs.YtlfbghkcfmcnlaaGreatDoor
namespace Go.Proofs.YtlfbghkcfmcnlaaGreatDoor
open Go.Sx Go.RowKit
set_option maxRecDepth 20000
set_option maxHeartbeats 1000000 in
theorem k_Least (ms : List Meas) (A : Option Addr) (c : Nat) (tk : List Int) (At : Option Addr) (ct : Nat) (fs : List FakeV) (Af : Option Addr) (cf : Nat) (w : World) (hm : Rd w 2 encMe A ms) (ht : Rd w 1 enInt At tk) (hf : Rd w 1 encFk Af fs) (hgf : ∀ f ∈ fs, GoodK w f) : Calls Tryz.prog 24 #[.slice A ms.length c, .slice At tk.length ct, .slice Af fs.length cf] w (fun e w' => ∃ A c, e = .returned (.tuple #[.slice A (LstS ms tk fs).length c, .int .i64 (LstN ms tk fs), .int .i64 (LstE ms tk fs)]) ∧ Grow w w' ∧ Res w w' 1 enInt A (LstS ms tk fs)) := by
  have hlm := hm.len
  refine enter_pure (args := [.slice A ms.length c, .slice At tk.length ct, .slice Af fs.length cf]) [sl (fun b => b < w.heap.size) 2 encMe A ms, sl (fun b => b < w.heap.size) 1 enInt At tk, sl (fun b => b < w.heap.size) 1 encFk Af fs] Tryz.func24 rfl (by rw [Tryz.ntmps24]; simp) (fun g hg => by simp at hg; rcases hg with rfl | rfl | rfl; exact ⟨hm, fun _ h => h⟩; exact ⟨ht, fun _ h => h⟩; exact ⟨hf, fun _ h => h⟩) ?_
  refine cj_seq (cj_region ?_)
  refine oj_box rfl rfl rfl (fun b3 => ?_)
  refine oj_step (y_assign rfl) rfl rfl rfl ?_
  refine oj_step (y_assign rfl) rfl rfl rfl ?_
  refine oj_step (y_assign rfl) rfl rfl rfl ?_
  refine oj_nil ?_
  refine ej_th (cj_seq (cj_seq ?_))
  refine cj_regionG ?_
  refine gj_step (y_load1 Tryz.isAgg48 rfl rfl) rfl rfl rfl (gj_step (y_move rfl) rfl rfl rfl (gj_step (y_move rfl) rfl rfl rfl (?_)))
  refine gj_step (y_call Tryz.call46 rfl (fun w hp => k_skill ms A c tk At ct fs Af cf w hp.rd hp.rd hp.rd (fun f h => (hgf f h).mono hp.below))) rfl rfl rfl ?_
  refine gj_step (y_assign rfl) rfl rfl rfl (?_)
  refine gj_nil ?_
  refine ej_th (cj_seq ?_)
  refine cj_regionG (gj_step (y_move rfl) rfl rfl rfl (gj_step (y_neq rfl rfl) rfl rfl rfl (gj_nil ?_)))
  refine ej_th ?_
  refine cj_cond rfl (fun h19 => ?_) (fun h19 => ?_)
  · have h19b := h19
    try simp only [sxb] at h19
    have hno := skill_no h19b
    refine cj_seq ?_
    refine cj_regionG (gj_step (y_move rfl) rfl rfl rfl (gj_step (y_assign rfl) rfl rfl rfl (gj_step (y_assign rfl) rfl rfl rfl (gj_step (y_assign rfl) rfl rfl rfl (gj_nil ?_)))))
    refine ej_th (cj_ret (ej_then_ret ?_))
    obtain ⟨e1, e2, e3⟩ := lst_no1 hno
    exact ej_ret3 rfl Tryz.results24 rfl rfl rfl (fun w' hp => ⟨none, 0, by rw [e1, e2, e3]; rfl, hp.below, by rw [e2]; exact Res.nil⟩)
  · have h19b := h19
    try simp only [sxb] at h19
    obtain ⟨hmo, hto, hfo, hz⟩ := skill_0 h19b
    obtain ⟨hml, hmb⟩ := meas_bd hmo
    have htb := rdOk_bd hto
    obtain ⟨hfl, hfb⟩ := fakes_bd hfo
    have hlb : ∀ m ∈ ms, 1 ≤ m.lab ∧ m.lab ≤ 1000 := fun m h => (hmb m h).2
    have hpw : 2 ^ ms.length ≤ 2 ^ 8 := Nat.pow_le_pow_right (by decide) hml.2
    refine cj_skip (ej_th (cj_seq ?_))
    refine cj_regionG (gj_step (y_assign rfl) rfl rfl rfl (gj_nil ?_))
    refine ej_th (cj_seq (cj_seq ?_))
    refine cj_regionG (gj_step (y_load1 Tryz.isAgg48 rfl rfl) rfl rfl rfl (gj_step (y_lenA Tryz.underlying48 rfl) rfl rfl rfl (gj_step (y_shl1 rfl rfl (by omega)) rfl rfl rfl (gj_step (y_move rfl) rfl rfl rfl (gj_nil ?_)))))
    refine ej_th (cj_block ?_)
    refine cj_ownNil 3 1 enInt ?_
    refine cj_lpi (X := Nat × Option Addr × Nat × List Int × Int) [(1, _), (2, _), (3, _), (8, _), (23, _)] (fun ⟨n, A6, c6, set, lab⟩ => n ≤ 2 ^ ms.length ∧ (set, lab) = bestN ms tk fs n) (fun ⟨n, A6, c6, set, lab⟩ => [(6, .slice A6 set.length c6), (7, .int .i64 lab), (24, .int .i64 n)]) (fun ⟨n, A6, c6, set, lab⟩ => [ow 3 1 enInt A6 c6 set, ownB b3 (cellsB 48 [.slice A ms.length c])]) (fun ⟨n, A6, c6, set, lab⟩ => [sl (fun b => b < w.heap.size) 2 encMe A ms, sl (fun b => b < w.heap.size) 1 enInt At tk, sl (fun b => b < w.heap.size) 1 encFk Af fs]) (fun ⟨n, A6, c6, set, lab⟩ => 2 ^ ms.length - n) (0, none, 0, [], -1) (⟨Nat.zero_le _, rfl⟩) ⟨rfl, rfl, rfl, rfl, rfl, rfl, rfl, rfl, trivial⟩ ?_
    rintro ⟨n, A6, c6, set, lab⟩ ⟨hn, hst⟩
    dsimp only [List.cons_append, List.nil_append]
    refine cj_seq ?_
    refine cj_regionG (gj_step (y_lss rfl rfl) rfl rfl rfl (gj_nil ?_))
    refine ej_th (cj_seq ?_)
    refine cj_cond rfl (fun h25 => ?_) (fun h25 => ?_)
    · have h25b := h25
      try simp only [sxb] at h25
      have hbd := bestN_bd ms tk fs hlb n
      rw [← hst] at hbd
      simp only at hbd
      refine cj_skip (ej_th (cj_seq (cj_block (cj_seq ?_))))
      refine cj_regionG (gj_step (y_move rfl) rfl rfl rfl (gj_step (y_assign rfl) rfl rfl rfl (gj_nil ?_)))
      refine ej_th (cj_seq ?_)
      refine cj_regionG (gj_step (y_assign rfl) rfl rfl rfl (gj_nil ?_))
      refine ej_th (cj_seq (cj_seq ?_))
      refine cj_regionG (gj_step (y_load1 Tryz.isAgg48 rfl rfl) rfl rfl rfl (gj_step (y_lenA Tryz.underlying48 rfl) rfl rfl rfl (gj_step (y_move rfl) rfl rfl rfl (gj_nil ?_))))
      refine ej_th (cj_block ?_)
      refine cj_ownNil 3 1 enInt ?_
      refine cj_lpi (X := Nat × Option Addr × Nat × List Int) [(6, _), (7, _), (24, _), (1, _), (2, _), (3, _), (8, _), (23, _), (10, _), (28, _)] (fun ⟨k, A1, c1, own⟩ => k ≤ ms.length ∧ own.length ≤ k ∧ own ++ selF n (ms.length - k) k = (selF n ms.length 0)) (fun ⟨k, A1, c1, own⟩ => [(11, .slice A1 own.length c1), (29, .int .i64 k)]) (fun ⟨k, A1, c1, own⟩ => [ow 3 1 enInt A1 c1 own, ow 3 1 enInt A6 c6 set, ownB b3 (cellsB 48 [.slice A ms.length c])]) (fun ⟨k, A1, c1, own⟩ => [sl (fun b => b < w.heap.size) 2 encMe A ms, sl (fun b => b < w.heap.size) 1 enInt At tk, sl (fun b => b < w.heap.size) 1 encFk Af fs]) (fun ⟨k, A1, c1, own⟩ => ms.length - k) (0, none, 0, []) (⟨Nat.zero_le _, Nat.zero_le _, rfl⟩) ⟨rfl, rfl, rfl, rfl, rfl, rfl, rfl, rfl, rfl, rfl, rfl, rfl, trivial⟩ ?_
      rintro ⟨k, A1, c1, own⟩ ⟨hk, hol, hso⟩
      dsimp only [List.cons_append, List.nil_append]
      refine cj_seq ?_
      refine cj_regionG (gj_step (y_lss rfl rfl) rfl rfl rfl (gj_nil ?_))
      refine ej_th (cj_seq ?_)
      refine cj_cond rfl (fun h30 => ?_) (fun h30 => ?_)
      · have h30b := h30
        try simp only [sxb] at h30
        rw [selF_step n ms.length k (by omega)] at hso
        refine cj_skip (ej_th (cj_seq (cj_block (cj_seq ?_))))
        refine cj_regionG (gj_step (y_move rfl) rfl rfl rfl (gj_step (y_assign rfl) rfl rfl rfl (gj_nil ?_)))
        refine ej_th (cj_seq ?_)
        refine cj_regionG (gj_step (y_move rfl) rfl rfl rfl (gj_step (y_move rfl) rfl rfl rfl (gj_step (y_shr rfl rfl (by omega)) rfl rfl rfl (gj_step (y_and1 rfl rfl (by have := Nat.div_le_self n (2 ^ k); omega)) rfl rfl rfl (gj_step (y_eql rfl rfl) rfl rfl rfl (gj_nil ?_))))))
        refine ej_th ?_
        refine cj_cond rfl (fun h36 => ?_) (fun h36 => ?_)
        · have h36b := h36
          try simp only [sxb] at h36
          rw [if_pos (by omega)] at hso
          refine cj_region ?_
          refine oj_step (y_move rfl) rfl rfl rfl ?_
          refine oj_step (y_move rfl) rfl rfl rfl ?_
          refine oj_buildSlice [.int .i64 0] Tryz.underlying49 Tryz.sizeOf3 Tryz.zeroValue3 rfl rfl (by kernel_rfl) rfl rfl (fun b39 => ?_)
          refine oj_append  el49 (fun _ => rfl) enInt_one rfl rfl rfl (reads_lit [(k : Int)] (fun _ => rfl) rfl) (by simp [maxLen]; omega) (by simp; omega) rfl (fun A40 c40 => ?_)
          refine oj_step (y_assign rfl) rfl rfl rfl ?_
          refine oj_nil ?_
          refine ej_blk (ej_th ?_)
          refine cj_regionG (gj_step (y_add rfl rfl (by omega)) rfl rfl rfl (gj_step (y_move rfl) rfl rfl rfl (gj_nil ?_)))
          exact ej_nx (k + 1, A40, c40, own ++ [(k : Int)]) (by simp only; omega) ⟨by first | omega | (simp only; omega), by simp only [List.length_append, List.length_cons, List.length_nil]; omega, by rw [List.append_assoc]; exact hso⟩ ⟨rfl, rfl, rfl, rfl, rfl, rfl, rfl, rfl, rfl, rfl, rfl, rfl, trivial⟩
        · have h36b := h36
          try simp only [sxb] at h36
          rw [if_neg (by omega)] at hso
          refine cj_skip (ej_blk (ej_th ?_))
          refine cj_regionG (gj_step (y_add rfl rfl (by omega)) rfl rfl rfl (gj_step (y_move rfl) rfl rfl rfl (gj_nil ?_)))
          exact ej_nx (k + 1, A1, c1, own) (by simp only; omega) ⟨by first | omega | (simp only; omega), by simp only; omega, hso⟩ ⟨rfl, rfl, rfl, rfl, rfl, rfl, rfl, rfl, rfl, rfl, rfl, rfl, trivial⟩
      · have h30b := h30
        try simp only [sxb] at h30
        have hxo : own = (selF n ms.length 0) := by rw [← hso, show ms.length - k = 0 by omega, selF, List.append_nil]
        have hor : ∀ i ∈ own, 0 ≤ i ∧ i < (ms.length : Int) := fun i hi => by
          rw [hxo] at hi
          have := selF_rng n ms.length 0 i hi
          omega
        have hlN := labN_bd ms hlb own hor
        have hoT : (own.map (labAt ms)).sum ≤ 1000000 := by
          have h9 : (own.map (labAt ms)).sum = labN ms own := rfl
          omega
        have hbs := bestN_succ ms tk fs n
        rw [← hst, stepL, ← hxo] at hbs
        refine cj_exit (ej_then_exit (ej_then_exit (ej_blk_hit (ej_th (cj_seq ?_)))))
        refine cj_regionG ?_
        refine gj_step (y_move rfl) rfl rfl rfl (gj_step (y_makeFunc rfl rfl) rfl rfl rfl (?_))
        refine gj_step (y_call Tryz.call49 rfl (fun w hp => k_totalL own A1 c1 ms A c b3 w (hp.rdO (fun _ => rfl) (by unfold maxLen; omega)) hp.rd hp.bo hmb hor hoT)) rfl rfl rfl ?_
        refine gj_step (y_assign rfl) rfl rfl rfl (?_)
        refine gj_nil ?_
        refine ej_th (cj_seq (cj_seq ?_))
        refine cj_regionG ?_
        refine gj_step (y_load1 Tryz.isAgg48 rfl rfl) rfl rfl rfl (gj_step (y_move rfl) rfl rfl rfl (gj_step (y_move rfl) rfl rfl rfl (gj_step (y_move rfl) rfl rfl rfl (?_))))
        refine gj_step (y_call Tryz.call48 rfl (fun w hp => k_shows ms A c tk At ct fs Af cf own A1 c1 w hp.rd hp.rd hp.rd (fun f h => (hgf f h).mono hp.below) (hp.rdO (fun _ => rfl) (by unfold maxLen; omega)) hml.2 hmb htb (fun f h => (hfb f h).1))) rfl rfl rfl ?_
        refine gj_step (y_not rfl) rfl rfl rfl (?_)
        refine gj_nil ?_
        refine ej_th ?_
        refine cj_cond rfl (fun h50 => ?_) (fun h50 => ?_)
        · have h50b := h50
          try simp only [sxb] at h50
          rw [if_neg (by rw [not_t h50b]; simp)] at hbs
          refine cj_exit (ej_then_exit (ej_blk_hit (ej_th ?_)))
          refine cj_regionG (gj_step (y_add rfl rfl (by omega)) rfl rfl rfl (gj_step (y_move rfl) rfl rfl rfl (gj_nil ?_)))
          exact ej_nx (n + 1, A6, c6, set, lab) (by simp only; omega) ⟨by first | omega | (simp only; omega), hbs.symm⟩ ⟨rfl, rfl, rfl, rfl, rfl, rfl, rfl, rfl, trivial⟩
        · have h50b := h50
          try simp only [sxb] at h50
          rw [if_pos (not_f h50b)] at hbs
          refine cj_skip (ej_th (cj_seq ?_))
          refine cj_regionG ?_
          refine gj_step (y_move rfl) rfl rfl rfl (gj_step (y_lss rfl rfl) rfl rfl rfl (gj_step (y_move rfl) rfl rfl rfl (?_)))
          refine gj_g 3 53 56 rfl rfl rfl rfl (fun hg53 => gj_yes rfl rfl rfl (y_move rfl) rfl rfl (gj_yes rfl rfl rfl (y_move rfl) rfl rfl (gj_yes rfl rfl rfl (y_lss rfl rfl) rfl rfl (gj_nil rfl)))) ?_
          refine gj_step (y_or rfl rfl rfl) rfl rfl rfl (gj_step (y_move rfl) rfl rfl rfl (?_))
          refine gj_g 9 58 67 rfl rfl rfl rfl (fun hg58 => gj_yes rfl rfl rfl (y_move rfl) rfl rfl (gj_yes rfl rfl rfl (y_move rfl) rfl rfl (gj_yes rfl rfl rfl (y_eql rfl rfl) rfl rfl (gj_yes rfl rfl rfl (y_move rfl) rfl rfl (gj_g 4 62 66 rfl rfl rfl rfl (fun hg62 => gj_yes rfl rfl rfl (y_move rfl) rfl rfl (gj_yes rfl rfl rfl (y_move rfl) rfl rfl (gj_yes rfl rfl rfl (y_call Tryz.call51 rfl (fun w hp => k_Compare own set A1 A6 c1 c6 w (hp.rdO (fun _ => rfl) (by unfold maxLen; omega)) (hp.rdO (fun _ => rfl) (by unfold maxLen; omega)))) rfl rfl (gj_yes rfl rfl rfl (y_lss rfl rfl) rfl rfl (gj_nil rfl))))) (gj_yes rfl rfl rfl (y_and rfl rfl rfl) rfl rfl (gj_nil rfl))))))) ?_
          refine gj_step (y_or rfl rfl rfl) rfl rfl rfl (?_)
          refine gj_nil ?_
          refine ej_th ?_
          refine cj_cond rfl (fun h68 => ?_) (fun h68 => ?_)
          · have h68b := h68
            try simp only [sxb] at h68
            have hc : lab < 0 ∨ labN ms own < lab ∨ (labN ms own = lab ∧ cmpL own set < 0) := by simpa [or_assoc] using h68b
            rw [if_pos hc] at hbs
            refine cj_regionG (gj_step (y_move rfl) rfl rfl rfl (gj_step (y_move rfl) rfl rfl rfl (gj_step (y_assign rfl) rfl rfl rfl (gj_step (y_assign rfl) rfl rfl rfl (gj_nil ?_)))))
            refine ej_blk (ej_th ?_)
            refine cj_regionG (gj_step (y_add rfl rfl (by omega)) rfl rfl rfl (gj_step (y_move rfl) rfl rfl rfl (gj_nil ?_)))
            exact ej_nx (n + 1, A1, c1, own, labN ms own) (by simp only; omega) ⟨by first | omega | (simp only; omega), hbs.symm⟩ ⟨rfl, rfl, rfl, rfl, rfl, rfl, rfl, rfl, trivial⟩
          · have h68b := h68
            try simp only [sxb] at h68
            have hc : ¬ (lab < 0 ∨ labN ms own < lab ∨ (labN ms own = lab ∧ cmpL own set < 0)) := by
              intro hc
              have : ((decide (lab < 0) || decide (labN ms own < lab)) || ((labN ms own == lab) && decide (cmpL own set < 0))) = true := by simpa [or_assoc] using hc
              rw [this] at h68b; cases h68b
            rw [if_neg hc] at hbs
            refine cj_skip (ej_blk (ej_th ?_))
            refine cj_regionG (gj_step (y_add rfl rfl (by omega)) rfl rfl rfl (gj_step (y_move rfl) rfl rfl rfl (gj_nil ?_)))
            exact ej_nx (n + 1, A6, c6, set, lab) (by simp only; omega) ⟨by first | omega | (simp only; omega), hbs.symm⟩ ⟨rfl, rfl, rfl, rfl, rfl, rfl, rfl, rfl, trivial⟩
    · have h25b := h25
      try simp only [sxb] at h25
      have hb : (set, lab) = best ms tk fs := by rw [best, hst, show n = 2 ^ ms.length by omega]
      have hbd := bestN_bd ms tk fs hlb n
      rw [← hst] at hbd
      simp only at hbd
      refine cj_exit (ej_then_exit (ej_then_exit (ej_blk_hit (ej_th (cj_seq (cj_seq ?_))))))
      refine cj_regionG (gj_step (y_move rfl) rfl rfl rfl (gj_step (y_lss rfl rfl) rfl rfl rfl (gj_nil ?_)))
      refine ej_th ?_
      refine cj_cond rfl (fun h73 => ?_) (fun h73 => ?_)
      · have h73b := h73
        try simp only [sxb] at h73
        have hlt : (best ms tk fs).2 < 0 := by rw [← hb]; exact h73
        refine cj_seq ?_
        refine cj_regionG (gj_step (y_assign rfl) rfl rfl rfl (gj_step (y_assign rfl) rfl rfl rfl (gj_step (y_assign rfl) rfl rfl rfl (gj_nil ?_))))
        refine ej_th (cj_ret (ej_then_ret ?_))
        obtain ⟨e1, e2, e3⟩ := lst_no2 hz hlt
        exact ej_ret3 rfl Tryz.results24 rfl rfl rfl (fun w' hp => ⟨none, 0, by rw [e1, e2, e3]; rfl, hp.below, by rw [e2]; exact Res.nil⟩)
      · have h73b := h73
        try simp only [sxb] at h73
        have hlt : ¬ (best ms tk fs).2 < 0 := by rw [← hb]; simp only; omega
        refine cj_skip (ej_th (cj_seq ?_))
        refine cj_regionG (gj_step (y_move rfl) rfl rfl rfl (gj_step (y_move rfl) rfl rfl rfl (gj_step (y_assign rfl) rfl rfl rfl (gj_step (y_assign rfl) rfl rfl rfl (gj_step (y_assign rfl) rfl rfl rfl (gj_nil ?_))))))
        refine ej_th (cj_ret ?_)
        obtain ⟨e1, e2, e3⟩ := lst_yes hz hlt
        rw [← hb] at e2 e3
        simp only at e2 e3
        exact ej_ret3 rfl Tryz.results24 rfl rfl rfl (fun w' hp => ⟨A6, c6, by rw [e1, e2, e3], hp.below, by rw [e2]; exact hp.res (fun _ => rfl) (by unfold maxLen; omega)⟩)

theorem k_Bound (ms : List Meas) (A : Option Addr) (c : Nat) (tk : List Int) (At : Option Addr) (ct : Nat) (fs : List FakeV) (Af : Option Addr) (cf : Nat) (ps : List Int) (Ap : Option Addr) (cp : Nat) (w : World) (hm : Rd w 2 encMe A ms) (ht : Rd w 1 enInt At tk) (hf : Rd w 1 encFk Af fs) (hgf : ∀ f ∈ fs, GoodK w f) (hps : Rd w 1 enInt Ap ps) : Calls Tryz.prog 25 #[.slice A ms.length c, .slice At tk.length ct, .slice Af fs.length cf, .slice Ap ps.length cp] w (fun e w' => e = .returned (.tuple #[.int .i64 (BndN ms tk fs ps), .int .i64 (BndE ms tk fs ps)]) ∧ Grow w w') := by
  have hlm := hm.len
  have hlp := hps.len
  have hlf := hf.len
  refine enter_pure (args := [.slice A ms.length c, .slice At tk.length ct, .slice Af fs.length cf, .slice Ap ps.length cp]) [sl (fun b => b < w.heap.size) 2 encMe A ms, sl (fun b => b < w.heap.size) 1 enInt At tk, sl (fun b => b < w.heap.size) 1 encFk Af fs, sl (fun b => b < w.heap.size) 1 enInt Ap ps] Tryz.func25 rfl (by rw [Tryz.ntmps25]; simp) (fun g hg => by simp at hg; rcases hg with rfl | rfl | rfl | rfl; exact ⟨hm, fun _ h => h⟩; exact ⟨ht, fun _ h => h⟩; exact ⟨hf, fun _ h => h⟩; exact ⟨hps, fun _ h => h⟩) ?_
  refine cj_seq ?_
  refine cj_regionG (gj_step (y_assign rfl) rfl rfl rfl (gj_step (y_assign rfl) rfl rfl rfl (gj_nil ?_)))
  refine ej_th (cj_seq (cj_seq ?_))
  refine cj_regionG ?_
  refine gj_step (y_move rfl) rfl rfl rfl (gj_step (y_move rfl) rfl rfl rfl (gj_step (y_move rfl) rfl rfl rfl (?_)))
  refine gj_step (y_call Tryz.call46 rfl (fun w hp => k_skill ms A c tk At ct fs Af cf w hp.rd hp.rd hp.rd (fun f h => (hgf f h).mono hp.below))) rfl rfl rfl ?_
  refine gj_step (y_assign rfl) rfl rfl rfl (?_)
  refine gj_nil ?_
  refine ej_th (cj_seq ?_)
  refine cj_regionG (gj_step (y_move rfl) rfl rfl rfl (gj_step (y_neq rfl rfl) rfl rfl rfl (gj_nil ?_)))
  refine ej_th ?_
  refine cj_cond rfl (fun h21 => ?_) (fun h21 => ?_)
  · have h21b := h21
    try simp only [sxb] at h21
    have hno := skill_no h21b
    refine cj_seq ?_
    refine cj_regionG (gj_step (y_move rfl) rfl rfl rfl (gj_step (y_assign rfl) rfl rfl rfl (gj_step (y_assign rfl) rfl rfl rfl (gj_nil ?_))))
    refine ej_th (cj_ret (ej_then_ret ?_))
    obtain ⟨e1, e2⟩ := bnd_no1 (ps := ps) hno
    exact ej_ret2 rfl Tryz.results25 rfl rfl (fun w' hp => ⟨by rw [e1, e2], hp.below⟩)
  · have h21b := h21
    try simp only [sxb] at h21
    obtain ⟨hmo, hto, hfo, hz⟩ := skill_0 h21b
    obtain ⟨hml, hmb⟩ := meas_bd hmo
    have htb := rdOk_bd hto
    obtain ⟨hfl, hfb⟩ := fakes_bd hfo
    refine cj_skip (ej_th (cj_seq (cj_seq ?_)))
    refine cj_regionG ?_
    refine gj_step (y_move rfl) rfl rfl rfl (gj_step (y_lenA Tryz.underlying49 rfl) rfl rfl rfl (gj_step (y_move rfl) rfl rfl rfl (gj_step (y_lenA Tryz.underlying50 rfl) rfl rfl rfl (gj_step (y_neq rfl rfl) rfl rfl rfl (gj_step (y_move rfl) rfl rfl rfl (?_))))))
    refine gj_g 2 28 30 rfl rfl rfl rfl (fun hg28 => gj_yes rfl rfl rfl (y_move rfl) rfl rfl (gj_yes rfl rfl rfl (y_call Tryz.call52 rfl (fun w hp => k_ContainsFP ps Ap cp w hp.rd)) rfl rfl (gj_nil rfl))) ?_
    refine gj_step (y_or rfl rfl rfl) rfl rfl rfl (?_)
    refine gj_nil ?_
    refine ej_th ?_
    refine cj_cond rfl (fun h31 => ?_) (fun h31 => ?_)
    · have h31b := h31
      try simp only [sxb] at h31
      have hpo : prOk fs ps = false := by unfold prOk; exact not_t ((rd_V _ _ _).symm.trans h31b)
      refine cj_seq ?_
      refine cj_regionG (gj_step (y_assign rfl) rfl rfl rfl (gj_step (y_assign rfl) rfl rfl rfl (gj_nil ?_)))
      refine ej_th (cj_ret (ej_then_ret ?_))
      obtain ⟨e1, e2⟩ := bnd_no2 (ps := ps) hz (by rw [hpo]; rfl)
      exact ej_ret2 rfl Tryz.results25 rfl rfl (fun w' hp => ⟨by rw [e1, e2], hp.below⟩)
    · have h31b := h31
      try simp only [sxb] at h31
      have hpo : prOk fs ps = true := by unfold prOk; exact not_f ((rd_V _ _ _).symm.trans h31b)
      have hpp := Bool.and_eq_true_iff.1 hpo
      have hpl : ps.length = fs.length := by have := hpp.1; simp only [beq_iff_eq] at this; omega
      have hpa := hpp.2
      have hpb := prc_bd hpa
      refine cj_skip (ej_th (cj_seq (cj_seq ?_)))
      refine cj_regionG (gj_step (y_move rfl) rfl rfl rfl (gj_step (y_lenA Tryz.underlying48 rfl) rfl rfl rfl (gj_step (y_move rfl) rfl rfl rfl (gj_nil ?_))))
      refine ej_th (cj_block ?_)
      refine cj_lpic (X := Nat) [(1, _), (2, _), (3, _), (32, _), (33, _)] (fun k => k ≤ ms.length ∧ bndA tk fs ps (ms.drop k) k = bndA tk fs ps ms 0) (fun k => [(34, .int .i64 k)]) (fun k => ms.length - k) 0 (⟨Nat.zero_le _, rfl⟩) ⟨rfl, rfl, rfl, rfl, rfl, rfl, trivial⟩ ?_
      rintro k ⟨hk, hsk⟩
      dsimp only [List.cons_append, List.nil_append]
      refine cj_seq ?_
      refine cj_regionG (gj_step (y_lss rfl rfl) rfl rfl rfl (gj_nil ?_))
      refine ej_th (cj_seq ?_)
      refine cj_cond rfl (fun h35 => ?_) (fun h35 => ?_)
      · have h35b := h35
        try simp only [sxb] at h35
        obtain ⟨m, hx⟩ : ∃ m, ms[k]? = some m := ⟨_, List.getElem?_eq_getElem (by omega)⟩
        obtain ⟨r, hr⟩ : ∃ r, tk[k]? = some r := ⟨_, List.getElem?_eq_getElem (by omega)⟩
        have htg : tk.getD k 0 = r := by rw [List.getD_eq_getElem?_getD, hr]; rfl
        rw [bndA_drop tk fs ps ms k m hx, htg] at hsk
        have hBb := bndF_bd m r k fs ps hpb
        refine cj_skip (ej_th (cj_seq (cj_block (cj_seq (cj_region ?_)))))
        refine oj_step (y_move rfl) rfl rfl rfl ?_
        refine oj_step (y_ixR (reads_sl) Tryz.underlying48 Tryz.sizeOf98 rfl rfl (⟨by omega, by omega⟩)) rfl rfl rfl ?_
        refine oj_step (y_ldW (reads_sl) Tryz.isAgg98 Tryz.sizeOf98 rfl (hx) (fun _ => rfl)) rfl rfl rfl ?_
        refine oj_alloc Tryz.zeroValue98 rfl rfl (fun b12 => ?_)
        refine oj_step (y_assign rfl) rfl rfl rfl ?_
        refine oj_store rfl rfl rfl rfl Tryz.sizeOf98 rfl ?_
        refine oj_nil ?_
        refine ej_th (cj_seq ?_)
        refine cj_regionG (gj_step (y_assign rfl) rfl rfl rfl (gj_nil ?_))
        refine ej_th (cj_seq (cj_seq ?_))
        refine cj_regionG (gj_step (y_move rfl) rfl rfl rfl (gj_step (y_lenA Tryz.underlying50 rfl) rfl rfl rfl (gj_step (y_move rfl) rfl rfl rfl (gj_nil ?_))))
        refine ej_th (cj_block ?_)
        refine cj_lpic (X := Nat × Int) [(34, _), (1, _), (2, _), (3, _), (32, _), (33, _), (12, _), (11, _), (39, _), (40, _)] (fun ⟨j, n⟩ => j ≤ fs.length ∧ 0 ≤ n ∧ n + bndF m r k (fs.drop j) (ps.drop j) = bndF m r k fs ps) (fun ⟨j, n⟩ => [(13, .int .i64 n), (41, .int .i64 j)]) (fun ⟨j, n⟩ => fs.length - j) (0, 0) (⟨Nat.zero_le _, Int.le_refl _, by simp⟩) ⟨rfl, rfl, rfl, rfl, rfl, rfl, rfl, rfl, rfl, rfl, rfl, rfl, trivial⟩ ?_
        rintro ⟨j, n⟩ ⟨hj, hn0, hsj⟩
        dsimp only [List.cons_append, List.nil_append]
        refine cj_seq ?_
        refine cj_regionG (gj_step (y_lss rfl rfl) rfl rfl rfl (gj_nil ?_))
        refine ej_th (cj_seq ?_)
        refine cj_cond rfl (fun h42 => ?_) (fun h42 => ?_)
        · have h42b := h42
          try simp only [sxb] at h42
          obtain ⟨f, hy⟩ : ∃ f, fs[j]? = some f := ⟨_, List.getElem?_eq_getElem (by omega)⟩
          obtain ⟨p, hpj⟩ : ∃ p, ps[j]? = some p := ⟨_, List.getElem?_eq_getElem (by omega)⟩
          have hfl2 := (hfb f (List.mem_of_getElem? hy)).1
          obtain ⟨s, hs⟩ : ∃ s, f.has[k]? = some s := ⟨_, List.getElem?_eq_getElem (by omega)⟩
          have hsd : f.has.getD k default = s := by rw [List.getD_eq_getElem?_getD, hs]; rfl
          rw [bndF_drop m r k fs ps j f p hy hpj, hsd] at hsj
          have hpb1 := hpb p (List.mem_of_getElem? hpj)
          have hrest := (bndF_bd m r k (fs.drop (j + 1)) (ps.drop (j + 1)) (fun q hq => hpb q (List.mem_of_mem_drop hq))).1
          have hgr := hgf f (List.mem_of_getElem? hy)
          have hl2 := hgr.len
          refine cj_rd hgr (fun _ h => h) ?_
          refine cj_skip (ej_th (cj_seq (cj_block (cj_seq (cj_region ?_)))))
          refine oj_step (y_move rfl) rfl rfl rfl ?_
          refine oj_step (y_ixR (reads_sl) Tryz.underlying50 Tryz.sizeOf63 rfl rfl (⟨by omega, by omega⟩)) rfl rfl rfl ?_
          refine oj_step (y_ldW (reads_sl) Tryz.isAgg63 Tryz.sizeOf63 rfl (hy) (fun _ => rfl)) rfl rfl rfl ?_
          refine oj_alloc Tryz.zeroValue63 rfl rfl (fun b15 => ?_)
          refine oj_step (y_assign rfl) rfl rfl rfl ?_
          refine oj_store rfl rfl rfl rfl Tryz.sizeOf63 rfl ?_
          refine oj_nil ?_
          refine ej_th (cj_seq ?_)
          refine cj_draw (by kernel_rfl) (by kernel_rfl) ?_
          refine gj_step (y_loadN Tryz.isAgg98 Tryz.sizeOf98 rfl) rfl rfl rfl (gj_step (y_move rfl) rfl rfl rfl (gj_step (y_move rfl) rfl rfl rfl (gj_step (y_ixR (reads_sl) Tryz.underlying49 Tryz.sizeOf3 rfl rfl (⟨by omega, by omega⟩)) rfl rfl rfl (gj_step (y_ld0 (reads_sl) Tryz.isAgg3 rfl (hr) rfl) rfl rfl rfl (gj_step (y_fa0 fa63_0 rfl) rfl rfl rfl (gj_step (y_load1 Tryz.isAgg54 rfl rfl) rfl rfl rfl (gj_step (y_move rfl) rfl rfl rfl (gj_step (y_ixR (reads_sl) Tryz.underlying54 Tryz.sizeOf70 rfl rfl (⟨by omega, by omega⟩)) rfl rfl rfl (gj_step (y_ldW (reads_sl) Tryz.isAgg70 Tryz.sizeOf70 rfl (hs) (fun _ => rfl)) rfl rfl rfl (?_))))))))))
          refine gj_step (y_call Tryz.call54 rfl (fun w hp => k_finds m r s w ⟨htb.2 r (List.mem_of_getElem? hr), (hmb m (List.mem_of_getElem? hx)).1⟩)) rfl rfl rfl ?_
          refine gj_nil ?_
          refine ej_th ?_
          refine cj_cond rfl (fun h56 => ?_) (fun h56 => ?_)
          · have h56b := h56
            try simp only [sxb] at h56
            rw [if_pos h56b] at hsj
            refine cj_regionG (gj_step (y_move rfl) rfl rfl rfl (gj_step (y_move rfl) rfl rfl rfl (gj_step (y_move rfl) rfl rfl rfl (gj_step (y_ixR (reads_sl) Tryz.underlying49 Tryz.sizeOf3 rfl rfl (⟨by omega, by omega⟩)) rfl rfl rfl (gj_step (y_ld0 (reads_sl) Tryz.isAgg3 rfl (hpj) rfl) rfl rfl rfl (gj_step (y_add rfl rfl (by omega)) rfl rfl rfl (gj_step (y_assign rfl) rfl rfl rfl (gj_nil ?_))))))))
            refine ej_blk (ej_th ?_)
            refine cj_regionG (gj_step (y_add rfl rfl (by omega)) rfl rfl rfl (gj_step (y_move rfl) rfl rfl rfl (gj_nil ?_)))
            exact ej_nx (j + 1, n + p) (by simp only; omega) ⟨by first | omega | (simp only; omega), by simp only; omega, by simp only; omega⟩ ⟨rfl, rfl, rfl, rfl, rfl, rfl, rfl, rfl, rfl, rfl, rfl, rfl, trivial⟩
          · have h56b := h56
            try simp only [sxb] at h56
            rw [if_neg (by simp [h56b])] at hsj
            refine cj_skip (ej_blk (ej_th ?_))
            refine cj_regionG (gj_step (y_add rfl rfl (by omega)) rfl rfl rfl (gj_step (y_move rfl) rfl rfl rfl (gj_nil ?_)))
            exact ej_nx (j + 1, n) (by simp only; omega) ⟨by first | omega | (simp only; omega), hn0, by simp only; omega⟩ ⟨rfl, rfl, rfl, rfl, rfl, rfl, rfl, rfl, rfl, rfl, rfl, rfl, trivial⟩
        · have h42b := h42
          try simp only [sxb] at h42
          rw [List.drop_of_length_le (show fs.length ≤ j by omega)] at hsj
          have hne : n = bndF m r k fs ps := by rw [← hsj]; simp [bndF]
          refine cj_exit (ej_then_exit (ej_then_exit (ej_blk_hit (ej_th (cj_seq ?_)))))
          refine cj_regionG (gj_step (y_move rfl) rfl rfl rfl (gj_step (y_fa fa98_1 rfl) rfl rfl rfl (gj_step (y_load1 Tryz.isAgg3 rfl rfl) rfl rfl rfl (gj_step (y_gtr rfl rfl) rfl rfl rfl (gj_nil ?_)))))
          refine ej_th ?_
          refine cj_cond rfl (fun h67 => ?_) (fun h67 => ?_)
          · have h67b := h67
            try simp only [sxb] at h67
            have hA : bndA tk fs ps ms 0 = false := by rw [← hsk, decide_eq_false (by omega)]; rfl
            refine cj_seq ?_
            refine cj_regionG (gj_step (y_assign rfl) rfl rfl rfl (gj_step (y_assign rfl) rfl rfl rfl (gj_nil ?_)))
            refine ej_th (cj_ret (ej_blk_ret (ej_then_ret (ej_then_ret (ej_blk_ret (ej_then_ret ?_))))))
            obtain ⟨e1, e2⟩ := bnd_no2 (ps := ps) hz (by rw [hpo, hA]; rfl)
            exact ej_ret2 rfl Tryz.results25 rfl rfl (fun w' hp => ⟨by rw [e1, e2], hp.below⟩)
          · have h67b := h67
            try simp only [sxb] at h67
            rw [decide_eq_true (show bndF m r k fs ps ≤ m.lab by omega), Bool.true_and] at hsk
            refine cj_skip (ej_blk (ej_th ?_))
            refine cj_regionG (gj_step (y_add rfl rfl (by omega)) rfl rfl rfl (gj_step (y_move rfl) rfl rfl rfl (gj_nil ?_)))
            exact ej_nx (k + 1) (by omega) ⟨by omega, by exact hsk⟩ ⟨rfl, rfl, rfl, rfl, rfl, rfl, trivial⟩
      · have h35b := h35
        try simp only [sxb] at h35
        rw [List.drop_of_length_le (show ms.length ≤ k by omega)] at hsk
        have hA : bndA tk fs ps ms 0 = true := by rw [← hsk]; rfl
        refine cj_exit (ej_then_exit (ej_then_exit (ej_blk_hit (ej_th (cj_seq ?_)))))
        refine cj_regionG ?_
        refine gj_step (y_move rfl) rfl rfl rfl (?_)
        refine gj_step (y_call Tryz.call49 rfl (fun w hp => k_totalI ps Ap cp w hp.rd hpa (by have := sumP_bd ps hpa; omega))) rfl rfl rfl ?_
        refine gj_step (y_assign rfl) rfl rfl rfl (gj_step (y_assign rfl) rfl rfl rfl (?_))
        refine gj_nil ?_
        refine ej_th (cj_ret ?_)
        obtain ⟨e1, e2⟩ := bnd_yes (ps := ps) hz (by rw [hpo, hA]; rfl)
        exact ej_ret2 rfl Tryz.results25 rfl rfl (fun w' hp => ⟨by rw [e1, e2], hp.below⟩)

end Go.Proofs.YtlfbghkcfmcnlaaGreatDoor
namespace Go.Proofs.YtlfbghkcfmcnlaaGreatDoor
open Go.Sx Go.RowKit
set_option maxRecDepth 20000
theorem ne70 (a0 b0 : Int) (a1 b1 : Int) (x y : Operand) (w : World) : (do eqGuard .neq 70 x y (.agg #[.int .i64 a0, .int .i64 a1]) (.agg #[.int .i64 b0, .int .i64 b1]); binOp .neq 70 (.agg #[.int .i64 a0, .int .i64 a1]) (.agg #[.int .i64 b0, .int .i64 b1]) : Sem Value).run Tryz.prog w = .ok (.bool (!((a0 == b0) && (a1 == b1)))) w := by
  simp [go_sem, Tryz.eqGuardType70, Tryz.stoodInHeld70, Tryz.underlying70, Tryz.underlying3]
  try ((repeat' split) <;> simp_all)
theorem st37 : StructIs Tryz.prog 37 [(0, 1), (1, 1), (2, 1), (3, 1)] [.string ⟨#[]⟩, .slice none 0 0, .slice none 0 0, .int .i64 0] := ⟨⟨_, Tryz.underlying37, fun w => by simp [Tryz.sizeOf23, Tryz.sizeOf3, Tryz.sizeOf35, Tryz.sizeOf9], Tryz.zeroValue37⟩⟩
theorem st39 : StructIs Tryz.prog 39 [(0, 1), (1, 1), (2, 1)] [.string ⟨#[]⟩, .slice none 0 0, .bool false] := ⟨⟨_, Tryz.underlying39, fun w => by simp [Tryz.sizeOf23, Tryz.sizeOf4, Tryz.sizeOf9], Tryz.zeroValue39⟩⟩
theorem st52 : StructIs Tryz.prog 52 [(0, 1), (1, 1), (2, 1)] [.slice none 0 0, .slice none 0 0, .slice none 0 0] := ⟨⟨_, Tryz.underlying52, fun w => by simp [Tryz.sizeOf48, Tryz.sizeOf49, Tryz.sizeOf50], Tryz.zeroValue52⟩⟩
theorem st63 : StructIs Tryz.prog 63 [(0, 1)] [.slice none 0 0] := ⟨⟨_, Tryz.underlying63, fun w => by simp [Tryz.sizeOf54], Tryz.zeroValue63⟩⟩
theorem st98 : StructIs Tryz.prog 98 [(0, 1), (1, 1)] [.int .i64 0, .int .i64 0] := ⟨⟨_, Tryz.underlying98, fun w => by simp [Tryz.sizeOf3], Tryz.zeroValue98⟩⟩
end Go.Proofs.YtlfbghkcfmcnlaaGreatDoor
namespace Go.Proofs.YtlfbghkcfmcnlaaGreatDoor
open Go.Sx Go.RowKit
set_option maxRecDepth 20000

end Go.Proofs.YtlfbghkcfmcnlaaGreatDoor
namespace Go.Proofs.YtlfbghkcfmcnlaaGreatDoor
open Go.Sx Go.RowKit
set_option maxRecDepth 20000
theorem k_find1 (a b : ItemV) (xa xb xu x7 x8 i : Nat) (us : List Bool) (w0 : World) (w : World) (hw : FindW w0 w a b xa xb xu x7 x8) (hob : w.heap[xu]? = some (cellsB 4 (bls us))) (hga : GoodI w0 a) (hgb : GoodI w0 b) (hi : i ≤ a.parts.length) (hus : us.length = b.parts.length) (ihc : ∀ p ∈ a.parts, ∀ q ∈ b.parts, ∀ w1, Grow w0 w1 → Calls Tryz.prog 78 #[evI p, evI q] w1 (fun e w' => e = .returned (.bool (covI p q)) ∧ Grow w1 w')) (ihf : ∀ (vs : List Bool) (w1 : World), i < a.parts.length → vs.length = b.parts.length → FindW w0 w1 a b xa xb xu x7 x8 → w1.heap[xu]? = some (cellsB 4 (bls vs)) → Calls Tryz.prog 95 (#[] ++ [.int .i64 ((i : Int) + 1)].toArray ++ #[.pointer (some ⟨xa, 0, none⟩), .pointer (some ⟨xb, 0, none⟩), .pointer (some ⟨x7, 0, none⟩), .pointer (some ⟨x8, 0, none⟩)]) w1 (fun e w' => e = .returned (.bool (asg (covRows (a.parts.drop (i + 1)) b.parts) vs).1) ∧ Mut (ownB xu (cellsB 4 (bls vs))) w1 w' ∧ w'.heap[xu]? = some (cellsB 4 (bls (asg (covRows (a.parts.drop (i + 1)) b.parts) vs).2)))) : Calls Tryz.prog 95 #[.int .i64 (i : Nat), .pointer (some ⟨xa, 0, none⟩), .pointer (some ⟨xb, 0, none⟩), .pointer (some ⟨x7, 0, none⟩), .pointer (some ⟨x8, 0, none⟩)] w (fun e w' => e = .returned (.bool (asg (covRows (a.parts.drop i) b.parts) us).1) ∧ Mut (ownB xu (cellsB 4 (bls us))) w w' ∧ w'.heap[xu]? = some (cellsB 4 (bls (asg (covRows (a.parts.drop i) b.parts) us).2))) := by
  have hl1 := hga.rp.len
  have hl2 := hgb.rp.len
  have hF : ∀ j, j < w0.heap.size → j < w.heap.size ∧ j ≠ xu := fun j h => ⟨Nat.lt_of_lt_of_le h hw.hg.size, fun e => by have := hw.hu; omega⟩
  refine enter_own (args := [.int .i64 (i : Nat), .pointer (some ⟨xa, 0, none⟩), .pointer (some ⟨xb, 0, none⟩), .pointer (some ⟨x7, 0, none⟩), .pointer (some ⟨x8, 0, none⟩)]) xu (cellsB 4 (bls us)) [ownB xa (cellsB 26 [.string a.cls, .slice a.As a.says.length a.cs, .slice a.Ap a.parts.length a.cp]), ownB xb (cellsB 26 [.string b.cls, .slice b.As b.says.length b.cs, .slice b.Ap b.parts.length b.cp]), ownB x7 (cellsB 147 [.slice (some ⟨xu, 0, none⟩) b.parts.length b.parts.length]), ownB x8 (cellsB 109 [.func (.func 95) #[] #[.pointer (some ⟨xa, 0, none⟩), .pointer (some ⟨xb, 0, none⟩), .pointer (some ⟨x7, 0, none⟩), .pointer (some ⟨x8, 0, none⟩)]])] Tryz.func95 rfl (by rw [Tryz.ntmps95]; simp) hob (fun g hg => by
    have hlt : ∀ (x : Nat) (o : Obj), w.heap[x]? = some o → x < w.heap.size := fun x o h => (Array.getElem?_eq_some_iff.1 h).1
    simp only [List.mem_cons, List.mem_nil_iff, or_false] at hg
    rcases hg with rfl | rfl | rfl | rfl
    · exact ⟨hw.ha, fun i hi => by have : i = xa := hi; subst this; exact ⟨hlt _ _ hw.ha, hw.na⟩⟩
    · exact ⟨hw.hb, fun i hi => by have : i = xb := hi; subst this; exact ⟨hlt _ _ hw.hb, hw.nb⟩⟩
    · exact ⟨hw.h7, fun i hi => by have : i = x7 := hi; subst this; exact ⟨hlt _ _ hw.h7, hw.n7⟩⟩
    · exact ⟨hw.h8, fun i hi => by have : i = x8 := hi; subst this; exact ⟨hlt _ _ hw.h8, hw.n8⟩⟩) ?_
  refine cj_seq ?_
  refine cj_regionG (gj_step (y_assign rfl) rfl rfl rfl (gj_nil ?_))
  refine ej_th ?_
  refine cj_scope rfl ?_
  refine cj_seq (cj_seq ?_)
  refine cj_regionG (gj_step (y_move rfl) rfl rfl rfl (gj_step (y_fa fa26_2 rfl) rfl rfl rfl (gj_step (y_loadS1 Tryz.isAgg24 rfl rfl) rfl rfl rfl (gj_step (y_lenA Tryz.underlying24 rfl) rfl rfl rfl (gj_step (y_eql rfl rfl) rfl rfl rfl (gj_nil ?_))))))
  refine ej_th ?_
  refine cj_cond rfl (fun h13 => ?_) (fun h13 => ?_)
  · have h13b := h13
    try simp only [sxb] at h13
    have hie : i = a.parts.length := by omega
    have hro : covRows (a.parts.drop i) b.parts = [] := by rw [List.drop_of_length_le (by omega)]; unfold covRows; rfl
    refine cj_seq ?_
    refine cj_regionG (gj_step (y_assign rfl) rfl rfl rfl (gj_nil ?_))
    refine ej_th (cj_ret (ej_then_ret (ej_noGoto_ret ?_)))
    exact ej_ret1 rfl Tryz.results95 rfl (fun w' hp => ⟨by rw [hro]; rfl, hp.mut, by rw [hro]; exact hp.own1⟩)
  · have h13b := h13
    try simp only [sxb] at h13
    obtain ⟨p, hai⟩ : ∃ p, a.parts[i]? = some p := ⟨_, List.getElem?_eq_getElem (by omega)⟩
    have hro := covRows_drop a.parts b.parts i p hai
    refine cj_rd0 w0 hw.hg hF hga.rp ?_
    refine cj_rd0 w0 hw.hg hF hgb.rp ?_
    refine cj_skip (ej_th (cj_seq (cj_label (ej_th (cj_seq (cj_seq ?_))))))
    refine cj_regionG (gj_step (y_fa fa26_2 rfl) rfl rfl rfl (gj_step (y_loadS1 Tryz.isAgg24 rfl rfl) rfl rfl rfl (gj_step (y_lenA Tryz.underlying24 rfl) rfl rfl rfl (gj_step (y_move rfl) rfl rfl rfl (gj_nil ?_)))))
    refine ej_th (cj_block ?_)
    refine cj_lpi (X := Nat × List Bool) [(0, _), (1, _), (3, _), (4, _), (15, _), (16, _)] (fun ⟨k, vs⟩ => k ≤ b.parts.length ∧ vs.length = b.parts.length ∧ scanA (fun u => asg (covRows (a.parts.drop (i + 1)) b.parts) u) ((b.parts.map (fun q => covI p q)).drop k) k vs = asg (covRows (a.parts.drop i) b.parts) us) (fun ⟨k, vs⟩ => [(17, .int .i64 k)]) (fun ⟨k, vs⟩ => [ownB xu (cellsB 4 (bls vs))]) (fun ⟨k, vs⟩ => [sl (fun i => i < w0.heap.size) 3 encIt b.Ap b.parts, sl (fun i => i < w0.heap.size) 3 encIt a.Ap a.parts, ownB xa (cellsB 26 [.string a.cls, .slice a.As a.says.length a.cs, .slice a.Ap a.parts.length a.cp]), ownB xb (cellsB 26 [.string b.cls, .slice b.As b.says.length b.cs, .slice b.Ap b.parts.length b.cp]), ownB x7 (cellsB 147 [.slice (some ⟨xu, 0, none⟩) b.parts.length b.parts.length]), ownB x8 (cellsB 109 [.func (.func 95) #[] #[.pointer (some ⟨xa, 0, none⟩), .pointer (some ⟨xb, 0, none⟩), .pointer (some ⟨x7, 0, none⟩), .pointer (some ⟨x8, 0, none⟩)]])]) (fun ⟨k, vs⟩ => b.parts.length - k) (0, us) (⟨Nat.zero_le _, hus, by rw [hro]; rfl⟩) ⟨rfl, rfl, rfl, rfl, rfl, rfl, rfl, trivial⟩ ?_
    rintro ⟨k, vs⟩ ⟨hk, hvl, hsc⟩
    dsimp only [List.cons_append, List.nil_append]
    refine cj_seq ?_
    refine cj_regionG (gj_step (y_lss rfl rfl) rfl rfl rfl (gj_nil ?_))
    refine ej_th (cj_seq ?_)
    refine cj_cond rfl (fun h18 => ?_) (fun h18 => ?_)
    · have h18b := h18
      try simp only [sxb] at h18
      obtain ⟨q, hq⟩ : ∃ q, b.parts[k]? = some q := ⟨_, List.getElem?_eq_getElem (by omega)⟩
      obtain ⟨u, hu⟩ : ∃ u, vs[k]? = some u := ⟨_, List.getElem?_eq_getElem (by omega)⟩
      have hrk : (b.parts.map (fun q => covI p q))[k]? = some (covI p q) := by rw [List.getElem?_map, hq]; rfl
      rw [scanA_drop _ _ k _ u vs hrk hu] at hsc
      refine cj_skip (ej_th (cj_seq (cj_block (cj_seq (cj_region ?_)))))
      refine oj_step (y_move rfl) rfl rfl rfl ?_
      refine oj_step (y_ixR (reads_sl) Tryz.underlying24 Tryz.sizeOf26 rfl rfl (⟨by omega, by omega⟩)) rfl rfl rfl ?_
      refine oj_step (y_ldW (reads_sl) Tryz.isAgg26 Tryz.sizeOf26 rfl (hq) (fun _ => rfl)) rfl rfl rfl ?_
      refine oj_alloc Tryz.zeroValue26 rfl rfl (fun b8 => ?_)
      refine oj_step (y_assign rfl) rfl rfl rfl ?_
      refine oj_store rfl rfl rfl rfl Tryz.sizeOf26 rfl ?_
      refine oj_nil ?_
      refine ej_th (cj_seq (cj_seq ?_))
      refine cj_draw (by kernel_rfl) (by kernel_rfl) ?_
      refine gj_step (y_loadS1 Tryz.isAgg147 rfl rfl) rfl rfl rfl (gj_step (y_move rfl) rfl rfl rfl (gj_step (y_ixK Tryz.underlying147 Tryz.sizeOf4 rfl rfl (by omega)) rfl rfl rfl (gj_step (y_load1 Tryz.isAgg4 rfl (bls_get hu)) rfl rfl rfl (gj_step (y_move rfl) rfl rfl rfl (?_)))))
      refine gj_g 8 26 34 rfl rfl rfl rfl (fun hg26 => gj_yes rfl rfl rfl (y_fa fa26_2 rfl) rfl rfl (gj_yes rfl rfl rfl (y_loadS1 Tryz.isAgg24 rfl rfl) rfl rfl (gj_yes rfl rfl rfl (y_move rfl) rfl rfl (gj_yes rfl rfl rfl (y_ixR (reads_sl) Tryz.underlying24 Tryz.sizeOf26 rfl rfl (⟨by omega, by omega⟩)) rfl rfl (gj_yes rfl rfl rfl (y_ldW (reads_sl) Tryz.isAgg26 Tryz.sizeOf26 rfl (hai) (fun _ => rfl)) rfl rfl (gj_yes rfl rfl rfl (y_loadN Tryz.isAgg26 Tryz.sizeOf26 rfl) rfl rfl (gj_yes rfl rfl rfl (y_call Tryz.call78 rfl (fun w hp => by have h := ihc p (List.mem_of_getElem? hai) q (List.mem_of_getElem? hq) w (hp.grow0 hw.hg hF); exact h)) rfl rfl (gj_yes rfl rfl rfl (y_not rfl) rfl rfl (gj_nil rfl))))))))) ?_
      refine gj_step (y_or rfl rfl rfl) rfl rfl rfl (?_)
      refine gj_nil ?_
      refine ej_th ?_
      refine cj_cond rfl (fun h35 => ?_) (fun h35 => ?_)
      · have h35b := h35
        try simp only [sxb] at h35
        rw [if_pos h35b] at hsc
        refine cj_exit (ej_then_exit (ej_blk_hit (ej_th ?_)))
        refine cj_regionG (gj_step (y_add rfl rfl (by omega)) rfl rfl rfl (gj_step (y_move rfl) rfl rfl rfl (gj_nil ?_)))
        exact ej_nx (k + 1, vs) (by simp only; omega) ⟨by first | omega | (simp only; omega), hvl, hsc⟩ ⟨rfl, rfl, rfl, rfl, rfl, rfl, rfl, trivial⟩
      · have h35b := h35
        try simp only [sxb] at h35
        rw [if_neg (by rw [h35b]; simp)] at hsc
        refine cj_skip (ej_th (cj_seq (cj_region ?_)))
        refine oj_step (y_loadS1 Tryz.isAgg147 rfl rfl) rfl rfl rfl ?_
        refine oj_step (y_move rfl) rfl rfl rfl ?_
        refine oj_step (y_ixK Tryz.underlying147 Tryz.sizeOf4 rfl rfl (by omega)) rfl rfl rfl ?_
        refine oj_storeK rfl rfl rfl rfl Tryz.sizeOf4 (by rw [bls_len]; omega) ?_
        rw [bls_set]
        refine oj_nil ?_
        refine ej_th (cj_seq (cj_seq (cj_region ?_)))
        refine oj_step (y_loadS1 Tryz.isAgg109 rfl rfl) rfl rfl rfl ?_
        refine oj_step (y_move rfl) rfl rfl rfl ?_
        refine oj_step (y_add rfl rfl (by omega)) rfl rfl rfl ?_
        refine oj_callMV (X := Unit) (fun _ => .bool (asg (covRows (a.parts.drop (i + 1)) b.parts) (vs.set k true)).1) (fun _ => cellsB 4 (bls (asg (covRows (a.parts.drop (i + 1)) b.parts) (vs.set k true)).2)) rfl rfl ⟨95, #[], #[.pointer (some ⟨xa, 0, none⟩), .pointer (some ⟨xb, 0, none⟩), .pointer (some ⟨x7, 0, none⟩), .pointer (some ⟨x8, 0, none⟩)], rfl, Tryz.call95, fun w hp => (ihf (vs.set k true) w (by omega) (by simp; omega) ⟨hp.grow0 hw.hg hF, hw.hu, hp.bs, hp.bs, hp.bs, hp.bs, hw.na, hw.nb, hw.n7, hw.n8⟩ hp.own1).mono fun e w' ⟨h1, h2, h3⟩ => ⟨(), h1, h2, h3⟩⟩ rfl (fun _ => ?_)
        obtain ⟨us2, hu2⟩ : ∃ u, u = (asg (covRows (a.parts.drop (i + 1)) b.parts) (vs.set k true)).2 := ⟨_, rfl⟩
        have hul2 : us2.length = b.parts.length := by rw [hu2, asg_len]; simp; omega
        rw [← hu2]
        refine oj_nil ?_
        refine ej_th ?_
        refine cj_cond rfl (fun h42 => ?_) (fun h42 => ?_)
        · have h42b := h42
          try simp only [sxb] at h42
          rw [if_pos h42b, ← hu2] at hsc
          refine cj_seq ?_
          refine cj_regionG (gj_step (y_assign rfl) rfl rfl rfl (gj_nil ?_))
          refine ej_th (cj_ret (ej_then_ret (ej_blk_ret (ej_then_ret (ej_then_ret (ej_blk_ret (ej_then_ret (ej_noGoto_ret ?_))))))))
          exact ej_ret1 rfl Tryz.results95 rfl (fun w' hp => ⟨by rw [← hsc], hp.mut, by rw [← hsc]; exact hp.own1⟩)
        · have h42b := h42
          try simp only [sxb] at h42
          rw [if_neg (by rw [h42b]; simp), ← hu2] at hsc
          refine cj_skip (ej_th (cj_region ?_))
          refine oj_step (y_loadS1 Tryz.isAgg147 rfl rfl) rfl rfl rfl ?_
          refine oj_step (y_move rfl) rfl rfl rfl ?_
          refine oj_step (y_ixK Tryz.underlying147 Tryz.sizeOf4 rfl rfl (by omega)) rfl rfl rfl ?_
          refine oj_storeK rfl rfl rfl rfl Tryz.sizeOf4 (by rw [bls_len]; omega) ?_
          rw [bls_set]
          refine oj_nil ?_
          refine ej_blk (ej_th ?_)
          refine cj_regionG (gj_step (y_add rfl rfl (by omega)) rfl rfl rfl (gj_step (y_move rfl) rfl rfl rfl (gj_nil ?_)))
          exact ej_nx (k + 1, us2.set k false) (by simp only; omega) ⟨by first | omega | (simp only; omega), by simp only [List.length_set]; exact hul2, hsc⟩ ⟨rfl, rfl, rfl, rfl, rfl, rfl, rfl, trivial⟩
    · have h18b := h18
      try simp only [sxb] at h18
      refine cj_exit (ej_then_exit (ej_then_exit (ej_blk_hit (ej_th (cj_seq ?_)))))
      refine cj_regionG (gj_step (y_assign rfl) rfl rfl rfl (gj_nil ?_))
      refine ej_th (cj_ret (ej_noGoto_ret ?_))
      rw [List.drop_of_length_le (show (b.parts.map (fun q => covI p q)).length ≤ k by rw [List.length_map]; omega), scanA] at hsc
      exact ej_ret1 rfl Tryz.results95 rfl (fun w' hp => ⟨by rw [← hsc], hp.mut, by rw [← hsc]; exact hp.own1⟩)

end Go.Proofs.YtlfbghkcfmcnlaaGreatDoor
namespace Go.Proofs.YtlfbghkcfmcnlaaGreatDoor
open Go.Sx Go.RowKit
set_option maxRecDepth 20000

end Go.Proofs.YtlfbghkcfmcnlaaGreatDoor
namespace Go.Proofs.YtlfbghkcfmcnlaaGreatDoor
open Go.Sx Go.RowKit
set_option maxRecDepth 20000
theorem k_findA (a b : ItemV) (xa xb xu x7 x8 : Nat) (w0 : World) (hga : GoodI w0 a) (hgb : GoodI w0 b) (ihc : ∀ p ∈ a.parts, ∀ q ∈ b.parts, ∀ w1, Grow w0 w1 → Calls Tryz.prog 78 #[evI p, evI q] w1 (fun e w' => e = .returned (.bool (covI p q)) ∧ Grow w1 w')) : ∀ (n i : Nat) (us : List Bool) (w : World), a.parts.length - i = n → i ≤ a.parts.length → us.length = b.parts.length → FindW w0 w a b xa xb xu x7 x8 → w.heap[xu]? = some (cellsB 4 (bls us)) →
    Calls Tryz.prog 95 #[.int .i64 (i : Nat), .pointer (some ⟨xa, 0, none⟩), .pointer (some ⟨xb, 0, none⟩), .pointer (some ⟨x7, 0, none⟩), .pointer (some ⟨x8, 0, none⟩)] w (fun e w' => e = .returned (.bool (asg (covRows (a.parts.drop i) b.parts) us).1) ∧ Mut (ownB xu (cellsB 4 (bls us))) w w' ∧ w'.heap[xu]? = some (cellsB 4 (bls (asg (covRows (a.parts.drop i) b.parts) us).2))) := by
  intro n
  induction n with
  | zero =>
    intro i us w hn hi hus hw hob
    exact k_find1 a b xa xb xu x7 x8 i us w0 w hw hob hga hgb hi hus ihc (fun vs w1 hlt _ _ _ => absurd hlt (by omega))
  | succ n ih =>
    intro i us w hn hi hus hw hob
    exact k_find1 a b xa xb xu x7 x8 i us w0 w hw hob hga hgb hi hus ihc (fun vs w1 hlt hvl hw1 ho1 => by have h := ih (i + 1) vs w1 (by omega) (by omega) hvl hw1 ho1; exact h)

theorem k_cov1 (a b : ItemV) (g : List (ByteArray × ClassV)) (w : World) (hga : GoodI w a) (hgb : GoodI w b) (hoa : OkG g a) (hob : OkG g b) (ihc : ∀ p ∈ a.parts, ∀ q ∈ b.parts, ∀ w1, Grow w w1 → Calls Tryz.prog 78 #[evI p, evI q] w1 (fun e w' => e = .returned (.bool (covI p q)) ∧ Grow w1 w')) : Calls Tryz.prog 78 #[evI a, evI b] w (fun e w' => e = .returned (.bool (covI a b)) ∧ Grow w w') := by
  have hl1 := hga.rs.len
  have hl2 := hgb.rs.len
  have hf := hob.few
  refine enter_pure (args := [evI a, evI b]) [] Tryz.func78 rfl (by rw [Tryz.ntmps78]; simp) (by simp) ?_
  refine cj_seq (cj_region ?_)
  refine oj_box rfl rfl rfl (fun b2 => ?_)
  refine oj_box rfl rfl rfl (fun b3 => ?_)
  refine oj_step (y_assign rfl) rfl rfl rfl ?_
  refine oj_nil ?_
  refine ej_th (cj_seq (cj_seq ?_))
  refine cj_regionG (gj_step (y_fa0 fa26_0 rfl) rfl rfl rfl (gj_step (y_load1 Tryz.isAgg9 rfl rfl) rfl rfl rfl (gj_step (y_fa0 fa26_0 rfl) rfl rfl rfl (gj_step (y_load1 Tryz.isAgg9 rfl rfl) rfl rfl rfl (gj_step (y_neqS rfl rfl) rfl rfl rfl (gj_nil ?_))))))
  refine ej_th ?_
  refine cj_cond rfl (fun h13 => ?_) (fun h13 => ?_)
  · have h13b := h13
    try simp only [sxb] at h13
    have hce := bytes_ne h13
    refine cj_seq ?_
    refine cj_regionG (gj_step (y_assign rfl) rfl rfl rfl (gj_nil ?_))
    refine ej_th (cj_ret (ej_then_ret ?_))
    exact ej_ret1 rfl Tryz.results78 rfl (fun w' hp => ⟨by rw [covI_eq, decide_eq_false hce]; rfl, hp.below⟩)
  · have h13b := h13
    try simp only [sxb] at h13
    have hce := bytes_eq h13
    have hsl := hoa.says hob hce
    refine cj_rd hga.rs (fun _ h => h) ?_
    refine cj_rd hgb.rs (fun _ h => h) ?_
    refine cj_skip (ej_th (cj_seq (cj_seq ?_)))
    refine cj_regionG (gj_step (y_fa fa26_1 rfl) rfl rfl rfl (gj_step (y_load1 Tryz.isAgg23 rfl rfl) rfl rfl rfl (gj_step (y_lenA Tryz.underlying23 rfl) rfl rfl rfl (gj_step (y_move rfl) rfl rfl rfl (gj_nil ?_)))))
    refine ej_th (cj_block ?_)
    refine cj_lpic (X := Nat) [(2, _), (3, _), (15, _), (16, _)] (fun k => k ≤ a.says.length ∧ saysCov (a.says.drop k) (b.says.drop k) = saysCov a.says b.says) (fun k => [(17, .int .i64 k)]) (fun k => a.says.length - k) 0 (⟨Nat.zero_le _, rfl⟩) ⟨rfl, rfl, rfl, rfl, rfl, trivial⟩ ?_
    rintro k ⟨hk, hsc⟩
    dsimp only [List.cons_append, List.nil_append]
    refine cj_seq ?_
    refine cj_regionG (gj_step (y_lss rfl rfl) rfl rfl rfl (gj_nil ?_))
    refine ej_th (cj_seq ?_)
    refine cj_cond rfl (fun h18 => ?_) (fun h18 => ?_)
    · have h18b := h18
      try simp only [sxb] at h18
      obtain ⟨s, hs⟩ : ∃ s, a.says[k]? = some s := ⟨_, List.getElem?_eq_getElem (by omega)⟩
      obtain ⟨t, ht⟩ : ∃ t, b.says[k]? = some t := ⟨_, List.getElem?_eq_getElem (by omega)⟩
      rw [saysCov_drop _ _ k s t hs ht] at hsc
      refine cj_skip (ej_th (cj_seq (cj_block (cj_seq ?_))))
      refine cj_regionG (gj_step (y_move rfl) rfl rfl rfl (gj_step (y_ixR (reads_sl) Tryz.underlying23 Tryz.sizeOf9 rfl rfl (⟨by omega, by omega⟩)) rfl rfl rfl (gj_step (y_ld0 (reads_sl) Tryz.isAgg9 rfl (hs) rfl) rfl rfl rfl (gj_step (y_assign rfl) rfl rfl rfl (gj_step (y_assign rfl) rfl rfl rfl (gj_nil ?_))))))
      refine ej_th (cj_seq ?_)
      refine cj_regionG (gj_step (y_move rfl) rfl rfl rfl (gj_step (y_neqS rfl rfl) rfl rfl rfl (gj_step (y_move rfl) rfl rfl rfl (gj_g 7 24 31 rfl rfl rfl rfl (fun hg24 => gj_yes rfl rfl rfl (y_move rfl) rfl rfl (gj_yes rfl rfl rfl (y_fa fa26_1 rfl) rfl rfl (gj_yes rfl rfl rfl (y_load1 Tryz.isAgg23 rfl rfl) rfl rfl (gj_yes rfl rfl rfl (y_move rfl) rfl rfl (gj_yes rfl rfl rfl (y_ixR (reads_sl) Tryz.underlying23 Tryz.sizeOf9 rfl rfl (⟨by omega, by omega⟩)) rfl rfl (gj_yes rfl rfl rfl (y_ld0 (reads_sl) Tryz.isAgg9 rfl (ht) rfl) rfl rfl (gj_yes rfl rfl rfl (y_neqS rfl rfl) rfl rfl (gj_nil rfl)))))))) (gj_step (y_and rfl rfl rfl) rfl rfl rfl (gj_nil ?_))))))
      refine ej_th ?_
      refine cj_cond rfl (fun h32 => ?_) (fun h32 => ?_)
      · have h32b := h32
        try simp only [sxb] at h32
        refine cj_seq ?_
        refine cj_regionG (gj_step (y_assign rfl) rfl rfl rfl (gj_nil ?_))
        refine ej_th (cj_ret (ej_blk_ret (ej_then_ret (ej_then_ret (ej_blk_ret (ej_then_ret ?_))))))
        exact ej_ret1 rfl Tryz.results78 rfl (fun w' hp => ⟨by rw [covI_eq, ← hsc, h32b]; simp, hp.below⟩)
      · have h32b := h32
        try simp only [sxb] at h32
        refine cj_skip (ej_blk (ej_th ?_))
        refine cj_regionG (gj_step (y_add rfl rfl (by omega)) rfl rfl rfl (gj_step (y_move rfl) rfl rfl rfl (gj_nil ?_)))
        exact ej_nx (k + 1) (by omega) ⟨by omega, by rw [← hsc, h32b]; rfl⟩ ⟨rfl, rfl, rfl, rfl, rfl, trivial⟩
    · have h18b := h18
      try simp only [sxb] at h18
      refine cj_exit (ej_then_exit (ej_then_exit (ej_blk_hit (ej_th (cj_seq (cj_region ?_))))))
      refine oj_step (y_fa fa26_2 rfl) rfl rfl rfl ?_
      refine oj_step (y_load1 Tryz.isAgg24 rfl rfl) rfl rfl rfl ?_
      refine oj_step (y_lenA Tryz.underlying24 rfl) rfl rfl rfl ?_
      refine oj_makeSlice1 (n := b.parts.length) Tryz.underlying147 Tryz.type4 rfl rfl rfl rfl rfl (by show 1 * b.parts.length ≤ _; omega) (by omega) rfl (fun b37 => ?_)
      refine oj_alloc Tryz.zeroValue147 rfl rfl (fun b7 => ?_)
      refine oj_store rfl rfl rfl rfl Tryz.sizeOf147 rfl ?_
      refine oj_nil ?_
      refine ej_th (cj_seq (cj_region ?_))
      refine oj_alloc Tryz.zeroValue109 rfl rfl (fun b8 => ?_)
      refine oj_nil ?_
      refine ej_th (cj_seq (cj_region ?_))
      refine oj_step (y_makeFunc rfl rfl) rfl rfl rfl ?_
      refine oj_store rfl rfl rfl rfl Tryz.sizeOf109 rfl ?_
      refine oj_nil ?_
      refine ej_th (cj_seq (cj_region ?_))
      refine oj_step (y_load1 Tryz.isAgg109 rfl rfl) rfl rfl rfl ?_
      refine oj_callMV (X := Unit) (b := b37) (fun _ => .bool (asg (covRows (a.parts.drop 0) b.parts) (List.replicate b.parts.length false)).1) (fun _ => cellsB 4 (bls (asg (covRows (a.parts.drop 0) b.parts) (List.replicate b.parts.length false)).2)) rfl rfl ⟨95, #[], _, rfl, Tryz.call95, fun w1 hp => by
        have hu1 : w1.heap[b37]? = some (cellsB 4 (bls (List.replicate b.parts.length false))) := by rw [bls, List.map_replicate]; exact hp.bo
        have hw1 : FindW w w1 a b b2 b3 b37 b7 b8 := ⟨hp.below, ((hp.newB (b := b37)).2 b37 rfl).1, hp.bo, hp.bo, hp.bo, hp.bo, blk_ne (hp.bo (b := b2)) hu1 (by decide), blk_ne (hp.bo (b := b3)) hu1 (by decide), blk_ne (hp.bo (b := b7)) hu1 (by decide), blk_ne (hp.bo (b := b8)) hu1 (by decide)⟩
        have h := k_findA a b b2 b3 b37 b7 b8 w hga hgb ihc _ 0 (List.replicate b.parts.length false) w1 rfl (Nat.zero_le _) (by simp) hw1 hu1
        exact h.mono fun e w' ⟨h1, h2, h3⟩ => ⟨(), h1, ⟨h2.os, h2.tape, h2.output, h2.size, h2.same⟩, h3⟩⟩ rfl (fun _ => ?_)
      refine oj_step (y_assign rfl) rfl rfl rfl ?_
      refine oj_nil ?_
      refine ej_th (cj_ret ?_)
      have hst : saysCov a.says b.says = true := by rw [← hsc, List.drop_of_length_le (show a.says.length ≤ k by omega)]; rfl
      exact ej_ret1 rfl Tryz.results78 rfl (fun w' hp => ⟨by rw [covI_eq, hst, decide_eq_true hce]; rfl, hp.below⟩)

theorem k_cov {w0 : World} {g : List (ByteArray × ClassV)} {a : ItemV} (hga : GoodI w0 a) : ∀ (b : ItemV) (w : World), Grow w0 w → GoodI w b → OkG g a → OkG g b → Calls Tryz.prog 78 #[evI a, evI b] w (fun e w' => e = .returned (.bool (covI a b)) ∧ Grow w w') := by
  induction hga with
  | mk hs hp hn hm hr ih =>
    intro b w hg hgb hoa hob
    exact k_cov1 _ b g w ((GoodI.mk hs hp hn hm hr).mono hg) hgb hoa hob (fun p hpm q hqm w1 hg1 => ih p hpm q w1 (grow_trans hg hg1) ((hgb.pt q hqm).mono hg1) (hoa.pt p hpm) (hob.pt q hqm))

end Go.Proofs.YtlfbghkcfmcnlaaGreatDoor
namespace Go.Proofs.YtlfbghkcfmcnlaaGreatDoor
open Go.Sx Go.RowKit
set_option maxRecDepth 20000

end Go.Proofs.YtlfbghkcfmcnlaaGreatDoor
namespace Go.Proofs.YtlfbghkcfmcnlaaGreatDoor
open Go.Sx Go.RowKit
set_option maxRecDepth 20000
theorem k_Covers (l : List ClassV) (A : Option Addr) (c : Nat) (a b : ItemV) (w : World) (hl : Rd w 4 encCl A l) (hgc : ∀ c ∈ l, GoodC w c) (hga : GoodI w a) (hgb : GoodI w b) : Calls Tryz.prog 41 #[.slice A l.length c, evI a, evI b] w (fun e w' => e = .returned (.tuple #[.bool (CovT l a b), .int .i64 (askIE l [a, b])]) ∧ Grow w w') := by
  refine enter_pure (args := [.slice A l.length c, evI a, evI b]) [sl (fun b => b < w.heap.size) 4 encCl A l] Tryz.func41 rfl (by rw [Tryz.ntmps41]; simp) (fun g hg => by simp at hg; subst hg; exact ⟨hl, fun _ h => h⟩) ?_
  refine cj_seq (cj_region ?_)
  refine oj_box rfl rfl rfl (fun b4 => ?_)
  refine oj_box rfl rfl rfl (fun b5 => ?_)
  refine oj_step (y_assign rfl) rfl rfl rfl ?_
  refine oj_step (y_assign rfl) rfl rfl rfl ?_
  refine oj_nil ?_
  refine ej_th (cj_seq (cj_seq (cj_region ?_)))
  refine oj_step (y_move rfl) rfl rfl rfl ?_
  refine oj_step (y_loadN Tryz.isAgg26 Tryz.sizeOf26 rfl) rfl rfl rfl ?_
  refine oj_step (y_loadN Tryz.isAgg26 Tryz.sizeOf26 rfl) rfl rfl rfl ?_
  refine oj_buildSlice (cs := [.string a.cls, .slice a.As a.says.length a.cs, .slice a.Ap a.parts.length a.cp, .string b.cls, .slice b.As b.says.length b.cs, .slice b.Ap b.parts.length b.cp]) [.string ⟨#[]⟩, .slice none 0 0, .slice none 0 0, .string ⟨#[]⟩, .slice none 0 0, .slice none 0 0] Tryz.underlying24 Tryz.sizeOf26 Tryz.zeroValue26 rfl rfl (by kernel_rfl) (by kernel_rfl) rfl (fun b14 => ?_)
  refine oj_litOw (b := b14) (e := 26) (c := 2) (sz := 3) (enc := encIt) [a, b] rfl rfl rfl (by unfold maxLen; simp) ?_
  refine oj_call (X := Nat) (fun m => .tuple #[.map (bif askIOk l [a, b] then some m else none), .int .i64 (askIE l [a, b])]) (fun _ => []) (fun _ => []) Tryz.call27 rfl (fun w hp => by
    have h := k_pasked l A c [a, b] (some ⟨b14, 0, none⟩) 2 w hp.rd (fun c hc => (hgc c hc).mono hp.below) (hp.rdO (A := some ⟨b14, 0, none⟩) (fun _ => rfl) (by unfold maxLen; simp)) (fun x hx => by
      simp only [List.mem_cons, List.mem_nil_iff, or_false] at hx
      rcases hx with rfl | rfl
      · exact hga.mono hp.below
      · exact hgb.mono hp.below)
    exact h.mono fun e w' ⟨m, he, hg, _⟩ => ⟨m, he, hg, by simp, by simp, by simp⟩) rfl (fun m15 => ?_)
  dsimp only [List.cons_append, List.nil_append]
  refine oj_step (y_move rfl) rfl rfl rfl ?_
  refine oj_step (y_extract rfl rfl) rfl rfl rfl ?_
  refine oj_step (y_extract rfl rfl) rfl rfl rfl ?_
  refine oj_step (y_assign rfl) rfl rfl rfl ?_
  refine oj_step (y_assign rfl) rfl rfl rfl ?_
  refine oj_nil ?_
  refine ej_th (cj_seq ?_)
  refine cj_regionG (gj_step (y_move rfl) rfl rfl rfl (gj_step (y_neq rfl rfl) rfl rfl rfl (gj_nil ?_)))
  refine ej_th ?_
  refine cj_cond rfl (fun h19 => ?_) (fun h19 => ?_)
  · have h19b := h19
    try simp only [sxb] at h19
    have hno := askIE_no h19b
    refine cj_seq ?_
    refine cj_regionG (gj_step (y_move rfl) rfl rfl rfl (gj_step (y_assign rfl) rfl rfl rfl (gj_step (y_assign rfl) rfl rfl rfl (gj_nil ?_))))
    refine ej_th (cj_ret (ej_then_ret ?_))
    have hv : CovT l a b = false := by rw [CovT, hno]; rfl
    exact ej_ret2 rfl Tryz.results41 rfl rfl (fun w' hp => ⟨by rw [hv], hp.below⟩)
  · have h19b := h19
    try simp only [sxb] at h19
    have hok := askIE_ok h19b
    have hoa := ask_okG hok a (by simp)
    have hob := ask_okG hok b (by simp)
    refine cj_skip (ej_th (cj_seq ?_))
    refine cj_regionG ?_
    refine gj_step (y_loadN Tryz.isAgg26 Tryz.sizeOf26 rfl) rfl rfl rfl (gj_step (y_loadN Tryz.isAgg26 Tryz.sizeOf26 rfl) rfl rfl rfl (?_))
    refine gj_step (y_call Tryz.call78 rfl (fun w hp => by have h := k_cov hga b w hp.below (hgb.mono hp.below) hoa hob; exact h)) rfl rfl rfl ?_
    refine gj_step (y_assign rfl) rfl rfl rfl (gj_step (y_assign rfl) rfl rfl rfl (?_))
    refine gj_nil ?_
    refine ej_th (cj_ret ?_)
    have hv : CovT l a b = covI a b := by rw [CovT, hok]; rfl
    have hz : askIE l [a, b] = 0 := by simpa using h19b
    exact ej_ret2 rfl Tryz.results41 rfl rfl (fun w' hp => ⟨by rw [hv, hz], hp.below⟩)

end Go.Proofs.YtlfbghkcfmcnlaaGreatDoor
namespace Go.Proofs.YtlfbghkcfmcnlaaGreatDoor
open Go.Sx Go.RowKit
set_option maxRecDepth 20000
theorem fa52_0 : FieldIs Tryz.prog 52 0 0 1 false := ⟨⟨_, _, Tryz.underlying52, rfl, rfl, Tryz.sizeOf48, Tryz.isAgg48, by decide⟩⟩
theorem fa52_1 : FieldIs Tryz.prog 52 1 1 1 false := ⟨⟨_, _, Tryz.underlying52, rfl, rfl, Tryz.sizeOf49, Tryz.isAgg49, by decide⟩⟩
theorem fa52_2 : FieldIs Tryz.prog 52 2 2 1 false := ⟨⟨_, _, Tryz.underlying52, rfl, rfl, Tryz.sizeOf50, Tryz.isAgg50, by decide⟩⟩
end Go.Proofs.YtlfbghkcfmcnlaaGreatDoor
namespace Go.Proofs.YtlfbghkcfmcnlaaGreatDoor
open Go.Sx Go.RowKit
set_option maxRecDepth 20000

end Go.Proofs.YtlfbghkcfmcnlaaGreatDoor
namespace Go.Proofs.YtlfbghkcfmcnlaaGreatDoor
open Go.Sx Go.RowKit
set_option maxRecDepth 20000

end Go.Proofs.YtlfbghkcfmcnlaaGreatDoor
namespace Go.Proofs.YtlfbghkcfmcnlaaGreatDoor
open Go.Sx Go.RowKit
set_option maxRecDepth 20000

end Go.Proofs.YtlfbghkcfmcnlaaGreatDoor
namespace Go.Proofs.YtlfbghkcfmcnlaaGreatDoor
open Go.Sx Go.RowKit
set_option maxRecDepth 20000
theorem fa81_1 : FieldIs Tryz.prog 81 1 1 1 false := ⟨⟨_, _, Tryz.underlying81, rfl, rfl, Tryz.sizeOf23, Tryz.isAgg23, by decide⟩⟩
theorem st122 : StructIs Tryz.prog 122 [] [] := ⟨⟨_, Tryz.underlying122, fun w => by simp [], Tryz.zeroValue122⟩⟩
end Go.Proofs.YtlfbghkcfmcnlaaGreatDoor
namespace Go.Proofs.YtlfbghkcfmcnlaaGreatDoor
open Go.Sx Go.RowKit
set_option maxRecDepth 20000
theorem fa81_0 : FieldIs Tryz.prog 81 0 0 1 false := ⟨⟨_, _, Tryz.underlying81, rfl, rfl, Tryz.sizeOf73, Tryz.isAgg73, by decide⟩⟩
end Go.Proofs.YtlfbghkcfmcnlaaGreatDoor
namespace Go.Proofs.YtlfbghkcfmcnlaaGreatDoor
open Go.Sx Go.RowKit
set_option maxRecDepth 20000

end Go.Proofs.YtlfbghkcfmcnlaaGreatDoor
namespace Go.Proofs.YtlfbghkcfmcnlaaGreatDoor
open Go.Sx Go.RowKit
set_option maxRecDepth 20000
theorem st81 : StructIs Tryz.prog 81 [(0, 1), (1, 1)] [.map none, .slice none 0 0] := ⟨⟨_, Tryz.underlying81, fun w => by simp [Tryz.sizeOf23, Tryz.sizeOf73], Tryz.zeroValue81⟩⟩
end Go.Proofs.YtlfbghkcfmcnlaaGreatDoor
namespace Go.Proofs.YtlfbghkcfmcnlaaGreatDoor
open Go.Sx Go.RowKit
set_option maxRecDepth 20000

end Go.Proofs.YtlfbghkcfmcnlaaGreatDoor
namespace Go.Proofs.YtlfbghkcfmcnlaaGreatDoor
open Go.Sx Go.RowKit
set_option maxRecDepth 20000

end Go.Proofs.YtlfbghkcfmcnlaaGreatDoor
namespace Go.Proofs.YtlfbghkcfmcnlaaGreatDoor
open Go.Sx Go.RowKit
set_option maxRecDepth 20000

end Go.Proofs.YtlfbghkcfmcnlaaGreatDoor
namespace Go.Proofs.YtlfbghkcfmcnlaaGreatDoor
open Go.Sx Go.RowKit
set_option maxRecDepth 20000

end Go.Proofs.YtlfbghkcfmcnlaaGreatDoor
namespace Go.Proofs.YtlfbghkcfmcnlaaGreatDoor
open Go.Sx Go.RowKit
set_option maxRecDepth 20000

end Go.Proofs.YtlfbghkcfmcnlaaGreatDoor
