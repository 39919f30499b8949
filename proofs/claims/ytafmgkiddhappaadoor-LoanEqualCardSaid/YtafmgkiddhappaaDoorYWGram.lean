/- Walks of functions of the program. -/
import Derived.Test.YtafmgkiddhappaaDoorYWWord
import Derived.Test.YtafmgkiddhappaaDoorYTyGram
namespace Go.Proofs.YtafmgkiddhappaaDoor
open Go.Sx Go.RowKit
set_option maxRecDepth 20000
set_option maxHeartbeats 1000000 in
theorem k_grammarOf (l : List ClassV) (A : Option Addr) (c : Nat) (w : World) (hl : Rd w 4 encCl A l) (hgc : ∀ c ∈ l, GoodC w c) : Calls Tryd.prog 94 #[.slice A l.length c] w (fun e w' => ∃ b, e = .returned (.tuple #[.map (bif gramOk l then some b else none), .int .i64 (gramE l)]) ∧ Grow w w' ∧ (gramOk l = true → (mp ekS evC b (gramM l)).P w' ∧ w.heap.size ≤ b ∧ b < w'.heap.size)) := by
  have hlen := hl.len
  refine enter_pure (args := [.slice A l.length c]) [sl (fun b => b < w.heap.size) 4 encCl A l] Tryd.func94 rfl (by rw [Tryd.ntmps94]; simp) (fun g hg => by simp at hg; subst hg; exact ⟨hl, fun _ h => h⟩) ?_
  refine cj_seq ?_
  refine cj_regionG (gj_step (y_assign rfl) rfl rfl rfl (gj_step (y_assign rfl) rfl rfl rfl (gj_nil ?_)))
  refine ej_th (cj_seq (cj_seq ?_))
  refine cj_regionG ?_
  refine gj_step (y_move rfl) rfl rfl rfl (gj_step (y_lenA Tryd.underlying99 rfl) rfl rfl rfl (?_))
  refine gj_step (y_call Tryd.call102 rfl (fun w hp => k_within1 _ _ _ w)) rfl rfl rfl ?_
  refine gj_step (y_not rfl) rfl rfl rfl (?_)
  refine gj_nil ?_
  refine ej_th ?_
  refine cj_cond rfl (fun h16 => ?_) (fun h16 => ?_)
  · have h16b := h16
    try simp only [sxb] at h16
    refine cj_seq ?_
    refine cj_regionG (gj_step (y_assign rfl) rfl rfl rfl (gj_step (y_assign rfl) rfl rfl rfl (gj_nil ?_)))
    refine ej_th (cj_ret (ej_then_ret ?_))
    have hg : gramOk l = false := by rw [gramOk, not_t h16b]; rfl
    exact ej_ret2 rfl Tryd.results94 rfl rfl (fun w' hp => ⟨0, by rw [gramE, hg]; rfl, hp.below, fun h => by rw [hg] at h; cases h⟩)
  · have h16b := h16
    try simp only [sxb] at h16
    have hwi := not_f h16b
    try simp only [Bool.and_eq_true, decide_eq_true_eq] at h16
    refine cj_skip (ej_th (cj_seq (cj_region ?_)))
    refine oj_makeMap ekS evC rfl (fun b17 => ?_)
    refine oj_step (y_assign rfl) rfl rfl rfl ?_
    refine oj_nil ?_
    refine ej_th (cj_seq (cj_region ?_))
    refine oj_alloc Tryd.zeroValue100 rfl rfl (fun b5 => ?_)
    refine oj_nil ?_
    refine ej_th (cj_seq (cj_seq ?_))
    refine cj_regionG (gj_step (y_move rfl) rfl rfl rfl (gj_step (y_lenA Tryd.underlying99 rfl) rfl rfl rfl (gj_step (y_move rfl) rfl rfl rfl (gj_nil ?_))))
    refine ej_th (cj_block ?_)
    refine cj_ownNil 9 1 enStr ?_
    refine cj_eqO [ow 9 1 enStr none 0 [], ownB b5 (cellsB 100 [.slice none ([] : List ByteArray).length 0]), mp ekS evC b17 (putAll [] (l.take 0))] rfl ?_
    refine cj_lpi (X := Nat × Option Addr × Nat × List ByteArray) [(0, _), (2, _), (3, _), (4, _), (5, _), (18, _), (19, _)] (fun ⟨k, A1, c1, xs⟩ => k ≤ l.length ∧ xs = namesC (l.take k)) (fun ⟨k, A1, c1, xs⟩ => [(20, .int .i64 k)]) (fun ⟨k, A1, c1, xs⟩ => [ow 9 1 enStr A1 c1 xs, ownB b5 (cellsB 100 [.slice A1 xs.length c1]), mp ekS evC b17 (putAll [] (l.take k))]) (fun ⟨k, A1, c1, xs⟩ => [sl (fun b => b < w.heap.size) 4 encCl A l]) (fun ⟨k, A1, c1, xs⟩ => l.length - k) (0, none, 0, []) (⟨Nat.zero_le _, rfl⟩) ⟨rfl, rfl, rfl, rfl, rfl, rfl, rfl, rfl, trivial⟩ ?_
    rintro ⟨k, A1, c1, xs⟩ ⟨hk, hxs⟩
    dsimp only [List.cons_append, List.nil_append]
    refine cj_seq ?_
    refine cj_regionG (gj_step (y_lss rfl rfl) rfl rfl rfl (gj_nil ?_))
    refine ej_th (cj_seq ?_)
    refine cj_cond rfl (fun h21 => ?_) (fun h21 => ?_)
    · have h21b := h21
      try simp only [sxb] at h21
      obtain ⟨x, hx⟩ : ∃ x, l[k]? = some x := ⟨_, List.getElem?_eq_getElem (by omega)⟩
      have htk : l.take (k + 1) = l.take k ++ [x] := by rw [List.take_add_one, hx]; rfl
      have hpk : putL (putAll [] (l.take k)) x.name x = putAll [] (l.take (k + 1)) := by rw [htk, putAll_add]
      have hxl : xs.length = k := by rw [hxs]; simp [namesC]; omega
      refine cj_skip (ej_th (cj_seq (cj_block (cj_seq (cj_region ?_)))))
      refine oj_step (y_ixR (reads_sl) Tryd.underlying99 Tryd.sizeOf172 rfl rfl (⟨by omega, by omega⟩)) rfl rfl rfl ?_
      refine oj_step (y_ldW (reads_sl) Tryd.isAgg172 Tryd.sizeOf172 rfl (hx) (fun _ => rfl)) rfl rfl rfl ?_
      refine oj_alloc Tryd.zeroValue172 rfl rfl (fun b7 => ?_)
      refine oj_store rfl rfl rfl rfl Tryd.sizeOf172 rfl ?_
      refine oj_nil ?_
      refine ej_th (cj_seq (cj_region ?_))
      refine oj_step (y_move rfl) rfl rfl rfl ?_
      refine oj_step (y_fa0 fa172_0 rfl) rfl rfl rfl ?_
      refine oj_step (y_load1 Tryd.isAgg9 rfl rfl) rfl rfl rfl ?_
      refine oj_step (y_loadN Tryd.isAgg172 Tryd.sizeOf172 rfl) rfl rfl rfl ?_
      refine oj_mapUpdate (ek := ekS) (ev := evC) (v := x) Tryd.underlying141 Tryd.underlying9 rfl rfl rfl ?_
      rw [hpk]
      refine oj_nil ?_
      refine ej_th (cj_region ?_)
      refine oj_step (y_load1 Tryd.isAgg100 rfl rfl) rfl rfl rfl ?_
      refine oj_step (y_fa0 fa172_0 rfl) rfl rfl rfl ?_
      refine oj_step (y_load1 Tryd.isAgg9 rfl rfl) rfl rfl rfl ?_
      refine oj_buildSlice (cs := [.string x.name]) [.string ⟨#[]⟩] Tryd.underlying100 Tryd.sizeOf9 Tryd.zeroValue9 rfl rfl (by kernel_rfl) (by kernel_rfl) rfl (fun b31 => ?_)
      refine oj_append  el100 (fun _ => rfl) enStr_one rfl rfl rfl (reads_lit [x.name] (fun _ => rfl) rfl) (by simp [maxLen]; omega) (by simp; omega) rfl (fun A32 c32 => ?_)
      refine oj_store rfl rfl rfl rfl Tryd.sizeOf100 rfl ?_
      refine oj_nil ?_
      refine ej_blk (ej_th ?_)
      refine cj_regionG (gj_step (y_add rfl rfl (by omega)) rfl rfl rfl (gj_step (y_move rfl) rfl rfl rfl (gj_nil ?_)))
      exact ej_nx (k + 1, A32, c32, xs ++ [x.name]) (by simp only; omega) ⟨by first | omega | (simp only; omega), by rw [hxs, htk]; simp [namesC]⟩ ⟨rfl, rfl, rfl, rfl, rfl, rfl, rfl, rfl, trivial⟩
    · have h21b := h21
      try simp only [sxb] at h21
      rw [List.take_of_length_le (by omega)] at hxs
      rw [List.take_of_length_le (by omega)]
      subst hxs
      have hnl : (namesC l).length = l.length := by simp [namesC]
      have hns : smS (namesC l) := by
        intro s hs
        obtain ⟨c, hc, rfl⟩ := List.mem_map.1 hs
        exact (hgc c hc).nm
      refine cj_exit (ej_then_exit (ej_then_exit (ej_blk_hit (ej_th (cj_seq (cj_seq ?_))))))
      refine cj_regionG ?_
      refine gj_step (y_load1 Tryd.isAgg100 rfl rfl) rfl rfl rfl (?_)
      refine gj_step (y_call Tryd.call103 rfl (fun w hp => k_words (namesC l) _ _ w (hp.rdO (fun _ => rfl) (by unfold maxLen; rw [hnl]; omega)) hns)) rfl rfl rfl ?_
      refine gj_step (y_not rfl) rfl rfl rfl (?_)
      refine gj_nil ?_
      refine ej_th ?_
      refine cj_cond rfl (fun h36 => ?_) (fun h36 => ?_)
      · have h36b := h36
        try simp only [sxb] at h36
        refine cj_seq ?_
        refine cj_regionG (gj_step (y_assign rfl) rfl rfl rfl (gj_step (y_assign rfl) rfl rfl rfl (gj_nil ?_)))
        refine ej_th (cj_ret (ej_then_ret ?_))
        have hg : gramOk l = false := by rw [gramOk, not_t h36b]; simp
        exact ej_ret2 rfl Tryd.results94 rfl rfl (fun w' hp => ⟨0, by rw [gramE, hg]; rfl, hp.below, fun h => by rw [hg] at h; cases h⟩)
      · have h36b := h36
        try simp only [sxb] at h36
        refine cj_skip (ej_th (cj_seq (cj_seq ?_)))
        refine cj_regionG (gj_step (y_move rfl) rfl rfl rfl (gj_step (y_lenA Tryd.underlying99 rfl) rfl rfl rfl (gj_step (y_move rfl) rfl rfl rfl (gj_nil ?_))))
        refine ej_th (cj_block ?_)
        refine cj_lpic (X := Nat) [(4, _), (5, _), (37, _), (38, _)] (fun k => k ≤ l.length ∧ (l.drop k).all (classOk (namesC l)) = l.all (classOk (namesC l))) (fun k => [(39, .int .i64 k)]) (fun k => l.length - k) 0 (⟨Nat.zero_le _, rfl⟩) ⟨rfl, rfl, rfl, rfl, rfl, trivial⟩ ?_
        rintro k ⟨hk, hal⟩
        dsimp only [List.cons_append, List.nil_append]
        refine cj_seq ?_
        refine cj_regionG (gj_step (y_lss rfl rfl) rfl rfl rfl (gj_nil ?_))
        refine ej_th (cj_seq ?_)
        refine cj_cond rfl (fun h40 => ?_) (fun h40 => ?_)
        · have h40b := h40
          try simp only [sxb] at h40
          obtain ⟨x, hx⟩ : ∃ x, l[k]? = some x := ⟨_, List.getElem?_eq_getElem (by omega)⟩
          rw [all_drop _ l k x hx] at hal
          have hgx := hgc x (List.mem_of_getElem? hx)
          have hl1 := hgx.rt.len
          have hl2 := hgx.rp.len
          refine cj_rd hgx.rp (fun _ h => h) ?_
          refine cj_rd hgx.rt (fun _ h => h) ?_
          refine cj_skip (ej_th (cj_seq (cj_block (cj_seq (cj_region ?_)))))
          refine oj_step (y_ixR (reads_sl) Tryd.underlying99 Tryd.sizeOf172 rfl rfl (⟨by omega, by omega⟩)) rfl rfl rfl ?_
          refine oj_step (y_ldW (reads_sl) Tryd.isAgg172 Tryd.sizeOf172 rfl (hx) (fun _ => rfl)) rfl rfl rfl ?_
          refine oj_alloc Tryd.zeroValue172 rfl rfl (fun b9 => ?_)
          refine oj_store rfl rfl rfl rfl Tryd.sizeOf172 rfl ?_
          refine oj_nil ?_
          refine ej_th (cj_seq (cj_seq ?_))
          refine cj_regionG ?_
          refine gj_step (y_fa fa172_1 rfl) rfl rfl rfl (gj_step (y_load1 Tryd.isAgg170 rfl rfl) rfl rfl rfl (gj_step (y_lenA Tryd.underlying170 rfl) rfl rfl rfl (gj_step (y_gtr rfl rfl) rfl rfl rfl (gj_step (y_move rfl) rfl rfl rfl (?_)))))
          refine gj_g 4 47 51 rfl rfl rfl rfl (fun hg47 => gj_yes rfl rfl rfl (y_fa fa172_3 rfl) rfl rfl (gj_yes rfl rfl rfl (y_load1 Tryd.isAgg3 rfl rfl) rfl rfl (gj_yes rfl rfl rfl (y_call Tryd.call102 rfl (fun w hp => k_within1 _ _ _ w)) rfl rfl (gj_yes rfl rfl rfl (y_not rfl) rfl rfl (gj_nil rfl))))) ?_
          refine gj_step (y_or rfl rfl rfl) rfl rfl rfl (gj_step (y_move rfl) rfl rfl rfl (?_))
          refine gj_g 9 53 62 rfl rfl rfl rfl (fun hg53 => gj_yes rfl rfl rfl (y_fa fa172_2 rfl) rfl rfl (gj_yes rfl rfl rfl (y_load1 Tryd.isAgg100 rfl rfl) rfl rfl (gj_yes rfl rfl rfl (y_lenA Tryd.underlying100 rfl) rfl rfl (gj_yes rfl rfl rfl (y_eql rfl rfl) rfl rfl (gj_yes rfl rfl rfl (y_move rfl) rfl rfl (gj_g 3 58 61 rfl rfl rfl rfl (fun hg58 => gj_yes rfl rfl rfl (y_fa fa172_3 rfl) rfl rfl (gj_yes rfl rfl rfl (y_load1 Tryd.isAgg3 rfl rfl) rfl rfl (gj_yes rfl rfl rfl (y_neq rfl rfl) rfl rfl (gj_nil rfl)))) (gj_yes rfl rfl rfl (y_and rfl rfl rfl) rfl rfl (gj_nil rfl)))))))) ?_
          refine gj_step (y_or rfl rfl rfl) rfl rfl rfl (gj_step (y_move rfl) rfl rfl rfl (?_))
          refine gj_g 4 64 68 rfl rfl rfl rfl (fun hg64 => gj_yes rfl rfl rfl (y_fa fa172_2 rfl) rfl rfl (gj_yes rfl rfl rfl (y_load1 Tryd.isAgg100 rfl rfl) rfl rfl (gj_yes rfl rfl rfl (y_call Tryd.call103 rfl (fun w hp => k_words x.parts _ _ w hp.rd hgx.sm)) rfl rfl (gj_yes rfl rfl rfl (y_not rfl) rfl rfl (gj_nil rfl))))) ?_
          refine gj_step (y_or rfl rfl rfl) rfl rfl rfl (?_)
          refine gj_nil ?_
          refine ej_th ?_
          refine cj_cond rfl (fun h69 => ?_) (fun h69 => ?_)
          · have h69b := h69
            try simp only [sxb] at h69
            have hc1 : class1 x = false := by unfold class1; rw [h69b]; rfl
            refine cj_seq ?_
            refine cj_regionG (gj_step (y_assign rfl) rfl rfl rfl (gj_step (y_assign rfl) rfl rfl rfl (gj_nil ?_)))
            refine ej_th (cj_ret (ej_then_ret (ej_blk_ret (ej_then_ret (ej_then_ret (ej_blk_ret (ej_then_ret ?_)))))))
            have hg : gramOk l = false := by rw [gramOk, ← hal, classOk, hc1]; simp
            exact ej_ret2 rfl Tryd.results94 rfl rfl (fun w' hp => ⟨0, by rw [gramE, hg]; rfl, hp.below, fun h => by rw [hg] at h; cases h⟩)
          · have h69b := h69
            try simp only [sxb] at h69
            have hc1 : class1 x = true := by unfold class1; rw [h69b]; rfl
            have ht8 := class1_tr hc1
            refine cj_skip (ej_th (cj_seq (cj_seq ?_)))
            refine cj_regionG ?_
            refine gj_step (y_fa fa172_2 rfl) rfl rfl rfl (gj_step (y_load1 Tryd.isAgg100 rfl rfl) rfl rfl rfl (gj_step (y_makeFunc rfl rfl) rfl rfl rfl (?_)))
            refine gj_step (y_call Tryd.call104 rfl (fun w hp => k_ContainsFS x.parts _ _ (namesC l) A1 c1 b5 w hp.rd hp.bo (hp.rdO (fun _ => rfl) (by unfold maxLen; rw [hnl]; omega)))) rfl rfl rfl ?_
            refine gj_nil ?_
            refine ej_th ?_
            refine cj_cond rfl (fun h73 => ?_) (fun h73 => ?_)
            · have h73b := h73
              try simp only [sxb] at h73
              have hpa := not_t h73b
              refine cj_seq ?_
              refine cj_regionG (gj_step (y_assign rfl) rfl rfl rfl (gj_step (y_assign rfl) rfl rfl rfl (gj_nil ?_)))
              refine ej_th (cj_ret (ej_then_ret (ej_blk_ret (ej_then_ret (ej_then_ret (ej_blk_ret (ej_then_ret ?_)))))))
              have hg : gramOk l = false := by rw [gramOk, ← hal, classOk, hpa]; simp
              exact ej_ret2 rfl Tryd.results94 rfl rfl (fun w' hp => ⟨0, by rw [gramE, hg]; rfl, hp.below, fun h => by rw [hg] at h; cases h⟩)
            · have h73b := h73
              try simp only [sxb] at h73
              have hpa := not_f h73b
              refine cj_skip (ej_th (cj_seq ?_))
              refine cj_regionG (gj_step (y_assign rfl) rfl rfl rfl (gj_nil ?_))
              refine ej_th (cj_seq (cj_seq ?_))
              refine cj_regionG (gj_step (y_fa fa172_1 rfl) rfl rfl rfl (gj_step (y_load1 Tryd.isAgg170 rfl rfl) rfl rfl rfl (gj_step (y_lenA Tryd.underlying170 rfl) rfl rfl rfl (gj_step (y_move rfl) rfl rfl rfl (gj_nil ?_)))))
              refine ej_th (cj_block ?_)
              refine cj_ownNil 9 1 enStr ?_
              refine cj_lpi (X := Nat × Option Addr × Nat × List ByteArray) [(39, _), (4, _), (5, _), (37, _), (38, _), (75, _), (76, _)] (fun ⟨j, A2, c2, ys⟩ => j ≤ x.traits.length ∧ ys = (x.traits.take j).map (·.name) ∧ (x.traits.drop j).all traitOk = x.traits.all traitOk) (fun ⟨j, A2, c2, ys⟩ => [(10, .slice A2 ys.length c2), (77, .int .i64 j)]) (fun ⟨j, A2, c2, ys⟩ => [ow 9 1 enStr A2 c2 ys, ow 9 1 enStr A1 c1 (namesC l), ownB b5 (cellsB 100 [.slice A1 (namesC l).length c1]), mp ekS evC b17 (putAll [] l)]) (fun ⟨j, A2, c2, ys⟩ => [sl (fun b => b < w.heap.size) 3 encTr x.At x.traits, sl (fun b => b < w.heap.size) 1 enStr x.Ap x.parts, sl (fun b => b < w.heap.size) 4 encCl A l]) (fun ⟨j, A2, c2, ys⟩ => x.traits.length - j) (0, none, 0, []) (⟨Nat.zero_le _, rfl, rfl⟩) ⟨rfl, rfl, rfl, rfl, rfl, rfl, rfl, rfl, rfl, trivial⟩ ?_
              rintro ⟨j, A2, c2, ys⟩ ⟨hj, hys, htl⟩
              dsimp only [List.cons_append, List.nil_append]
              refine cj_seq ?_
              refine cj_regionG (gj_step (y_lss rfl rfl) rfl rfl rfl (gj_nil ?_))
              refine ej_th (cj_seq ?_)
              refine cj_cond rfl (fun h78 => ?_) (fun h78 => ?_)
              · have h78b := h78
                try simp only [sxb] at h78
                obtain ⟨t, hy⟩ : ∃ t, x.traits[j]? = some t := ⟨_, List.getElem?_eq_getElem (by omega)⟩
                rw [all_drop _ x.traits j t hy] at htl
                have htk2 : x.traits.take (j + 1) = x.traits.take j ++ [t] := by rw [List.take_add_one, hy]; rfl
                have hyl : ys.length = j := by rw [hys]; simp; omega
                have hgt := hgx.tr t (List.mem_of_getElem? hy)
                have hl3 := hgt.rd.len
                refine cj_rd hgt.rd (fun _ h => h) ?_
                refine cj_skip (ej_th (cj_seq (cj_block (cj_seq (cj_region ?_)))))
                refine oj_step (y_ixR (reads_sl) Tryd.underlying170 Tryd.sizeOf177 rfl rfl (⟨by omega, by omega⟩)) rfl rfl rfl ?_
                refine oj_step (y_ldW (reads_sl) Tryd.isAgg177 Tryd.sizeOf177 rfl (hy) (fun _ => rfl)) rfl rfl rfl ?_
                refine oj_alloc Tryd.zeroValue177 rfl rfl (fun b12 => ?_)
                refine oj_store rfl rfl rfl rfl Tryd.sizeOf177 rfl ?_
                refine oj_nil ?_
                refine ej_th (cj_seq (cj_region ?_))
                refine oj_step (y_move rfl) rfl rfl rfl ?_
                refine oj_step (y_fa0 fa177_0 rfl) rfl rfl rfl ?_
                refine oj_step (y_load1 Tryd.isAgg9 rfl rfl) rfl rfl rfl ?_
                refine oj_buildSlice (cs := [.string t.name]) [.string ⟨#[]⟩] Tryd.underlying100 Tryd.sizeOf9 Tryd.zeroValue9 rfl rfl (by kernel_rfl) (by kernel_rfl) rfl (fun b84 => ?_)
                refine oj_append  el100 (fun _ => rfl) enStr_one rfl rfl rfl (reads_lit [t.name] (fun _ => rfl) rfl) (by simp [maxLen]; omega) (by simp; omega) rfl (fun A85 c85 => ?_)
                refine oj_step (y_assign rfl) rfl rfl rfl ?_
                refine oj_nil ?_
                refine ej_th (cj_seq ?_)
                refine cj_regionG ?_
                refine gj_step (y_fa fa177_1 rfl) rfl rfl rfl (gj_step (y_load1 Tryd.isAgg100 rfl rfl) rfl rfl rfl (gj_step (y_lenA Tryd.underlying100 rfl) rfl rfl rfl (?_)))
                refine gj_step (y_call Tryd.call102 rfl (fun w hp => k_within1 _ _ _ w)) rfl rfl rfl ?_
                refine gj_step (y_not rfl) rfl rfl rfl (gj_step (y_move rfl) rfl rfl rfl (?_))
                refine gj_g 4 91 95 rfl rfl rfl rfl (fun hg91 => gj_yes rfl rfl rfl (y_fa fa177_1 rfl) rfl rfl (gj_yes rfl rfl rfl (y_load1 Tryd.isAgg100 rfl rfl) rfl rfl (gj_yes rfl rfl rfl (y_call Tryd.call103 rfl (fun w hp => k_words t.vals _ _ w hp.rd (hgx.tr t (List.mem_of_getElem? hy)).sm)) rfl rfl (gj_yes rfl rfl rfl (y_not rfl) rfl rfl (gj_nil rfl))))) ?_
                refine gj_step (y_or rfl rfl rfl) rfl rfl rfl (?_)
                refine gj_nil ?_
                refine ej_th ?_
                refine cj_cond rfl (fun h96 => ?_) (fun h96 => ?_)
                · have h96b := h96
                  try simp only [sxb] at h96
                  have hto : traitOk t = false := by unfold traitOk; rw [h96b]; rfl
                  refine cj_seq ?_
                  refine cj_regionG (gj_step (y_assign rfl) rfl rfl rfl (gj_step (y_assign rfl) rfl rfl rfl (gj_nil ?_)))
                  refine ej_th (cj_ret (ej_blk_ret (ej_then_ret (ej_then_ret (ej_blk_ret (ej_then_ret (ej_blk_ret (ej_then_ret (ej_then_ret (ej_blk_ret (ej_then_ret ?_)))))))))))
                  have hg : gramOk l = false := by rw [gramOk, ← hal, classOk, ← htl, hto]; simp
                  exact ej_ret2 rfl Tryd.results94 rfl rfl (fun w' hp => ⟨0, by rw [gramE, hg]; rfl, hp.below, fun h => by rw [hg] at h; cases h⟩)
                · have h96b := h96
                  try simp only [sxb] at h96
                  have hto : traitOk t = true := by unfold traitOk; rw [h96b]; rfl
                  refine cj_skip (ej_blk (ej_th ?_))
                  refine cj_regionG (gj_step (y_add rfl rfl (by omega)) rfl rfl rfl (gj_step (y_move rfl) rfl rfl rfl (gj_nil ?_)))
                  exact ej_nx (j + 1, A85, c85, ys ++ [t.name]) (by simp only; omega) ⟨by first | omega | (simp only; omega), by rw [hys, htk2]; simp, by rw [← htl, hto, Bool.true_and]⟩ ⟨rfl, rfl, rfl, rfl, rfl, rfl, rfl, rfl, rfl, trivial⟩
              · have h78b := h78
                try simp only [sxb] at h78
                rw [List.take_of_length_le (by omega)] at hys
                rw [List.drop_of_length_le (by omega)] at htl
                have hts : smS ys := by
                  rw [hys]
                  intro s hs
                  obtain ⟨t, ht, rfl⟩ := List.mem_map.1 hs
                  exact (hgx.tr t ht).nm
                have hml : ys.length ≤ maxLen := by rw [hys]; unfold maxLen; simp only [List.length_map]; omega
                refine cj_exit (ej_then_exit (ej_then_exit (ej_blk_hit (ej_th (cj_seq ?_)))))
                refine cj_regionG ?_
                refine gj_step (y_move rfl) rfl rfl rfl (?_)
                refine gj_step (y_call Tryd.call103 rfl (fun w hp => k_words ys A2 c2 w (hp.rdO (A := A2) (fun _ => rfl) hml) hts)) rfl rfl rfl ?_
                refine gj_step (y_not rfl) rfl rfl rfl (?_)
                refine gj_nil ?_
                refine ej_th ?_
                refine cj_cond rfl (fun h100 => ?_) (fun h100 => ?_)
                · have h100b := h100
                  try simp only [sxb] at h100
                  refine cj_seq ?_
                  refine cj_regionG (gj_step (y_assign rfl) rfl rfl rfl (gj_step (y_assign rfl) rfl rfl rfl (gj_nil ?_)))
                  refine ej_th (cj_ret (ej_blk_ret (ej_then_ret (ej_then_ret (ej_blk_ret (ej_then_ret ?_))))))
                  have hg : gramOk l = false := by rw [gramOk, ← hal, classOk, ← hys, not_t h100b]; simp
                  exact ej_ret2 rfl Tryd.results94 rfl rfl (fun w' hp => ⟨0, by rw [gramE, hg]; rfl, hp.below, fun h => by rw [hg] at h; cases h⟩)
                · have h100b := h100
                  try simp only [sxb] at h100
                  have hco : classOk (namesC l) x = true := by rw [classOk, hc1, hpa, ← htl, ← hys, not_f h100b]; rfl
                  refine cj_skip (ej_blk (ej_th ?_))
                  refine cj_regionG (gj_step (y_add rfl rfl (by omega)) rfl rfl rfl (gj_step (y_move rfl) rfl rfl rfl (gj_nil ?_)))
                  exact ej_nx (k + 1) (by omega) ⟨by omega, by rw [← hal, hco, Bool.true_and]⟩ ⟨rfl, rfl, rfl, rfl, rfl, trivial⟩
        · have h40b := h40
          try simp only [sxb] at h40
          refine cj_exit (ej_then_exit (ej_then_exit (ej_blk_hit (ej_th (cj_seq ?_)))))
          refine cj_regionG (gj_step (y_move rfl) rfl rfl rfl (gj_step (y_assign rfl) rfl rfl rfl (gj_step (y_assign rfl) rfl rfl rfl (gj_nil ?_))))
          refine ej_th (cj_ret ?_)
          have hg : gramOk l = true := by rw [gramOk, hwi, not_f h36b, ← hal, List.drop_of_length_le (by omega)]; rfl
          exact ej_ret2 rfl Tryd.results94 rfl rfl (fun w' hp => ⟨b17, by rw [gramE, hg]; rfl, hp.below, fun _ => hp.newM⟩)

end Go.Proofs.YtafmgkiddhappaaDoor
