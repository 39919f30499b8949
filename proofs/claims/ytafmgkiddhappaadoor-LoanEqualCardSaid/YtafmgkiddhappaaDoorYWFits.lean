/- Walks of functions of the program. -/
import Derived.Test.YtafmgkiddhappaaDoorYWGram
import Derived.Test.YtafmgkiddhappaaDoorYTyFits
namespace Go.Proofs.YtafmgkiddhappaaDoor
open Go.Sx Go.RowKit
set_option maxRecDepth 20000
set_option maxHeartbeats 4000000 in
theorem k_fits (x : ItemV) (b : Nat) (g : List (ByteArray × ClassV)) (deep most : Int) (w : World) (hM : (mp ekS evC b g).P w) (hbl : b < w.heap.size) (hgg : ∀ p ∈ g, GoodC w p.2) (hx : GoodI w x) (hd : 1 ≤ deep ∧ deep ≤ 4) (hmo : 0 ≤ most ∧ most ≤ 24) (ih : ∀ p ∈ x.parts, ∀ (w1 : World) (dp mo : Int), Grow w w1 → 1 ≤ dp ∧ dp ≤ 4 → 0 ≤ mo ∧ mo ≤ 24 → Calls Tryd.prog 95 #[.map (some b), evI p, .int .i64 dp, .int .i64 mo] w1 (fun e w' => e = .returned (.tuple #[.int .i64 ((fitsI g p dp mo).getD 0), .bool (fitsI g p dp mo).isSome]) ∧ Grow w1 w')) : Calls Tryd.prog 95 #[.map (some b), evI x, .int .i64 deep, .int .i64 most] w (fun e w' => e = .returned (.tuple #[.int .i64 ((fitsI g x deep most).getD 0), .bool (fitsI g x deep most).isSome]) ∧ Grow w w') := by
  have hl1 := hx.rs.len
  have hl2 := hx.rp.len
  refine enter_pure (args := [.map (some b), evI x, .int .i64 deep, .int .i64 most]) [mp ekS evC b g] Tryd.func95 rfl (by rw [Tryd.ntmps95]; simp) (fun f hf => by simp at hf; subst hf; exact ⟨hM, fun i hi => by have : i = b := hi; subst this; exact hbl⟩) ?_
  refine cj_seq (cj_region ?_)
  refine oj_box rfl rfl rfl (fun b5 => ?_)
  refine oj_step (y_assign rfl) rfl rfl rfl ?_
  refine oj_step (y_assign rfl) rfl rfl rfl ?_
  refine oj_nil ?_
  refine ej_th (cj_seq (cj_region ?_))
  refine oj_step (y_move rfl) rfl rfl rfl ?_
  refine oj_step (y_fa0 fa103_0 rfl) rfl rfl rfl ?_
  refine oj_step (y_load1 Tryd.isAgg9 rfl rfl) rfl rfl rfl ?_
  refine oj_step (y_lookupS (ek := ekS) (ev := evC) zC Tryd.underlying141 Tryd.underlying9 Tryd.zeroValue172 rfl rfl) rfl rfl rfl ?_
  refine oj_step (y_move rfl) rfl rfl rfl ?_
  refine oj_step (y_extract rfl rfl) rfl rfl rfl ?_
  refine oj_step (y_extract rfl rfl) rfl rfl rfl ?_
  refine oj_alloc Tryd.zeroValue172 rfl rfl (fun b10 => ?_)
  refine oj_store rfl rfl rfl rfl Tryd.sizeOf172 rfl ?_
  refine oj_step (y_assign rfl) rfl rfl rfl ?_
  refine oj_nil ?_
  refine ej_th (cj_seq (cj_seq ?_))
  refine cj_regionG (gj_step (y_move rfl) rfl rfl rfl (gj_step (y_not rfl) rfl rfl rfl (gj_step (y_move rfl) rfl rfl rfl (gj_g 2 28 30 rfl rfl rfl rfl (fun hg28 => gj_yes rfl rfl rfl (y_move rfl) rfl rfl (gj_yes rfl rfl rfl (y_gtr rfl rfl) rfl rfl (gj_nil rfl))) (gj_step (y_or rfl rfl rfl) rfl rfl rfl (gj_step (y_move rfl) rfl rfl rfl (gj_g 2 32 34 rfl rfl rfl rfl (fun hg32 => gj_yes rfl rfl rfl (y_move rfl) rfl rfl (gj_yes rfl rfl rfl (y_lss rfl rfl) rfl rfl (gj_nil rfl))) (gj_step (y_or rfl rfl rfl) rfl rfl rfl (gj_step (y_move rfl) rfl rfl rfl (gj_g 7 36 43 rfl rfl rfl rfl (fun hg36 => gj_yes rfl rfl rfl (y_fa fa103_1 rfl) rfl rfl (gj_yes rfl rfl rfl (y_load1 Tryd.isAgg100 rfl rfl) rfl rfl (gj_yes rfl rfl rfl (y_lenA Tryd.underlying100 rfl) rfl rfl (gj_yes rfl rfl rfl (y_fa fa172_1 rfl) rfl rfl (gj_yes rfl rfl rfl (y_load1 Tryd.isAgg170 rfl rfl) rfl rfl (gj_yes rfl rfl rfl (y_lenA Tryd.underlying170 rfl) rfl rfl (gj_yes rfl rfl rfl (y_neq rfl rfl) rfl rfl (gj_nil rfl)))))))) (gj_step (y_or rfl rfl rfl) rfl rfl rfl (gj_step (y_move rfl) rfl rfl rfl (gj_g 6 45 51 rfl rfl rfl rfl (fun hg45 => gj_yes rfl rfl rfl (y_fa fa103_2 rfl) rfl rfl (gj_yes rfl rfl rfl (y_load1 Tryd.isAgg101 rfl rfl) rfl rfl (gj_yes rfl rfl rfl (y_lenA Tryd.underlying101 rfl) rfl rfl (gj_yes rfl rfl rfl (y_fa fa172_3 rfl) rfl rfl (gj_yes rfl rfl rfl (y_load1 Tryd.isAgg3 rfl rfl) rfl rfl (gj_yes rfl rfl rfl (y_gtr rfl rfl) rfl rfl (gj_nil rfl))))))) (gj_step (y_or rfl rfl rfl) rfl rfl rfl (gj_nil ?_)))))))))))))))
  refine ej_th ?_
  refine cj_cond rfl (fun h52 => ?_) (fun h52 => ?_)
  · have h52b := h52
    try simp only [sxb] at h52
    refine cj_seq ?_
    refine cj_regionG (gj_step (y_assign rfl) rfl rfl rfl (gj_step (y_assign rfl) rfl rfl rfl (gj_nil ?_)))
    refine ej_th (cj_ret (ej_then_ret ?_))
    have hf : fitsI g x deep most = none := by exact fitsI_none h52b
    exact ej_ret2 rfl Tryd.results95 rfl rfl (fun w' hp => ⟨by rw [hf]; rfl, hp.below⟩)
  · have h52b := h52
    try simp only [sxb] at h52
    obtain ⟨c, hc, hd3, hm1, hsl, hfi⟩ := fitsI_some h52b
    rw [hc]
    dsimp only [Option.getD_some]
    obtain ⟨pc, hpc, hpe⟩ := getL_mem hc
    have hgc := hgg pc hpc
    rw [hpe] at hgc
    have hl3 := hgc.rt.len
    have hl4 := hgc.rp.len
    refine cj_rd hx.rs (fun _ h => h) ?_
    refine cj_rd hx.rp (fun _ h => h) ?_
    refine cj_rd hgc.rt (fun _ h => h) ?_
    refine cj_rd hgc.rp (fun _ h => h) ?_
    refine cj_skip (ej_th (cj_seq (cj_seq ?_)))
    refine cj_regionG (gj_step (y_fa fa172_1 rfl) rfl rfl rfl (gj_step (y_load1 Tryd.isAgg170 rfl rfl) rfl rfl rfl (gj_step (y_lenA Tryd.underlying170 rfl) rfl rfl rfl (gj_step (y_move rfl) rfl rfl rfl (gj_nil ?_)))))
    refine ej_th (cj_block ?_)
    refine cj_lpic (X := Nat) [(0, _), (2, _), (3, _), (5, _), (10, _), (54, _), (55, _)] (fun k => k ≤ c.traits.length ∧ saysOk (c.traits.drop k) (x.says.drop k) = saysOk c.traits x.says) (fun k => [(56, .int .i64 k)]) (fun k => c.traits.length - k) 0 (⟨Nat.zero_le _, rfl⟩) ⟨rfl, rfl, rfl, rfl, rfl, rfl, rfl, rfl, trivial⟩ ?_
    rintro k ⟨hk, hso⟩
    dsimp only [List.cons_append, List.nil_append]
    refine cj_seq ?_
    refine cj_regionG (gj_step (y_lss rfl rfl) rfl rfl rfl (gj_nil ?_))
    refine ej_th (cj_seq ?_)
    refine cj_cond rfl (fun h57 => ?_) (fun h57 => ?_)
    · have h57b := h57
      try simp only [sxb] at h57
      obtain ⟨t, ht⟩ : ∃ t, c.traits[k]? = some t := ⟨_, List.getElem?_eq_getElem (by omega)⟩
      obtain ⟨s, hs⟩ : ∃ s, x.says[k]? = some s := ⟨_, List.getElem?_eq_getElem (by omega)⟩
      rw [saysOk_drop _ _ k t s ht hs] at hso
      have hgt := hgc.tr t (List.mem_of_getElem? ht)
      have hl5 := hgt.rd.len
      refine cj_rd hgt.rd (fun _ h => h) ?_
      refine cj_skip (ej_th (cj_seq (cj_block (cj_seq (cj_region ?_)))))
      refine oj_step (y_move rfl) rfl rfl rfl ?_
      refine oj_step (y_ixR (reads_sl) Tryd.underlying170 Tryd.sizeOf177 rfl rfl (⟨by omega, by omega⟩)) rfl rfl rfl ?_
      refine oj_step (y_ldW (reads_sl) Tryd.isAgg177 Tryd.sizeOf177 rfl (ht) (fun _ => rfl)) rfl rfl rfl ?_
      refine oj_alloc Tryd.zeroValue177 rfl rfl (fun b13 => ?_)
      refine oj_step (y_assign rfl) rfl rfl rfl ?_
      refine oj_store rfl rfl rfl rfl Tryd.sizeOf177 rfl ?_
      refine oj_nil ?_
      refine ej_th (cj_seq ?_)
      refine cj_draw (by kernel_rfl) (by kernel_rfl) ?_
      refine gj_step (y_fa fa103_1 rfl) rfl rfl rfl (gj_step (y_load1 Tryd.isAgg100 rfl rfl) rfl rfl rfl (gj_step (y_move rfl) rfl rfl rfl (gj_step (y_ixR (reads_sl) Tryd.underlying100 Tryd.sizeOf9 rfl rfl (⟨by omega, by omega⟩)) rfl rfl rfl (gj_step (y_ld0 (reads_sl) Tryd.isAgg9 rfl (hs) rfl) rfl rfl rfl (gj_step (y_eqlS rfl rfl) rfl rfl rfl (gj_step (y_move rfl) rfl rfl rfl (?_)))))))
      refine gj_g 2 67 69 rfl rfl rfl rfl (fun hg67 => gj_yes rfl rfl rfl (y_fa fa177_2 rfl) rfl rfl (gj_yes rfl rfl rfl (y_load1 Tryd.isAgg4 rfl rfl) rfl rfl (gj_nil rfl))) ?_
      refine gj_step (y_and rfl rfl rfl) rfl rfl rfl (gj_step (y_move rfl) rfl rfl rfl (?_))
      refine gj_g 17 71 88 rfl rfl rfl rfl (fun hg71 => gj_yes rfl rfl rfl (y_fa fa103_1 rfl) rfl rfl (gj_yes rfl rfl rfl (y_load1 Tryd.isAgg100 rfl rfl) rfl rfl (gj_yes rfl rfl rfl (y_move rfl) rfl rfl (gj_yes rfl rfl rfl (y_ixR (reads_sl) Tryd.underlying100 Tryd.sizeOf9 rfl rfl (⟨by omega, by omega⟩)) rfl rfl (gj_yes rfl rfl rfl (y_ld0 (reads_sl) Tryd.isAgg9 rfl (hs) rfl) rfl rfl (gj_yes rfl rfl rfl (y_neqS rfl rfl) rfl rfl (gj_yes rfl rfl rfl (y_move rfl) rfl rfl (gj_g 9 78 87 rfl rfl rfl rfl (fun hg78 => gj_yes rfl rfl rfl (y_fa fa177_1 rfl) rfl rfl (gj_yes rfl rfl rfl (y_load1 Tryd.isAgg100 rfl rfl) rfl rfl (gj_yes rfl rfl rfl (y_fa fa103_1 rfl) rfl rfl (gj_yes rfl rfl rfl (y_load1 Tryd.isAgg100 rfl rfl) rfl rfl (gj_yes rfl rfl rfl (y_move rfl) rfl rfl (gj_yes rfl rfl rfl (y_ixR (reads_sl) Tryd.underlying100 Tryd.sizeOf9 rfl rfl (⟨by omega, by omega⟩)) rfl rfl (gj_yes rfl rfl rfl (y_ld0 (reads_sl) Tryd.isAgg9 rfl (hs) rfl) rfl rfl (gj_yes rfl rfl rfl (y_call Tryd.call106 rfl (fun w hp => k_ContainsS t.vals _ _ s w hp.rd)) rfl rfl (gj_yes rfl rfl rfl (y_not rfl) rfl rfl (gj_nil rfl)))))))))) (gj_yes rfl rfl rfl (y_and rfl rfl rfl) rfl rfl (gj_nil rfl)))))))))) ?_
      refine gj_step (y_or rfl rfl rfl) rfl rfl rfl (?_)
      refine gj_nil ?_
      refine ej_th ?_
      refine cj_cond rfl (fun h89 => ?_) (fun h89 => ?_)
      · have h89b := h89
        try simp only [sxb] at h89
        have hon : saysOne t s = false := congrArg Bool.not h89b
        refine cj_seq ?_
        refine cj_regionG (gj_step (y_assign rfl) rfl rfl rfl (gj_step (y_assign rfl) rfl rfl rfl (gj_nil ?_)))
        refine ej_th (cj_ret (ej_blk_ret (ej_then_ret (ej_then_ret (ej_blk_ret (ej_then_ret ?_))))))
        have hf : fitsI g x deep most = none := by rw [hfi, ← hso, hon]; rfl
        exact ej_ret2 rfl Tryd.results95 rfl rfl (fun w' hp => ⟨by rw [hf]; rfl, hp.below⟩)
      · have h89b := h89
        try simp only [sxb] at h89
        have hon : saysOne t s = true := congrArg Bool.not h89b
        refine cj_skip (ej_blk (ej_th ?_))
        refine cj_regionG (gj_step (y_add rfl rfl (by omega)) rfl rfl rfl (gj_step (y_move rfl) rfl rfl rfl (gj_nil ?_)))
        exact ej_nx (k + 1) (by omega) ⟨by omega, by rw [← hso, hon, Bool.true_and]⟩ ⟨rfl, rfl, rfl, rfl, rfl, rfl, rfl, rfl, trivial⟩
    · have h57b := h57
      try simp only [sxb] at h57
      have hsk : saysOk c.traits x.says = true := by rw [← hso, List.drop_of_length_le (by omega)]; rfl
      rw [if_pos hsk] at hfi
      refine cj_exit (ej_then_exit (ej_then_exit (ej_blk_hit (ej_th (cj_seq ?_)))))
      refine cj_regionG (gj_step (y_assign rfl) rfl rfl rfl (gj_nil ?_))
      refine ej_th (cj_seq (cj_seq ?_))
      refine cj_regionG (gj_step (y_fa fa103_2 rfl) rfl rfl rfl (gj_step (y_load1 Tryd.isAgg101 rfl rfl) rfl rfl rfl (gj_step (y_lenA Tryd.underlying101 rfl) rfl rfl rfl (gj_step (y_move rfl) rfl rfl rfl (gj_nil ?_)))))
      refine ej_th (cj_block ?_)
      refine cj_lpic (X := Nat × Int) [(0, _), (2, _), (3, _), (10, _), (92, _), (93, _)] (fun ⟨k, many⟩ => k ≤ x.parts.length ∧ (1 ≤ many ∧ many ≤ most) ∧ fitsL g c.parts (x.parts.drop k) deep most many = fitsL g c.parts x.parts deep most 1) (fun ⟨k, many⟩ => [(14, .int .i64 many), (94, .int .i64 k)]) (fun ⟨k, many⟩ => x.parts.length - k) (0, 1) (⟨Nat.zero_le _, ⟨Int.le_refl _, hm1⟩, rfl⟩) ⟨rfl, rfl, rfl, rfl, rfl, rfl, rfl, rfl, trivial⟩ ?_
      rintro ⟨k, many⟩ ⟨hk, hmn, hfl⟩
      dsimp only [List.cons_append, List.nil_append]
      refine cj_seq ?_
      refine cj_regionG (gj_step (y_lss rfl rfl) rfl rfl rfl (gj_nil ?_))
      refine ej_th (cj_seq ?_)
      refine cj_cond rfl (fun h95 => ?_) (fun h95 => ?_)
      · have h95b := h95
        try simp only [sxb] at h95
        obtain ⟨q, hq⟩ : ∃ q, x.parts[k]? = some q := ⟨_, List.getElem?_eq_getElem (by omega)⟩
        rw [fitsL_drop _ _ _ k q _ _ _ hq] at hfl
        refine cj_skip (ej_th (cj_seq (cj_block (cj_seq (cj_region ?_)))))
        refine oj_step (y_ixR (reads_sl) Tryd.underlying101 Tryd.sizeOf103 rfl rfl (⟨by omega, by omega⟩)) rfl rfl rfl ?_
        refine oj_step (y_ldW (reads_sl) Tryd.isAgg103 Tryd.sizeOf103 rfl (hq) (fun _ => rfl)) rfl rfl rfl ?_
        refine oj_alloc Tryd.zeroValue103 rfl rfl (fun b16 => ?_)
        refine oj_store rfl rfl rfl rfl Tryd.sizeOf103 rfl ?_
        refine oj_nil ?_
        refine ej_th (cj_seq (cj_seq ?_))
        refine cj_regionG ?_
        refine gj_step (y_fa fa172_2 rfl) rfl rfl rfl (gj_step (y_load1 Tryd.isAgg100 rfl rfl) rfl rfl rfl (gj_step (y_fa0 fa103_0 rfl) rfl rfl rfl (gj_step (y_load1 Tryd.isAgg9 rfl rfl) rfl rfl rfl (?_))))
        refine gj_step (y_call Tryd.call106 rfl (fun w hp => k_ContainsS c.parts _ _ q.cls w hp.rd)) rfl rfl rfl ?_
        refine gj_step (y_not rfl) rfl rfl rfl (?_)
        refine gj_nil ?_
        refine ej_th ?_
        refine cj_cond rfl (fun h103 => ?_) (fun h103 => ?_)
        · have h103b := h103
          try simp only [sxb] at h103
          have hhw := not_t h103b
          refine cj_seq ?_
          refine cj_regionG (gj_step (y_assign rfl) rfl rfl rfl (gj_step (y_assign rfl) rfl rfl rfl (gj_nil ?_)))
          refine ej_th (cj_ret (ej_then_ret (ej_blk_ret (ej_then_ret (ej_then_ret (ej_blk_ret (ej_then_ret ?_)))))))
          have hf : fitsI g x deep most = none := by rw [hfi, ← hfl, if_neg (by rw [hhw]; simp)]
          exact ej_ret2 rfl Tryd.results95 rfl rfl (fun w' hp => ⟨by rw [hf]; rfl, hp.below⟩)
        · have h103b := h103
          try simp only [sxb] at h103
          have hhw := not_f h103b
          rw [if_pos hhw] at hfl
          refine cj_skip (ej_th (cj_seq ?_))
          refine cj_regionG ?_
          refine gj_step (y_move rfl) rfl rfl rfl (gj_step (y_loadN Tryd.isAgg103 Tryd.sizeOf103 rfl) rfl rfl rfl (gj_step (y_move rfl) rfl rfl rfl (gj_step (y_add rfl rfl (by omega)) rfl rfl rfl (gj_step (y_move rfl) rfl rfl rfl (gj_step (y_move rfl) rfl rfl rfl (gj_step (y_sub rfl rfl (by omega)) rfl rfl rfl (?_)))))))
          refine gj_step (y_call Tryd.call95 rfl (fun w hp => ih q (List.mem_of_getElem? hq) w (deep + 1) (most - many) hp.below (by omega) (by omega))) rfl rfl rfl ?_
          refine gj_step (y_move rfl) rfl rfl rfl (gj_step (y_extract rfl rfl) rfl rfl rfl (gj_step (y_extract rfl rfl) rfl rfl rfl (gj_step (y_assign rfl) rfl rfl rfl (gj_step (y_assign rfl) rfl rfl rfl (?_)))))
          refine gj_nil ?_
          refine ej_th (cj_seq (cj_seq ?_))
          refine cj_regionG (gj_step (y_move rfl) rfl rfl rfl (gj_step (y_not rfl) rfl rfl rfl (gj_nil ?_)))
          refine ej_th ?_
          refine cj_cond rfl (fun h116 => ?_) (fun h116 => ?_)
          · have h116b := h116
            try simp only [sxb] at h116
            have hno : fitsI g q (deep + 1) (most - many) = none := by have := not_t h116b; simpa using this
            refine cj_seq ?_
            refine cj_regionG (gj_step (y_assign rfl) rfl rfl rfl (gj_step (y_assign rfl) rfl rfl rfl (gj_nil ?_)))
            refine ej_th (cj_ret (ej_then_ret (ej_blk_ret (ej_then_ret (ej_then_ret (ej_blk_ret (ej_then_ret ?_)))))))
            have hf : fitsI g x deep most = none := by rw [hfi, ← hfl, hno]
            exact ej_ret2 rfl Tryd.results95 rfl rfl (fun w' hp => ⟨by rw [hf]; rfl, hp.below⟩)
          · have h116b := h116
            try simp only [sxb] at h116
            obtain ⟨n, hn⟩ := Option.isSome_iff_exists.1 (not_f h116b)
            have hnb := fitsI_bd g q _ _ n hn
            rw [hn]
            dsimp only [Option.getD_some]
            rw [hn] at hfl
            refine cj_skip (ej_th ?_)
            refine cj_regionG (gj_step (y_move rfl) rfl rfl rfl (gj_step (y_move rfl) rfl rfl rfl (gj_step (y_add rfl rfl (by omega)) rfl rfl rfl (gj_step (y_assign rfl) rfl rfl rfl (gj_nil ?_)))))
            refine ej_blk (ej_th ?_)
            refine cj_regionG (gj_step (y_add rfl rfl (by omega)) rfl rfl rfl (gj_step (y_move rfl) rfl rfl rfl (gj_nil ?_)))
            exact ej_nx (k + 1, many + n) (by simp only; omega) ⟨by first | omega | (simp only; omega), by first | omega | (simp only; omega), hfl⟩ ⟨rfl, rfl, rfl, rfl, rfl, rfl, rfl, rfl, trivial⟩
      · have h95b := h95
        try simp only [sxb] at h95
        refine cj_exit (ej_then_exit (ej_then_exit (ej_blk_hit (ej_th (cj_seq ?_)))))
        refine cj_regionG (gj_step (y_move rfl) rfl rfl rfl (gj_step (y_assign rfl) rfl rfl rfl (gj_step (y_assign rfl) rfl rfl rfl (gj_nil ?_))))
        refine ej_th (cj_ret ?_)
        have hf : fitsI g x deep most = some many := by rw [hfi, ← hfl, List.drop_of_length_le (by omega)]; rfl
        exact ej_ret2 rfl Tryd.results95 rfl rfl (fun w' hp => ⟨by rw [hf]; rfl, hp.below⟩)

theorem k_fitsA {w0 : World} {x : ItemV} (hx : GoodI w0 x) : ∀ (w : World) (b : Nat) (g : List (ByteArray × ClassV)) (deep most : Int), Grow w0 w → (mp ekS evC b g).P w → b < w.heap.size → (∀ p ∈ g, GoodC w p.2) → 1 ≤ deep ∧ deep ≤ 4 → 0 ≤ most ∧ most ≤ 24 →
    Calls Tryd.prog 95 #[.map (some b), evI x, .int .i64 deep, .int .i64 most] w (fun e w' => e = .returned (.tuple #[.int .i64 ((fitsI g x deep most).getD 0), .bool (fitsI g x deep most).isSome]) ∧ Grow w w') := by
  induction hx with
  | mk hs hp hn hm hr ih =>
    intro w b g deep most hg hM hb hgg hd hmo
    exact k_fits _ b g deep most w hM hb hgg ((GoodI.mk hs hp hn hm hr).mono hg) hd hmo (fun p hpm w1 dp mo hg1 h1 h2 => ih p hpm w1 b g dp mo (grow_trans hg hg1) ((mp ekS evC b g).stab (fun i hi => by have : i = b := hi; subst this; exact hg1.block _ hb) hM) (Nat.lt_of_lt_of_le hb hg1.size) (fun q hq => (hgg q hq).mono hg1) h1 h2)

end Go.Proofs.YtafmgkiddhappaaDoor
