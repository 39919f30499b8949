/- Texts of ours, joined: 34 of them. Conditions: none. -/
import Derived.Test.YtppfniekcgnmjaaGreatDoorXTopSold0
import Derived.Test.YtppfniekcgnmjaaGreatDoorProg
import Derived.Laws.StructEq
import Derived.Lib.Join
import Derived.Shelf.Strings.OnBuilder
import Derived.Laws.Strings2
import Derived.Laws.Slices
import Derived.Laws.BytesString
namespace Go.Proofs.YtppfniekcgnmjaaGreatDoor.Pl
open Go.Sx Go.RowKit
set_option maxRecDepth 20000
set_option maxHeartbeats 4000000 in
theorem k_fits (x : ItemV) (b : Nat) (g : List (ByteArray × ClassV)) (deep most : Int) (w : World) (hM : (mp ekS evC b g).P w) (hbl : b < w.heap.size) (hgg : ∀ p ∈ g, GoodC w p.2) (hx : GoodI w x) (hd : 1 ≤ deep ∧ deep ≤ 4) (hmo : 0 ≤ most ∧ most ≤ 24) (ih : ∀ p ∈ x.parts, ∀ (w1 : World) (dp mo : Int), Grow w w1 → 1 ≤ dp ∧ dp ≤ 4 → 0 ≤ mo ∧ mo ≤ 24 → Calls Tryz.prog 125 #[.map (some b), evI p, .int .i64 dp, .int .i64 mo] w1 (fun e w' => e = .returned (.tuple #[.int .i64 ((fitsI g p dp mo).getD 0), .bool (fitsI g p dp mo).isSome]) ∧ Grow w1 w')) : Calls Tryz.prog 125 #[.map (some b), evI x, .int .i64 deep, .int .i64 most] w (fun e w' => e = .returned (.tuple #[.int .i64 ((fitsI g x deep most).getD 0), .bool (fitsI g x deep most).isSome]) ∧ Grow w w') := by
  have hl1 := hx.rs.len
  have hl2 := hx.rp.len
  refine enter_pure (args := [.map (some b), evI x, .int .i64 deep, .int .i64 most]) [mp ekS evC b g] Tryz.func125 rfl (by rw [Tryz.ntmps125]; simp) (fun f hf => by simp at hf; subst hf; exact ⟨hM, fun i hi => by have : i = b := hi; subst this; exact hbl⟩) ?_
  refine cj_seq (cj_region ?_)
  refine oj_box rfl rfl rfl (fun b5 => ?_)
  refine oj_step (y_assign rfl) rfl rfl rfl ?_
  refine oj_step (y_assign rfl) rfl rfl rfl ?_
  refine oj_nil ?_
  refine ej_th (cj_seq (cj_region ?_))
  refine oj_step (y_move rfl) rfl rfl rfl ?_
  refine oj_step (y_fa0 fa153_0 rfl) rfl rfl rfl ?_
  refine oj_step (y_load1 Tryz.isAgg9 rfl rfl) rfl rfl rfl ?_
  refine oj_step (y_lookupS (ek := ekS) (ev := evC) zC Tryz.underlying216 Tryz.underlying9 Tryz.zeroValue147 rfl rfl) rfl rfl rfl ?_
  refine oj_step (y_move rfl) rfl rfl rfl ?_
  refine oj_step (y_extract rfl rfl) rfl rfl rfl ?_
  refine oj_step (y_extract rfl rfl) rfl rfl rfl ?_
  refine oj_alloc Tryz.zeroValue147 rfl rfl (fun b10 => ?_)
  refine oj_store rfl rfl rfl rfl Tryz.sizeOf147 rfl ?_
  refine oj_step (y_assign rfl) rfl rfl rfl ?_
  refine oj_nil ?_
  refine ej_th (cj_seq (cj_seq ?_))
  refine cj_regionG (gj_step (y_move rfl) rfl rfl rfl (gj_step (y_not rfl) rfl rfl rfl (gj_step (y_move rfl) rfl rfl rfl (gj_g 2 28 30 rfl rfl rfl rfl (fun hg28 => gj_yes rfl rfl rfl (y_move rfl) rfl rfl (gj_yes rfl rfl rfl (y_gtr rfl rfl) rfl rfl (gj_nil rfl))) (gj_step (y_or rfl rfl rfl) rfl rfl rfl (gj_step (y_move rfl) rfl rfl rfl (gj_g 2 32 34 rfl rfl rfl rfl (fun hg32 => gj_yes rfl rfl rfl (y_move rfl) rfl rfl (gj_yes rfl rfl rfl (y_lss rfl rfl) rfl rfl (gj_nil rfl))) (gj_step (y_or rfl rfl rfl) rfl rfl rfl (gj_step (y_move rfl) rfl rfl rfl (gj_g 7 36 43 rfl rfl rfl rfl (fun hg36 => gj_yes rfl rfl rfl (y_fa fa153_1 rfl) rfl rfl (gj_yes rfl rfl rfl (y_load1 Tryz.isAgg142 rfl rfl) rfl rfl (gj_yes rfl rfl rfl (y_lenA Tryz.underlying142 rfl) rfl rfl (gj_yes rfl rfl rfl (y_fa fa147_1 rfl) rfl rfl (gj_yes rfl rfl rfl (y_load1 Tryz.isAgg145 rfl rfl) rfl rfl (gj_yes rfl rfl rfl (y_lenA Tryz.underlying145 rfl) rfl rfl (gj_yes rfl rfl rfl (y_neq rfl rfl) rfl rfl (gj_nil rfl)))))))) (gj_step (y_or rfl rfl rfl) rfl rfl rfl (gj_step (y_move rfl) rfl rfl rfl (gj_g 6 45 51 rfl rfl rfl rfl (fun hg45 => gj_yes rfl rfl rfl (y_fa fa153_2 rfl) rfl rfl (gj_yes rfl rfl rfl (y_load1 Tryz.isAgg151 rfl rfl) rfl rfl (gj_yes rfl rfl rfl (y_lenA Tryz.underlying151 rfl) rfl rfl (gj_yes rfl rfl rfl (y_fa fa147_3 rfl) rfl rfl (gj_yes rfl rfl rfl (y_load1 Tryz.isAgg3 rfl rfl) rfl rfl (gj_yes rfl rfl rfl (y_gtr rfl rfl) rfl rfl (gj_nil rfl))))))) (gj_step (y_or rfl rfl rfl) rfl rfl rfl (gj_nil ?_)))))))))))))))
  refine ej_th ?_
  refine cj_cond rfl (fun h52 => ?_) (fun h52 => ?_)
  · have h52b := h52
    try simp only [sxb] at h52
    refine cj_seq ?_
    refine cj_regionG (gj_step (y_assign rfl) rfl rfl rfl (gj_step (y_assign rfl) rfl rfl rfl (gj_nil ?_)))
    refine ej_th (cj_ret (ej_then_ret ?_))
    have hf : fitsI g x deep most = none := by exact fitsI_none h52b
    exact ej_ret2 rfl Tryz.results125 rfl rfl (fun w' hp => ⟨by rw [hf]; rfl, hp.below⟩)
  · have h52b := h52
    try simp only [sxb] at h52
    obtain ⟨c, hc, hd3, hm1, hsl, hfi⟩ := fitsI_some h52b
    rw [hc]
    dsimp only [Option.getD_some]
    obtain ⟨pc, hpc, hpe⟩ := getL_mem hc
    have hgc := hgg pc hpc
    rw [hpe] at hgc
    have hl3 := hgc.rt.len
    have hl4 := hgc.rp.len
    refine cj_rd hx.rs (fun _ h => h) ?_
    refine cj_rd hx.rp (fun _ h => h) ?_
    refine cj_rd hgc.rt (fun _ h => h) ?_
    refine cj_rd hgc.rp (fun _ h => h) ?_
    refine cj_skip (ej_th (cj_seq (cj_seq ?_)))
    refine cj_regionG (gj_step (y_fa fa147_1 rfl) rfl rfl rfl (gj_step (y_load1 Tryz.isAgg145 rfl rfl) rfl rfl rfl (gj_step (y_lenA Tryz.underlying145 rfl) rfl rfl rfl (gj_step (y_move rfl) rfl rfl rfl (gj_nil ?_)))))
    refine ej_th (cj_block ?_)
    refine cj_lpic (X := Nat) [(0, _), (2, _), (3, _), (5, _), (10, _), (54, _), (55, _)] (fun k => k ≤ c.traits.length ∧ saysOk (c.traits.drop k) (x.says.drop k) = saysOk c.traits x.says) (fun k => [(56, .int .i64 k)]) (fun k => c.traits.length - k) 0 (⟨Nat.zero_le _, rfl⟩) ⟨rfl, rfl, rfl, rfl, rfl, rfl, rfl, rfl, trivial⟩ ?_
    rintro k ⟨hk, hso⟩
    dsimp only [List.cons_append, List.nil_append]
    refine cj_seq ?_
    refine cj_regionG (gj_step (y_lss rfl rfl) rfl rfl rfl (gj_nil ?_))
    refine ej_th (cj_seq ?_)
    refine cj_cond rfl (fun h57 => ?_) (fun h57 => ?_)
    · have h57b := h57
      try simp only [sxb] at h57
      obtain ⟨t, ht⟩ : ∃ t, c.traits[k]? = some t := ⟨_, List.getElem?_eq_getElem (by omega)⟩
      obtain ⟨s, hs⟩ : ∃ s, x.says[k]? = some s := ⟨_, List.getElem?_eq_getElem (by omega)⟩
      rw [saysOk_drop _ _ k t s ht hs] at hso
      have hgt := hgc.tr t (List.mem_of_getElem? ht)
      have hl5 := hgt.rd.len
      refine cj_rd hgt.rd (fun _ h => h) ?_
      refine cj_skip (ej_th (cj_seq (cj_block (cj_seq (cj_region ?_)))))
      refine oj_step (y_move rfl) rfl rfl rfl ?_
      refine oj_step (y_ixR (reads_sl) Tryz.underlying145 Tryz.sizeOf144 rfl rfl (⟨by omega, by omega⟩)) rfl rfl rfl ?_
      refine oj_step (y_ldW (reads_sl) Tryz.isAgg144 Tryz.sizeOf144 rfl (ht) (fun _ => rfl)) rfl rfl rfl ?_
      refine oj_alloc Tryz.zeroValue144 rfl rfl (fun b13 => ?_)
      refine oj_step (y_assign rfl) rfl rfl rfl ?_
      refine oj_store rfl rfl rfl rfl Tryz.sizeOf144 rfl ?_
      refine oj_nil ?_
      refine ej_th (cj_seq ?_)
      refine cj_draw (by kernel_rfl) (by kernel_rfl) ?_
      refine gj_step (y_fa fa153_1 rfl) rfl rfl rfl (gj_step (y_load1 Tryz.isAgg142 rfl rfl) rfl rfl rfl (gj_step (y_move rfl) rfl rfl rfl (gj_step (y_ixR (reads_sl) Tryz.underlying142 Tryz.sizeOf9 rfl rfl (⟨by omega, by omega⟩)) rfl rfl rfl (gj_step (y_ld0 (reads_sl) Tryz.isAgg9 rfl (hs) rfl) rfl rfl rfl (gj_step (y_eqlS rfl rfl) rfl rfl rfl (gj_step (y_move rfl) rfl rfl rfl (?_)))))))
      refine gj_g 2 67 69 rfl rfl rfl rfl (fun hg67 => gj_yes rfl rfl rfl (y_fa fa144_2 rfl) rfl rfl (gj_yes rfl rfl rfl (y_load1 Tryz.isAgg4 rfl rfl) rfl rfl (gj_nil rfl))) ?_
      refine gj_step (y_and rfl rfl rfl) rfl rfl rfl (gj_step (y_move rfl) rfl rfl rfl (?_))
      refine gj_g 17 71 88 rfl rfl rfl rfl (fun hg71 => gj_yes rfl rfl rfl (y_fa fa153_1 rfl) rfl rfl (gj_yes rfl rfl rfl (y_load1 Tryz.isAgg142 rfl rfl) rfl rfl (gj_yes rfl rfl rfl (y_move rfl) rfl rfl (gj_yes rfl rfl rfl (y_ixR (reads_sl) Tryz.underlying142 Tryz.sizeOf9 rfl rfl (⟨by omega, by omega⟩)) rfl rfl (gj_yes rfl rfl rfl (y_ld0 (reads_sl) Tryz.isAgg9 rfl (hs) rfl) rfl rfl (gj_yes rfl rfl rfl (y_neqS rfl rfl) rfl rfl (gj_yes rfl rfl rfl (y_move rfl) rfl rfl (gj_g 9 78 87 rfl rfl rfl rfl (fun hg78 => gj_yes rfl rfl rfl (y_fa fa144_1 rfl) rfl rfl (gj_yes rfl rfl rfl (y_load1 Tryz.isAgg142 rfl rfl) rfl rfl (gj_yes rfl rfl rfl (y_fa fa153_1 rfl) rfl rfl (gj_yes rfl rfl rfl (y_load1 Tryz.isAgg142 rfl rfl) rfl rfl (gj_yes rfl rfl rfl (y_move rfl) rfl rfl (gj_yes rfl rfl rfl (y_ixR (reads_sl) Tryz.underlying142 Tryz.sizeOf9 rfl rfl (⟨by omega, by omega⟩)) rfl rfl (gj_yes rfl rfl rfl (y_ld0 (reads_sl) Tryz.isAgg9 rfl (hs) rfl) rfl rfl (gj_yes rfl rfl rfl (y_call Tryz.call156 rfl (fun w hp => k_ContainsS t.vals _ _ s w hp.rd)) rfl rfl (gj_yes rfl rfl rfl (y_not rfl) rfl rfl (gj_nil rfl)))))))))) (gj_yes rfl rfl rfl (y_and rfl rfl rfl) rfl rfl (gj_nil rfl)))))))))) ?_
      refine gj_step (y_or rfl rfl rfl) rfl rfl rfl (?_)
      refine gj_nil ?_
      refine ej_th ?_
      refine cj_cond rfl (fun h89 => ?_) (fun h89 => ?_)
      · have h89b := h89
        try simp only [sxb] at h89
        have hon : saysOne t s = false := congrArg Bool.not h89b
        refine cj_seq ?_
        refine cj_regionG (gj_step (y_assign rfl) rfl rfl rfl (gj_step (y_assign rfl) rfl rfl rfl (gj_nil ?_)))
        refine ej_th (cj_ret (ej_blk_ret (ej_then_ret (ej_then_ret (ej_blk_ret (ej_then_ret ?_))))))
        have hf : fitsI g x deep most = none := by rw [hfi, ← hso, hon]; rfl
        exact ej_ret2 rfl Tryz.results125 rfl rfl (fun w' hp => ⟨by rw [hf]; rfl, hp.below⟩)
      · have h89b := h89
        try simp only [sxb] at h89
        have hon : saysOne t s = true := congrArg Bool.not h89b
        refine cj_skip (ej_blk (ej_th ?_))
        refine cj_regionG (gj_step (y_add rfl rfl (by omega)) rfl rfl rfl (gj_step (y_move rfl) rfl rfl rfl (gj_nil ?_)))
        exact ej_nx (k + 1) (by omega) ⟨by omega, by rw [← hso, hon, Bool.true_and]⟩ ⟨rfl, rfl, rfl, rfl, rfl, rfl, rfl, rfl, trivial⟩
    · have h57b := h57
      try simp only [sxb] at h57
      have hsk : saysOk c.traits x.says = true := by rw [← hso, List.drop_of_length_le (by omega)]; rfl
      rw [if_pos hsk] at hfi
      refine cj_exit (ej_then_exit (ej_then_exit (ej_blk_hit (ej_th (cj_seq ?_)))))
      refine cj_regionG (gj_step (y_assign rfl) rfl rfl rfl (gj_nil ?_))
      refine ej_th (cj_seq (cj_seq ?_))
      refine cj_regionG (gj_step (y_fa fa153_2 rfl) rfl rfl rfl (gj_step (y_load1 Tryz.isAgg151 rfl rfl) rfl rfl rfl (gj_step (y_lenA Tryz.underlying151 rfl) rfl rfl rfl (gj_step (y_move rfl) rfl rfl rfl (gj_nil ?_)))))
      refine ej_th (cj_block ?_)
      refine cj_lpic (X := Nat × Int) [(0, _), (2, _), (3, _), (10, _), (92, _), (93, _)] (fun ⟨k, many⟩ => k ≤ x.parts.length ∧ (1 ≤ many ∧ many ≤ most) ∧ fitsL g c.parts (x.parts.drop k) deep most many = fitsL g c.parts x.parts deep most 1) (fun ⟨k, many⟩ => [(14, .int .i64 many), (94, .int .i64 k)]) (fun ⟨k, many⟩ => x.parts.length - k) (0, 1) (⟨Nat.zero_le _, ⟨Int.le_refl _, hm1⟩, rfl⟩) ⟨rfl, rfl, rfl, rfl, rfl, rfl, rfl, rfl, trivial⟩ ?_
      rintro ⟨k, many⟩ ⟨hk, hmn, hfl⟩
      dsimp only [List.cons_append, List.nil_append]
      refine cj_seq ?_
      refine cj_regionG (gj_step (y_lss rfl rfl) rfl rfl rfl (gj_nil ?_))
      refine ej_th (cj_seq ?_)
      refine cj_cond rfl (fun h95 => ?_) (fun h95 => ?_)
      · have h95b := h95
        try simp only [sxb] at h95
        obtain ⟨q, hq⟩ : ∃ q, x.parts[k]? = some q := ⟨_, List.getElem?_eq_getElem (by omega)⟩
        rw [fitsL_drop _ _ _ k q _ _ _ hq] at hfl
        refine cj_skip (ej_th (cj_seq (cj_block (cj_seq (cj_region ?_)))))
        refine oj_step (y_ixR (reads_sl) Tryz.underlying151 Tryz.sizeOf153 rfl rfl (⟨by omega, by omega⟩)) rfl rfl rfl ?_
        refine oj_step (y_ldW (reads_sl) Tryz.isAgg153 Tryz.sizeOf153 rfl (hq) (fun _ => rfl)) rfl rfl rfl ?_
        refine oj_alloc Tryz.zeroValue153 rfl rfl (fun b16 => ?_)
        refine oj_store rfl rfl rfl rfl Tryz.sizeOf153 rfl ?_
        refine oj_nil ?_
        refine ej_th (cj_seq (cj_seq ?_))
        refine cj_regionG ?_
        refine gj_step (y_fa fa147_2 rfl) rfl rfl rfl (gj_step (y_load1 Tryz.isAgg142 rfl rfl) rfl rfl rfl (gj_step (y_fa0 fa153_0 rfl) rfl rfl rfl (gj_step (y_load1 Tryz.isAgg9 rfl rfl) rfl rfl rfl (?_))))
        refine gj_step (y_call Tryz.call156 rfl (fun w hp => k_ContainsS c.parts _ _ q.cls w hp.rd)) rfl rfl rfl ?_
        refine gj_step (y_not rfl) rfl rfl rfl (?_)
        refine gj_nil ?_
        refine ej_th ?_
        refine cj_cond rfl (fun h103 => ?_) (fun h103 => ?_)
        · have h103b := h103
          try simp only [sxb] at h103
          have hhw := not_t h103b
          refine cj_seq ?_
          refine cj_regionG (gj_step (y_assign rfl) rfl rfl rfl (gj_step (y_assign rfl) rfl rfl rfl (gj_nil ?_)))
          refine ej_th (cj_ret (ej_then_ret (ej_blk_ret (ej_then_ret (ej_then_ret (ej_blk_ret (ej_then_ret ?_)))))))
          have hf : fitsI g x deep most = none := by rw [hfi, ← hfl, if_neg (by rw [hhw]; simp)]
          exact ej_ret2 rfl Tryz.results125 rfl rfl (fun w' hp => ⟨by rw [hf]; rfl, hp.below⟩)
        · have h103b := h103
          try simp only [sxb] at h103
          have hhw := not_f h103b
          rw [if_pos hhw] at hfl
          refine cj_skip (ej_th (cj_seq ?_))
          refine cj_regionG ?_
          refine gj_step (y_move rfl) rfl rfl rfl (gj_step (y_loadN Tryz.isAgg153 Tryz.sizeOf153 rfl) rfl rfl rfl (gj_step (y_move rfl) rfl rfl rfl (gj_step (y_add rfl rfl (by omega)) rfl rfl rfl (gj_step (y_move rfl) rfl rfl rfl (gj_step (y_move rfl) rfl rfl rfl (gj_step (y_sub rfl rfl (by omega)) rfl rfl rfl (?_)))))))
          refine gj_step (y_call Tryz.call125 rfl (fun w hp => ih q (List.mem_of_getElem? hq) w (deep + 1) (most - many) hp.below (by omega) (by omega))) rfl rfl rfl ?_
          refine gj_step (y_move rfl) rfl rfl rfl (gj_step (y_extract rfl rfl) rfl rfl rfl (gj_step (y_extract rfl rfl) rfl rfl rfl (gj_step (y_assign rfl) rfl rfl rfl (gj_step (y_assign rfl) rfl rfl rfl (?_)))))
          refine gj_nil ?_
          refine ej_th (cj_seq (cj_seq ?_))
          refine cj_regionG (gj_step (y_move rfl) rfl rfl rfl (gj_step (y_not rfl) rfl rfl rfl (gj_nil ?_)))
          refine ej_th ?_
          refine cj_cond rfl (fun h116 => ?_) (fun h116 => ?_)
          · have h116b := h116
            try simp only [sxb] at h116
            have hno : fitsI g q (deep + 1) (most - many) = none := by have := not_t h116b; simpa using this
            refine cj_seq ?_
            refine cj_regionG (gj_step (y_assign rfl) rfl rfl rfl (gj_step (y_assign rfl) rfl rfl rfl (gj_nil ?_)))
            refine ej_th (cj_ret (ej_then_ret (ej_blk_ret (ej_then_ret (ej_then_ret (ej_blk_ret (ej_then_ret ?_)))))))
            have hf : fitsI g x deep most = none := by rw [hfi, ← hfl, hno]
            exact ej_ret2 rfl Tryz.results125 rfl rfl (fun w' hp => ⟨by rw [hf]; rfl, hp.below⟩)
          · have h116b := h116
            try simp only [sxb] at h116
            obtain ⟨n, hn⟩ := Option.isSome_iff_exists.1 (not_f h116b)
            have hnb := fitsI_bd g q _ _ n hn
            rw [hn]
            dsimp only [Option.getD_some]
            rw [hn] at hfl
            refine cj_skip (ej_th ?_)
            refine cj_regionG (gj_step (y_move rfl) rfl rfl rfl (gj_step (y_move rfl) rfl rfl rfl (gj_step (y_add rfl rfl (by omega)) rfl rfl rfl (gj_step (y_assign rfl) rfl rfl rfl (gj_nil ?_)))))
            refine ej_blk (ej_th ?_)
            refine cj_regionG (gj_step (y_add rfl rfl (by omega)) rfl rfl rfl (gj_step (y_move rfl) rfl rfl rfl (gj_nil ?_)))
            exact ej_nx (k + 1, many + n) (by simp only; omega) ⟨by first | omega | (simp only; omega), by first | omega | (simp only; omega), hfl⟩ ⟨rfl, rfl, rfl, rfl, rfl, rfl, rfl, rfl, trivial⟩
      · have h95b := h95
        try simp only [sxb] at h95
        refine cj_exit (ej_then_exit (ej_then_exit (ej_blk_hit (ej_th (cj_seq ?_)))))
        refine cj_regionG (gj_step (y_move rfl) rfl rfl rfl (gj_step (y_assign rfl) rfl rfl rfl (gj_step (y_assign rfl) rfl rfl rfl (gj_nil ?_))))
        refine ej_th (cj_ret ?_)
        have hf : fitsI g x deep most = some many := by rw [hfi, ← hfl, List.drop_of_length_le (by omega)]; rfl
        exact ej_ret2 rfl Tryz.results125 rfl rfl (fun w' hp => ⟨by rw [hf]; rfl, hp.below⟩)

theorem k_fitsA {w0 : World} {x : ItemV} (hx : GoodI w0 x) : ∀ (w : World) (b : Nat) (g : List (ByteArray × ClassV)) (deep most : Int), Grow w0 w → (mp ekS evC b g).P w → b < w.heap.size → (∀ p ∈ g, GoodC w p.2) → 1 ≤ deep ∧ deep ≤ 4 → 0 ≤ most ∧ most ≤ 24 →
    Calls Tryz.prog 125 #[.map (some b), evI x, .int .i64 deep, .int .i64 most] w (fun e w' => e = .returned (.tuple #[.int .i64 ((fitsI g x deep most).getD 0), .bool (fitsI g x deep most).isSome]) ∧ Grow w w') := by
  induction hx with
  | mk hs hp hn hm hr ih =>
    intro w b g deep most hg hM hb hgg hd hmo
    exact k_fits _ b g deep most w hM hb hgg ((GoodI.mk hs hp hn hm hr).mono hg) hd hmo (fun p hpm w1 dp mo hg1 h1 h2 => ih p hpm w1 b g dp mo (grow_trans hg hg1) ((mp ekS evC b g).stab (fun i hi => by have : i = b := hi; subst this; exact hg1.block _ hb) hM) (Nat.lt_of_lt_of_le hb hg1.size) (fun q hq => (hgg q hq).mono hg1) h1 h2)

end Go.Proofs.YtppfniekcgnmjaaGreatDoor.Pl
namespace Go.Proofs.YtppfniekcgnmjaaGreatDoor.Pl
open Go.Sx Go.RowKit
set_option maxRecDepth 20000

end Go.Proofs.YtppfniekcgnmjaaGreatDoor.Pl
namespace Go.Proofs.YtppfniekcgnmjaaGreatDoor.Pl
open Go.Sx Go.RowKit
set_option maxRecDepth 20000
theorem k_gram_bad (l : List ClassV) (A : Option Addr) (c : Nat) (w : World) (hl : Rd w 4 encCl A l) (hgc : ∀ c ∈ l, GoodC w c) (hok : gramOk l = false) : Calls Tryz.prog 124 #[.slice A l.length c] w (fun e w' => e = .returned (.tuple #[.map none, .int .i64 10]) ∧ Grow w w') :=
  (k_grammarOf l A c w hl hgc).mono fun e w' ⟨b, he, hg, _⟩ => ⟨by rw [he, gramE, hok]; rfl, hg⟩
theorem k_gram_ok (l : List ClassV) (A : Option Addr) (c : Nat) (w : World) (hl : Rd w 4 encCl A l) (hgc : ∀ c ∈ l, GoodC w c) (hok : gramOk l = true) : Calls Tryz.prog 124 #[.slice A l.length c] w (fun e w' => ∃ b, e = .returned (.tuple #[.map (some b), .int .i64 0]) ∧ Grow w w' ∧ (mp ekS evC b (gramM l)).P w' ∧ w.heap.size ≤ b ∧ b < w'.heap.size) :=
  (k_grammarOf l A c w hl hgc).mono fun e w' ⟨b, he, hg, h⟩ => ⟨b, by rw [he, gramE, hok]; rfl, hg, h hok⟩

theorem k_pasked_bad (l : List ClassV) (A : Option Addr) (c : Nat) (xs : List ItemV) (B : Option Addr) (d : Nat) (w : World) (hl : Rd w 4 encCl A l) (hgc : ∀ c ∈ l, GoodC w c) (hr : Rd w 3 encIt B xs) (hok : gramOk l = false) : Calls Tryz.prog 94 #[.slice A l.length c, .slice B xs.length d] w (fun e w' => ∃ b, e = .returned (.tuple #[.map (bif askIOk l xs then some b else none), .int .i64 (askIE l xs)]) ∧ Grow w w' ∧ (askIOk l xs = true → (mp ekS evC b (gramM l)).P w' ∧ w.heap.size ≤ b ∧ b < w'.heap.size)) := by
  refine enter_pure (args := [.slice A l.length c, .slice B xs.length d]) [sl (fun b => b < w.heap.size) 4 encCl A l, sl (fun b => b < w.heap.size) 3 encIt B xs] Tryz.func94 rfl (by rw [Tryz.ntmps94]; simp) (fun g hg => by simp at hg; rcases hg with rfl | rfl; exact ⟨hl, fun _ h => h⟩; exact ⟨hr, fun _ h => h⟩) ?_
  refine cj_seq ?_
  refine cj_regionG (gj_step (y_assign rfl) rfl rfl rfl (gj_step (y_assign rfl) rfl rfl rfl (gj_nil ?_)))
  refine ej_th (cj_seq ?_)
  refine cj_regionG ?_
  refine gj_step (y_move rfl) rfl rfl rfl (?_)
  refine gj_step (y_call Tryz.call124 rfl (fun w hp => k_gram_bad l A c w hp.rd (fun c hc => (hgc c hc).mono hp.below) hok)) rfl rfl rfl ?_
  refine gj_step (y_move rfl) rfl rfl rfl (gj_step (y_extract rfl rfl) rfl rfl rfl (gj_step (y_extract rfl rfl) rfl rfl rfl (gj_step (y_assign rfl) rfl rfl rfl (gj_step (y_assign rfl) rfl rfl rfl (?_)))))
  refine gj_nil ?_
  refine ej_th (cj_seq (cj_seq ?_))
  refine cj_regionG (gj_step (y_move rfl) rfl rfl rfl (gj_step (y_neq rfl rfl) rfl rfl rfl (gj_nil ?_)))
  refine ej_th ?_
  refine cj_cond rfl (fun h18 => ?_) (fun h18 => ?_)
  · have h18b := h18
    try simp only [sxb] at h18
    refine cj_seq ?_
    refine cj_regionG (gj_step (y_move rfl) rfl rfl rfl (gj_step (y_assign rfl) rfl rfl rfl (gj_step (y_assign rfl) rfl rfl rfl (gj_nil ?_))))
    refine ej_th (cj_ret (ej_then_ret ?_))
    have hg : askIOk l xs = false := by rw [askIOk, hok]; rfl
    exact ej_ret2 rfl Tryz.results94 rfl rfl (fun w' hp => ⟨0, by rw [hg, show askIE l xs = 10 from by simp [askIE, hok]]; rfl, hp.below, fun h => by rw [hg] at h; cases h⟩)
  · exact absurd h18 (by simp)

theorem k_pasked_ok (l : List ClassV) (A : Option Addr) (c : Nat) (xs : List ItemV) (B : Option Addr) (d : Nat) (w : World) (hl : Rd w 4 encCl A l) (hgc : ∀ c ∈ l, GoodC w c) (hr : Rd w 3 encIt B xs) (hxs : ∀ x ∈ xs, GoodI w x) (hok : gramOk l = true) : Calls Tryz.prog 94 #[.slice A l.length c, .slice B xs.length d] w (fun e w' => ∃ b, e = .returned (.tuple #[.map (bif askIOk l xs then some b else none), .int .i64 (askIE l xs)]) ∧ Grow w w' ∧ (askIOk l xs = true → (mp ekS evC b (gramM l)).P w' ∧ w.heap.size ≤ b ∧ b < w'.heap.size)) := by
  have hlen := hr.len
  refine enter_pure (args := [.slice A l.length c, .slice B xs.length d]) [sl (fun b => b < w.heap.size) 4 encCl A l, sl (fun b => b < w.heap.size) 3 encIt B xs] Tryz.func94 rfl (by rw [Tryz.ntmps94]; simp) (fun g hg => by simp at hg; rcases hg with rfl | rfl; exact ⟨hl, fun _ h => h⟩; exact ⟨hr, fun _ h => h⟩) ?_
  refine cj_seq ?_
  refine cj_regionG (gj_step (y_assign rfl) rfl rfl rfl (gj_step (y_assign rfl) rfl rfl rfl (gj_nil ?_)))
  refine ej_th (cj_seq (cj_region ?_))
  refine oj_step (y_move rfl) rfl rfl rfl ?_
  refine oj_call (X := {b : Nat // w.heap.size ≤ b}) (fun b => .tuple #[.map (some b.1), .int .i64 0]) (fun _ => []) (fun b => [mp ekS evC b.1 (gramM l)]) Tryz.call124 rfl (fun w hp => (k_gram_ok l A c w hp.rd (fun c hc => (hgc c hc).mono hp.below) hok).mono fun e w' ⟨b, he, hg, hm, h1, h2⟩ => ⟨⟨b, Nat.le_trans hp.size h1⟩, he, hg, by simp, by simp, fun g hg' => by simp only [List.mem_singleton] at hg'; subst hg'; exact ⟨hm, fun i hi => by have : i = b := hi; subst this; exact ⟨h1, h2, by simp⟩⟩⟩) rfl (fun b14 => ?_)
  obtain ⟨g14, hg14⟩ := b14
  dsimp only [List.cons_append, List.nil_append]
  refine oj_step (y_move rfl) rfl rfl rfl ?_
  refine oj_step (y_extract rfl rfl) rfl rfl rfl ?_
  refine oj_step (y_extract rfl rfl) rfl rfl rfl ?_
  refine oj_step (y_assign rfl) rfl rfl rfl ?_
  refine oj_step (y_assign rfl) rfl rfl rfl ?_
  refine oj_nil ?_
  refine ej_th (cj_seq (cj_seq ?_))
  refine cj_regionG (gj_step (y_move rfl) rfl rfl rfl (gj_step (y_neq rfl rfl) rfl rfl rfl (gj_nil ?_)))
  refine ej_th ?_
  refine cj_cond rfl (fun h18 => ?_) (fun h18 => ?_)
  · exact absurd h18 (by simp)
  · have h18b := h18
    try simp only [sxb] at h18
    refine cj_skip (ej_th (cj_seq (cj_seq ?_)))
    refine cj_regionG (gj_step (y_move rfl) rfl rfl rfl (gj_step (y_lenA Tryz.underlying151 rfl) rfl rfl rfl (gj_step (y_move rfl) rfl rfl rfl (gj_nil ?_))))
    refine ej_th (cj_block ?_)
    refine cj_lpic (X := Nat) [(6, _), (20, _), (21, _)] (fun k => k ≤ xs.length ∧ (xs.drop k).all (itemOk l) = xs.all (itemOk l)) (fun k => [(22, .int .i64 k)]) (fun k => xs.length - k) 0 (⟨Nat.zero_le _, rfl⟩) ⟨rfl, rfl, rfl, rfl, trivial⟩ ?_
    rintro k ⟨hk, hal⟩
    dsimp only [List.cons_append, List.nil_append]
    refine cj_seq ?_
    refine cj_regionG (gj_step (y_lss rfl rfl) rfl rfl rfl (gj_nil ?_))
    refine ej_th (cj_seq ?_)
    refine cj_cond rfl (fun h23 => ?_) (fun h23 => ?_)
    · have h23b := h23
      try simp only [sxb] at h23
      obtain ⟨x, hx⟩ : ∃ x, xs[k]? = some x := ⟨_, List.getElem?_eq_getElem (by omega)⟩
      rw [all_drop _ xs k x hx] at hal
      refine cj_skip (ej_th (cj_seq (cj_block (cj_seq (cj_region ?_)))))
      refine oj_step (y_ixR (reads_sl) Tryz.underlying151 Tryz.sizeOf153 rfl rfl (⟨by omega, by omega⟩)) rfl rfl rfl ?_
      refine oj_step (y_ldW (reads_sl) Tryz.isAgg153 Tryz.sizeOf153 rfl (hx) (fun _ => rfl)) rfl rfl rfl ?_
      refine oj_alloc Tryz.zeroValue153 rfl rfl (fun b9 => ?_)
      refine oj_store rfl rfl rfl rfl Tryz.sizeOf153 rfl ?_
      refine oj_nil ?_
      refine ej_th (cj_seq ?_)
      refine cj_regionG ?_
      refine gj_step (y_move rfl) rfl rfl rfl (gj_step (y_loadN Tryz.isAgg153 Tryz.sizeOf153 rfl) rfl rfl rfl (?_))
      refine gj_step (y_call Tryz.call125 rfl (fun w hp => (k_fitsA (hxs x (List.mem_of_getElem? hx)) w g14 (gramM l) 1 24 hp.below (hp.mpS (K := ByteArray) (V := ClassV)).1 (hp.mpS (K := ByteArray) (V := ClassV) (b := g14)).2 (fun p hm => (hgc _ (gramM_mem hm)).mono hp.below) ⟨by omega, by omega⟩ ⟨by omega, by omega⟩))) rfl rfl rfl ?_
      refine gj_step (y_move rfl) rfl rfl rfl (gj_step (y_extract rfl rfl) rfl rfl rfl (gj_step (y_extract rfl rfl) rfl rfl rfl (gj_step (y_assign rfl) rfl rfl rfl (gj_step (y_assign rfl) rfl rfl rfl (?_)))))
      refine gj_nil ?_
      refine ej_th (cj_seq ?_)
      refine cj_regionG (gj_step (y_move rfl) rfl rfl rfl (gj_step (y_not rfl) rfl rfl rfl (gj_nil ?_)))
      refine ej_th ?_
      refine cj_cond rfl (fun h33 => ?_) (fun h33 => ?_)
      · have h33b := h33
        try simp only [sxb] at h33
        have hio : itemOk l x = false := not_t h33b
        refine cj_seq ?_
        refine cj_regionG (gj_step (y_assign rfl) rfl rfl rfl (gj_step (y_assign rfl) rfl rfl rfl (gj_nil ?_)))
        refine ej_th (cj_ret (ej_blk_ret (ej_then_ret (ej_then_ret (ej_blk_ret (ej_then_ret ?_))))))
        have hg : askIOk l xs = false := by rw [askIOk, hok, ← hal, hio]; rfl
        exact ej_ret2 rfl Tryz.results94 rfl rfl (fun w' hp => ⟨0, by rw [hg, show askIE l xs = 11 from by simp [askIE, hok, ← hal, hio]]; rfl, hp.below, fun h => by rw [hg] at h; cases h⟩)
      · have h33b := h33
        try simp only [sxb] at h33
        have hio : itemOk l x = true := not_f h33b
        refine cj_skip (ej_blk (ej_th ?_))
        refine cj_regionG (gj_step (y_add rfl rfl (by omega)) rfl rfl rfl (gj_step (y_move rfl) rfl rfl rfl (gj_nil ?_)))
        exact ej_nx (k + 1) (by omega) ⟨by omega, by rw [← hal, hio, Bool.true_and]⟩ ⟨rfl, rfl, rfl, rfl, trivial⟩
    · have h23b := h23
      try simp only [sxb] at h23
      refine cj_exit (ej_then_exit (ej_then_exit (ej_blk_hit (ej_th (cj_seq ?_)))))
      refine cj_regionG (gj_step (y_move rfl) rfl rfl rfl (gj_step (y_assign rfl) rfl rfl rfl (gj_step (y_assign rfl) rfl rfl rfl (gj_nil ?_))))
      refine ej_th (cj_ret ?_)
      have ha : xs.all (itemOk l) = true := by rw [← hal, List.drop_of_length_le (by omega)]; rfl
      have hg : askIOk l xs = true := by rw [askIOk, hok, ha]; rfl
      exact ej_ret2 rfl Tryz.results94 rfl rfl (fun w' hp => ⟨g14, by rw [hg, show askIE l xs = 0 by simp [askIE, hok, ha]]; rfl, hp.below, fun _ => ⟨(hp.mpS (K := ByteArray) (V := ClassV)).1, hg14, (hp.mpS (K := ByteArray) (V := ClassV) (b := g14)).2⟩⟩)

theorem k_pasked (l : List ClassV) (A : Option Addr) (c : Nat) (xs : List ItemV) (B : Option Addr) (d : Nat) (w : World) (hl : Rd w 4 encCl A l) (hgc : ∀ c ∈ l, GoodC w c) (hr : Rd w 3 encIt B xs) (hxs : ∀ x ∈ xs, GoodI w x) : Calls Tryz.prog 94 #[.slice A l.length c, .slice B xs.length d] w (fun e w' => ∃ b, e = .returned (.tuple #[.map (bif askIOk l xs then some b else none), .int .i64 (askIE l xs)]) ∧ Grow w w' ∧ (askIOk l xs = true → (mp ekS evC b (gramM l)).P w' ∧ w.heap.size ≤ b ∧ b < w'.heap.size)) := by
  cases hok : gramOk l with
  | false => exact k_pasked_bad l A c xs B d w hl hgc hr hok
  | true => exact k_pasked_ok l A c xs B d w hl hgc hr hxs hok

end Go.Proofs.YtppfniekcgnmjaaGreatDoor.Pl
namespace Go.Proofs.YtppfniekcgnmjaaGreatDoor.Pl
open Go.Sx Go.RowKit

abbrev bls (us : List Bool) : List Value := us.map (fun x => Value.bool x)
theorem bls_set (us : List Bool) (k : Nat) (v : Bool) : (bls us).set k (.bool v) = bls (us.set k v) := (List.map_set).symm
theorem bls_get {us : List Bool} {k : Nat} {u : Bool} (h : us[k]? = some u) : (bls us)[k]? = some (.bool u) := by rw [List.getElem?_map, h]; rfl
theorem bls_len (us : List Bool) : (bls us).length = us.length := List.length_map ..
/-- one part's turn: the others that are left are tried, one after the other; 'f': the parts behind it -/
def scanA (f : List Bool → Bool × List Bool) : List Bool → Nat → List Bool → Bool × List Bool
  | [], _, us => (false, us)
  | c :: cs, k, us => if us.getD k false || !c then scanA f cs (k + 1) us else if (f (us.set k true)).1 then (true, (f (us.set k true)).2) else scanA f cs (k + 1) ((f (us.set k true)).2.set k false)
def asg : List (List Bool) → List Bool → Bool × List Bool
  | [], us => (true, us)
  | row :: rest, us => scanA (fun u => asg rest u) row 0 us
theorem scanA_len (f : List Bool → Bool × List Bool) (hf : ∀ u, (f u).2.length = u.length) : ∀ (cs : List Bool) (k : Nat) (us : List Bool), (scanA f cs k us).2.length = us.length
  | [], _, _ => rfl
  | c :: cs, k, us => by
    rw [scanA]
    split
    · exact scanA_len f hf cs _ _
    · split
      · rw [hf]; simp
      · rw [scanA_len f hf cs _ _]; simp [hf]
theorem asg_len : ∀ (rows : List (List Bool)) (us : List Bool), (asg rows us).2.length = us.length
  | [], _ => rfl
  | _ :: rest, us => by rw [asg]; exact scanA_len _ (asg_len rest) _ _ _
theorem scanA_drop (f : List Bool → Bool × List Bool) (row : List Bool) (k : Nat) (c u : Bool) (us : List Bool) (h : row[k]? = some c) (hu : us[k]? = some u) :
    scanA f (row.drop k) k us = if u || !c then scanA f (row.drop (k + 1)) (k + 1) us else if (f (us.set k true)).1 then (true, (f (us.set k true)).2) else scanA f (row.drop (k + 1)) (k + 1) ((f (us.set k true)).2.set k false) := by
  obtain ⟨h1, h2⟩ := List.getElem?_eq_some_iff.1 h
  rw [List.drop_eq_getElem_cons h1, h2, scanA, List.getD_eq_getElem?_getD, hu]; rfl
def saysCov : List ByteArray → List ByteArray → Bool
  | s :: ss, t :: ts => !((!(s == ⟨#[]⟩)) && !(s == t)) && saysCov ss ts
  | _, _ => true
theorem saysCov_drop (ss ts : List ByteArray) (k : Nat) (s t : ByteArray) (hs : ss[k]? = some s) (ht : ts[k]? = some t) : saysCov (ss.drop k) (ts.drop k) = (!((!(s == ⟨#[]⟩)) && !(s == t)) && saysCov (ss.drop (k + 1)) (ts.drop (k + 1))) := by
  obtain ⟨h1, h2⟩ := List.getElem?_eq_some_iff.1 hs
  obtain ⟨h3, h4⟩ := List.getElem?_eq_some_iff.1 ht
  rw [List.drop_eq_getElem_cons h1, h2, List.drop_eq_getElem_cons h3, h4, saysCov]
mutual
def covI : ItemV → ItemV → Bool
  | .mk cls _ _ says _ _ parts, b => decide (cls = b.cls) && (saysCov says b.says && (asg (covRows parts b.parts) (List.replicate b.parts.length false)).1)
def covRows : List ItemV → List ItemV → List (List Bool)
  | [], _ => []
  | p :: l, bs => bs.map (fun q => covI p q) :: covRows l bs
end
theorem covRows_drop (l bs : List ItemV) (i : Nat) (p : ItemV) (h : l[i]? = some p) : covRows (l.drop i) bs = bs.map (fun q => covI p q) :: covRows (l.drop (i + 1)) bs := by
  obtain ⟨h1, h2⟩ := List.getElem?_eq_some_iff.1 h
  rw [List.drop_eq_getElem_cons h1, h2, covRows]
theorem covI_cls {a b : ItemV} (h : covI a b = true) : a.cls = b.cls := by
  obtain ⟨cls, As, cs, says, Ap, cp, parts⟩ := a
  unfold covI at h
  simp only [Bool.and_eq_true, decide_eq_true_eq] at h
  exact h.1
/-- the classes of an item and of its parts are known, and as much is said of each as its class has traits -/
inductive OkG (g : List (ByteArray × ClassV)) : ItemV → Prop
  | mk {x : ItemV} (h : ∃ c, getL g x.cls = some c ∧ x.says.length = c.traits.length) (hn : x.parts.length ≤ 24) (hr : ∀ p ∈ x.parts, OkG g p) : OkG g x
/-- what the search has at hand -/
structure FindW (w0 w : World) (a b : ItemV) (xa xb xu x7 x8 : Nat) : Prop where
  hg : Grow w0 w
  hu : w0.heap.size ≤ xu
  ha : w.heap[xa]? = some (cellsB 153 [.string a.cls, .slice a.As a.says.length a.cs, .slice a.Ap a.parts.length a.cp])
  hb : w.heap[xb]? = some (cellsB 153 [.string b.cls, .slice b.As b.says.length b.cs, .slice b.Ap b.parts.length b.cp])
  h7 : w.heap[x7]? = some (cellsB 99130 [.slice (some ⟨xu, 0, none⟩) b.parts.length b.parts.length])
  h8 : w.heap[x8]? = some (cellsB 102 [.func (.func 9992) #[] #[.pointer (some ⟨xa, 0, none⟩), .pointer (some ⟨xb, 0, none⟩), .pointer (some ⟨x7, 0, none⟩), .pointer (some ⟨x8, 0, none⟩)]])
  na : xa ≠ xu
  nb : xb ≠ xu
  n7 : x7 ≠ xu
  n8 : x8 ≠ xu
theorem OkG.says {g : List (ByteArray × ClassV)} {a b : ItemV} (ha : OkG g a) (hb : OkG g b) (h : a.cls = b.cls) : a.says.length = b.says.length := by
  cases ha with
  | mk h1 _ _ =>
    cases hb with
    | mk h2 _ _ =>
      obtain ⟨c, h3, h4⟩ := h1
      obtain ⟨d, h5, h6⟩ := h2
      rw [h, h5] at h3
      injection h3 with h3
      rw [h4, h6, h3]
theorem OkG.few {g : List (ByteArray × ClassV)} {a : ItemV} (ha : OkG g a) : a.parts.length ≤ 24 := by cases ha; assumption
theorem OkG.pt {g : List (ByteArray × ClassV)} {a : ItemV} (ha : OkG g a) : ∀ p ∈ a.parts, OkG g p := by cases ha; assumption
theorem covI_eq (a b : ItemV) : covI a b = (decide (a.cls = b.cls) && (saysCov a.says b.says && (asg (covRows a.parts b.parts) (List.replicate b.parts.length false)).1)) := by
  obtain ⟨cls, As, cs, says, Ap, cp, parts⟩ := a
  unfold covI
  rfl
theorem blk_ne {w : World} {x y e f : Nat} {cs ds : List Value} (h1 : w.heap[x]? = some (cellsB e cs)) (h2 : w.heap[y]? = some (cellsB f ds)) (hef : e ≠ f) : x ≠ y := by
  rintro rfl
  rw [h1] at h2
  injection h2 with h2
  injection h2 with _ h3
  exact hef h3
mutual
theorem fitsI_ok (g : List (ByteArray × ClassV)) (hm : ∀ p ∈ g, p.2.most ≤ 6) : ∀ (x : ItemV) (deep most n : Int), fitsI g x deep most = some n → OkG g x
  | .mk cls As cs says Ap cp parts, deep, most, n, h => by
    unfold fitsI at h
    split at h
    · cases h
    · rename_i c hc
      split at h
      · cases h
      · rename_i hn
        split at h
        · obtain ⟨p, hp, he⟩ := getL_mem hc
          have h6 := hm p hp
          rw [he] at h6
          exact .mk ⟨c, hc, (by show says.length = _; omega)⟩ (by show parts.length ≤ 24; omega) (fitsL_ok g hm _ parts deep most 1 n h)
        · cases h
theorem fitsL_ok (g : List (ByteArray × ClassV)) (hm : ∀ p ∈ g, p.2.most ≤ 6) (cp : List ByteArray) : ∀ (l : List ItemV) (deep most many n : Int), fitsL g cp l deep most many = some n → ∀ p ∈ l, OkG g p
  | [], _, _, _, _, _ => fun p hp => by cases hp
  | q :: l, deep, most, many, n, h => by
    unfold fitsL at h
    split at h
    · split at h
      · cases h
      · rename_i m hm2
        intro p hp
        rcases List.mem_cons.1 hp with hp | hp
        · rw [hp]; exact fitsI_ok g hm q _ _ m hm2
        · exact fitsL_ok g hm cp l deep most (many + m) n h p hp
    · cases h
end
theorem gram_most {l : List ClassV} (h : gramOk l = true) : ∀ p ∈ gramM l, p.2.most ≤ 6 := by
  intro p hp
  have h1 := gramM_mem hp
  simp only [gramOk, Bool.and_eq_true, List.all_eq_true] at h
  have h2 := h.2.2 p.2 h1
  simp only [classOk, Bool.and_eq_true] at h2
  have h3 := h2.1
  unfold class1 at h3
  simp only [Bool.not_eq_true', Bool.or_eq_false_iff, Bool.not_eq_false', Bool.and_eq_true, decide_eq_true_eq] at h3
  omega
theorem askIE_no {l : List ClassV} {xs : List ItemV} (h : (askIE l xs != 0) = true) : askIOk l xs = false := by
  unfold askIE at h
  unfold askIOk
  cases h1 : gramOk l <;> cases h2 : xs.all (itemOk l) <;> simp [h1, h2] at h ⊢
theorem askIE_ok {l : List ClassV} {xs : List ItemV} (h : (askIE l xs != 0) = false) : askIOk l xs = true := by
  unfold askIE at h
  unfold askIOk
  cases h1 : gramOk l <;> cases h2 : xs.all (itemOk l) <;> simp [h1, h2] at h ⊢
theorem ask_okG {l : List ClassV} {xs : List ItemV} (h : askIOk l xs = true) : ∀ x ∈ xs, OkG (gramM l) x := by
  intro x hx
  simp only [askIOk, Bool.and_eq_true, List.all_eq_true] at h
  have h1 := h.2 x hx
  unfold itemOk at h1
  obtain ⟨n, hn⟩ := Option.isSome_iff_exists.1 h1
  exact fitsI_ok _ (gram_most h.1) x 1 24 n hn
def CovT (l : List ClassV) (a b : ItemV) : Bool := askIOk l [a, b] && covI a b
end Go.Proofs.YtppfniekcgnmjaaGreatDoor.Pl
namespace Go.Proofs.YtppfniekcgnmjaaGreatDoor.Pl
open Go.Sx Go.RowKit

/-- a description, wherever it lies -/
inductive IT where
  | mk (cls : ByteArray) (says : List ByteArray) (parts : List IT)
namespace IT
def cls : IT → ByteArray | mk c _ _ => c
def says : IT → List ByteArray | mk _ s _ => s
def parts : IT → List IT | mk _ _ p => p
end IT
instance : Inhabited IT := ⟨.mk ⟨#[]⟩ [] []⟩
mutual
def ItemV.pl : ItemV → IT
  | .mk cls _ _ says _ _ parts => .mk cls says (plL parts)
def plL : List ItemV → List IT
  | [] => []
  | p :: l => p.pl :: plL l
end
theorem plL_map : ∀ l : List ItemV, plL l = l.map ItemV.pl
  | [] => rfl
  | p :: l => by rw [plL, plL_map l]; rfl
theorem pl_eq (x : ItemV) : x.pl = .mk x.cls x.says (x.parts.map ItemV.pl) := by
  obtain ⟨cls, As, cs, says, Ap, cp, parts⟩ := x
  rw [ItemV.pl, plL_map]; rfl
theorem pl_cls (x : ItemV) : x.pl.cls = x.cls := by rw [pl_eq]; rfl
theorem pl_says (x : ItemV) : x.pl.says = x.says := by rw [pl_eq]; rfl
theorem pl_parts (x : ItemV) : x.pl.parts = x.parts.map ItemV.pl := by rw [pl_eq]; rfl

theorem ow_shape {e c sz : Nat} {α : Type} {enc : α → List Value} {A : Option Addr} {xs : List α} {w : World} (h : (ow e sz enc A c xs).P w) (hne : xs ≠ []) : ∃ g, A = some ⟨g, 0, none⟩ ∧ xs.length ≤ c ∧ g < w.heap.size := by
  have hP : w.ownsRow 0 e sz (.slice A xs.length c) xs.length (xs.flatMap enc) := h
  rcases hP.2 with ⟨h2, h3⟩ | ⟨g, cap, cur, hv, h3, h4, h5, _⟩
  · exact absurd (List.eq_nil_of_length_eq_zero h3) hne
  · injection hv with hA _ hc
    exact ⟨g, hA, by omega, (Array.getElem?_eq_some_iff.1 h4).1⟩
theorem ow_lt {e c sz : Nat} {α : Type} {enc : α → List Value} {A : Option Addr} {xs : List α} {w : World} (h : (ow e sz enc A c xs).P w) (hne : xs ≠ []) : ∀ b, (ow e sz enc A c xs).fp b → b < w.heap.size := by
  obtain ⟨g, rfl, _, hg⟩ := ow_shape h hne
  intro b hb
  have : some g = some b := hb
  injection this with this
  omega

/-! ### Tokens -/
abbrev tOpen : ByteArray := ⟨#[40]⟩
abbrev tClose : ByteArray := ⟨#[41]⟩
abbrev tSemi : ByteArray := ⟨#[59]⟩
abbrev tEq : ByteArray := ⟨#[61]⟩
abbrev tBl : ByteArray := ⟨#[32]⟩
def saidTok : List TraitV → List ByteArray → List ByteArray
  | t :: ts, s :: ss => if s == ⟨#[]⟩ then saidTok ts ss else (t.name ++ tEq ++ s) :: saidTok ts ss
  | _, _ => []
theorem saidTok_drop (ts : List TraitV) (ss : List ByteArray) (k : Nat) (t : TraitV) (s : ByteArray) (ht : ts[k]? = some t) (hs : ss[k]? = some s) :
    saidTok (ts.drop k) (ss.drop k) = if s == ⟨#[]⟩ then saidTok (ts.drop (k + 1)) (ss.drop (k + 1)) else (t.name ++ tEq ++ s) :: saidTok (ts.drop (k + 1)) (ss.drop (k + 1)) := by
  obtain ⟨h1, h2⟩ := List.getElem?_eq_some_iff.1 ht
  obtain ⟨h3, h4⟩ := List.getElem?_eq_some_iff.1 hs
  rw [List.drop_eq_getElem_cons h1, h2, List.drop_eq_getElem_cons h3, h4, saidTok]
theorem saidTok_len : ∀ (ts : List TraitV) (ss : List ByteArray), (saidTok ts ss).length ≤ ts.length
  | [], _ => by simp [saidTok]
  | _ :: _, [] => by simp [saidTok]
  | t :: ts, s :: ss => by
    have := saidTok_len ts ss
    rw [saidTok]; split
    · simp only [List.length_cons]; omega
    · simp only [List.length_cons]; omega
abbrev traitsOf (g : List (ByteArray × ClassV)) (s : ByteArray) : List TraitV := ((getL g s).getD zC).traits
mutual
def tokT (g : List (ByteArray × ClassV)) : IT → List ByteArray
  | .mk cls says parts => (cls :: saidTok (traitsOf g cls) says) ++ (tokP g true parts ++ (if parts.length = 0 then [] else [tClose]))
def tokP (g : List (ByteArray × ClassV)) : Bool → List IT → List ByteArray
  | _, [] => []
  | b, p :: l => (if b then tOpen else tSemi) :: (tokT g p ++ tokP g false l)
end
theorem tokT_eq (g : List (ByteArray × ClassV)) (x : IT) : tokT g x = (x.cls :: saidTok (traitsOf g x.cls) x.says) ++ (tokP g true x.parts ++ (if x.parts.length = 0 then [] else [tClose])) := by
  obtain ⟨cls, says, parts⟩ := x; rw [tokT]; rfl
theorem tokP_drop (g : List (ByteArray × ClassV)) (l : List IT) (k : Nat) (p : IT) (h : l[k]? = some p) : tokP g (decide (k = 0)) (l.drop k) = (if k = 0 then tOpen else tSemi) :: (tokT g p ++ tokP g (decide (k + 1 = 0)) (l.drop (k + 1))) := by
  obtain ⟨h1, h2⟩ := List.getElem?_eq_some_iff.1 h
  rw [List.drop_eq_getElem_cons h1, h2, tokP]
  simp
def jn (xs : List ByteArray) : ByteArray := ⟨(([32] : List UInt8).intercalate (xs.map (fun s => s.data.toList))).toArray⟩
def txtT (g : List (ByteArray × ClassV)) (x : IT) : ByteArray := jn (tokT g x)

/-! ### Counting -/
def saidN (ss : List ByteArray) : Int := (ss.map (fun s => if s == (⟨#[]⟩ : ByteArray) then (0 : Int) else 1)).sum
mutual
def cntT : IT → Int
  | .mk _ _ parts => 1 + cntL parts
def cntL : List IT → Int
  | [] => 0
  | p :: l => cntT p + cntL l
end
mutual
def sdT : IT → Int
  | .mk _ says parts => saidN says + sdL parts
def sdL : List IT → Int
  | [] => 0
  | p :: l => sdT p + sdL l
end
mutual
/-- all items of a description, in the order of the text -/
def ItemV.all : ItemV → List ItemV
  | .mk cls As cs says Ap cp parts => .mk cls As cs says Ap cp parts :: allL parts
def allL : List ItemV → List ItemV
  | [] => []
  | p :: l => p.all ++ allL l
end
theorem all_eq (x : ItemV) : x.all = x :: allL x.parts := by
  obtain ⟨cls, As, cs, says, Ap, cp, parts⟩ := x; rw [ItemV.all]; rfl
theorem cntT_eq (x : IT) : cntT x = 1 + cntL x.parts := by obtain ⟨_, _, _⟩ := x; rw [cntT]; rfl
theorem sdT_eq (x : IT) : sdT x = saidN x.says + sdL x.parts := by obtain ⟨_, _, _⟩ := x; rw [sdT]; rfl
mutual
theorem all_len : ∀ x : ItemV, (x.all.length : Int) = cntT x.pl
  | .mk cls As cs says Ap cp parts => by
    rw [ItemV.all, ItemV.pl, cntT, List.length_cons, ← allL_len parts]; omega
theorem allL_len : ∀ l : List ItemV, ((allL l).length : Int) = cntL (plL l)
  | [] => rfl
  | p :: l => by rw [allL, plL, cntL, List.length_append, ← all_len p, ← allL_len l]; omega
end
def sdAll (l : List ItemV) : Int := (l.map (fun x => saidN x.says)).sum
theorem sdAll_append (a b : List ItemV) : sdAll (a ++ b) = sdAll a + sdAll b := by
  induction a with
  | nil => simp [sdAll]
  | cons x a ih => unfold sdAll at ih ⊢; rw [List.cons_append, List.map_cons, List.sum_cons, ih, List.map_cons, List.sum_cons]; omega
mutual
theorem all_said : ∀ x : ItemV, sdAll x.all = sdT x.pl
  | .mk cls As cs says Ap cp parts => by
    rw [ItemV.all, ItemV.pl, sdT, ← allL_said parts]; rfl
theorem allL_said : ∀ l : List ItemV, sdAll (allL l) = sdL (plL l)
  | [] => rfl
  | p :: l => by rw [allL, plL, sdL, sdAll_append, all_said p, allL_said l]
end

/-! ### The sorted form -/
section
variable {α : Type} (lt : α → α → Bool)
/-- an item goes to the left as long as it comes before the one on its left -/
def insAt (P : List α) (x : α) : Nat → List α
  | 0 => x :: P
  | j + 1 => match P[j]? with
    | some y => if lt x y then insAt P x j else P.take (j + 1) ++ x :: P.drop (j + 1)
    | none => P.take (j + 1) ++ x :: P.drop (j + 1)
def isort : List α → List α → List α
  | P, [] => P
  | P, x :: l => isort (insAt lt P x P.length) l
theorem insAt_len (P : List α) (x : α) : ∀ j, j ≤ P.length → (insAt lt P x j).length = P.length + 1
  | 0, _ => rfl
  | j + 1, h => by
    have h1 : P[j]? = some P[j] := List.getElem?_eq_getElem (by omega)
    rw [insAt, h1]
    simp only
    split
    · exact insAt_len P x j (by omega)
    · simp; omega
theorem insAt_mem (P : List α) (x y : α) : ∀ j, j ≤ P.length → (y ∈ insAt lt P x j ↔ y = x ∨ y ∈ P)
  | 0, _ => by simp [insAt]
  | j + 1, h => by
    have h1 : P[j]? = some P[j] := List.getElem?_eq_getElem (by omega)
    rw [insAt, h1]
    simp only
    split
    · exact insAt_mem P x y j (by omega)
    · rw [List.mem_append, List.mem_cons]
      have : y ∈ P ↔ y ∈ P.take (j + 1) ∨ y ∈ P.drop (j + 1) := by rw [← List.mem_append, List.take_append_drop]
      rw [this]
      constructor
      · rintro (h | h | h)
        · exact .inr (.inl h)
        · exact .inl h
        · exact .inr (.inr h)
      · rintro (h | h | h)
        · exact .inr (.inl h)
        · exact .inl h
        · exact .inr (.inr h)
theorem isort_len : ∀ (l P : List α), (isort lt P l).length = P.length + l.length
  | [], P => by simp [isort]
  | x :: l, P => by rw [isort, isort_len l, insAt_len lt P x _ (Nat.le_refl _), List.length_cons]; omega
theorem isort_mem : ∀ (l P : List α) (y : α), y ∈ isort lt P l ↔ y ∈ P ∨ y ∈ l
  | [], P, y => by simp [isort]
  | x :: l, P, y => by
    rw [isort, isort_mem l, insAt_mem lt P x y _ (Nat.le_refl _), List.mem_cons]
    constructor
    · rintro ((h | h) | h)
      · exact .inr (.inl h)
      · exact .inl h
      · exact .inr (.inr h)
    · rintro (h | h | h)
      · exact .inl (.inr h)
      · exact .inl (.inl h)
      · exact .inr h
end
theorem insAt_map {α β : Type} (f : α → β) (lt : β → β → Bool) (P : List α) (x : α) : ∀ j, (insAt (fun a b => lt (f a) (f b)) P x j).map f = insAt lt (P.map f) (f x) j
  | 0 => rfl
  | j + 1 => by
    rw [insAt, insAt, List.getElem?_map]
    cases h : P[j]? with
    | none => simp
    | some y =>
      simp only [Option.map_some]
      split
      · exact insAt_map f lt P x j
      · simp
theorem isort_map {α β : Type} (f : α → β) (lt : β → β → Bool) : ∀ (l P : List α), (isort (fun a b => lt (f a) (f b)) P l).map f = isort lt (P.map f) (l.map f)
  | [], P => rfl
  | x :: l, P => by rw [isort, isort_map f lt l, insAt_map, List.map_cons, isort, List.length_map]
def ltT (g : List (ByteArray × ClassV)) (a b : IT) : Bool := ltS (txtT g a) (txtT g b)
mutual
def sortT (g : List (ByteArray × ClassV)) : IT → IT
  | .mk cls says parts => .mk cls says (isort (ltT g) [] (sortL g parts))
def sortL (g : List (ByteArray × ClassV)) : List IT → List IT
  | [] => []
  | p :: l => sortT g p :: sortL g l
end
theorem sortL_map (g : List (ByteArray × ClassV)) : ∀ l : List IT, sortL g l = l.map (sortT g)
  | [] => rfl
  | p :: l => by rw [sortL, sortL_map g l]; rfl
theorem sortT_eq (g : List (ByteArray × ClassV)) (x : IT) : sortT g x = .mk x.cls x.says (isort (ltT g) [] (x.parts.map (sortT g))) := by
  obtain ⟨cls, says, parts⟩ := x; rw [sortT, sortL_map]; rfl

/-! ### What a description that fits has -/
inductive OkT (g : List (ByteArray × ClassV)) : IT → Prop
  | mk {x : IT} (h : ∃ c, getL g x.cls = some c ∧ x.says.length = c.traits.length ∧ c.traits.length ≤ 8 ∧ ∀ t ∈ c.traits, t.name.size ≤ 16) (hc : x.cls.size ≤ 16) (hs : ∀ s ∈ x.says, s.size ≤ 16) (hn : x.parts.length ≤ 6) (hr : ∀ p ∈ x.parts, OkT g p) : OkT g x
def PrnT (l : List ClassV) (x : ItemV) : ByteArray := bif askIOk l [x] then txtT (gramM l) x.pl else ⟨#[]⟩
def CntI (l : List ClassV) (x : ItemV) : Int := bif askIOk l [x] then cntT x.pl else 0
def CntS (l : List ClassV) (x : ItemV) : Int := bif askIOk l [x] then sdT x.pl else 0
abbrev zIT : IT := .mk ⟨#[]⟩ [] []
def SrtT (l : List ClassV) (x : ItemV) : IT := bif askIOk l [x] then sortT (gramM l) x.pl else zIT
end Go.Proofs.YtppfniekcgnmjaaGreatDoor.Pl
namespace Go.Proofs.YtppfniekcgnmjaaGreatDoor.Pl
open Go.Sx Go.RowKit

theorem isW_size {s : ByteArray} (h : isW s = true) : s.size ≤ 16 := by
  simp only [isW, Bool.and_eq_true, decide_eq_true_eq] at h; omega
theorem isW_ne {s : ByteArray} (h : isW s = true) : 1 ≤ s.size := by
  simp only [isW, Bool.and_eq_true, decide_eq_true_eq] at h; omega
theorem wordsG_all : ∀ (pre l : List ByteArray), wordsG pre l = true → ∀ s ∈ l, isW s = true
  | _, [], _ => by simp
  | pre, s :: l, h => by
    simp only [wordsG, Bool.and_eq_true] at h
    intro t ht
    rcases List.mem_cons.1 ht with rfl | ht
    · exact h.1.1
    · exact wordsG_all _ l h.2 t ht
theorem words_all {l : List ByteArray} (h : wordsB l = true) : ∀ s ∈ l, isW s = true := wordsG_all [] l h
theorem hasW_mem {l : List ByteArray} {s : ByteArray} (h : hasW l s = true) : s ∈ l := by
  simp only [hasW, List.any_eq_true, decide_eq_true_eq] at h
  obtain ⟨q, hq, rfl⟩ := h; exact hq
theorem putL_key {m : List (ByteArray × ClassV)} {k : ByteArray} {c : ClassV} (hm : ∀ p ∈ m, p.1 = p.2.name) (hk : k = c.name) : ∀ p ∈ putL m k c, p.1 = p.2.name := by
  induction m with
  | nil => intro p hp; simp only [putL, List.mem_singleton] at hp; rw [hp]; exact hk
  | cons q m ih =>
    intro p hp
    rw [putL] at hp
    split at hp
    · rcases List.mem_cons.1 hp with h | h
      · rw [h]; exact hk
      · exact hm p (List.mem_cons_of_mem _ h)
    · rcases List.mem_cons.1 hp with h | h
      · rw [h]; exact hm q (List.mem_cons_self ..)
      · exact ih (fun p hp => hm p (List.mem_cons_of_mem _ hp)) p h
theorem putAll_key : ∀ (l : List ClassV) (m : List (ByteArray × ClassV)), (∀ p ∈ m, p.1 = p.2.name) → ∀ p ∈ putAll m l, p.1 = p.2.name
  | [], _, hm => hm
  | _ :: l, _, hm => putAll_key l _ (putL_key hm rfl)
theorem getL_mem' {g : List (ByteArray × ClassV)} {s : ByteArray} {c : ClassV} (h : getL g s = some c) : (s, c) ∈ g := by
  induction g with
  | nil => cases h
  | cons p g ih =>
    rw [getL] at h
    split at h
    · rename_i h1
      injection h with h
      rw [← h, ← h1]; exact List.mem_cons_self ..
    · exact List.mem_cons_of_mem _ (ih h)
theorem gram_get {l : List ClassV} {s : ByteArray} {c : ClassV} (h : getL (gramM l) s = some c) : c ∈ l ∧ c.name = s := by
  have h1 := getL_mem' h
  exact ⟨gramM_mem h1, (putAll_key l [] (by simp) _ h1).symm⟩
/-- what a grammar that is right has -/
structure ClsOk (c : ClassV) : Prop where
  name : isW c.name = true
  few : c.traits.length ≤ 8
  tn : ∀ t ∈ c.traits, isW t.name = true
  tv : ∀ t ∈ c.traits, ∀ s ∈ t.vals, isW s = true
  most : 0 ≤ c.most ∧ c.most ≤ 6
theorem gram_cls {l : List ClassV} (h : gramOk l = true) : ∀ c ∈ l, ClsOk c := by
  intro c hc
  simp only [gramOk, Bool.and_eq_true, List.all_eq_true] at h
  have h1 := h.2.2 c hc
  have h2 := words_all h.2.1 c.name (List.mem_map.2 ⟨c, hc, rfl⟩)
  simp only [classOk, Bool.and_eq_true, List.all_eq_true] at h1
  have h3 := class1_tr h1.1
  refine ⟨h2, by omega, fun t ht => words_all h1.2.2.2 t.name (List.mem_map.2 ⟨t, ht, rfl⟩), fun t ht s hs => ?_, ?_⟩
  · have h4 := h1.2.2.1 t ht
    unfold traitOk at h4
    simp only [Bool.not_eq_true', Bool.or_eq_false_iff, Bool.not_eq_false'] at h4
    exact words_all h4.2 s hs
  · have h4 := h1.1
    unfold class1 at h4
    simp only [Bool.not_eq_true', Bool.or_eq_false_iff, Bool.not_eq_false', Bool.and_eq_true, decide_eq_true_eq] at h4
    omega
theorem says_sz : ∀ (ts : List TraitV) (ss : List ByteArray), (∀ t ∈ ts, ∀ s ∈ t.vals, isW s = true) → ss.length ≤ ts.length → saysOk ts ss = true → ∀ s ∈ ss, s = ⟨#[]⟩ ∨ isW s = true
  | _, [], _, _, _ => by simp
  | [], _ :: _, _, h, _ => by simp at h
  | t :: ts, s :: ss, hv, hl, h => by
    simp only [saysOk, Bool.and_eq_true] at h
    intro u hu
    rcases List.mem_cons.1 hu with rfl | hu
    · have h1 := h.1
      unfold saysOne at h1
      simp only [Bool.not_eq_true', Bool.or_eq_false_iff, Bool.and_eq_false_iff, Bool.not_eq_false'] at h1
      rcases h1.2 with h2 | h2
      · exact .inl (bytes_eq (by simpa using h2))
      · exact .inr (hv t (List.mem_cons_self ..) u (hasW_mem h2))
    · exact says_sz ts ss (fun t ht => hv t (List.mem_cons_of_mem _ ht)) (by simpa using hl) h.2 u hu
theorem sz16 {s : ByteArray} (h : s = ⟨#[]⟩ ∨ isW s = true) : s.size ≤ 16 := by
  rcases h with rfl | h
  · decide
  · exact isW_size h
mutual
theorem fitsI_T {l : List ClassV} (hg : gramOk l = true) : ∀ (x : ItemV) (deep most n : Int), fitsI (gramM l) x deep most = some n → OkT (gramM l) x.pl ∧ n = cntT x.pl
  | .mk cls As cs says Ap cp parts, deep, most, n, h => by
    unfold fitsI at h
    split at h
    · cases h
    · rename_i c hc
      split at h
      · cases h
      · rename_i hn
        split at h
        · rename_i hso
          obtain ⟨hcl, hcn⟩ := gram_get hc
          have hok := gram_cls hg c hcl
          have h2 := fitsL_T hg _ parts deep most 1 n h
          refine ⟨.mk ⟨c, hc, by rw [pl_says]; show says.length = _; omega, hok.few, fun t ht => isW_size (hok.tn t ht)⟩ (by rw [pl_cls]; show cls.size ≤ 16; rw [← hcn]; exact isW_size hok.name) (by rw [pl_says]; exact fun s hs => sz16 (says_sz _ _ hok.tv (by omega) hso s hs)) (by rw [pl_parts, List.length_map]; show parts.length ≤ 6; have := hok.most; omega) (by rw [pl_parts, ← plL_map]; exact h2.1), ?_⟩
          rw [ItemV.pl, cntT]; exact h2.2
        · cases h
theorem fitsL_T {l : List ClassV} (hg : gramOk l = true) (cp : List ByteArray) : ∀ (xs : List ItemV) (deep most many n : Int), fitsL (gramM l) cp xs deep most many = some n → (∀ p ∈ plL xs, OkT (gramM l) p) ∧ n = many + cntL (plL xs)
  | [], _, _, many, n, h => by
    rw [fitsL] at h; injection h with h
    exact ⟨by simp [plL], by rw [plL, cntL]; omega⟩
  | q :: xs, deep, most, many, n, h => by
    unfold fitsL at h
    split at h
    · split at h
      · cases h
      · rename_i m hm2
        have h1 := fitsI_T hg q _ _ m hm2
        have h2 := fitsL_T hg cp xs deep most (many + m) n h
        refine ⟨fun p hp => ?_, by rw [plL, cntL]; omega⟩
        rw [plL] at hp
        rcases List.mem_cons.1 hp with hp | hp
        · rw [hp]; exact h1.1
        · exact h2.1 p hp
    · cases h
end
theorem ask_T {l : List ClassV} {xs : List ItemV} (h : askIOk l xs = true) : ∀ x ∈ xs, OkT (gramM l) x.pl ∧ cntT x.pl ≤ 24 := by
  intro x hx
  simp only [askIOk, Bool.and_eq_true, List.all_eq_true] at h
  have h1 := h.2 x hx
  unfold itemOk at h1
  obtain ⟨n, hn⟩ := Option.isSome_iff_exists.1 h1
  obtain ⟨h2, h3⟩ := fitsI_T h.1 x 1 24 n hn
  have := fitsI_bd _ x 1 24 n hn
  exact ⟨h2, by omega⟩
mutual
theorem cnt_pos : ∀ x : IT, 1 ≤ cntT x
  | .mk _ _ parts => by rw [cntT]; have := cntL_pos parts; omega
theorem cntL_pos : ∀ l : List IT, 0 ≤ cntL l
  | [] => by rw [cntL]; omega
  | p :: l => by rw [cntL]; have := cnt_pos p; have := cntL_pos l; omega
end
theorem cntL_mem : ∀ (l : List IT) (p : IT), p ∈ l → cntT p ≤ cntL l
  | [], p, h => by simp at h
  | q :: l, p, h => by
    rw [cntL]
    rcases List.mem_cons.1 h with rfl | h
    · have := cntL_pos l; omega
    · have := cntL_mem l p h; have := cnt_pos q; omega
theorem OkT.get {g : List (ByteArray × ClassV)} {x : IT} (h : OkT g x) : ∃ c, getL g x.cls = some c ∧ x.says.length = c.traits.length ∧ c.traits.length ≤ 8 ∧ ∀ t ∈ c.traits, t.name.size ≤ 16 := by cases h; assumption
theorem OkT.pt {g : List (ByteArray × ClassV)} {x : IT} (h : OkT g x) : ∀ p ∈ x.parts, OkT g p := by cases h; assumption
theorem OkT.csz {g : List (ByteArray × ClassV)} {x : IT} (h : OkT g x) : x.cls.size ≤ 16 := by cases h; assumption
theorem OkT.ssz {g : List (ByteArray × ClassV)} {x : IT} (h : OkT g x) : ∀ s ∈ x.says, s.size ≤ 16 := by cases h; assumption
theorem OkT.few {g : List (ByteArray × ClassV)} {x : IT} (h : OkT g x) : x.parts.length ≤ 6 := by cases h; assumption
theorem traits8 {g : List (ByteArray × ClassV)} {x : IT} (h : OkT g x) : (traitsOf g x.cls).length ≤ 8 ∧ ∀ t ∈ traitsOf g x.cls, t.name.size ≤ 16 := by
  obtain ⟨c, hc, _, h3, h4⟩ := h.get
  unfold traitsOf; rw [hc]; exact ⟨h3, h4⟩
mutual
theorem tok_len {g : List (ByteArray × ClassV)} : ∀ x : IT, OkT g x → ((tokT g x).length : Int) + 1 ≤ 11 * cntT x
  | .mk cls says parts, h => by
    have h1 := saidTok_len (traitsOf g cls) says
    have h2 := (traits8 h).1
    have h3 := tokP_len true parts h.pt
    simp only [IT.cls] at h2
    rw [tokT, cntT]
    simp only [List.length_append, List.length_cons]
    have h4 : (if parts.length = 0 then ([] : List ByteArray) else [tClose]).length ≤ 1 := by split <;> simp
    omega
theorem tokP_len {g : List (ByteArray × ClassV)} (b : Bool) : ∀ l : List IT, (∀ p ∈ l, OkT g p) → ((tokP g b l).length : Int) ≤ 11 * cntL l
  | [], _ => by rw [tokP, cntL]; simp
  | p :: l, h => by
    have h1 := tok_len p (h p (List.mem_cons_self ..))
    have h2 := tokP_len false l (fun q hq => h q (List.mem_cons_of_mem _ hq))
    rw [tokP, cntL]
    simp only [List.length_cons, List.length_append]
    omega
end
theorem said_sz : ∀ (ts : List TraitV) (ss : List ByteArray), (∀ t ∈ ts, t.name.size ≤ 16) → (∀ s ∈ ss, s.size ≤ 16) → ∀ u ∈ saidTok ts ss, u.size ≤ 33
  | [], _, _, _ => by simp [saidTok]
  | _ :: _, [], _, _ => by simp [saidTok]
  | t :: ts, s :: ss, h1, h2 => by
    intro u hu
    have ih := said_sz ts ss (fun t ht => h1 t (List.mem_cons_of_mem _ ht)) (fun s hs => h2 s (List.mem_cons_of_mem _ hs)) u
    rw [saidTok] at hu
    split at hu
    · exact ih hu
    · rcases List.mem_cons.1 hu with rfl | hu
      · rw [ByteArray.size_append, ByteArray.size_append]
        have a1 := h1 t (List.mem_cons_self ..)
        have a2 := h2 s (List.mem_cons_self ..)
        have a3 : tEq.size = 1 := rfl
        omega
      · exact ih hu
mutual
theorem tok_sz {g : List (ByteArray × ClassV)} : ∀ x : IT, OkT g x → ∀ u ∈ tokT g x, u.size ≤ 33
  | .mk cls says parts, h => by
    intro u hu
    rw [tokT, List.mem_append, List.mem_append, List.mem_cons] at hu
    rcases hu with (rfl | hu) | hu | hu
    · have := h.csz; simp only [IT.cls] at this; omega
    · exact said_sz _ _ (traits8 h).2 h.ssz u hu
    · exact tokP_sz true parts h.pt u hu
    · split at hu
      · simp at hu
      · rw [List.mem_singleton.1 hu]; decide
theorem tokP_sz {g : List (ByteArray × ClassV)} (b : Bool) : ∀ l : List IT, (∀ p ∈ l, OkT g p) → ∀ u ∈ tokP g b l, u.size ≤ 33
  | [], _ => by simp [tokP]
  | p :: l, h => by
    intro u hu
    rw [tokP] at hu
    rcases List.mem_cons.1 hu with rfl | hu
    · split <;> decide
    · rcases List.mem_append.1 hu with hu | hu
      · exact tok_sz p (h p (List.mem_cons_self ..)) u hu
      · exact tokP_sz false l (fun q hq => h q (List.mem_cons_of_mem _ hq)) u hu
end
theorem tok_ne (g : List (ByteArray × ClassV)) (x : IT) : tokT g x ≠ [] := by rw [tokT_eq]; simp
theorem jn_size (xs : List ByteArray) (h : ∀ s ∈ xs, s.size ≤ 33) : (jn xs).size ≤ 34 * xs.length := by
  cases xs with
  | nil => decide
  | cons x r =>
    have h1 : (jn (x :: r)).size = (Lib.join ((x :: r).map (fun s => s.data.toList)) [32]).length := by
      show Array.size _ = _
      simp [Lib.join]
    rw [h1, List.map_cons, Lib.join_length]
    have h2 : ∀ l : List ByteArray, (∀ s ∈ l, s.size ≤ 33) → Lib.lens (l.map (fun s => s.data.toList)) ≤ 33 * l.length := by
      intro l
      induction l with
      | nil => intro _; exact Nat.le_refl _
      | cons y l ih =>
        intro hl
        have h3 := ih (fun s hs => hl s (List.mem_cons_of_mem _ hs))
        have h4 := hl y (List.mem_cons_self ..)
        have h5 : y.data.toList.length = y.size := by simp
        unfold Lib.lens at h3 ⊢
        rw [List.map_cons, List.map_cons, List.sum_cons, List.length_cons, h5]
        omega
    have h3 := h2 (x :: r) h
    rw [List.map_cons] at h3
    simp only [List.length_cons, List.length_map, List.length_nil] at h3 ⊢
    omega
theorem txt_size {g : List (ByteArray × ClassV)} {x : IT} (h : OkT g x) (hc : cntT x ≤ 24) : (txtT g x).size ≤ 10000 := by
  have h1 := jn_size (tokT g x) (tok_sz x h)
  have h2 := tok_len x h
  unfold txtT
  omega
end Go.Proofs.YtppfniekcgnmjaaGreatDoor.Pl
namespace Go.Proofs.YtppfniekcgnmjaaGreatDoor.Pl
open Go.Sx Go.RowKit Go.Shelf Go.Proofs
def lays156_ren : Go.Shelf.Ren := ⟨fun | 156 => 157 | 165 => 176 | 166 => 177 | 169 => 178 | 240 => 195 | 241 => 196 | 276 => 204 | 277 => 205 | n => n, fun | 31 => 142 | 9 => 9 | 3 => 3 | 4 => 4 | 0 => 0 | 20 => 20 | 72 => 309 | 76 => 312 | 70 => 307 | 37 => 268 | 75 => 311 | 127 => 326 | 164 => 330 | 5 => 5 | 80 => 314 | n => n, fun n => n⟩
theorem lays156 : Go.Proofs.Lays.n156 Tryz.prog lays156_ren where
  mixed := by kernel_rfl
  f156 := Tryz.func157.trans (congrArg some (by kernel_rfl))
  f165 := Tryz.func176.trans (congrArg some (by kernel_rfl))
  f166 := Tryz.func177.trans (congrArg some (by kernel_rfl))
  f169 := Tryz.func178.trans (congrArg some (by kernel_rfl))
  f240 := Tryz.func195.trans (congrArg some (by kernel_rfl))
  f241 := Tryz.func196.trans (congrArg some (by kernel_rfl))
  f276 := Tryz.func204.trans (congrArg some (by kernel_rfl))
  f277 := Tryz.func205.trans (congrArg some (by kernel_rfl))
  t0 := Tryz.underlying0
  a0 := Tryz.isAgg0
  z0 := Tryz.sizeOf0
  v0 := Tryz.zeroValue0
  t3 := Tryz.underlying3
  a3 := Tryz.isAgg3
  z3 := Tryz.sizeOf3
  v3 := Tryz.zeroValue3
  t4 := Tryz.underlying4
  a4 := Tryz.isAgg4
  z4 := Tryz.sizeOf4
  v4 := Tryz.zeroValue4
  t9 := Tryz.underlying9
  a9 := Tryz.isAgg9
  z9 := Tryz.sizeOf9
  v9 := Tryz.zeroValue9
  t20 := Tryz.underlying20
  a20 := Tryz.isAgg20
  z20 := Tryz.sizeOf20
  v20 := Tryz.zeroValue20
  t31 := Tryz.underlying142
  a31 := Tryz.isAgg142
  z31 := Tryz.sizeOf142
  v31 := Tryz.zeroValue142
  t37 := Tryz.underlying268
  a37 := Tryz.isAgg268
  z37 := Tryz.sizeOf268
  v37 := Tryz.zeroValue268
  t70 := Tryz.underlying307
  a70 := Tryz.isAgg307
  z70 := Tryz.sizeOf307
  v70 := Tryz.zeroValue307
  t72 := Tryz.underlying309
  a72 := Tryz.isAgg309
  z72 := Tryz.sizeOf309
  v72 := Tryz.zeroValue309
  t75 := Tryz.underlying311
  a75 := Tryz.isAgg311
  z75 := Tryz.sizeOf311
  v75 := Tryz.zeroValue311
  t76 := Tryz.underlying312
  a76 := Tryz.isAgg312
  z76 := Tryz.sizeOf312
  v76 := Tryz.zeroValue312
  t127 := Tryz.underlying326
  a127 := Tryz.isAgg326
  z127 := Tryz.sizeOf326
  v127 := Tryz.zeroValue326
  t164 := Tryz.underlying330
  a164 := Tryz.isAgg330
  z164 := Tryz.sizeOf330
  v164 := Tryz.zeroValue330
theorem Builder_Extra_156 : Builder.Extra Tryz.prog lays156_ren := {
  sizeBuilder := by kernel_rfl
  liesBuilder := by kernel_rfl
  t5 := Tryz.underlying5
  a5 := Tryz.isAgg5
  z5 := Tryz.sizeOf5
  v5 := Tryz.zeroValue5
  infoByte := by kernel_rfl
  cellsByte := by kernel_rfl
  sizeByte := by kernel_rfl
  neB5 := by decide }

theorem join_ok (A : Option Addr) (c : Nat) (xs : List ByteArray) (w : World) (hO : (ow 9 1 enStr A c xs).P w) (hne : xs ≠ []) (hN : xs.length ≤ 1000000) (hlen : (jn xs).size ≤ 1000000) :
    Calls Tryz.prog 157 #[.slice A xs.length c, .string tBl] w (fun e w' => e = .returned (.string (jn xs)) ∧ Grow w w') := by
  obtain ⟨g, rfl, hc, hg⟩ := ow_shape hO hne
  obtain ⟨a, ha, hcell⟩ := ow_cells hO (fun _ => rfl) hne
  injection ha with ha
  subst ha
  have h := Any.strings_Join lays156 Builder_Extra_156 g 0 c xs tBl w (fun j x hx => ?_) hg (by omega) hc (by
    have : (jn xs).size = (Lib.join (xs.map (·.data.toList)) tBl.data.toList).length := by
      show Array.size _ = _
      simp [Lib.join]
    omega)
  · exact h.mono fun e w' ⟨h1, h2⟩ => ⟨h1, h2⟩
  · have := hcell j x 0 (.string x) hx rfl
    unfold Addr.add at this
    simp only [Nat.mul_one, Nat.add_zero] at this
    split at this
    · rename_i h0; rw [h0]; exact this
    · simpa using this
end Go.Proofs.YtppfniekcgnmjaaGreatDoor.Pl
namespace Go.Proofs.YtppfniekcgnmjaaGreatDoor.Pl
open Go.Sx Go.RowKit
set_option maxRecDepth 20000

end Go.Proofs.YtppfniekcgnmjaaGreatDoor.Pl
namespace Go.Proofs.YtppfniekcgnmjaaGreatDoor.Pl
open Go.Sx Go.RowKit
set_option maxRecDepth 20000
set_option maxHeartbeats 1000000 in
theorem k_tok1 (x : ItemV) (b : Nat) (g : List (ByteArray × ClassV)) (w : World) (hM : (mp ekS evC b g).P w) (hbl : b < w.heap.size) (hgg : ∀ p ∈ g, GoodC w p.2) (hx : GoodI w x) (ho : OkT g x.pl) (hcn : cntT x.pl ≤ 24) (ih : ∀ p ∈ x.parts, ∀ (w1 : World), Grow w w1 → Calls Tryz.prog 127 #[.map (some b), evI p] w1 (fun e w' => ∃ A c, e = .returned (.slice A (tokT g p.pl).length c) ∧ Grow w1 w' ∧ (ow 9 1 enStr A c (tokT g p.pl)).P w' ∧ ∀ i, (ow 9 1 enStr A c (tokT g p.pl)).fp i → w1.heap.size ≤ i)) : Calls Tryz.prog 127 #[.map (some b), evI x] w (fun e w' => ∃ A c, e = .returned (.slice A (tokT g x.pl).length c) ∧ Grow w w' ∧ (ow 9 1 enStr A c (tokT g x.pl)).P w' ∧ ∀ i, (ow 9 1 enStr A c (tokT g x.pl)).fp i → w.heap.size ≤ i) := by
  have hl1 := hx.rs.len
  have hl2 := hx.rp.len
  obtain ⟨c, hgc, hsl, ht8, htn⟩ := ho.get
  rw [pl_cls] at hgc
  rw [pl_says] at hsl
  have hcl : (getL g x.cls).getD zC = c := by rw [hgc]; rfl
  have hGC : GoodC w c := by obtain ⟨p, hp, he⟩ := getL_mem hgc; rw [← he]; exact hgg p hp
  have hTl : (tokT g x.pl).length ≤ 264 := by have := tok_len x.pl ho; omega
  have hTe := tokT_eq g x.pl
  rw [pl_cls, pl_says, pl_parts, List.length_map, show traitsOf g x.cls = c.traits by unfold traitsOf; rw [hcl]] at hTe
  have hss : ∀ s ∈ x.says, s.size ≤ 16 := by have := ho.ssz; rw [pl_says] at this; exact this
  skip
  refine enter_pure (args := [.map (some b), evI x]) [mp ekS evC b g] Tryz.func127 rfl (by rw [Tryz.ntmps127]; simp) (fun f hf => by simp at hf; subst hf; exact ⟨hM, fun i hi => by have : i = b := hi; subst this; exact hbl⟩) ?_
  refine cj_seq (cj_region ?_)
  refine oj_box rfl rfl rfl (fun b3 => ?_)
  refine oj_step (y_assign rfl) rfl rfl rfl ?_
  refine oj_nil ?_
  refine ej_th (cj_seq (cj_region ?_))
  refine oj_step (y_fa0 fa153_0 rfl) rfl rfl rfl ?_
  refine oj_step (y_load1 Tryz.isAgg9 rfl rfl) rfl rfl rfl ?_
  refine oj_buildSlice (cs := [.string x.cls]) [.string ⟨#[]⟩] Tryz.underlying142 Tryz.sizeOf9 Tryz.zeroValue9 rfl rfl (by kernel_rfl) (by kernel_rfl) rfl (fun b12 => ?_)
  refine oj_litOw (b := b12) (e := 9) (c := 1) (sz := 1) (enc := enStr) [x.cls] rfl rfl rfl (by unfold maxLen; simp) ?_
  refine oj_step (y_assign rfl) rfl rfl rfl ?_
  refine oj_nil ?_
  refine ej_th (cj_seq (cj_seq ?_))
  refine cj_regionG (gj_step (y_move rfl) rfl rfl rfl (gj_step (y_fa0 fa153_0 rfl) rfl rfl rfl (gj_step (y_load1 Tryz.isAgg9 rfl rfl) rfl rfl rfl (gj_step (y_lookupS1 (ek := ekS) (ev := evC) zC Tryz.underlying216 Tryz.underlying9 Tryz.zeroValue147 rfl rfl) rfl rfl rfl (gj_step (y_field1 (cs := [.string ((getL g x.cls).getD zC).name, .slice ((getL g x.cls).getD zC).At ((getL g x.cls).getD zC).traits.length ((getL g x.cls).getD zC).ct, .slice ((getL g x.cls).getD zC).Ap ((getL g x.cls).getD zC).parts.length ((getL g x.cls).getD zC).cp, .int .i64 ((getL g x.cls).getD zC).most]) fa147_1 rfl rfl) rfl rfl rfl (gj_step (y_lenA Tryz.underlying145 rfl) rfl rfl rfl (gj_step (y_move rfl) rfl rfl rfl (gj_nil ?_))))))))
  refine ej_th (cj_block ?_)
  rw [hcl]
  refine cj_rd hGC.rt (fun _ h => h) ?_
  refine cj_rd hx.rs (fun _ h => h) ?_
  refine cj_rd hx.rp (fun _ h => h) ?_
  refine cj_lpi (X := Nat × Option Addr × Nat × List ByteArray) [(0, _), (3, _), (4, _), (17, _), (18, _)] (fun ⟨k, A1, c1, xs⟩ => k ≤ c.traits.length ∧ xs ++ (saidTok (c.traits.drop k) (x.says.drop k) ++ (tokP g true (x.parts.map ItemV.pl) ++ (if x.parts.length = 0 then ([] : List ByteArray) else [tClose]))) = tokT g x.pl) (fun ⟨k, A1, c1, xs⟩ => [(5, .slice A1 xs.length c1), (19, .int .i64 k)]) (fun ⟨k, A1, c1, xs⟩ => [ow 9 1 enStr A1 c1 xs, ownB b3 (cellsB 153 [.string x.cls, .slice x.As x.says.length x.cs, .slice x.Ap x.parts.length x.cp])]) (fun ⟨k, A1, c1, xs⟩ => [sl (fun b => b < w.heap.size) 3 encIt x.Ap x.parts, sl (fun b => b < w.heap.size) 1 enStr x.As x.says, sl (fun b => b < w.heap.size) 3 encTr c.At c.traits, mp ekS evC b g]) (fun ⟨k, A1, c1, xs⟩ => c.traits.length - k) (0, some ⟨b12, 0, none⟩, 1, [x.cls]) (⟨Nat.zero_le _, by rw [hTe]; rfl⟩) ⟨rfl, rfl, rfl, rfl, rfl, rfl, rfl, trivial⟩ ?_
  rintro ⟨k, A1, c1, xs⟩ ⟨hk, hxs⟩
  dsimp only [List.cons_append, List.nil_append]
  refine cj_seq ?_
  refine cj_regionG (gj_step (y_lss rfl rfl) rfl rfl rfl (gj_nil ?_))
  refine ej_th (cj_seq ?_)
  refine cj_cond rfl (fun h20 => ?_) (fun h20 => ?_)
  · have h20b := h20
    try simp only [sxb] at h20
    obtain ⟨t, ht⟩ : ∃ t, c.traits[k]? = some t := ⟨_, List.getElem?_eq_getElem (by omega)⟩
    obtain ⟨s, hs⟩ : ∃ s, x.says[k]? = some s := ⟨_, List.getElem?_eq_getElem (by omega)⟩
    rw [saidTok_drop _ _ k t s ht hs] at hxs
    refine cj_skip (ej_th (cj_seq (cj_block (cj_seq (cj_region ?_)))))
    refine oj_step (y_move rfl) rfl rfl rfl ?_
    refine oj_step (y_ixR (reads_sl) Tryz.underlying145 Tryz.sizeOf144 rfl rfl (⟨by omega, by omega⟩)) rfl rfl rfl ?_
    refine oj_step (y_ldW (reads_sl) Tryz.isAgg144 Tryz.sizeOf144 rfl (ht) (fun _ => rfl)) rfl rfl rfl ?_
    refine oj_alloc Tryz.zeroValue144 rfl rfl (fun b7 => ?_)
    refine oj_step (y_assign rfl) rfl rfl rfl ?_
    refine oj_store rfl rfl rfl rfl Tryz.sizeOf144 rfl ?_
    refine oj_nil ?_
    refine ej_th (cj_seq ?_)
    refine cj_regionG (gj_step (y_fa fa153_1 rfl) rfl rfl rfl (gj_step (y_load1 Tryz.isAgg142 rfl rfl) rfl rfl rfl (gj_step (y_move rfl) rfl rfl rfl (gj_step (y_ixR (reads_sl) Tryz.underlying142 Tryz.sizeOf9 rfl rfl (⟨by omega, by omega⟩)) rfl rfl rfl (gj_step (y_ld0 (reads_sl) Tryz.isAgg9 rfl (hs) rfl) rfl rfl rfl (gj_step (y_neqS rfl rfl) rfl rfl rfl (gj_nil ?_)))))))
    refine ej_th ?_
    refine cj_cond rfl (fun h29 => ?_) (fun h29 => ?_)
    · have h29b := h29
      try simp only [sxb] at h29
      rw [if_neg (show ¬ (s == (⟨#[]⟩ : ByteArray)) = true by rw [not_t h29b]; simp)] at hxs
      have hlen := congrArg List.length hxs
      simp only [List.length_append, List.length_cons] at hlen
      refine cj_plan 13 (by kernel_rfl) (by kernel_rfl) ?_
      refine pl_y 0 rfl (y_move rfl) rfl rfl rfl rfl (by kernel_rfl) ?_
      refine pl_y 1 rfl (y_fa0 fa144_0 rfl) rfl rfl rfl rfl (by kernel_rfl) ?_
      refine pl_y 2 rfl (y_load1 Tryz.isAgg9 rfl rfl) rfl rfl rfl rfl (by kernel_rfl) ?_
      refine pl_y 3 rfl (y_addS rfl rfl (by have h1s : (⟨#[61]⟩ : ByteArray).size = 1 := rfl; have := htn t (List.mem_of_getElem? ht); omega)) rfl rfl rfl rfl (by kernel_rfl) ?_
      refine pl_y 4 rfl (y_fa fa153_1 rfl) rfl rfl rfl rfl (by kernel_rfl) ?_
      refine pl_y 5 rfl (y_load1 Tryz.isAgg142 rfl rfl) rfl rfl rfl rfl (by kernel_rfl) ?_
      refine pl_y 6 rfl (y_move rfl) rfl rfl rfl rfl (by kernel_rfl) ?_
      refine pl_y 7 rfl (y_ixR (reads_sl) Tryz.underlying142 Tryz.sizeOf9 rfl rfl (⟨by omega, by omega⟩)) rfl rfl rfl rfl (by kernel_rfl) ?_
      refine pl_y 8 rfl (y_ld0 (reads_sl) Tryz.isAgg9 rfl (hs) rfl) rfl rfl rfl rfl (by kernel_rfl) ?_
      refine pl_y 9 rfl (y_addS rfl rfl (by rw [ByteArray.size_append]; have h1s : (⟨#[61]⟩ : ByteArray).size = 1 := rfl; have := htn t (List.mem_of_getElem? ht); have := hss s (List.mem_of_getElem? hs); omega)) rfl rfl rfl rfl (by kernel_rfl) ?_
      refine pl_w1 10 (by kernel_rfl) rfl rfl (pl_fire rfl rfl rfl (by kernel_rfl) ?_)
      refine oj_buildSlice (cs := [.string (t.name ++ tEq ++ s)]) [.string ⟨#[]⟩] Tryz.underlying142 Tryz.sizeOf9 Tryz.zeroValue9 rfl rfl (by kernel_rfl) (by kernel_rfl) rfl (fun b40 => ?_)
      refine oj_nil ?_
      refine ej_pl (lt_w (by kernel_rfl) (lt_y (y_ld0 (reads_sl) Tryz.isAgg9 rfl (hs) rfl) rfl (lt_y (y_ixR (reads_sl) Tryz.underlying142 Tryz.sizeOf9 rfl rfl (⟨by omega, by omega⟩)) rfl (lt_y (y_move rfl) rfl (lt_y (y_load1 Tryz.isAgg142 rfl rfl) rfl (lt_y (y_fa fa153_1 rfl) rfl (lt_y (y_addS rfl rfl (by have h1s : (⟨#[61]⟩ : ByteArray).size = 1 := rfl; have := htn t (List.mem_of_getElem? ht); omega)) rfl (lt_y (y_load1 Tryz.isAgg9 rfl rfl) rfl (lt_y (y_fa0 fa144_0 rfl) rfl (lt_y (y_move rfl) rfl (lt_nil))))))))))) ?_
      refine pl_w1 11 (by kernel_rfl) rfl rfl (pl_fire rfl rfl rfl (by kernel_rfl) ?_)
      refine oj_append  el142 (fun _ => rfl) enStr_one rfl rfl rfl (reads_lit [(t.name ++ tEq ++ s)] (fun _ => rfl) rfl) (by unfold maxLen; simp only [List.length_cons, List.length_nil]; omega) (by simp only [List.length_cons, List.length_nil]; omega) rfl (fun A41 c41 => ?_)
      refine oj_nil ?_
      refine ej_pl (lt_y (y_addS rfl rfl (by rw [ByteArray.size_append]; have h1s : (⟨#[61]⟩ : ByteArray).size = 1 := rfl; have := htn t (List.mem_of_getElem? ht); have := hss s (List.mem_of_getElem? hs); omega)) rfl (lt_y (y_ld0 (reads_sl) Tryz.isAgg9 rfl (hs) rfl) rfl (lt_y (y_ixR (reads_sl) Tryz.underlying142 Tryz.sizeOf9 rfl rfl (⟨by omega, by omega⟩)) rfl (lt_y (y_move rfl) rfl (lt_y (y_load1 Tryz.isAgg142 rfl rfl) rfl (lt_y (y_fa fa153_1 rfl) rfl (lt_y (y_addS rfl rfl (by have h1s : (⟨#[61]⟩ : ByteArray).size = 1 := rfl; have := htn t (List.mem_of_getElem? ht); omega)) rfl (lt_y (y_load1 Tryz.isAgg9 rfl rfl) rfl (lt_y (y_fa0 fa144_0 rfl) rfl (lt_w (by kernel_rfl) (lt_nil))))))))))) ?_
      refine pl_y 12 rfl (y_assign rfl) rfl rfl rfl rfl (by kernel_rfl) ?_
      refine pl_end (by kernel_rfl) ?_
      refine ej_blk (ej_th ?_)
      refine cj_regionG (gj_step (y_add rfl rfl (by omega)) rfl rfl rfl (gj_step (y_move rfl) rfl rfl rfl (gj_nil ?_)))
      exact ej_nx (k + 1, A41, c41, xs ++ [t.name ++ tEq ++ s]) (by simp only; omega) ⟨by first | omega | (simp only; omega), by rw [List.append_assoc]; exact hxs⟩ ⟨rfl, rfl, rfl, rfl, rfl, rfl, rfl, trivial⟩
    · have h29b := h29
      try simp only [sxb] at h29
      rw [if_pos (not_f h29b)] at hxs
      refine cj_skip (ej_blk (ej_th ?_))
      refine cj_regionG (gj_step (y_add rfl rfl (by omega)) rfl rfl rfl (gj_step (y_move rfl) rfl rfl rfl (gj_nil ?_)))
      exact ej_nx (k + 1, A1, c1, xs) (by simp only; omega) ⟨by first | omega | (simp only; omega), hxs⟩ ⟨rfl, rfl, rfl, rfl, rfl, rfl, rfl, trivial⟩
  · have h20b := h20
    try simp only [sxb] at h20
    rw [List.drop_of_length_le (show c.traits.length ≤ k by omega)] at hxs
    refine cj_exit (ej_then_exit (ej_then_exit (ej_blk_hit (ej_th (cj_seq (cj_seq ?_))))))
    refine cj_regionG (gj_step (y_fa fa153_2 rfl) rfl rfl rfl (gj_step (y_load1 Tryz.isAgg151 rfl rfl) rfl rfl rfl (gj_step (y_lenA Tryz.underlying151 rfl) rfl rfl rfl (gj_step (y_move rfl) rfl rfl rfl (gj_nil ?_)))))
    refine ej_th (cj_block ?_)
    refine cj_lpi (X := Nat × Option Addr × Nat × List ByteArray) [(0, _), (3, _), (4, _), (44, _), (45, _)] (fun ⟨k, A1, c1, xs⟩ => k ≤ x.parts.length ∧ xs ++ (tokP g (decide (k = 0)) ((x.parts.map ItemV.pl).drop k) ++ (if x.parts.length = 0 then ([] : List ByteArray) else [tClose])) = tokT g x.pl) (fun ⟨k, A1, c1, xs⟩ => [(5, .slice A1 xs.length c1), (46, .int .i64 k)]) (fun ⟨k, A1, c1, xs⟩ => [ow 9 1 enStr A1 c1 xs, ownB b3 (cellsB 153 [.string x.cls, .slice x.As x.says.length x.cs, .slice x.Ap x.parts.length x.cp])]) (fun ⟨k, A1, c1, xs⟩ => [sl (fun b => b < w.heap.size) 3 encIt x.Ap x.parts, sl (fun b => b < w.heap.size) 1 enStr x.As x.says, sl (fun b => b < w.heap.size) 3 encTr c.At c.traits, mp ekS evC b g]) (fun ⟨k, A1, c1, xs⟩ => x.parts.length - k) (0, A1, c1, xs) (⟨Nat.zero_le _, by rw [← hxs]; rfl⟩) ⟨rfl, rfl, rfl, rfl, rfl, rfl, rfl, trivial⟩ ?_
    rintro ⟨k, A1, c1, xs⟩ ⟨hk, hxs⟩
    dsimp only [List.cons_append, List.nil_append]
    refine cj_seq ?_
    refine cj_regionG (gj_step (y_lss rfl rfl) rfl rfl rfl (gj_nil ?_))
    refine ej_th (cj_seq ?_)
    refine cj_cond rfl (fun h47 => ?_) (fun h47 => ?_)
    · have h47b := h47
      try simp only [sxb] at h47
      obtain ⟨q, hq⟩ : ∃ q, x.parts[k]? = some q := ⟨_, List.getElem?_eq_getElem (by omega)⟩
      rw [tokP_drop g (x.parts.map ItemV.pl) k q.pl (by rw [List.getElem?_map, hq]; rfl)] at hxs
      have hsep : ([tOpen, tSemi] : List ByteArray)[(min (k : Int) 1).toNat]? = some (if k = 0 then tOpen else tSemi) := by
        by_cases h0 : k = 0
        · subst h0; rfl
        · rw [if_neg h0, show (min (k : Int) 1).toNat = 1 by omega]; rfl
      have hlen := congrArg List.length hxs
      simp only [List.length_append, List.length_cons] at hlen
      refine cj_skip (ej_th (cj_seq (cj_block (cj_seq (cj_region ?_)))))
      refine oj_step (y_move rfl) rfl rfl rfl ?_
      refine oj_step (y_ixR (reads_sl) Tryz.underlying151 Tryz.sizeOf153 rfl rfl (⟨by omega, by omega⟩)) rfl rfl rfl ?_
      refine oj_step (y_ldW (reads_sl) Tryz.isAgg153 Tryz.sizeOf153 rfl (hq) (fun _ => rfl)) rfl rfl rfl ?_
      refine oj_alloc Tryz.zeroValue153 rfl rfl (fun b9 => ?_)
      refine oj_step (y_assign rfl) rfl rfl rfl ?_
      refine oj_store rfl rfl rfl rfl Tryz.sizeOf153 rfl ?_
      refine oj_nil ?_
      refine ej_th (cj_seq (cj_region ?_))
      refine oj_step (y_move rfl) rfl rfl rfl ?_
      refine oj_buildSlice (cs := [.string ⟨#[40]⟩, .string ⟨#[59]⟩]) [.string ⟨#[]⟩, .string ⟨#[]⟩] Tryz.underlying142 Tryz.sizeOf9 Tryz.zeroValue9 rfl rfl (by kernel_rfl) (by kernel_rfl) rfl (fun b52 => ?_)
      refine oj_step (y_move rfl) rfl rfl rfl ?_
      refine oj_step (y_min rfl rfl) rfl rfl rfl ?_
      refine oj_step (y_ixR (reads_lit (enc := enStr) (sz := 1) [tOpen, tSemi] (fun _ => rfl) rfl) Tryz.underlying142 Tryz.sizeOf9 rfl rfl (⟨by omega, by simp only [List.length_cons, List.length_nil]; omega⟩)) rfl rfl rfl ?_
      refine oj_step (y_ld0 (reads_lit (enc := enStr) (sz := 1) [tOpen, tSemi] (fun _ => rfl) rfl) Tryz.isAgg9 rfl (hsep) rfl) rfl rfl rfl ?_
      refine oj_buildSlice (cs := [.string (if k = 0 then tOpen else tSemi)]) [.string ⟨#[]⟩] Tryz.underlying142 Tryz.sizeOf9 Tryz.zeroValue9 rfl rfl (by kernel_rfl) (by kernel_rfl) rfl (fun b57 => ?_)
      refine oj_append  el142 (fun _ => rfl) enStr_one rfl rfl rfl (reads_lit [(if k = 0 then tOpen else tSemi)] (fun _ => rfl) rfl) (by unfold maxLen; simp only [List.length_cons, List.length_nil]; omega) (by simp only [List.length_cons, List.length_nil]; omega) rfl (fun A58 c58 => ?_)
      refine oj_step (y_assign rfl) rfl rfl rfl ?_
      refine oj_nil ?_
      refine ej_th (cj_region ?_)
      refine oj_step (y_move rfl) rfl rfl rfl ?_
      refine oj_step (y_move rfl) rfl rfl rfl ?_
      refine oj_step (y_loadN Tryz.isAgg153 Tryz.sizeOf153 rfl) rfl rfl rfl ?_
      refine oj_callO (fun A c => .slice A (tokT g q.pl).length c) 9 1 enStr (tokT g q.pl) Tryz.call127 rfl (fun w1 hp => by have h := ih q (List.mem_of_getElem? hq) w1 hp.below; exact h) rfl (fun A62 c62 => ?_)
      refine oj_append  el142 (fun _ => rfl) enStr_one rfl rfl rfl (reads_ow (fun _ => rfl)) (by unfold maxLen; simp only [List.length_append, List.length_cons, List.length_nil]; omega) (by simp only [List.length_append, List.length_cons, List.length_nil]; omega) rfl (fun A63 c63 => ?_)
      refine oj_step (y_assign rfl) rfl rfl rfl ?_
      refine oj_nil ?_
      refine ej_blk (ej_th ?_)
      refine cj_regionG (gj_step (y_add rfl rfl (by omega)) rfl rfl rfl (gj_step (y_move rfl) rfl rfl rfl (gj_nil ?_)))
      exact ej_nx (k + 1, A63, c63, (xs ++ [if k = 0 then tOpen else tSemi]) ++ tokT g q.pl) (by simp only; omega) ⟨by first | omega | (simp only; omega), by rw [← hxs]; simp only [List.append_assoc, List.cons_append, List.nil_append]⟩ ⟨rfl, rfl, rfl, rfl, rfl, rfl, rfl, trivial⟩
    · have h47b := h47
      try simp only [sxb] at h47
      rw [List.drop_of_length_le (show (x.parts.map ItemV.pl).length ≤ k by rw [List.length_map]; omega), tokP, List.nil_append] at hxs
      refine cj_exit (ej_then_exit (ej_then_exit (ej_blk_hit (ej_th (cj_seq (cj_seq ?_))))))
      refine cj_regionG (gj_step (y_fa fa153_2 rfl) rfl rfl rfl (gj_step (y_load1 Tryz.isAgg151 rfl rfl) rfl rfl rfl (gj_step (y_lenA Tryz.underlying151 rfl) rfl rfl rfl (gj_step (y_gtr rfl rfl) rfl rfl rfl (gj_nil ?_)))))
      refine ej_th ?_
      refine cj_cond rfl (fun h68 => ?_) (fun h68 => ?_)
      · have h68b := h68
        try simp only [sxb] at h68
        rw [if_neg (show ¬ x.parts.length = 0 by omega)] at hxs
        have hlen := congrArg List.length hxs
        simp only [List.length_append, List.length_cons] at hlen
        refine cj_region ?_
        refine oj_step (y_move rfl) rfl rfl rfl ?_
        refine oj_buildSlice (cs := [.string ⟨#[41]⟩]) [.string ⟨#[]⟩] Tryz.underlying142 Tryz.sizeOf9 Tryz.zeroValue9 rfl rfl (by kernel_rfl) (by kernel_rfl) rfl (fun b70 => ?_)
        refine oj_append  el142 (fun _ => rfl) enStr_one rfl rfl rfl (reads_lit [tClose] (fun _ => rfl) rfl) (by unfold maxLen; simp only [List.length_cons, List.length_nil]; omega) (by simp only [List.length_cons, List.length_nil]; omega) rfl (fun A71 c71 => ?_)
        refine oj_step (y_assign rfl) rfl rfl rfl ?_
        refine oj_nil ?_
        refine ej_th (cj_seq ?_)
        refine cj_regionG (gj_step (y_move rfl) rfl rfl rfl (gj_step (y_assign rfl) rfl rfl rfl (gj_nil ?_)))
        refine ej_th (cj_ret ?_)
        exact ej_ret1 rfl Tryz.results127 rfl (fun w' hp => ⟨A71, c71, by rw [← hxs], hp.below, by rw [← hxs]; exact hp.resO⟩)
      · have h68b := h68
        try simp only [sxb] at h68
        rw [if_pos (show x.parts.length = 0 by omega), List.append_nil] at hxs
        refine cj_skip (ej_th (cj_seq ?_))
        refine cj_regionG (gj_step (y_move rfl) rfl rfl rfl (gj_step (y_assign rfl) rfl rfl rfl (gj_nil ?_)))
        refine ej_th (cj_ret ?_)
        exact ej_ret1 rfl Tryz.results127 rfl (fun w' hp => ⟨A1, c1, by rw [← hxs], hp.below, by rw [← hxs]; exact hp.resO⟩)

theorem k_tok {w0 : World} {b : Nat} {g : List (ByteArray × ClassV)} {x : ItemV} (hx : GoodI w0 x) : ∀ (w : World), Grow w0 w → (mp ekS evC b g).P w → b < w.heap.size → (∀ p ∈ g, GoodC w p.2) → OkT g x.pl → cntT x.pl ≤ 24 → Calls Tryz.prog 127 #[.map (some b), evI x] w (fun e w' => ∃ A c, e = .returned (.slice A (tokT g x.pl).length c) ∧ Grow w w' ∧ (ow 9 1 enStr A c (tokT g x.pl)).P w' ∧ ∀ i, (ow 9 1 enStr A c (tokT g x.pl)).fp i → w.heap.size ≤ i) := by
  induction hx with
  | @mk x hs hp hn hm hr ih =>
    intro w hg hM hbl hgg ho hc
    refine k_tok1 x b g w hM hbl hgg ((GoodI.mk hs hp hn hm hr).mono hg) ho hc (fun p hpm w1 hg1 => ?_)
    have hpo : p.pl ∈ x.pl.parts := by rw [pl_parts]; exact List.mem_map.2 ⟨p, hpm, rfl⟩
    have hcp : cntT p.pl ≤ 24 := by have h1 := cntL_mem _ _ hpo; have h2 := cntT_eq x.pl; omega
    exact ih p hpm w1 (grow_trans hg hg1) ((mp ekS evC b g).stab (fun i hi => hg1.block i (by have : i = b := hi; omega)) hM) (Nat.lt_of_lt_of_le hbl hg1.size) (fun q hq => (hgg q hq).mono hg1) (ho.pt _ hpo) hcp

theorem k_joined (A : Option Addr) (c : Nat) (xs : List ByteArray) (w : World) (hO : (ow 9 1 enStr A c xs).P w) (hne : xs ≠ []) (hN : xs.length ≤ 1000000) (hlen : (jn xs).size ≤ 1000000) : Calls Tryz.prog 126 #[.slice A xs.length c] w (fun e w' => e = .returned (.string (jn xs)) ∧ Grow w w') := by
  refine enter_pure (args := [.slice A xs.length c]) [ow 9 1 enStr A c xs] Tryz.func126 rfl (by rw [Tryz.ntmps126]; simp) (fun g hg => by simp at hg; subst hg; exact ⟨hO, ow_lt hO hne⟩) ?_
  refine cj_seq ?_
  refine cj_regionG (gj_step (y_assign rfl) rfl rfl rfl (gj_nil ?_))
  refine ej_th (cj_seq ?_)
  refine cj_regionG ?_
  refine gj_step (y_move rfl) rfl rfl rfl (?_)
  refine gj_step (y_call Tryz.call157 rfl (fun w hp => join_ok A c xs w (hp.shared _ (List.mem_singleton.2 rfl)).1 hne hN hlen)) rfl rfl rfl ?_
  refine gj_step (y_assign rfl) rfl rfl rfl (?_)
  refine gj_nil ?_
  refine ej_th (cj_ret ?_)
  exact ej_ret1 rfl Tryz.results126 rfl (fun w' hp => ⟨rfl, hp.below⟩)

theorem k_text (x : ItemV) (b : Nat) (g : List (ByteArray × ClassV)) (w : World) (hM : (mp ekS evC b g).P w) (hbl : b < w.heap.size) (hgg : ∀ p ∈ g, GoodC w p.2) (hx : GoodI w x) (ho : OkT g x.pl) (hcn : cntT x.pl ≤ 24) : Calls Tryz.prog 95 #[.map (some b), evI x] w (fun e w' => e = .returned (.string (txtT g x.pl)) ∧ Grow w w') := by
  have hTl : (tokT g x.pl).length ≤ 264 := by have := tok_len x.pl ho; omega
  have hTs := txt_size ho hcn
  refine enter_pure (args := [.map (some b), evI x]) [mp ekS evC b g] Tryz.func95 rfl (by rw [Tryz.ntmps95]; simp) (fun f hf => by simp at hf; subst hf; exact ⟨hM, fun i hi => by have : i = b := hi; subst this; exact hbl⟩) ?_
  refine cj_seq (cj_region ?_)
  refine oj_box rfl rfl rfl (fun b3 => ?_)
  refine oj_step (y_assign rfl) rfl rfl rfl ?_
  refine oj_nil ?_
  refine ej_th (cj_seq (cj_region ?_))
  refine oj_step (y_move rfl) rfl rfl rfl ?_
  refine oj_step (y_loadN Tryz.isAgg153 Tryz.sizeOf153 rfl) rfl rfl rfl ?_
  refine oj_callO (fun A c => .slice A (tokT g x.pl).length c) 9 1 enStr (tokT g x.pl) Tryz.call127 rfl (fun w1 hp => by have h := k_tok hx w1 hp.below hp.mpS.1 (hp.mpS (b := b) (ek := ekS) (ev := evC) (l := g)).2 (fun q hq => (hgg q hq).mono hp.below) ho hcn; exact h) rfl (fun A7 c7 => ?_)
  refine oj_step (y_call Tryz.call126 rfl (fun w hp => k_joined A7 c7 (tokT g x.pl) w (hp.own _ (List.mem_cons_self ..)).1 (tok_ne g x.pl) (by omega) (by unfold txtT at hTs; omega))) rfl rfl rfl ?_
  refine oj_step (y_assign rfl) rfl rfl rfl ?_
  refine oj_nil ?_
  refine ej_th (cj_ret ?_)
  exact ej_ret1 rfl Tryz.results95 rfl (fun w' hp => ⟨rfl, hp.below⟩)

end Go.Proofs.YtppfniekcgnmjaaGreatDoor.Pl
namespace Go.Proofs.YtppfniekcgnmjaaGreatDoor.Pl
open Go.Sx Go.RowKit
set_option maxRecDepth 20000

end Go.Proofs.YtppfniekcgnmjaaGreatDoor.Pl
namespace Go.Proofs.YtppfniekcgnmjaaGreatDoor.Pl
open Go.Sx Go.RowKit
set_option maxRecDepth 20000
theorem ask_gram {l : List ClassV} {xs : List ItemV} (h : askIOk l xs = true) : gramOk l = true := by
  simp only [askIOk, Bool.and_eq_true] at h; exact h.1

theorem k_Print (l : List ClassV) (A : Option Addr) (c : Nat) (x : ItemV) (w : World) (hl : Rd w 4 encCl A l) (hgc : ∀ c ∈ l, GoodC w c) (hx : GoodI w x) : Calls Tryz.prog 58 #[.slice A l.length c, evI x] w (fun e w' => e = .returned (.tuple #[.string (PrnT l x), .int .i64 (askIE l [x])]) ∧ Grow w w') := by
  refine enter_pure (args := [.slice A l.length c, evI x]) [sl (fun b => b < w.heap.size) 4 encCl A l] Tryz.func58 rfl (by rw [Tryz.ntmps58]; simp) (fun g hg => by simp at hg; subst hg; exact ⟨hl, fun _ h => h⟩) ?_
  refine cj_seq (cj_region ?_)
  refine oj_box rfl rfl rfl (fun b3 => ?_)
  refine oj_step (y_assign rfl) rfl rfl rfl ?_
  refine oj_step (y_assign rfl) rfl rfl rfl ?_
  refine oj_nil ?_
  refine ej_th (cj_seq (cj_region ?_))
  refine oj_step (y_move rfl) rfl rfl rfl ?_
  refine oj_step (y_loadN Tryz.isAgg153 Tryz.sizeOf153 rfl) rfl rfl rfl ?_
  refine oj_buildSlice (cs := [.string x.cls, .slice x.As x.says.length x.cs, .slice x.Ap x.parts.length x.cp]) [.string ⟨#[]⟩, .slice none 0 0, .slice none 0 0] Tryz.underlying151 Tryz.sizeOf153 Tryz.zeroValue153 rfl rfl (by kernel_rfl) (by kernel_rfl) rfl (fun b11 => ?_)
  refine oj_litOw (b := b11) (e := 153) (c := 1) (sz := 3) (enc := encIt) [x] rfl rfl rfl (by unfold maxLen; simp) ?_
  refine oj_call (X := Nat) (fun m => .tuple #[.map (bif askIOk l [x] then some m else none), .int .i64 (askIE l [x])]) (fun _ => []) (fun m => bif askIOk l [x] then [mp ekS evC m (gramM l)] else []) Tryz.call94 rfl (fun w hp => by
    have h := k_pasked l A c [x] (some ⟨b11, 0, none⟩) 1 w hp.rd (fun c hc => (hgc c hc).mono hp.below) (hp.rdO (A := some ⟨b11, 0, none⟩) (fun _ => rfl) (by unfold maxLen; simp)) (fun y hy => by
      rw [List.mem_singleton.1 hy]
      exact hx.mono hp.below)
    exact h.mono fun e w' ⟨m, he, hg, hm⟩ => ⟨m, he, hg, by simp, by simp, fun f hf => by
      cases hok : askIOk l [x] with
      | false => rw [hok] at hf; cases hf
      | true =>
        rw [hok] at hf
        rw [List.mem_singleton.1 hf]
        have h3 := hm hok
        exact ⟨h3.1, fun i hi => by have : i = m := hi; subst this; exact ⟨h3.2.1, h3.2.2, by simp⟩⟩⟩) rfl (fun m12 => ?_)
  dsimp only [List.cons_append, List.nil_append]
  refine oj_step (y_move rfl) rfl rfl rfl ?_
  refine oj_step (y_extract rfl rfl) rfl rfl rfl ?_
  refine oj_step (y_extract rfl rfl) rfl rfl rfl ?_
  refine oj_step (y_assign rfl) rfl rfl rfl ?_
  refine oj_step (y_assign rfl) rfl rfl rfl ?_
  refine oj_nil ?_
  refine ej_th (cj_seq (cj_seq ?_))
  refine cj_regionG (gj_step (y_move rfl) rfl rfl rfl (gj_step (y_neq rfl rfl) rfl rfl rfl (gj_nil ?_)))
  refine ej_th ?_
  refine cj_cond rfl (fun h16 => ?_) (fun h16 => ?_)
  · have h16b := h16
    try simp only [sxb] at h16
    have hno := askIE_no h16b
    refine cj_seq ?_
    refine cj_regionG (gj_step (y_move rfl) rfl rfl rfl (gj_step (y_assign rfl) rfl rfl rfl (gj_step (y_assign rfl) rfl rfl rfl (gj_nil ?_))))
    refine ej_th (cj_ret (ej_then_ret ?_))
    have hv : PrnT l x = ⟨#[]⟩ := by rw [PrnT, hno]; rfl
    exact ej_ret2 rfl Tryz.results58 rfl rfl (fun w' hp => ⟨by rw [hv], hp.below⟩)
  · have h16b := h16
    try simp only [sxb] at h16
    have hok := askIE_ok h16b
    obtain ⟨hoT, hcn⟩ := ask_T hok x (by simp)
    have hgO := ask_gram hok
    rw [hok]
    dsimp only [cond, List.cons_append, List.nil_append]
    refine cj_skip (ej_th (cj_seq ?_))
    refine cj_regionG ?_
    refine gj_step (y_move rfl) rfl rfl rfl (gj_step (y_loadN Tryz.isAgg153 Tryz.sizeOf153 rfl) rfl rfl rfl (?_))
    refine gj_step (y_call Tryz.call95 rfl (fun w hp => k_text x m12 (gramM l) w hp.mpS.1 (hp.mpS (b := m12) (ek := ekS) (ev := evC) (l := gramM l)).2 (fun p hp2 => (hgc p.2 (gramM_mem hp2)).mono hp.below) (hx.mono hp.below) hoT hcn)) rfl rfl rfl ?_
    refine gj_step (y_assign rfl) rfl rfl rfl (gj_step (y_assign rfl) rfl rfl rfl (?_))
    refine gj_nil ?_
    refine ej_th (cj_ret ?_)
    have hv : PrnT l x = txtT (gramM l) x.pl := by rw [PrnT, hok]; rfl
    have hz : askIE l [x] = 0 := by simpa using h16b
    exact ej_ret2 rfl Tryz.results58 rfl rfl (fun w' hp => ⟨by rw [hv, hz], hp.below⟩)

end Go.Proofs.YtppfniekcgnmjaaGreatDoor.Pl
namespace Go.Proofs.YtppfniekcgnmjaaGreatDoor.Wa
open Go Go.Sx Go.RowKit Um
structure PairV where
  said : ByteArray
  listed : ByteArray
abbrev encPr (p : PairV) : List Value := [.string p.said, .string p.listed]
def pairB (isW : ByteArray → Bool) (p : PairV) : Bool := isW p.said && isW p.listed
def pairsE (isW : ByteArray → Bool) (l : List PairV) : Int := if decide ((64 : Int) < l.length) || !(l.all (pairB isW)) then 50 else 0
abbrev evM (o : Option Nat) : Value := .map o
abbrev evB (b : Bool) : Value := .bool b
end Go.Proofs.YtppfniekcgnmjaaGreatDoor.Wa
namespace Go.Proofs.YtppfniekcgnmjaaGreatDoor.Wa
open Go Go.Sx Go.RowKit
theorem eq_drop {α : Type} [DecidableEq α] (a b : List α) (k : Nat) (x y : α) (hx : a[k]? = some x) (hy : b[k]? = some y) : decide (a.drop k = b.drop k) = (decide (x = y) && decide (a.drop (k + 1) = b.drop (k + 1))) := by
  obtain ⟨h1, h2⟩ := List.getElem?_eq_some_iff.1 hx
  obtain ⟨h3, h4⟩ := List.getElem?_eq_some_iff.1 hy
  rw [List.drop_eq_getElem_cons h1, h2, List.drop_eq_getElem_cons h3, h4]
  by_cases h : x = y <;> by_cases h5 : a.drop (k + 1) = b.drop (k + 1) <;> simp [h, h5]
theorem eq_len {α : Type} [DecidableEq α] {a b : List α} (h : ¬ (a.length : Int) = b.length) : decide (a = b) = false := decide_eq_false (fun e => h (by rw [e]))
theorem len_of {a b : List Int} (h : ((a.length : Int) == (b.length : Int)) = true) : a.length = b.length := by
  have h2 : (a.length : Int) = b.length := by simpa using h
  omega
theorem same_start (a b : List Int) : (((a.length : Int) == (b.length : Int)) && decide (a.drop 0 = b.drop 0)) = decide (a = b) := by
  rw [List.drop_zero, List.drop_zero]
  by_cases h : (a.length : Int) = b.length
  · rw [show ((a.length : Int) == (b.length : Int)) = true by simpa using h]; rfl
  · rw [show ((a.length : Int) == (b.length : Int)) = false by simpa using h, eq_len h]; rfl
theorem beq_dec {x y : Int} {c : Bool} : ((x == y) && c) = (decide (x = y) && c) := by
  by_cases h : x = y <;> simp [h]
theorem Res.of_lit {α : Type} {w w' : World} {b sz : Nat} {enc : α → List Value} {xs : List α} (h : (litS b sz enc xs).P w' ∧ ∀ i, (litS b sz enc xs).fp i → w.heap.size ≤ i ∧ i < w'.heap.size ∧ ∀ o ∈ ([] : List Fact), ¬ o.fp i) : (sl (fun i => w.heap.size ≤ i ∧ i < w'.heap.size) sz enc (some ⟨b, 0, none⟩) xs).P w' :=
  sl_fp h.1 (fun i hi => ⟨(h.2 i hi).1, (h.2 i hi).2.1⟩)
def ringI (n m : Int) : Int := if m ≤ 0 then 0 else ((n.tmod m) + m).tmod m
theorem ringI_bd (n m : Int) (hm : 1 ≤ m) : 0 ≤ ringI n m ∧ ringI n m < m := by
  unfold ringI
  rw [if_neg (by omega)]
  have h1 : -m < n.tmod m ∧ n.tmod m < m := by
    rcases Int.lt_or_le n 0 with h | h
    · have h2 := Int.tmod_lt_of_pos (-n) (show (0 : Int) < m by omega)
      have h3 := Int.tmod_nonneg m (show 0 ≤ -n by omega)
      rw [Int.neg_tmod] at h2 h3
      omega
    · have h2 := Int.tmod_lt_of_pos n (show (0 : Int) < m by omega)
      have h3 := Int.tmod_nonneg m h
      omega
  exact ⟨Int.tmod_nonneg m (by omega), Int.tmod_lt_of_pos _ (by omega)⟩
def pickI (l : List Int) (i : Int) : Int := if l.length = 0 then 0 else l.getD (ringI i l.length).toNat default
theorem gd_of {α : Type} {l : List α} {i : Nat} {x : α} (d : α) (h : l[i]? = some x) : l.getD i d = x := by rw [List.getD_eq_getElem?_getD, h]; rfl
end Go.Proofs.YtppfniekcgnmjaaGreatDoor.Wa
namespace Go.Proofs.YtppfniekcgnmjaaGreatDoor.Wa
open Go.Sx Go.RowKit
set_option maxRecDepth 20000
theorem fa263_0 : FieldIs Tryz.prog 263 0 0 1 false := ⟨⟨_, _, Tryz.underlying263, rfl, rfl, Tryz.sizeOf9, Tryz.isAgg9, by decide⟩⟩
theorem fa263_1 : FieldIs Tryz.prog 263 1 1 1 false := ⟨⟨_, _, Tryz.underlying263, rfl, rfl, Tryz.sizeOf9, Tryz.isAgg9, by decide⟩⟩
end Go.Proofs.YtppfniekcgnmjaaGreatDoor.Wa
namespace Go.Proofs.YtppfniekcgnmjaaGreatDoor.Wa
open Go.Sx Go.RowKit Um
set_option maxRecDepth 20000
theorem k_IndexP (l : List PairV) (A : Option Addr) (c : Nat) (f : Nat) (fi ca : Array Value) (q : PairV → Bool) (w : World) (hl : Rd w 2 encPr A l) (hen : ∀ args w, (callFunc f args).run Tryz.prog w = .ok (.enter f args) w) (hpp : ∀ x ∈ l, ∀ w1, Grow w w1 → Calls Tryz.prog f (fi ++ [.agg #[.string x.said, .string x.listed]].toArray ++ ca) w1 (fun e w2 => e = .returned (.bool (q x)) ∧ Grow w1 w2)) : Calls Tryz.prog 179 #[.slice A l.length c, .func (.func f) fi ca] w (fun e w' => e = .returned (.int .i64 (fidx q l 0)) ∧ Grow w w') := by
  have hlen := hl.len
  refine enter_pure (args := [.slice A l.length c, .func (.func f) fi ca]) [sl (fun b => b < w.heap.size) 2 encPr A l] Tryz.func179 rfl (by rw [Tryz.ntmps179]; simp) (fun g hg => by simp at hg; subst hg; exact ⟨hl, fun _ h => h⟩) ?_
  refine cj_seq ?_
  refine cj_regionG (gj_step (y_assign rfl) rfl rfl rfl (gj_nil ?_))
  refine ej_th (cj_seq (cj_seq ?_))
  refine cj_regionG (gj_step (y_move rfl) rfl rfl rfl (gj_step (y_lenA Tryz.underlying220 rfl) rfl rfl rfl (gj_step (y_move rfl) rfl rfl rfl (gj_nil ?_))))
  refine ej_th (cj_block ?_)
  refine cj_lpic (X := Nat) [(0, _), (1, _), (7, _)] (fun k => k ≤ l.length ∧ fidx q (l.drop k) k = fidx q l 0) (fun k => [(8, .int .i64 (k : Nat))]) (fun k => l.length - k) 0 (⟨Nat.zero_le _, rfl⟩) ⟨rfl, rfl, rfl, rfl, trivial⟩ ?_
  rintro k ⟨hk, hsk⟩
  dsimp only [List.cons_append, List.nil_append]
  refine cj_seq ?_
  refine cj_regionG (gj_step (y_lss rfl rfl) rfl rfl rfl (gj_nil ?_))
  refine ej_th (cj_seq ?_)
  refine cj_cond rfl (fun h9 => ?_) (fun h9 => ?_)
  · have h9b := h9
    try simp only [sxb] at h9
    obtain ⟨x, hx⟩ : ∃ x, l[k]? = some x := ⟨_, List.getElem?_eq_getElem (by omega)⟩
    rw [fidx_drop q l k x hx] at hsk
    refine cj_skip (ej_th (cj_seq (cj_block (cj_seq ?_))))
    refine cj_regionG (gj_step (y_move rfl) rfl rfl rfl (gj_step (y_assign rfl) rfl rfl rfl (gj_nil ?_)))
    refine ej_th (cj_seq ?_)
    refine cj_regionG ?_
    refine gj_step (y_move rfl) rfl rfl rfl (gj_step (y_move rfl) rfl rfl rfl (gj_step (y_move rfl) rfl rfl rfl (gj_step (y_ixR (reads_sl) Tryz.underlying220 Tryz.sizeOf263 rfl rfl (⟨by omega, by omega⟩)) rfl rfl rfl (gj_step (y_ldW (reads_sl) Tryz.isAgg263 Tryz.sizeOf263 rfl (hx) (fun _ => rfl)) rfl rfl rfl (?_)))))
    refine gj_step (y_callV hen rfl rfl (fun w1 hp => hpp x (List.mem_of_getElem? hx) w1 hp.below)) rfl rfl rfl ?_
    refine gj_nil ?_
    refine ej_th ?_
    refine cj_cond rfl (fun h16 => ?_) (fun h16 => ?_)
    · have h16b := h16
      try simp only [sxb] at h16
      refine cj_seq ?_
      refine cj_regionG (gj_step (y_move rfl) rfl rfl rfl (gj_step (y_assign rfl) rfl rfl rfl (gj_nil ?_)))
      refine ej_th (cj_ret (ej_blk_ret (ej_then_ret (ej_then_ret (ej_blk_ret (ej_then_ret ?_))))))
      refine ej_ret1 rfl Tryz.results179 rfl (fun w' hp => ⟨?_, hp.below⟩)
      rw [← hsk, if_pos h16b]
    · have h16b := h16
      try simp only [sxb] at h16
      refine cj_skip (ej_blk (ej_th ?_))
      refine cj_regionG (gj_step (y_add rfl rfl (by omega)) rfl rfl rfl (gj_step (y_move rfl) rfl rfl rfl (gj_nil ?_)))
      exact ej_nx (k + 1) (by omega) ⟨by omega, by rw [← hsk, if_neg (by rw [h16b]; simp)]⟩ ⟨rfl, rfl, rfl, rfl, trivial⟩
  · have h9b := h9
    try simp only [sxb] at h9
    refine cj_exit (ej_then_exit (ej_then_exit (ej_blk_hit (ej_th (cj_seq ?_)))))
    refine cj_regionG (gj_step (y_assign rfl) rfl rfl rfl (gj_nil ?_))
    refine ej_th (cj_ret ?_)
    refine ej_ret1 rfl Tryz.results179 rfl (fun w' hp => ⟨?_, hp.below⟩)
    rw [← hsk, List.drop_of_length_le (by omega)]; rfl

theorem k_ContP (l : List PairV) (A : Option Addr) (c : Nat) (f : Nat) (fi ca : Array Value) (q : PairV → Bool) (w : World) (hl : Rd w 2 encPr A l) (hen : ∀ args w, (callFunc f args).run Tryz.prog w = .ok (.enter f args) w) (hpp : ∀ x ∈ l, ∀ w1, Grow w w1 → Calls Tryz.prog f (fi ++ [.agg #[.string x.said, .string x.listed]].toArray ++ ca) w1 (fun e w2 => e = .returned (.bool (q x)) ∧ Grow w1 w2)) : Calls Tryz.prog 158 #[.slice A l.length c, .func (.func f) fi ca] w (fun e w' => e = .returned (.bool (l.any q)) ∧ Grow w w') := by
  refine enter_pure (args := [.slice A l.length c, .func (.func f) fi ca]) [sl (fun b => b < w.heap.size) 2 encPr A l] Tryz.func158 rfl (by rw [Tryz.ntmps158]; simp) (fun g hg => by simp at hg; subst hg; exact ⟨hl, fun _ h => h⟩) ?_
  refine cj_seq ?_
  refine cj_regionG (gj_step (y_assign rfl) rfl rfl rfl (gj_nil ?_))
  refine ej_th (cj_seq ?_)
  refine cj_regionG ?_
  refine gj_step (y_move rfl) rfl rfl rfl (gj_step (y_move rfl) rfl rfl rfl (?_))
  refine gj_step (y_call Tryz.call179 rfl (fun w hp => k_IndexP l A c f fi ca q w hp.rd hen (fun x hx w1 hg => hpp x hx w1 (grow_trans hp.below hg)))) rfl rfl rfl ?_
  refine gj_step (y_geq rfl rfl) rfl rfl rfl (gj_step (y_assign rfl) rfl rfl rfl (?_))
  refine gj_nil ?_
  refine ej_th (cj_ret ?_)
  refine ej_ret1 rfl Tryz.results158 rfl (fun w' hp => ⟨?_, hp.below⟩)
  rw [fidx_any q l]

theorem k_every1 (x : PairV) (b f : Nat) (fi ca : Array Value) (q : PairV → Bool) (w : World) (hb : (ownB b (cellsB 264 [.func (.func f) fi ca])).P w) (hen : ∀ args w, (callFunc f args).run Tryz.prog w = .ok (.enter f args) w) (hpp : ∀ w1, Grow w w1 → Calls Tryz.prog f (fi ++ [.agg #[.string x.said, .string x.listed]].toArray ++ ca) w1 (fun e w2 => e = .returned (.bool (q x)) ∧ Grow w1 w2)) : Calls Tryz.prog 159 #[.agg #[.string x.said, .string x.listed], .pointer (some ⟨b, 0, none⟩)] w (fun e w' => e = .returned (.bool (!(q x))) ∧ Grow w w') := by
  refine enter_pure (args := [.agg #[.string x.said, .string x.listed], .pointer (some ⟨b, 0, none⟩)]) [ownB b (cellsB 264 [.func (.func f) fi ca])] Tryz.func159 rfl (by rw [Tryz.ntmps159]; simp) (fun g hg => by
    rw [List.mem_singleton.1 hg]
    exact ⟨hb, fun i hi => by have hi : i = b := hi; subst hi; exact (Array.getElem?_eq_some_iff.1 hb).1⟩) ?_
  refine cj_seq (cj_region ?_)
  refine oj_box rfl rfl rfl (fun b2 => ?_)
  refine oj_step (y_assign rfl) rfl rfl rfl ?_
  refine oj_nil ?_
  refine ej_th (cj_seq ?_)
  refine cj_regionG ?_
  refine gj_step (y_loadS1 Tryz.isAgg264 rfl rfl) rfl rfl rfl (gj_step (y_loadN Tryz.isAgg263 Tryz.sizeOf263 rfl) rfl rfl rfl (?_))
  refine gj_step (y_callV hen rfl rfl (fun w1 hp => hpp w1 hp.below)) rfl rfl rfl ?_
  refine gj_step (y_not rfl) rfl rfl rfl (gj_step (y_assign rfl) rfl rfl rfl (?_))
  refine gj_nil ?_
  refine ej_th (cj_ret ?_)
  exact ej_ret1 rfl Tryz.results159 rfl (fun w' hp => ⟨rfl, hp.below⟩)

theorem k_every (l : List PairV) (A : Option Addr) (c : Nat) (f : Nat) (fi ca : Array Value) (q : PairV → Bool) (w : World) (hl : Rd w 2 encPr A l) (hen : ∀ args w, (callFunc f args).run Tryz.prog w = .ok (.enter f args) w) (hpp : ∀ x ∈ l, ∀ w1, Grow w w1 → Calls Tryz.prog f (fi ++ [.agg #[.string x.said, .string x.listed]].toArray ++ ca) w1 (fun e w2 => e = .returned (.bool (q x)) ∧ Grow w1 w2)) : Calls Tryz.prog 128 #[.slice A l.length c, .func (.func f) fi ca] w (fun e w' => e = .returned (.bool (l.all q)) ∧ Grow w w') := by
  refine enter_pure (args := [.slice A l.length c, .func (.func f) fi ca]) [sl (fun b => b < w.heap.size) 2 encPr A l] Tryz.func128 rfl (by rw [Tryz.ntmps128]; simp) (fun g hg => by simp at hg; subst hg; exact ⟨hl, fun _ h => h⟩) ?_
  refine cj_seq (cj_region ?_)
  refine oj_box rfl rfl rfl (fun b3 => ?_)
  refine oj_step (y_assign rfl) rfl rfl rfl ?_
  refine oj_nil ?_
  refine ej_th (cj_seq ?_)
  refine cj_regionG ?_
  refine gj_step (y_move rfl) rfl rfl rfl (gj_step (y_makeFunc rfl rfl) rfl rfl rfl (?_))
  refine gj_step (y_call Tryz.call158 rfl (fun w hp => k_ContP l A c 159 #[] #[.pointer (some ⟨b3, 0, none⟩)] (fun x => !(q x)) w hp.rd Tryz.call159 (fun x hx w1 hg => k_every1 x b3 f fi ca q w1 ((hp.grow hg).own1) hen (fun w2 hg2 => hpp x hx w2 (grow_trans hp.below (grow_trans hg hg2)))))) rfl rfl rfl ?_
  refine gj_step (y_not rfl) rfl rfl rfl (gj_step (y_assign rfl) rfl rfl rfl (?_))
  refine gj_nil ?_
  refine ej_th (cj_ret ?_)
  refine ej_ret1 rfl Tryz.results128 rfl (fun w' hp => ⟨?_, hp.below⟩)
  rw [any_not, Bool.not_not]

theorem k_ck1 (p : PairV) (w : World) (h1 : p.said.size ≤ 9223372036854775807) (h2 : p.listed.size ≤ 9223372036854775807) : Calls Tryz.prog 129 #[.agg #[.string p.said, .string p.listed]] w (fun e w' => e = .returned (.bool (pairB Pl.isW p)) ∧ Grow w w') := by
  refine enter_pure (args := [.agg #[.string p.said, .string p.listed]]) [] Tryz.func129 rfl (by rw [Tryz.ntmps129]; simp) (by simp) ?_
  refine cj_seq (cj_region ?_)
  refine oj_box rfl rfl rfl (fun b1 => ?_)
  refine oj_step (y_assign rfl) rfl rfl rfl ?_
  refine oj_nil ?_
  refine ej_th (cj_seq ?_)
  refine cj_regionG ?_
  refine gj_step (y_fa0 fa263_0 rfl) rfl rfl rfl (gj_step (y_load1 Tryz.isAgg9 rfl rfl) rfl rfl rfl (?_))
  refine gj_step (y_call Tryz.call36 rfl (fun w hp => Pl.k_IsWord p.said w h1)) rfl rfl rfl ?_
  refine gj_step (y_move rfl) rfl rfl rfl (?_)
  refine gj_g 3 6 9 rfl rfl rfl rfl (fun hg6 => gj_yes rfl rfl rfl (y_fa fa263_1 rfl) rfl rfl (gj_yes rfl rfl rfl (y_load1 Tryz.isAgg9 rfl rfl) rfl rfl (gj_yes rfl rfl rfl (y_call Tryz.call36 rfl (fun w hp => Pl.k_IsWord p.listed w h2)) rfl rfl (gj_nil rfl)))) ?_
  refine gj_step (y_and rfl rfl rfl) rfl rfl rfl (gj_step (y_assign rfl) rfl rfl rfl (?_))
  refine gj_nil ?_
  refine ej_th (cj_ret ?_)
  exact ej_ret1 rfl Tryz.results129 rfl (fun w' hp => ⟨rfl, hp.below⟩)

theorem k_CheckPairs (l : List PairV) (A : Option Addr) (c : Nat) (w : World) (hl : Rd w 2 encPr A l) (hsm : ∀ p ∈ l, p.said.size ≤ 9223372036854775807 ∧ p.listed.size ≤ 9223372036854775807) : Calls Tryz.prog 96 #[.slice A l.length c] w (fun e w' => e = .returned (.int .i64 (pairsE Pl.isW l)) ∧ Grow w w') := by
  have hlen := hl.len
  refine enter_pure (args := [.slice A l.length c]) [sl (fun b => b < w.heap.size) 2 encPr A l] Tryz.func96 rfl (by rw [Tryz.ntmps96]; simp) (fun g hg => by simp at hg; subst hg; exact ⟨hl, fun _ h => h⟩) ?_
  refine cj_seq ?_
  refine cj_regionG (gj_step (y_assign rfl) rfl rfl rfl (gj_nil ?_))
  refine ej_th (cj_seq (cj_seq ?_))
  refine cj_regionG ?_
  refine gj_step (y_move rfl) rfl rfl rfl (gj_step (y_lenA Tryz.underlying220 rfl) rfl rfl rfl (gj_step (y_gtr rfl rfl) rfl rfl rfl (gj_step (y_move rfl) rfl rfl rfl (?_))))
  refine gj_g 3 6 9 rfl rfl rfl rfl (fun hg6 => gj_yes rfl rfl rfl (y_move rfl) rfl rfl (gj_yes rfl rfl rfl (y_call Tryz.call128 rfl (fun w hp => k_every l A c 129 #[] #[] (pairB Pl.isW) w hp.rd Tryz.call129 (fun x hx w1 hg => k_ck1 x w1 (hsm x hx).1 (hsm x hx).2))) rfl rfl (gj_yes rfl rfl rfl (y_not rfl) rfl rfl (gj_nil rfl)))) ?_
  refine gj_step (y_or rfl rfl rfl) rfl rfl rfl (?_)
  refine gj_nil ?_
  refine ej_th ?_
  refine cj_cond rfl (fun h10 => ?_) (fun h10 => ?_)
  · have h10b := h10
    try simp only [sxb] at h10
    refine cj_seq ?_
    refine cj_regionG (gj_step (y_assign rfl) rfl rfl rfl (gj_nil ?_))
    refine ej_th (cj_ret (ej_then_ret ?_))
    refine ej_ret1 rfl Tryz.results96 rfl (fun w' hp => ⟨?_, hp.below⟩)
    rw [pairsE, if_pos h10b]
  · have h10b := h10
    try simp only [sxb] at h10
    refine cj_skip (ej_th (cj_seq ?_))
    refine cj_regionG (gj_step (y_assign rfl) rfl rfl rfl (gj_nil ?_))
    refine ej_th (cj_ret ?_)
    refine ej_ret1 rfl Tryz.results96 rfl (fun w' hp => ⟨?_, hp.below⟩)
    rw [pairsE, if_neg (by rw [h10b]; simp)]

end Go.Proofs.YtppfniekcgnmjaaGreatDoor.Wa
namespace Go.Proofs.YtppfniekcgnmjaaGreatDoor.Wa
open Go.Sx Go.RowKit
set_option maxRecDepth 20000
theorem fa226_0 : FieldIs Tryz.prog 226 0 0 1 false := ⟨⟨_, _, Tryz.underlying226, rfl, rfl, Tryz.sizeOf220, Tryz.isAgg220, by decide⟩⟩
theorem fa226_1 : FieldIs Tryz.prog 226 1 1 1 false := ⟨⟨_, _, Tryz.underlying226, rfl, rfl, Tryz.sizeOf224, Tryz.isAgg224, by decide⟩⟩
theorem st226 : StructIs Tryz.prog 226 [(0, 1), (1, 1)] [.slice none 0 0, .map none] := ⟨⟨_, Tryz.underlying226, fun w => by simp [Tryz.sizeOf220, Tryz.sizeOf224], Tryz.zeroValue226⟩⟩
end Go.Proofs.YtppfniekcgnmjaaGreatDoor.Wa
namespace Go.Proofs.YtppfniekcgnmjaaGreatDoor.Wa
open Go.Sx Go.RowKit Um
set_option maxRecDepth 20000
theorem k_len64  (w : World)  : Calls Tryz.prog 142 #[.int .u64 1] w (fun e w' => e = .returned (.int .i64 1) ∧ Grow w w') := by
  refine enter_pure (args := [.int .u64 1]) [] Tryz.func142 rfl (by rw [Tryz.ntmps142]; simp) (by simp) ?_
  refine cj_seq ?_
  refine cj_regionG (gj_step (y_assign rfl) rfl rfl rfl (gj_nil ?_))
  refine ej_th (cj_seq (cj_seq ?_))
  refine cj_regionG (gj_step (y_move rfl) rfl rfl rfl (gj_step (y_geq rfl rfl) rfl rfl rfl (gj_nil ?_)))
  refine ej_th ?_
  refine cj_condF rfl (by decide) ?_
  refine cj_skip (ej_th (cj_seq (cj_seq ?_)))
  refine cj_regionG (gj_step (y_move rfl) rfl rfl rfl (gj_step (y_geq rfl rfl) rfl rfl rfl (gj_nil ?_)))
  refine ej_th ?_
  refine cj_condF rfl (by decide) ?_
  refine cj_skip (ej_th (cj_seq (cj_seq ?_)))
  refine cj_regionG (gj_step (y_move rfl) rfl rfl rfl (gj_step (y_geq rfl rfl) rfl rfl rfl (gj_nil ?_)))
  refine ej_th ?_
  refine cj_condF rfl (by decide) ?_
  refine cj_skip (ej_th (cj_seq (cj_region ?_)))
  refine oj_step (y_move rfl) rfl rfl rfl ?_
  refine oj_step (y_move rfl) rfl rfl rfl ?_
  refine oj_step (y_conv Tryz.underlying281 Tryz.underlying5 rfl) rfl rfl rfl ?_
  rw [show IntKind.u8.wrap 1 = 1 by decide]
  refine oj_step (y_indexS Tryz.underlying9 rfl rfl (by omega) (by rfl)) rfl rfl rfl ?_
  refine oj_step (y_conv64 Tryz.underlying5 Tryz.underlying3 rfl (by decide)) rfl rfl rfl ?_
  refine oj_step (y_add rfl rfl (by decide)) rfl rfl rfl ?_
  refine oj_step (y_assign rfl) rfl rfl rfl ?_
  refine oj_nil ?_
  refine ej_th (cj_ret ?_)
  refine ej_ret1 rfl Tryz.results142 rfl (fun w' hp => ⟨?_, hp.below⟩)
  rfl

theorem k_len  (w : World)  : Calls Tryz.prog 108 #[.int .u64 1] w (fun e w' => e = .returned (.int .i64 1) ∧ Grow w w') := by
  refine enter_pure (args := [.int .u64 1]) [] Tryz.func108 rfl (by rw [Tryz.ntmps108]; simp) (by simp) ?_
  refine cj_seq ?_
  refine cj_regionG (gj_step (y_assign rfl) rfl rfl rfl (gj_nil ?_))
  refine ej_th (cj_seq ?_)
  refine cj_condF rfl (rfl) ?_
  refine cj_skip (ej_th (cj_seq ?_))
  refine cj_regionG ?_
  refine gj_step (y_move rfl) rfl rfl rfl (?_)
  refine gj_step (y_call Tryz.call142 rfl (fun w hp => k_len64 w)) rfl rfl rfl ?_
  refine gj_step (y_assign rfl) rfl rfl rfl (?_)
  refine gj_nil ?_
  refine ej_th (cj_ret ?_)
  exact ej_ret1 rfl Tryz.results108 rfl (fun w' hp => ⟨rfl, hp.below⟩)

theorem k_ins1 (A : Option Addr) (c : Nat) (w : World)  : Calls Tryz.prog 180 #[.slice A 1 c, .int .i64 0, .int .i64 1] w (fun e w' => e = .returned (.tuple #[]) ∧ Grow w w') := by
  refine enter_pure (args := [.slice A 1 c, .int .i64 0, .int .i64 1]) [] Tryz.func180 rfl (by rw [Tryz.ntmps180]; simp) (by simp) ?_
  refine cj_seq ?_
  refine cj_regionG (gj_step (y_move rfl) rfl rfl rfl (gj_step (y_add rfl rfl (by decide)) rfl rfl rfl (gj_step (y_assign rfl) rfl rfl rfl (gj_nil ?_))))
  refine ej_th (cj_block ?_)
  refine cj_lpic (X := Unit) [(0, _), (1, _), (2, _)] (fun _ => True) (fun _ => [(6, .int .i64 1)]) (fun _ => 0) () (trivial) ⟨rfl, rfl, rfl, rfl, trivial⟩ ?_
  rintro _ -
  dsimp only [List.cons_append, List.nil_append]
  refine cj_seq (cj_seq ?_)
  refine cj_regionG (gj_step (y_move rfl) rfl rfl rfl (gj_step (y_move rfl) rfl rfl rfl (gj_step (y_lss rfl rfl) rfl rfl rfl (gj_nil ?_))))
  refine ej_th ?_
  refine cj_condF rfl (by decide) ?_
  refine cj_exit (ej_then_exit (ej_then_exit (ej_blk_hit ?_)))
  exact ej_end0 rfl Tryz.results180 (fun w' hp => ⟨rfl, hp.below⟩)

theorem k_pdq1 (A : Option Addr) (c : Nat) (w : World)  : Calls Tryz.prog 160 #[.slice A 1 c, .int .i64 0, .int .i64 1, .int .i64 1] w (fun e w' => e = .returned (.tuple #[]) ∧ Grow w w') := by
  refine enter_pure (args := [.slice A 1 c, .int .i64 0, .int .i64 1, .int .i64 1]) [] Tryz.func160 rfl (by rw [Tryz.ntmps160]; simp) (by simp) ?_
  refine cj_seq ?_
  refine cj_regionG (gj_step (y_assign rfl) rfl rfl rfl (gj_nil ?_))
  refine ej_th (cj_seq ?_)
  refine cj_regionG (gj_step (y_assign rfl) rfl rfl rfl (gj_nil ?_))
  refine ej_th (cj_block ?_)
  refine cj_lpic (X := Unit) [(0, _)] (fun _ => True) (fun _ => [(1, .int .i64 0), (2, .int .i64 1)]) (fun _ => 0) () (trivial) ⟨rfl, rfl, rfl, trivial⟩ ?_
  rintro _ -
  dsimp only [List.cons_append, List.nil_append]
  refine cj_block (cj_seq ?_)
  refine cj_regionG (gj_step (y_move rfl) rfl rfl rfl (gj_step (y_move rfl) rfl rfl rfl (gj_step (y_sub rfl rfl (by decide)) rfl rfl rfl (gj_step (y_assign rfl) rfl rfl rfl (gj_nil ?_)))))
  refine ej_th (cj_seq (cj_seq ?_))
  refine cj_regionG (gj_step (y_move rfl) rfl rfl rfl (gj_step (y_leq rfl rfl) rfl rfl rfl (gj_nil ?_)))
  refine ej_th ?_
  refine cj_condT rfl (by decide) ?_
  refine cj_seq ?_
  refine cj_regionG ?_
  refine gj_step (y_move rfl) rfl rfl rfl (gj_step (y_move rfl) rfl rfl rfl (gj_step (y_move rfl) rfl rfl rfl (?_)))
  refine gj_step (y_call Tryz.call180 rfl (fun w hp => k_ins1 A c w)) rfl rfl rfl ?_
  refine gj_nil ?_
  refine ej_th (cj_ret (ej_then_ret (ej_blk_ret (ej_then_ret (ej_blk_ret ?_)))))
  exact ej_ret0 rfl Tryz.results160 (fun w' hp => ⟨rfl, hp.below⟩)

theorem k_sort1 (A : Option Addr) (c : Nat) (w : World)  : Calls Tryz.prog 130 #[.slice A 1 c] w (fun e w' => e = .returned (.tuple #[]) ∧ Grow w w') := by
  refine enter_pure (args := [.slice A 1 c]) [] Tryz.func130 rfl (by rw [Tryz.ntmps130]; simp) (by simp) ?_
  refine cj_seq ?_
  refine cj_regionG (gj_step (y_move rfl) rfl rfl rfl (gj_step (y_lenA Tryz.underlying142 rfl) rfl rfl rfl (gj_step (y_assign rfl) rfl rfl rfl (gj_nil ?_))))
  refine ej_th ?_
  refine cj_regionG ?_
  refine gj_step (y_move rfl) rfl rfl rfl (gj_step (y_move rfl) rfl rfl rfl (gj_step (y_move rfl) rfl rfl rfl (gj_step (y_conv Tryz.underlying3 Tryz.underlying236 rfl) rfl rfl rfl (?_))))
  refine gj_step (y_call Tryz.call108 rfl (fun w hp => k_len w)) rfl rfl rfl ?_
  refine gj_step (y_call Tryz.call160 rfl (fun w hp => k_pdq1 A c w)) rfl rfl rfl ?_
  refine gj_nil ?_
  exact ej_end0 rfl Tryz.results130 (fun w' hp => ⟨rfl, hp.below⟩)

theorem k_meaningsN  (w : World)  : Calls Tryz.prog 98 #[.slice none 0 0] w (fun e w' => ∃ m : Nat, e = .returned (.agg #[.slice none 0 0, .map (some m)]) ∧ Giv [] w w' [mz ekS evM m ([] : List (ByteArray × Option Nat))]) := by
  refine enterO (args := [.slice none 0 0]) [] [] Tryz.func98 rfl (by rw [Tryz.ntmps98]; simp) (fun g hg => by cases hg) (.nil) (fun g hg => by cases hg) ?_
  refine cj_seq (cj_region ?_)
  refine oj_alloc Tryz.zeroValue226 rfl rfl (fun b2 => ?_)
  refine oj_nil ?_
  refine ej_th (cj_seq (cj_region ?_))
  refine oj_step (y_move rfl) rfl rfl rfl ?_
  refine oj_makeMapZ ekS evM rfl (fun m4 => ?_)
  refine oj_step (y_build (cs := [.slice none 0 0, .map (some m4)]) st226 rfl (by kernel_rfl)) rfl rfl rfl ?_
  refine oj_store rfl rfl rfl rfl Tryz.sizeOf226 rfl ?_
  refine oj_nil ?_
  refine ej_th (cj_ret ?_)
  exact ej_retC1 rfl Tryz.results98 rfl (y_loadN Tryz.isAgg226 Tryz.sizeOf226 rfl) (fun w' hp => ⟨m4, rfl, hp.givT _⟩)

theorem k_of1N (s : ByteArray) (b7 b2 b8 m18 m : Nat) (w : World) (hO : ∀ f ∈ [ownB b7 (cellsB 223 [.map (some m18)]), ownB b2 (cellsB 226 [.slice none 0 0, .map (some m)]), mz ekS evB m18 ([] : List (ByteArray × Bool))], f.P w ∧ ∀ b, f.fp b → b < w.heap.size) (hap : [ownB b7 (cellsB 223 [.map (some m18)]), ownB b2 (cellsB 226 [.slice none 0 0, .map (some m)]), mz ekS evB m18 ([] : List (ByteArray × Bool))].Pairwise (fun f g => ∀ b, f.fp b → ¬ g.fp b)) (hS : ∀ f ∈ ([] : List Fact), f.P w ∧ ∀ i, f.fp i → i < w.heap.size ∧ ∀ o ∈ [ownB b7 (cellsB 223 [.map (some m18)]), ownB b2 (cellsB 226 [.slice none 0 0, .map (some m)]), mz ekS evB m18 ([] : List (ByteArray × Bool))], ¬ o.fp i) : Calls Tryz.prog 131 #[.string s, .pointer (some ⟨b7, 0, none⟩), .pointer (some ⟨b2, 0, none⟩), .pointer (some ⟨b8, 0, none⟩)] w (fun e w' => ∃ _ : Unit, e = .returned (.tuple #[]) ∧ Giv [ownB b7 (cellsB 223 [.map (some m18)]), ownB b2 (cellsB 226 [.slice none 0 0, .map (some m)]), mz ekS evB m18 ([] : List (ByteArray × Bool))] w w' [ownB b7 (cellsB 223 [.map (some m18)]), ownB b2 (cellsB 226 [.slice none 0 0, .map (some m)]), mz ekS evB m18 ([(s, true)] : List (ByteArray × Bool))]) := by
  refine enterO (args := [.string s, .pointer (some ⟨b7, 0, none⟩), .pointer (some ⟨b2, 0, none⟩), .pointer (some ⟨b8, 0, none⟩)]) [ownB b7 (cellsB 223 [.map (some m18)]), ownB b2 (cellsB 226 [.slice none 0 0, .map (some m)]), mz ekS evB m18 ([] : List (ByteArray × Bool))] [] Tryz.func131 rfl (by rw [Tryz.ntmps131]; simp) hO hap hS ?_
  refine cj_seq (cj_seq ?_)
  refine cj_regionG (gj_step (y_load1 Tryz.isAgg223 rfl rfl) rfl rfl rfl (gj_step (y_move rfl) rfl rfl rfl (gj_step (y_lookupZ1 (ek := ekS) (ev := evB) (kk := s) false Tryz.underlying223 Tryz.underlying9 Tryz.zeroValue4 rfl rfl) rfl rfl rfl (gj_nil ?_))))
  refine ej_th ?_
  refine cj_condF rfl (rfl) ?_
  refine cj_skip (ej_th (cj_seq (cj_region ?_)))
  refine oj_step (y_load1 Tryz.isAgg223 rfl rfl) rfl rfl rfl ?_
  refine oj_step (y_move rfl) rfl rfl rfl ?_
  refine oj_mapUpdateZ (ek := ekS) (ev := evB) (kk := s) (v := true) Tryz.underlying223 Tryz.underlying9 rfl rfl rfl ?_
  refine oj_nil ?_
  refine ej_th (cj_seq ?_)
  refine cj_regionG (gj_step (y_fa0 fa226_0 rfl) rfl rfl rfl (gj_step (y_load1 Tryz.isAgg220 rfl rfl) rfl rfl rfl (gj_step (y_lenA Tryz.underlying220 rfl) rfl rfl rfl (gj_step (y_move rfl) rfl rfl rfl (gj_nil ?_)))))
  refine ej_th (cj_block ?_)
  refine cj_lpic (X := Unit) [(0, _), (3, _), (13, _), (14, _)] (fun _ => True) (fun _ => [(15, .int .i64 0)]) (fun _ => 0) () (trivial) ⟨rfl, rfl, rfl, rfl, rfl, trivial⟩ ?_
  rintro _ -
  dsimp only [List.cons_append, List.nil_append]
  refine cj_seq ?_
  refine cj_regionG (gj_step (y_lss rfl rfl) rfl rfl rfl (gj_nil ?_))
  refine ej_th (cj_seq ?_)
  refine cj_condF rfl (by decide) ?_
  refine cj_exit (ej_then_exit (ej_then_exit (ej_blk_hit ?_)))
  rw [show putL ([] : List (ByteArray × Bool)) s true = [(s, true)] from rfl]
  exact ej_end0 rfl Tryz.results131 (fun w' hp => ⟨(), rfl, hp.givT _⟩)

set_option maxHeartbeats 400000 in
theorem k_ofN (s : ByteArray) (m : Nat) (w : World) (hO : ∀ f ∈ [mz ekS evM m ([] : List (ByteArray × Option Nat))], f.P w ∧ ∀ b, f.fp b → b < w.heap.size) (hap : [mz ekS evM m ([] : List (ByteArray × Option Nat))].Pairwise (fun f g => ∀ b, f.fp b → ¬ g.fp b)) (hS : ∀ f ∈ ([] : List Fact), f.P w ∧ ∀ i, f.fp i → i < w.heap.size ∧ ∀ o ∈ [mz ekS evM m ([] : List (ByteArray × Option Nat))], ¬ o.fp i) : Calls Tryz.prog 99 #[.agg #[.slice none 0 0, .map (some m)], .string s] w (fun e w' => ∃ m2 : Nat, e = .returned (.map (some m2)) ∧ Giv [mz ekS evM m ([] : List (ByteArray × Option Nat))] w w' [mz ekS evB m2 ([(s, true)] : List (ByteArray × Bool))]) := by
  refine enterO (args := [.agg #[.slice none 0 0, .map (some m)], .string s]) [mz ekS evM m ([] : List (ByteArray × Option Nat))] [] Tryz.func99 rfl (by rw [Tryz.ntmps99]; simp) hO hap hS ?_
  refine cj_seq (cj_region ?_)
  refine oj_box rfl rfl rfl (fun b2 => ?_)
  refine oj_step (y_assign rfl) rfl rfl rfl ?_
  refine oj_nil ?_
  refine ej_th (cj_seq (cj_seq ?_))
  refine cj_regionG (gj_step (y_fa fa226_1 rfl) rfl rfl rfl (gj_step (y_load1 Tryz.isAgg224 rfl rfl) rfl rfl rfl (gj_step (y_move rfl) rfl rfl rfl (gj_step (y_lookupZ (ek := ekS) (ev := evM) (kk := s) none Tryz.underlying224 Tryz.underlying9 Tryz.zeroValue223 rfl rfl) rfl rfl rfl (gj_step (y_move rfl) rfl rfl rfl (gj_step (y_extract rfl rfl) rfl rfl rfl (gj_step (y_extract rfl rfl) rfl rfl rfl (gj_step (y_assign rfl) rfl rfl rfl (gj_step (y_assign rfl) rfl rfl rfl (gj_nil ?_))))))))))
  refine ej_th (cj_seq ?_)
  refine cj_regionG (gj_step (y_move rfl) rfl rfl rfl (gj_nil ?_))
  refine ej_th ?_
  refine cj_condF rfl (rfl) ?_
  refine cj_skip (ej_th (cj_seq (cj_region ?_)))
  refine oj_makeMapZ ekS evB rfl (fun m18 => ?_)
  refine oj_alloc Tryz.zeroValue223 rfl rfl (fun b7 => ?_)
  refine oj_store rfl rfl rfl rfl Tryz.sizeOf223 rfl ?_
  refine oj_nil ?_
  refine ej_th (cj_seq (cj_region ?_))
  refine oj_alloc Tryz.zeroValue267 rfl rfl (fun b8 => ?_)
  refine oj_nil ?_
  refine ej_th (cj_seq (cj_region ?_))
  refine oj_step (y_makeFunc rfl rfl) rfl rfl rfl ?_
  refine oj_store rfl rfl rfl rfl Tryz.sizeOf267 rfl ?_
  refine oj_nil ?_
  refine ej_th (cj_seq (cj_region ?_))
  refine oj_step (y_load1 Tryz.isAgg267 rfl rfl) rfl rfl rfl ?_
  refine oj_step (y_move rfl) rfl rfl rfl ?_
  refine oj_callL (X := Unit) (fun _ => .tuple #[]) [ownB b7 (cellsB 223 [.map (some m18)]), ownB b2 (cellsB 226 [.slice none 0 0, .map (some m)]), mz ekS evB m18 ([] : List (ByteArray × Bool))] (fun _ => [ownB b7 (cellsB 223 [.map (some m18)]), ownB b2 (cellsB 226 [.slice none 0 0, .map (some m)]), mz ekS evB m18 ([(s, true)] : List (ByteArray × Bool))]) Tryz.call131 rfl rfl (fun w1 hp => by
    obtain ⟨q1, q2, _⟩ := hp.ownL (Os := [ownB b7 (cellsB 223 [.map (some m18)]), ownB b2 (cellsB 226 [.slice none 0 0, .map (some m)]), mz ekS evB m18 ([] : List (ByteArray × Bool))]) inferInstance
    exact k_of1N s b7 b2 b8 m18 m w1 q1 q2 (fun f hf => by cases hf)) rfl (fun _ => ?_)
  dsimp only [List.cons_append, List.nil_append]
  refine oj_nil ?_
  refine ej_th (cj_seq (cj_region ?_))
  refine oj_step (y_fa fa226_1 rfl) rfl rfl rfl ?_
  refine oj_step (y_load1 Tryz.isAgg224 rfl rfl) rfl rfl rfl ?_
  refine oj_step (y_move rfl) rfl rfl rfl ?_
  refine oj_step (y_load1 Tryz.isAgg223 rfl rfl) rfl rfl rfl ?_
  refine oj_mapUpdateZ (ek := ekS) (ev := evM) (kk := s) (v := some m18) Tryz.underlying224 Tryz.underlying9 rfl rfl rfl ?_
  refine oj_nil ?_
  refine ej_th (cj_seq ?_)
  refine cj_regionG (gj_step (y_load1 Tryz.isAgg223 rfl rfl) rfl rfl rfl (gj_step (y_assign rfl) rfl rfl rfl (gj_nil ?_)))
  refine ej_th (cj_ret ?_)
  exact ej_ret1 rfl Tryz.results99 rfl (fun w' hp => ⟨m18, rfl, hp.givT _⟩)

end Go.Proofs.YtppfniekcgnmjaaGreatDoor.Wa
namespace Go.Proofs.YtppfniekcgnmjaaGreatDoor.Wa
open Go.Sx Go.RowKit
set_option maxRecDepth 20000
theorem el142 : ElemIs Tryz.prog 142 9 1 16 := ⟨⟨_, (.string ⟨#[]⟩), Tryz.underlying142, Tryz.type9, by kernel_rfl, by kernel_rfl, by kernel_rfl, by kernel_rfl, by decide⟩⟩
end Go.Proofs.YtppfniekcgnmjaaGreatDoor.Wa
namespace Go.Proofs.YtppfniekcgnmjaaGreatDoor.Wa
open Go.Sx Go.RowKit Um
set_option maxRecDepth 20000
theorem k_ordered1 (s : ByteArray) (m2 : Nat) (w : World) (hO : ∀ f ∈ [mz ekS evB m2 ([(s, true)] : List (ByteArray × Bool))], f.P w ∧ ∀ b, f.fp b → b < w.heap.size) (hap : [mz ekS evB m2 ([(s, true)] : List (ByteArray × Bool))].Pairwise (fun f g => ∀ b, f.fp b → ¬ g.fp b)) (hS : ∀ f ∈ ([] : List Fact), f.P w ∧ ∀ i, f.fp i → i < w.heap.size ∧ ∀ o ∈ [mz ekS evB m2 ([(s, true)] : List (ByteArray × Bool))], ¬ o.fp i) : Calls Tryz.prog 97 #[.map (some m2)] w (fun e w' => ∃ z : Option Addr × Nat, e = .returned (.slice z.1 1 z.2) ∧ Giv [mz ekS evB m2 ([(s, true)] : List (ByteArray × Bool))] w w' [ow 9 1 enStr z.1 z.2 [s]]) := by
  refine enterO (args := [.map (some m2)]) [mz ekS evB m2 ([(s, true)] : List (ByteArray × Bool))] [] Tryz.func97 rfl (by rw [Tryz.ntmps97]; simp) hO hap hS ?_
  refine cj_seq ?_
  refine cj_regionG (gj_step (y_assign rfl) rfl rfl rfl (gj_nil ?_))
  refine ej_th (cj_seq ?_)
  refine cj_regionG (gj_step (y_assign rfl) rfl rfl rfl (gj_nil ?_))
  refine ej_th (cj_seq (cj_seq (cj_region ?_)))
  refine oj_step (y_move rfl) rfl rfl rfl ?_
  refine oj_rangeZ (ek := ekS) (ev := evB) Tryz.underlying223 rfl rfl (fun r6 => ?_)
  refine oj_nil ?_
  refine ej_th (cj_block ?_)
  refine cj_ownNil 9 1 enStr ?_
  refine cj_swapO ?_
  refine cj_lpi (X := List (ByteArray × Bool) × Option (ByteArray × Bool) × Option Addr × Nat × List ByteArray) [(2, _), (6, _)] (fun ⟨left, cur, A1, c1, outs⟩ => (left = [(s, true)] ∧ outs = []) ∨ (left = [] ∧ outs = [s])) (fun ⟨left, cur, A1, c1, outs⟩ => [(3, .slice A1 outs.length c1)]) (fun ⟨left, cur, A1, c1, outs⟩ => [mit ekS evB m2 r6 left cur, ow 9 1 enStr A1 c1 outs]) (fun ⟨left, cur, A1, c1, outs⟩ => []) (fun ⟨left, cur, A1, c1, outs⟩ => left.length) ([(s, true)], none, none, 0, []) (.inl ⟨rfl, rfl⟩) ⟨rfl, rfl, rfl, trivial⟩ ?_
  rintro ⟨left, cur, A1, c1, outs⟩ hinv
  dsimp only [List.cons_append, List.nil_append]
  refine cj_seq (cj_region ?_)
  refine oj_nextZ (ek := ekS) (ev := evB) rfl rfl (fun p hpn => ?_)
  refine oj_step (y_extractNx rfl) rfl rfl rfl ?_
  refine oj_nil ?_
  refine ej_th (cj_seq ?_)
  refine cj_cond rfl (fun h8 => ?_) (fun h8 => ?_)
  · have h8b := h8
    try simp only [sxb] at h8
    obtain ⟨⟨i, p⟩, rfl⟩ := nx_some h8b
    have hpi : left[i]? = some p := hpn
    have hlp : left = [(s, true)] ∧ outs = [] ∧ i = 0 ∧ p = (s, true) := by
      rcases hinv with ⟨rfl, rfl⟩ | ⟨rfl, rfl⟩
      · cases i with
        | zero => simp at hpi; exact ⟨rfl, rfl, rfl, hpi.symm⟩
        | succ i => simp at hpi
      · simp at hpi
    obtain ⟨rfl, rfl, rfl, rfl⟩ := hlp
    dsimp only [nxL, nxC]
    rw [show [(s, true)].eraseIdx 0 = [] from rfl]
    refine cj_skip (ej_th (cj_block (cj_seq ?_)))
    refine cj_regionG (gj_step (y_entryZ (ek := ekS) (ev := evB) (p := (s, true)) rfl rfl) rfl rfl rfl (gj_step (y_extract rfl rfl) rfl rfl rfl (gj_step (y_assign rfl) rfl rfl rfl (gj_nil ?_))))
    refine ej_th (cj_region ?_)
    refine oj_step (y_move rfl) rfl rfl rfl ?_
    refine oj_step (y_move rfl) rfl rfl rfl ?_
    refine oj_buildSlice (cs := [.string s]) [.string ⟨#[]⟩] Tryz.underlying142 Tryz.sizeOf9 Tryz.zeroValue9 rfl rfl (by kernel_rfl) (by kernel_rfl) rfl (fun b13 => ?_)
    refine oj_append  el142 (fun _ => rfl) enStr_one rfl rfl rfl (reads_lit (sz := 1) [s] (fun _ => rfl) rfl) (by unfold maxLen; simp only [List.length_append, List.length_cons, List.length_nil]; omega) (by simp only [List.length_append, List.length_cons, List.length_nil]; omega) rfl (fun A14 c14 => ?_)
    refine oj_step (y_assign rfl) rfl rfl rfl ?_
    refine oj_nil ?_
    refine ej_blk ?_
    exact ej_nx ([], some (s, true), A14, c14, [] ++ [s]) (by simp) (.inr ⟨rfl, rfl⟩) ⟨rfl, rfl, rfl, trivial⟩
  · have h8b := h8
    try simp only [sxb] at h8
    have hpn2 := nx_none h8b
    subst hpn2
    have hle : left = [] := hpn
    subst hle
    have hout : outs = [s] := by
      rcases hinv with ⟨h, _⟩ | ⟨_, h⟩
      · cases h
      · exact h
    subst hout
    refine cj_exit (ej_then_exit (ej_then_exit (ej_blk_hit (ej_th (cj_seq ?_)))))
    refine cj_regionG ?_
    refine gj_step (y_move rfl) rfl rfl rfl (?_)
    refine gj_step (y_call Tryz.call130 rfl (fun w hp => k_sort1 A1 c1 w)) rfl rfl rfl ?_
    refine gj_nil ?_
    refine ej_th (cj_seq ?_)
    refine cj_regionG (gj_step (y_move rfl) rfl rfl rfl (gj_step (y_assign rfl) rfl rfl rfl (gj_nil ?_)))
    refine ej_th (cj_ret ?_)
    exact ej_ret1 rfl Tryz.results97 rfl (fun w' hp => ⟨(A1, c1), rfl, hp.givT _⟩)

theorem k_Means1 (s : ByteArray) (w : World)  : Calls Tryz.prog 59 #[.slice none 0 0, .string s] w (fun e w' => ∃ A c, e = .returned (.tuple #[.slice A ([s] : List ByteArray).length c, .int .i64 0]) ∧ Grow w w' ∧ Res w w' 1 enStr A [s]) := by
  refine enter_pure (args := [.slice none 0 0, .string s]) [] Tryz.func59 rfl (by rw [Tryz.ntmps59]; simp) (by simp) ?_
  refine cj_seq ?_
  refine cj_regionG (gj_step (y_assign rfl) rfl rfl rfl (gj_step (y_assign rfl) rfl rfl rfl (gj_nil ?_)))
  refine ej_th (cj_seq (cj_seq ?_))
  refine cj_regionG ?_
  refine gj_step (y_move rfl) rfl rfl rfl (?_)
  refine gj_step (y_call Tryz.call96 rfl (fun w hp => by
    have h := k_CheckPairs [] none 0 w Rd.nil (fun p h => by cases h)
    rw [show pairsE Pl.isW [] = 0 from rfl] at h
    exact h)) rfl rfl rfl ?_
  refine gj_step (y_assign rfl) rfl rfl rfl (?_)
  refine gj_nil ?_
  refine ej_th (cj_seq ?_)
  refine cj_regionG (gj_step (y_move rfl) rfl rfl rfl (gj_step (y_neq rfl rfl) rfl rfl rfl (gj_nil ?_)))
  refine ej_th ?_
  refine cj_condF rfl (by decide) ?_
  refine cj_skip (ej_th (cj_seq (cj_region ?_)))
  refine oj_step (y_move rfl) rfl rfl rfl ?_
  refine oj_callL (X := Nat) (fun m => .agg #[.slice none 0 0, .map (some m)]) [] (fun m => [mz ekS evM m ([] : List (ByteArray × Option Nat))]) Tryz.call98 rfl rfl (fun w1 hp => k_meaningsN w1) rfl (fun m13 => ?_)
  dsimp only [List.cons_append, List.nil_append]
  refine oj_step (y_move rfl) rfl rfl rfl ?_
  refine oj_callL (X := Nat) (fun m2 => .map (some m2)) [mz ekS evM m13 ([] : List (ByteArray × Option Nat))] (fun m2 => [mz ekS evB m2 ([(s, true)] : List (ByteArray × Bool))]) Tryz.call99 rfl rfl (fun w1 hp => by
    obtain ⟨q1, q2, _⟩ := hp.ownL (Os := [mz ekS evM m13 ([] : List (ByteArray × Option Nat))]) inferInstance
    exact k_ofN s m13 w1 q1 q2 (fun f hf => by cases hf)) rfl (fun m15 => ?_)
  dsimp only [List.cons_append, List.nil_append]
  refine oj_callL (X := Option Addr × Nat) (fun z => .slice z.1 1 z.2) [mz ekS evB m15 ([(s, true)] : List (ByteArray × Bool))] (fun z => [ow 9 1 enStr z.1 z.2 [s]]) Tryz.call97 rfl rfl (fun w1 hp => by
    obtain ⟨q1, q2, _⟩ := hp.ownL (Os := [mz ekS evB m15 ([(s, true)] : List (ByteArray × Bool))]) inferInstance
    exact k_ordered1 s m15 w1 q1 q2 (fun f hf => by cases hf)) rfl ?_
  rintro ⟨A16, c16⟩
  dsimp only [List.cons_append, List.nil_append]
  refine oj_step (y_assign rfl) rfl rfl rfl ?_
  refine oj_step (y_assign rfl) rfl rfl rfl ?_
  refine oj_nil ?_
  refine ej_th (cj_ret ?_)
  exact ej_ret2 rfl Tryz.results59 rfl rfl (fun w' hp => ⟨A16, c16, rfl, hp.below, hp.res (fun _ => rfl) (by unfold maxLen; simp)⟩)

end Go.Proofs.YtppfniekcgnmjaaGreatDoor.Wa
namespace Go.Sx
open Go.RowKit
/-- Where the rest lies behind k elements. -/
def posT (N k : Nat) : Nat := if k < N then k else N - 1
abbrev rstV (bs N k : Nat) : Value := .slice (some ⟨bs, posT N k, none⟩) (N - k) (N - k)
section
variable {C : Cx} {Q : Exit → Act → World → Prop} {L : Regs} {O S : List Fact} {ops : Array Oper} {rest : List Oper} {ty : TypeId} {pos : String} {aft : Array Edge} {dst : Option Tmp} {gu : Option (Nat × Bool)} {t : TypeId} {x y : Operand}
theorem at_b (b k : Nat) : at_ (some (⟨b, 0, none⟩ : Addr)) (k * 1) = ⟨b, k, none⟩ := by
  show (⟨b, 0, none⟩ : Addr).add (k * 1) = _
  rw [addr_add]; simp
theorem y_ixT {s e N k bs : Nat} {kk : IntKind} (hk : k < N) (hu : C.P.underlying s = some (.slice e)) (hs : ∀ w, (sizeOf e).run C.P w = .ok 1 w) (hx : val L x = some (rstV bs N k)) (hy : val L y = some (.int kk 0)) :
    Yi C ⟨dst, .indexAddr s x y, ty, pos, aft, gu⟩ L O S (.pointer (some (at_ (some ⟨bs, 0, none⟩) (k * 1)))) := by
  have h := y_ix (C := C) (O := O) (S := S) (dst := dst) (ty := ty) (pos := pos) (aft := aft) (gu := gu) hu hs hx hy ⟨Int.le_refl _, by omega⟩ (by simp)
  have e1 : at_ (some (⟨bs, posT N k, none⟩ : Addr)) ((0 : Int).toNat * 1) = at_ (some ⟨bs, 0, none⟩) (k * 1) := by
    rw [at_b]
    show (⟨bs, posT N k, none⟩ : Addr).add ((0 : Int).toNat * 1) = _
    rw [addr_add, posT, if_pos hk]; rfl
  rw [e1] at h
  exact h
theorem y_sliceT {e N k bs : Nat} (hk : k < N) (hu : C.P.underlying t = some (.slice e)) (hs : ∀ w, (sizeOf e).run C.P w = .ok 1 w) (hx : val L x = some (rstV bs N k)) (hy : val L y = some (.int .i64 (1 : Nat))) :
    Yi C ⟨dst, .slice t x (some y) none none, ty, pos, aft, gu⟩ L O S (rstV bs N (k + 1)) := by
  have h := y_slice (C := C) (O := O) (S := S) (dst := dst) (ty := ty) (pos := pos) (aft := aft) (gu := gu) (lo := some y) (hi := none) (l := 1) (h := N - k) hu hs hx hy rfl (by omega) (Nat.le_refl _)
  have e1 : (if N - k = 1 then some (⟨bs, posT N k, none⟩ : Addr) else (some (⟨bs, posT N k, none⟩ : Addr)).map (·.add (1 * 1))) = some ⟨bs, posT N (k + 1), none⟩ := by
    unfold posT
    by_cases h1 : N - k = 1
    · rw [if_pos h1, if_pos hk, if_neg (by omega)]
      have : k = N - 1 := by omega
      rw [this]
    · rw [if_neg h1, if_pos hk, if_pos (by omega)]
      show some ((⟨bs, k, none⟩ : Addr).add (1 * 1)) = _
      rw [addr_add]
  rw [e1] at h
  show Yi C _ L O S (.slice _ (N - (k + 1)) (N - (k + 1)))
  rw [show N - (k + 1) = N - k - 1 by omega]
  exact h
end
end Go.Sx
namespace Go.Sx
open Go.RowKit
theorem Hp.belowN {w0 w : World} {O S : List Fact} (h : Hp (FrO w0 []) w0 O S w) : Grow w0 w := ⟨h.os, h.tape, h.output, h.size, fun b hb => (h.fr b ⟨hb, fun _ h => by cases h⟩).2⟩
section
variable {C : Cx} {Q : Exit → Act → World → Prop} {L : Regs} {O S : List Fact} {ops : Array Oper} {rest : List Oper}
/-- A slice from a place on. -/
theorem y_dropR {α : Type} {dst : Option Tmp} {gu : Option (Nat × Bool)} {ty t e : TypeId} {pos : String} {aft : Array Edge} {x y : Operand} {sz c : Nat} {A : Option Addr} {xs : List α} (l : Nat) (hu : C.P.underlying t = some (.slice e)) (hs : ∀ w, (sizeOf e).run C.P w = .ok sz w) (hx : val L x = some (.slice A xs.length c)) (hy : val L y = some (.int .i64 (l : Nat))) (hl : l ≤ xs.length) (hc : xs.length ≤ c) :
    Yi C ⟨dst, .slice t x (some y) none none, ty, pos, aft, gu⟩ L O S (.slice (subA A c l sz) (xs.drop l).length (c - l)) := by
  have h := y_sliceR (C := C) (O := O) (S := S) (dst := dst) (ty := ty) (pos := pos) (aft := aft) (gu := gu) (lo := some y) (hi := none) l xs.length hu hs hx hy rfl hl (Nat.le_refl _) hc
  rwa [List.take_length] at h
/-- Parts of a text. -/
theorem y_partS {dst : Option Tmp} {gu : Option (Nat × Bool)} {ty t : TypeId} {pos : String} {aft : Array Edge} {x y z : Operand} {s : ByteArray} {l h : Nat} (ht : C.P.underlying t = some .string) (hx : val L x = some (.string s)) (hy : val L y = some (.int .i64 (l : Nat))) (hz : val L z = some (.int .i64 (h : Nat))) (h1 : l ≤ h) (h2 : h ≤ s.size) :
    Yi C ⟨dst, .slice t x (some y) (some z) none, ty, pos, aft, gu⟩ L O S (.string (s.extract l h)) :=
  yi_val (by intro c h; cases h) fun a w hr _ => by
    have e := run_slice_string w t s .i64 .i64 (l : Int) (h : Int) ht (by omega) (by omega) (by omega)
    rw [Int.toNat_natCast, Int.toNat_natCast] at e
    simp only [execOp, hr.val hx, hr.val hy, hr.val hz, Option.map_some, Option.map_none]
    rw [Sem.run_bind, run_sliceAt_string w t _ _ _ _ ht, e]; rfl
theorem y_tailS {dst : Option Tmp} {gu : Option (Nat × Bool)} {ty t : TypeId} {pos : String} {aft : Array Edge} {x y : Operand} {s : ByteArray} {l : Nat} (ht : C.P.underlying t = some .string) (hx : val L x = some (.string s)) (hy : val L y = some (.int .i64 (l : Nat))) (h1 : l ≤ s.size) :
    Yi C ⟨dst, .slice t x (some y) none none, ty, pos, aft, gu⟩ L O S (.string (s.extract l s.size)) :=
  yi_val (by intro c h; cases h) fun a w hr _ => by
    have e := run_slice_string_l w t s ht .i64 (l : Int) (by omega) (by omega)
    rw [Int.toNat_natCast] at e
    simp only [execOp, hr.val hx, hr.val hy, Option.map_some, Option.map_none]
    rw [Sem.run_bind, run_sliceAt_string w t _ _ _ _ ht, e]; rfl
theorem oj_frzT {R : List Fact} (o f : Fact) [ht : Takes O [o] R] (hP : ∀ w, Hp C.F C.w0 O S w → f.P w) (hfp : ∀ b, f.fp b → o.fp b ∨ ∃ g ∈ S, g.fp b) (k : OJ C ops Q rest L R (f :: S)) : OJ C ops Q rest L O S :=
  fun a w hr hp => k a w hr (Hp.frzS (hp.permO ht.perm) o f (List.Sublist.refl _) (hP w hp) hfp)
/-- It panics: the deferred call recovers, takes what is one's own, and gives other things back. -/
theorem ej_panL {fn : Func} {R : Ending → World → Prop} {g : FuncId} {ca : Array Value} {ch ch' : List PanicEntry} (Os Ps : List Fact) {R1 : List Fact} [ht : Takes O Os R1] (hD : C.D = [⟨.fn (.func g) ca, #[]⟩]) (hf : ∀ args w, (callFunc g args).run C.P w = .ok (.enter g args) w) (hs : settle (.panicking ch') = .returning)
    (hc : ∀ w, Hp C.F C.w0 O S w → CallsD C.P g ca (.panicking ch) w (fun e u' w' => (∃ v, e = .returned v) ∧ u' = .panicking ch' ∧ Giv Os w w' Ps))
    (hres : ∀ a w, RegsOk C.N C.D L a → Hp C.F C.w0 (Ps ++ R1) S w → ∃ v, (results fn a.tmps).run C.P w = .ok v w ∧ R (.returned v) w) : EJ C (bodyPostD C.P fn R) (.panic ch) L O S := fun a w hr hp => by
  show Leaves C.P fn a.tmps R a.defers (.panicking ch) w
  rw [hr.defers, hD]
  refine ⟨by simp, _, _, g, ca, rfl, by simp [invoke, hf], ?_⟩
  intro c₀ cs hu0
  obtain ⟨e, u', w', fr, ⟨⟨v, rfl⟩, rfl, hg⟩, h1, h2, h3⟩ := hc w hp c₀ cs hu0
  refine ⟨_, _, w', fr, ?_, h1, h2, h3⟩
  show Leaves C.P fn a.tmps R [] (settle (.panicking ch')) w'
  rw [hs]
  exact hres a w' hr (hp.takeGiv ht.perm hg)
end
end Go.Sx
namespace Go.Sx
open Go.RowKit
/-- W' is W, but for the block b, and may have grown. -/
structure PutB (b : Nat) (o : Obj) (W W' : World) : Prop where
  os : W'.os = W.os
  tape : W'.tape = W.tape
  output : W'.output = W.output
  size : W.heap.size ≤ W'.heap.size
  same : ∀ i, i < W.heap.size → i ≠ b → W'.heap[i]? = W.heap[i]?
  at_ : W'.heap[b]? = some o
/-- As Iter; the iterator's own block b holds 'ob k' when the k-th element is handed over. -/
def IterC {α : Type} (P : Program) (gf : Nat) (lb : Array Value) (encs : α → List Value) (xs : List α) (b : Nat) (ob : Nat → Obj) (Sit : List Fact) : Prop :=
  ∀ (l : Nat) (J : Nat → Obj → World → Prop) (Jx : World → Prop) (W : World), (∀ k o W W', J k o W → Grow W W' → J k o W') → (∀ k o o' W W', J k o W → PutB b o' W W' → J k o' W') →
    (∀ k o W, J k o W → W.heap[b]? = some o ∧ ∀ g ∈ Sit, g.P W ∧ ∀ i, g.fp i → i < W.heap.size ∧ i ≠ b) → (∀ W W', Jx W → Grow W W' → Jx W') →
    (∀ k x W, xs[k]? = some x → J k (ob k) W → YieldAt (FR none) 0 P l (encs x).toArray W (fun e W' => (e = .returned (.bool true) ∧ J (k + 1) (ob k) W') ∨ (e = .returned (.bool false) ∧ Jx W'))) → J 0 (ob 0) W →
    Calls P gf (#[.func (.yield l) #[] #[]] ++ lb) W (fun e W' => (∃ v, e = .returned v) ∧ (J xs.length (ob xs.length) W' ∨ Jx W'))

section
variable {P : Program} {F : Nat → Prop} {w0 : World} {N : Nat} {S : List Fact}
/-- THE CALLER'S RULE. -/
theorem cj_rangeC {α Y Z : Type} {g : Operand} {ps : List Tmp} {assign body : Code} {Q : Exit → Act → World → Prop} {L : Regs} {O : List Fact} {gf b : Nat} {ob : Nat → Obj} {lb : Array Value} {encs : α → List Value} {xs : List α} {Sit : List Fact}
    (hseq : IterC P gf lb encs xs b ob Sit) (inv : Nat → Y → Prop) (Ox : Nat → Y → List Fact) (cz : Z → Code) (Oz : Z → List Fact) (y0 : Y) (h0 : inv 0 y0)
    (hg : val L g = some (.func (.func gf) #[] lb)) (hf : ∀ args w, (callFunc gf args).run P w = .ok (.enter gf args) w) (hps : ∀ x, (encs x).length = ps.length) (hpN : (ps.all fun p => Nat.blt p N) = true) [hO : SubO (ownB b (ob 0) :: Ox 0 y0) O] [hSit : SubO Sit S]
    (round : ∀ (l Db : Nat) (r0 r1 : Obj) k x y, xs[k]? = some x → inv k y → CJ (CR P F w0 N l) assign (BegQ (CR P F w0 N l) S l r0 r1 body (BodyQ F w0 S l Db r1 (inv (k + 1)) (fun y => ownB b (ob k) :: Ox (k + 1) y) cz Oz)) (parR (ps.zip (encs x)) L) (ownB l r0 :: ownB Db (.deferred (some [])) :: ownB b (ob k) :: Ox k y) S)
    (done : ∀ Db y, inv xs.length y → EJ ⟨P, none, F, w0, N, [⟨.collected Db, #[]⟩]⟩ Q .normal L (ownB Db (.deferred (some [])) :: ownB b (ob xs.length) :: Ox xs.length y) S)
    (stop : ∀ Db z, CJ ⟨P, none, F, w0, N, [⟨.collected Db, #[]⟩]⟩ (cz z) Q L (ownB Db (.deferred (some [])) :: Oz z) S) :
    CJ ⟨P, none, F, w0, N, []⟩ (.rangeFunc g ps.toArray assign body) Q L O S := by
  intro a w hr hp
  refine wpIn_rangeFunc (n := 0) ?_
  intro fn hfn
  obtain ⟨rec, hrec⟩ : ∃ rec : LoopState → Option Code → Loop, rec = fun st pe => { state := st, pending := pe, fn, tmps := a.tmps, params := ps.toArray, assign, body, defers := w.heap.size } := ⟨_, rfl⟩
  obtain ⟨W1, hW1⟩ : ∃ W1, (w.alloc (.deferred (some []))).alloc (.loop (rec .ready none)) = W1 := ⟨_, rfl⟩
  have hpW : Hp F w0 (ownB (w.heap.size + 1) (.loop (rec .ready none)) :: ownB w.heap.size (.deferred (some [])) :: ownB b (ob 0) :: Ox 0 y0) S W1 := by
    rw [← hW1]
    have h1 : Hp F w0 (ownB w.heap.size (.deferred (some [])) :: ownB b (ob 0) :: Ox 0 y0) S (w.alloc (.deferred (some []))) :=
      (hp.sub hO.sub (fun _ h => h)).addO ((Below.refl _ _).alloc (Nat.le_refl _) _) _ (heap_alloc_new w _) (fun b hb => by
        have : b = w.heap.size := hb
        subst this; simp)
    refine h1.addO ((Below.refl _ _).alloc (Nat.le_refl _) _) _ ?_ (fun b hb => by
      have : b = w.heap.size + 1 := hb
      subst this; simp)
    have := heap_alloc_new (w.alloc (.deferred (some []))) (.loop (rec .ready none))
    rwa [World.size_alloc] at this
  refine ⟨w.heap.size + 1, [{ target := .collected w.heap.size, args := #[] }], W1, { target := .fn (.func gf) lb, args := #[.func (.yield (w.heap.size + 1)) #[] #[]] }, W1, gf,
    #[.func (.yield (w.heap.size + 1)) #[] #[]] ++ lb, W1, ?_, ?_, fun _ _ => trivial, ?_, (fun h => by cases h), ?_⟩
  · rw [← hW1, hrec]; exact run_enterLoop_outer _ _ _ _ _
  · simp only [resolve, hr.val hg]
    simp [go_sem]
  · simp [invoke, hf]
  · refine callsIn_FR.2 ((hseq (w.heap.size + 1) (fun k o W => ∃ y, inv k y ∧ Hp F w0 (ownB (w.heap.size + 1) (.loop (rec .ready none)) :: ownB w.heap.size (.deferred (some [])) :: ownB b o :: Ox k y) S W)
      (fun W => ∃ z, Hp F w0 (ownB (w.heap.size + 1) (.loop (rec .done (some (cz z)))) :: ownB w.heap.size (.deferred (some [])) :: Oz z) S W) W1 ?_ ?_ ?_ ?_ ?_ ⟨y0, h0, hpW⟩).mono ?_)
    · rintro k o W W' ⟨y, hi, h⟩ hgr; exact ⟨y, hi, h.grow hgr⟩
    · rintro k o o' W W' ⟨y, hi, h⟩ hput
      have hlt : b < W.heap.size := ((h.own (ownB b o) (.tail _ (.tail _ (.head _)))).2 b rfl).1
      refine ⟨y, hi, h.write (f := ownB b o) (f' := ownB b o') (.tail _ _ _ _ _ (.tail _ _ _ _ _ (.head _ _ _))) hput.os hput.tape hput.output hput.size (fun i hi hne => hput.same i hi (fun e => hne e)) hput.at_ (fun i hi => ?_)⟩
      have : i = b := hi
      subst this
      exact ⟨Nat.lt_of_lt_of_le hlt hput.size, .inl rfl⟩
    · rintro k o W ⟨y, hi, h⟩
      refine ⟨h.at (.tail _ (.tail _ (.head _))), fun g hg' => ?_⟩
      have h9 := h.shared g (hSit.sub.subset hg')
      exact ⟨h9.1, fun i hi => ⟨h9.2.1 i hi, fun e => h9.2.2 (ownB b o) (.tail _ (.tail _ (.head _))) i hi e⟩⟩
    · rintro W W' ⟨z, h⟩ hgr; exact ⟨z, h.grow hgr⟩
    · rintro k x W hx ⟨y, hi, h⟩
      have hl : W.heap[w.heap.size + 1]? = some (.loop (rec .ready none)) := h.at (List.mem_cons_self ..)
      have hy := run_yield (P := P) (args := (encs x).toArray) hl (by rw [hrec]; simpa using hps x)
      rw [hrec] at hy
      refine ⟨fn, _, assign, body, hy, roundIn_of_wpIn hfn ?_⟩
      have hreg : RegsOk N [] (parR (ps.zip (encs x)) L) ⟨(ps.toArray.zip (encs x).toArray).foldl (fun tmps (t, a) => tmps.setIfInBounds t a) a.tmps, []⟩ := by
        have h1 := parR_ok (D := []) (ps.zip (encs x)) L a.tmps (fun p hp => by
          have := List.all_eq_true.1 hpN p.1 (List.of_mem_zip hp).1
          simpa [Nat.blt_eq] using this) ⟨rfl, hr.size, hr.look⟩
        have e : (ps.toArray.zip (encs x).toArray).foldl (fun tmps (t, a) => tmps.setIfInBounds t a) a.tmps = (ps.zip (encs x)).foldl (fun t p => t.setIfInBounds p.1 p.2) a.tmps := by simp
        rw [e]; exact h1
      refine wpIn_mono (round _ w.heap.size (.loop (rec .ready none)) (.loop (rec .busy none)) k x y hx hi _ W hreg h) ?_
      intro e a1 w1 hq
      cases e <;> first | exact (show False from hq).elim | skip
      obtain ⟨L1, O1, O2, hr1, hp1, hrep, hb⟩ := hq
      have hl1 : w1.heap[w.heap.size + 1]? = some (.loop (rec .ready none)) := hp1.at hrep.mem
      refine ⟨_, run_beginRound hl1 (by rw [hrec]), ?_⟩
      have hp2 := hp1.put hrep
      have hbusy : ({ rec .ready none with state := .busy } : Loop) = rec .busy none := by rw [hrec]
      rw [hbusy]
      refine wpIn_mono (hb a1 _ hr1 hp2) ?_
      intro e a2 w2 hq2
      have fin : ∀ (jump : Option Code) (Oq : List Fact), Hp F w0 (ownB (w.heap.size + 1) (.loop (rec .busy none)) :: ownB w.heap.size (.deferred (some [])) :: Oq) S w2 →
          ∃ w3, (Instr.endRound (w.heap.size + 1) jump).run P w2 = .ok (.bool jump.isNone) w3 ∧ Hp F w0 (ownB (w.heap.size + 1) (.loop (rec (if jump.isNone then .ready else .done) jump)) :: ownB w.heap.size (.deferred (some [])) :: Oq) S w3 := fun jump Oq hq3 => by
        have hl2 : w2.heap[w.heap.size + 1]? = some (.loop (rec .busy none)) := hq3.at (List.mem_cons_self ..)
        refine ⟨_, run_endRound (P := P) jump hl2, ?_⟩
        have hb2 : ({ rec .busy none with state := if jump.isNone then .ready else .done, pending := jump } : Loop) = rec (if jump.isNone then .ready else .done) jump := by rw [hrec]
        rw [hb2]
        exact hq3.put (.head _ _ _)
      cases e with
      | normal =>
        obtain ⟨y', hi', hp3⟩ := hq2
        obtain ⟨w3, hr3, hp4⟩ := fin none _ hp3
        exact ⟨_, w3, hr3, .inl ⟨rfl, y', hi', hp4⟩⟩
      | ret =>
        obtain ⟨z, hz, hp3⟩ := hq2
        obtain ⟨w3, hr3, hp4⟩ := fin (some .ret) _ hp3
        exact ⟨_, w3, hr3, .inr ⟨rfl, z, by rw [hz]; exact hp4⟩⟩
      | exit id =>
        obtain ⟨z, hz, hp3⟩ := hq2
        obtain ⟨w3, hr3, hp4⟩ := fin (some (.exit id)) _ hp3
        exact ⟨_, w3, hr3, .inr ⟨rfl, z, by rw [hz]; exact hp4⟩⟩
      | goto t => exact (show False from hq2).elim
      | panic ch => exact (show False from hq2).elim
      | outgrown => exact (show False from hq2).elim
    · rintro e W2 ⟨⟨v, rfl⟩, h⟩
      have hd : ∀ (Db : Nat), RegsOk N [⟨.collected Db, #[]⟩] L { a with defers := [{ target := .collected Db, args := #[] }] ++ a.defers } := fun Db => by
        have := hr.defers
        exact ⟨by show [_] ++ a.defers = _; rw [this]; rfl, hr.size, hr.look⟩
      rcases h with ⟨y, hi, h⟩ | ⟨z, h⟩
      · have hl : W2.heap[w.heap.size + 1]? = some (.loop (rec .ready none)) := h.at (List.mem_cons_self ..)
        refine ⟨none, _, (by have := run_endLoop (P := P) hl (by rw [hrec]; simp); rw [hrec] at this; exact this), ?_⟩
        exact done w.heap.size y hi _ _ (hd _) ((h.put (.head _ _ _)).sub (List.sublist_cons_self ..) (fun _ h => h))
      · have hl : W2.heap[w.heap.size + 1]? = some (.loop (rec .done (some (cz z)))) := h.at (List.mem_cons_self ..)
        refine ⟨some (cz z), _, (by have := run_endLoop (P := P) hl (by rw [hrec]; simp); rw [hrec] at this; exact this), ?_⟩
        exact stop w.heap.size z _ _ (hd _) ((h.put (.head _ _ _)).sub (List.sublist_cons_self ..) (fun _ h => h))
end

section
variable {C : Cx} {Q : Exit → Act → World → Prop} {L : Regs} {O S : List Fact}
/-- From here on, the block b is one's own (nothing that is known else lies there). -/
theorem cj_ownS {W : World} {cd : Code} (b : Nat) (o : Obj) (S' : List Fact) (hb : b < W.heap.size) (hm : ownB b o ∈ S) (hS : ∀ g ∈ S', g ∈ S ∧ ∀ i, g.fp i → i ≠ b) (k : CJ ⟨C.P, C.ro, fun i => i < W.heap.size ∧ i ≠ b, W, C.N, C.D⟩ cd Q L [ownB b o] S') : CJ (C.rb W) cd Q L O S := by
  intro a w hr hp
  refine k a w hr ⟨hp.os, hp.tape, hp.output, hp.size, fun i hi => ⟨hi.1, (hp.fr i hi.1).2⟩, fun g hg => ?_, by simp, fun g hg => ⟨(hp.shared g (hS g hg).1).1, (hp.shared g (hS g hg).1).2.1, fun q hq i hi hqi => ?_⟩⟩
  · rw [List.mem_singleton.1 hg]
    refine ⟨(hp.shared _ hm).1, fun i hi => ?_⟩
    have : i = b := hi
    subst this
    exact ⟨Nat.lt_of_lt_of_le hb hp.size, fun h => h.2 rfl⟩
  · rw [List.mem_singleton.1 hq] at hqi
    exact (hS g hg).2 i hi hqi
theorem Hp.putB {W w : World} {b : Nat} {o : Obj} (hp : Hp (fun i => i < W.heap.size ∧ i ≠ b) W O S w) (h : ownB b o ∈ O) : PutB b o W w :=
  ⟨hp.os, hp.tape, hp.output, hp.size, fun i h1 h2 => (hp.fr i ⟨h1, h2⟩).2, (hp.own _ h).1⟩
/-- The end of a round that has written to its own block. -/
theorem ej_nxH {F' : Nat → Prop} {w0' : World} {X : Type} {inv : X → Prop} {Lx : X → Regs} {J : X → World → Prop} {μ : X → Nat} {m : Nat} (x' : X) (hm : μ x' < m) (hi : inv x') (hL : subR L (Lx x')) (hJ : ∀ w, Hp F' w0' O S w → J x' w) :
    EJ ⟨C.P, C.ro, F', w0', C.N, C.D⟩ (Exit.then (fun a w => ∃ x', μ x' < m ∧ LoopB C inv Lx J x' a w) Q) .normal L O S := fun _ w hr hp => ⟨x', hm, hi, hr.subR hL, hJ w hp⟩
end
end Go.Sx
namespace Go.Sx
open Go.RowKit
abbrev enB (n : Nat) : List Value := [.int .u8 (n : Nat)]
theorem enB_len (x : Nat) : (enB x).length = 1 := rfl
def bytesN (l : List Nat) : ByteArray := ⟨(l.map UInt8.ofNat).toArray⟩
theorem foldl_push : ∀ (l : List Nat) (s : ByteArray), (l.map (fun n : Nat => (n : Int))).foldl (fun r (n : Int) => r.push (UInt8.ofNat n.toNat)) s = ⟨s.data ++ (l.map UInt8.ofNat).toArray⟩
  | [], s => by simp
  | n :: l, s => by
    rw [List.map_cons, List.foldl_cons, foldl_push l]
    simp [ByteArray.push]
theorem replicate_enB (n : Nat) : (List.replicate n (0 : Nat)).flatMap enB = List.replicate n (.int .u8 0) := by
  induction n with
  | zero => rfl
  | succ n ih => rw [List.replicate_succ, List.flatMap_cons, ih, List.replicate_succ]; rfl
section
variable {C : Cx} {L : Regs} {O S : List Fact} {ty : TypeId} {pos : String} {aft : Array Edge} {dst : Option Tmp} {gu : Option (Nat × Bool)} {t t' : TypeId} {x : Operand}
theorem y_bytesS {e m c : Nat} {A : Option Addr} {xs : List Nat} (hr0 : Reads C O S 1 enB A xs) (hne : xs ≠ []) (hm : m = xs.length) (hs : C.P.underlying t = some (.slice e)) (he : C.P.underlying e = some (.int .u8)) (hd : C.P.underlying t' = some .string) (hx : val L x = some (.slice A m c)) :
    Yi C ⟨dst, .convert t t' x, ty, pos, aft, gu⟩ L O S (.string (bytesN xs)) :=
  yi_val (by intro c h; cases h) fun a w hr hp => by
    subst hm
    obtain ⟨ad, rfl, hc⟩ := hr0 w hp hne
    have hl : (loadCells ad xs.length).run C.P w = .ok ((xs.map (fun n : Nat => (n : Int))).map (Value.int .u8)).toArray w := by
      have h1 := run_loadCells_list (P := C.P) w ad ((xs.map (fun n : Nat => (n : Int))).map (Value.int .u8)) fun j v hj => by
        rw [List.getElem?_map, List.getElem?_map] at hj
        cases hxj : xs[j]? with
        | none => rw [hxj] at hj; cases hj
        | some u =>
          rw [hxj] at hj
          have h2 := hc j u 0 (.int .u8 (u : Nat)) hxj rfl
          rw [Nat.mul_one, Nat.add_zero] at h2
          rw [h2]; exact hj
      rw [List.length_map, List.length_map] at h1
      exact h1
    have h3 := run_bytesToString (P := C.P) w ad xs.length c _ hl
    rw [foldl_push] at h3
    simp only [execOp, hr.val hx]
    rw [show (bytesN xs) = (⟨ByteArray.empty.data ++ (xs.map UInt8.ofNat).toArray⟩ : ByteArray) by simp [bytesN]]
    simp [run_convert_bytes_string w t t' e (some ad) xs.length c hs he hd, h3]
end
end Go.Sx
namespace Go.Proofs.YtppfniekcgnmjaaGreatDoor.Tk
open Go Go.Sx Go.RowKit Um
theorem wrap8 {n : Int} (h : 0 ≤ n) (h2 : n < 256) : IntKind.u8.wrap n = n := by
  simp only [IntKind.wrap, IntKind.bits, IntKind.signed]
  simp
  omega
/-- The digits of a number, the last one first, with their places. -/
def digL (n m : Nat) : List (Nat × Nat) := (List.range m).map fun i => (i, n / 10 ^ i % 10)
theorem digL_get {n m k : Nat} {x : Nat × Nat} (h : (digL n m)[k]? = some x) : k < m ∧ x = (k, n / 10 ^ k % 10) := by
  unfold digL at h
  rw [List.getElem?_map] at h
  cases hk : (List.range m)[k]? with
  | none => rw [hk] at h; cases h
  | some j =>
    rw [hk] at h
    obtain ⟨h1, h2⟩ := List.getElem?_eq_some_iff.1 hk
    rw [List.length_range] at h1
    rw [List.getElem_range] at h2
    subst h2
    exact ⟨h1, (Option.some.inj h).symm⟩
theorem digL_at (n : Nat) {m k : Nat} (h : k < m) : (digL n m)[k]? = some (k, n / 10 ^ k % 10) := by
  unfold digL
  rw [List.getElem?_map, List.getElem?_range h]; rfl
theorem digL_len (n m : Nat) : (digL n m).length = m := by simp [digL]
/-- the code's bytes once the last k ones are there -/
def codF (full k : Nat) : List Nat := (List.range 10).map fun j => if 10 - k ≤ j then 48 + full / 10 ^ (9 - j) % 10 else 0
theorem codF_len (full k : Nat) : (codF full k).length = 10 := by simp [codF]
theorem codF_0 (full : Nat) : codF full 0 = List.replicate 10 0 := rfl
theorem codF_set (full : Nat) {k : Nat} (h : k < 10) : (codF full k).set (9 - k) (48 + full / 10 ^ k % 10) = codF full (k + 1) := by
  apply List.ext_getElem?
  intro j
  rw [List.getElem?_set, codF_len]
  unfold codF
  rw [List.getElem?_map, List.getElem?_map]
  by_cases hj : j < 10
  · rw [List.getElem?_range hj, Option.map_some, Option.map_some]
    by_cases e : 9 - k = j
    · rw [if_pos e, if_pos (by omega), if_pos (by omega), show 9 - j = k by omega]
    · rw [if_neg e]
      by_cases h2 : 10 - k ≤ j
      · rw [if_pos h2, if_pos (by omega)]
      · rw [if_neg h2, if_neg (by omega)]
  · rw [List.getElem?_eq_none (by simp; omega), if_neg (by omega)]; rfl
/-- the number that a code's ten digits say -/
def fullN (n : Nat) : Nat := 100 * n + 98 - 100 * n % 97
def codeS (n : Nat) : ByteArray := bytesN (codF (fullN n) 10)
theorem full_bd {n : Nat} (h : n ≤ 99999999) : fullN n < 10000000000 := by unfold fullN; omega
def CodS (n : Int) : ByteArray := if btw 1 n 99999999 then codeS n.toNat else ⟨#[]⟩
def CodE (n : Int) : Int := if btw 1 n 99999999 then 0 else 7
end Go.Proofs.YtppfniekcgnmjaaGreatDoor.Tk
namespace Go.Proofs.YtppfniekcgnmjaaGreatDoor.Tk
open Go Go.Sx Go.RowKit
theorem eq_drop {α : Type} [DecidableEq α] (a b : List α) (k : Nat) (x y : α) (hx : a[k]? = some x) (hy : b[k]? = some y) : decide (a.drop k = b.drop k) = (decide (x = y) && decide (a.drop (k + 1) = b.drop (k + 1))) := by
  obtain ⟨h1, h2⟩ := List.getElem?_eq_some_iff.1 hx
  obtain ⟨h3, h4⟩ := List.getElem?_eq_some_iff.1 hy
  rw [List.drop_eq_getElem_cons h1, h2, List.drop_eq_getElem_cons h3, h4]
  by_cases h : x = y <;> by_cases h5 : a.drop (k + 1) = b.drop (k + 1) <;> simp [h, h5]
theorem eq_len {α : Type} [DecidableEq α] {a b : List α} (h : ¬ (a.length : Int) = b.length) : decide (a = b) = false := decide_eq_false (fun e => h (by rw [e]))
theorem len_of {a b : List Int} (h : ((a.length : Int) == (b.length : Int)) = true) : a.length = b.length := by
  have h2 : (a.length : Int) = b.length := by simpa using h
  omega
theorem same_start (a b : List Int) : (((a.length : Int) == (b.length : Int)) && decide (a.drop 0 = b.drop 0)) = decide (a = b) := by
  rw [List.drop_zero, List.drop_zero]
  by_cases h : (a.length : Int) = b.length
  · rw [show ((a.length : Int) == (b.length : Int)) = true by simpa using h]; rfl
  · rw [show ((a.length : Int) == (b.length : Int)) = false by simpa using h, eq_len h]; rfl
theorem beq_dec {x y : Int} {c : Bool} : ((x == y) && c) = (decide (x = y) && c) := by
  by_cases h : x = y <;> simp [h]
theorem Res.of_lit {α : Type} {w w' : World} {b sz : Nat} {enc : α → List Value} {xs : List α} (h : (litS b sz enc xs).P w' ∧ ∀ i, (litS b sz enc xs).fp i → w.heap.size ≤ i ∧ i < w'.heap.size ∧ ∀ o ∈ ([] : List Fact), ¬ o.fp i) : (sl (fun i => w.heap.size ≤ i ∧ i < w'.heap.size) sz enc (some ⟨b, 0, none⟩) xs).P w' :=
  sl_fp h.1 (fun i hi => ⟨(h.2 i hi).1, (h.2 i hi).2.1⟩)
def ringI (n m : Int) : Int := if m ≤ 0 then 0 else ((n.tmod m) + m).tmod m
theorem ringI_bd (n m : Int) (hm : 1 ≤ m) : 0 ≤ ringI n m ∧ ringI n m < m := by
  unfold ringI
  rw [if_neg (by omega)]
  have h1 : -m < n.tmod m ∧ n.tmod m < m := by
    rcases Int.lt_or_le n 0 with h | h
    · have h2 := Int.tmod_lt_of_pos (-n) (show (0 : Int) < m by omega)
      have h3 := Int.tmod_nonneg m (show 0 ≤ -n by omega)
      rw [Int.neg_tmod] at h2 h3
      omega
    · have h2 := Int.tmod_lt_of_pos n (show (0 : Int) < m by omega)
      have h3 := Int.tmod_nonneg m h
      omega
  exact ⟨Int.tmod_nonneg m (by omega), Int.tmod_lt_of_pos _ (by omega)⟩
def pickI (l : List Int) (i : Int) : Int := if l.length = 0 then 0 else l.getD (ringI i l.length).toNat default
theorem gd_of {α : Type} {l : List α} {i : Nat} {x : α} (d : α) (h : l[i]? = some x) : l.getD i d = x := by rw [List.getD_eq_getElem?_getD, h]; rfl
end Go.Proofs.YtppfniekcgnmjaaGreatDoor.Tk
namespace Go.Proofs.YtppfniekcgnmjaaGreatDoor.Tk
open Go.Sx Go.RowKit
set_option maxRecDepth 20000

end Go.Proofs.YtppfniekcgnmjaaGreatDoor.Tk
namespace Go.Proofs.YtppfniekcgnmjaaGreatDoor.Tk
open Go.Sx Go.RowKit Um
set_option maxRecDepth 20000
theorem k_within (n lo hi : Int) (w : World)  : Calls Tryz.prog 100 #[.int .i64 n, .int .i64 lo, .int .i64 hi] w (fun e w' => e = .returned (.bool (btw lo n hi)) ∧ Grow w w') := by
  refine enter_pure (args := [.int .i64 n, .int .i64 lo, .int .i64 hi]) [] Tryz.func100 rfl (by rw [Tryz.ntmps100]; simp) (by simp) ?_
  refine cj_seq ?_
  refine cj_regionG (gj_step (y_assign rfl) rfl rfl rfl (gj_nil ?_))
  refine ej_th (cj_seq ?_)
  refine cj_regionG (gj_step (y_move rfl) rfl rfl rfl (gj_step (y_move rfl) rfl rfl rfl (gj_step (y_geq rfl rfl) rfl rfl rfl (gj_step (y_move rfl) rfl rfl rfl (gj_g 3 10 13 rfl rfl rfl rfl (fun hg10 => gj_yes rfl rfl rfl (y_move rfl) rfl rfl (gj_yes rfl rfl rfl (y_move rfl) rfl rfl (gj_yes rfl rfl rfl (y_leq rfl rfl) rfl rfl (gj_nil rfl)))) (gj_step (y_and rfl rfl rfl) rfl rfl rfl (gj_step (y_assign rfl) rfl rfl rfl (gj_nil ?_))))))))
  refine ej_th (cj_ret ?_)
  exact ej_ret1 rfl Tryz.results100 rfl (fun w' hp => ⟨rfl, hp.below⟩)

theorem k_digits1 (n m b3 b2 : Nat) (hn : n ≤ 4611686018427387904) (hm : m ≤ 100) : IterC Tryz.prog 161 #[.pointer (some ⟨b3, 0, none⟩), .pointer (some ⟨b2, 0, none⟩)] (fun p : Nat × Nat => [.int .i64 (p.1 : Nat), .int .i64 (p.2 : Nat)]) (digL n m) b2 (fun k => cellsB 3 [.int .i64 (n / 10 ^ k : Nat)]) [ownB b3 (cellsB 3 [.int .i64 (m : Nat)])] := by
  intro l J Jx w hgr hput hfacts hgx hround hJ0
  refine enter_pure (args := [.func (.yield l) #[] #[], .pointer (some ⟨b3, 0, none⟩), .pointer (some ⟨b2, 0, none⟩)]) [ownB b3 (cellsB 3 [.int .i64 (m : Nat)])] Tryz.func161 rfl (by rw [Tryz.ntmps161]; simp) (fun g hg => ⟨((hfacts _ _ _ hJ0).2 g hg).1, fun i hi => (((hfacts _ _ _ hJ0).2 g hg).2 i hi).1⟩) ?_
  refine cj_seq ?_
  refine cj_regionG (gj_step (y_loadS1 Tryz.isAgg3 rfl rfl) rfl rfl rfl (gj_step (y_move rfl) rfl rfl rfl (gj_nil ?_)))
  refine ej_th (cj_block ?_)
  refine cj_loopB (X := Nat) (fun k => k ≤ m) (fun k => [(0, .func (.yield l) #[] #[]), (1, .pointer (some ⟨b3, 0, none⟩)), (2, .pointer (some ⟨b2, 0, none⟩)), (5, .int .i64 (m : Nat)), (6, .int .i64 (k : Nat))]) (fun k => fun W => J k (cellsB 3 [.int .i64 (n / 10 ^ k : Nat)]) W) [ownB b3 (cellsB 3 [.int .i64 (m : Nat)])] (fun k => m - k) 0 (Nat.zero_le _) ⟨rfl, rfl, rfl, rfl, rfl, trivial⟩ (fun w1 hp => hgr _ _ _ _ hJ0 hp.below) (fun x W h g hg => ⟨((hfacts _ _ _ h).2 g hg).1, fun i hi => (((hfacts _ _ _ h).2 g hg).2 i hi).1⟩) ?_
  rintro k W hk hJW
  refine cj_seq ?_
  refine cj_regionG (gj_step (y_lss rfl rfl) rfl rfl rfl (gj_nil ?_))
  refine ej_th (cj_seq ?_)
  refine cj_cond rfl (fun h7 => ?_) (fun h7 => ?_)
  · have h7b := h7
    try simp only [sxb] at h7
    have hq0 : n / 10 ^ k ≤ n := Nat.div_le_self _ _
    have hq : ((n / 10 ^ k : Nat) : Int) ≤ 9223372036854775807 := Int.ofNat_le.2 (show n / 10 ^ k ≤ 9223372036854775807 by omega)
    refine cj_skip (ej_th (cj_seq (cj_block (cj_seq ?_))))
    refine cj_regionG (gj_step (y_move rfl) rfl rfl rfl (gj_step (y_assign rfl) rfl rfl rfl (gj_nil ?_)))
    refine ej_th (cj_seq (cj_seq ?_))
    refine cj_addS (ownB b2 (cellsB 3 [.int .i64 (n / 10 ^ k : Nat)])) (fun w1 hp => ⟨(hfacts _ _ _ (hgr _ _ _ _ hJW hp.below)).1, fun i hi => ⟨by have hi : i = b2 := hi; subst hi; exact (Array.getElem?_eq_some_iff.1 (hfacts _ _ _ (hgr _ _ _ _ hJW hp.below)).1).1, by simp⟩⟩) ?_
    refine cj_region ?_
    refine oj_step (y_move rfl) rfl rfl rfl ?_
    refine oj_step (y_move rfl) rfl rfl rfl ?_
    refine oj_step (y_loadS1 Tryz.isAgg3 rfl rfl) rfl rfl rfl ?_
    refine oj_step (y_rem rfl rfl (Int.natCast_nonneg _) (by omega)) rfl rfl rfl ?_
    rw [show ((n / 10 ^ k : Nat) : Int) % 10 = ((n / 10 ^ k % 10 : Nat) : Int) by omega]
    refine oj_yieldB (T := fun b W' => if b = true then J (k + 1) (cellsB 3 [.int .i64 (n / 10 ^ k : Nat)]) W' else Jx W') [] rfl rfl rfl (fun w1 hp => hround k (k, n / 10 ^ k % 10) w1 (digL_at n (by omega)) (hgr _ _ _ _ hJW hp.below)) rfl (fun b W h g hg => by cases hg) (fun b13 W13 hT13 => ?_)
    refine oj_step (y_not rfl) rfl rfl rfl ?_
    refine oj_nil ?_
    refine ej_th ?_
    refine cj_cond rfl (fun h14 => ?_) (fun h14 => ?_)
    · have h14b := h14
      try simp only [sxb] at h14
      have hb : b13 = false := not_t h14b
      subst hb
      have hT : Jx W13 := hT13
      refine cj_ret (ej_then_ret (ej_blk_ret (ej_then_ret (ej_then_ret (ej_blk_ret ?_)))))
      exact ej_ret0 rfl Tryz.results161 (fun w' hp => ⟨⟨_, rfl⟩, .inr (hgx _ _ hT hp.below)⟩)
    · have h14b := h14
      try simp only [sxb] at h14
      have hb : b13 = true := not_f h14b
      subst hb
      have hT : J (k + 1) (cellsB 3 [.int .i64 (n / 10 ^ k : Nat)]) W13 := hT13
      refine cj_skip (ej_th ?_)
      refine cj_addS (ownB b2 (cellsB 3 [.int .i64 (n / 10 ^ k : Nat)])) (fun w1 hp => ⟨(hfacts _ _ _ (hgr _ _ _ _ hT hp.below)).1, fun i hi => ⟨by have hi : i = b2 := hi; subst hi; exact (Array.getElem?_eq_some_iff.1 (hfacts _ _ _ (hgr _ _ _ _ hT hp.below)).1).1, by simp⟩⟩) ?_
      refine cj_ownS b2 (cellsB 3 [.int .i64 (n / 10 ^ k : Nat)]) [] (Array.getElem?_eq_some_iff.1 (hfacts _ _ _ hT).1).1 (List.mem_cons_self ..) (fun g hg => by cases hg) ?_
      refine cj_region ?_
      refine oj_step (y_load1 Tryz.isAgg3 rfl rfl) rfl rfl rfl ?_
      refine oj_step (y_quo rfl rfl (⟨Int.natCast_nonneg _, hq, by decide⟩)) rfl rfl rfl ?_
      refine oj_store rfl rfl rfl rfl Tryz.sizeOf3 rfl ?_
      refine oj_nil ?_
      refine ej_blk (ej_th ?_)
      refine cj_regionG (gj_step (y_add rfl rfl (by omega)) rfl rfl rfl (gj_step (y_move rfl) rfl rfl rfl (gj_nil ?_)))
      rw [show ((n / 10 ^ k : Nat) : Int) / 10 = ((n / 10 ^ (k + 1) : Nat) : Int) by rw [Nat.pow_succ, ← Nat.div_div_eq_div_mul]; omega, show ((k : Nat) : Int) + 1 = ((k + 1 : Nat) : Int) by omega]
      exact ej_nxH (k + 1) (by omega) (by omega) ⟨rfl, rfl, rfl, rfl, rfl, trivial⟩ (fun w1 hp => hput _ _ _ _ _ hT (hp.putB (List.mem_cons_self ..)))
  · have h7b := h7
    try simp only [sxb] at h7
    have hkm : k = m := by omega
    subst hkm
    refine cj_exit (ej_then_exit (ej_then_exit (ej_blk_hit ?_)))
    exact ej_end0 rfl Tryz.results161 (fun w' hp => ⟨⟨_, rfl⟩, .inl (by rw [digL_len]; exact hgr _ _ _ _ hJW hp.below)⟩)

theorem k_digits (n m : Nat) (w : World)  : Calls Tryz.prog 132 #[.int .i64 (n : Nat), .int .i64 (m : Nat)] w (fun e w' => ∃ z : Nat × Nat, e = .returned (.func (.func 161) #[] #[.pointer (some ⟨z.1, 0, none⟩), .pointer (some ⟨z.2, 0, none⟩)]) ∧ Giv [] w w' [ownB z.1 (cellsB 3 [.int .i64 (m : Nat)]), ownB z.2 (cellsB 3 [.int .i64 (n : Nat)])]) := by
  refine enterO (args := [.int .i64 (n : Nat), .int .i64 (m : Nat)]) [] [] Tryz.func132 rfl (by rw [Tryz.ntmps132]; simp) (fun g hg => by cases hg) (.nil) (fun g hg => by cases hg) ?_
  refine cj_seq (cj_region ?_)
  refine oj_box rfl rfl rfl (fun b2 => ?_)
  refine oj_box rfl rfl rfl (fun b3 => ?_)
  refine oj_step (y_assign rfl) rfl rfl rfl ?_
  refine oj_nil ?_
  refine ej_th (cj_seq ?_)
  refine cj_regionG (gj_step (y_makeFunc rfl rfl) rfl rfl rfl (gj_step (y_assign rfl) rfl rfl rfl (gj_nil ?_)))
  refine ej_th (cj_ret ?_)
  exact ej_ret1 rfl Tryz.results132 rfl (fun w' hp => ⟨(b3, b2), rfl, hp.givT _⟩)

end Go.Proofs.YtppfniekcgnmjaaGreatDoor.Tk
namespace Go.Proofs.YtppfniekcgnmjaaGreatDoor.Tk
open Go.Sx Go.RowKit
set_option maxRecDepth 20000

end Go.Proofs.YtppfniekcgnmjaaGreatDoor.Tk
namespace Go.Proofs.YtppfniekcgnmjaaGreatDoor.Tk
open Go.Sx Go.RowKit Um
set_option maxRecDepth 20000
set_option maxHeartbeats 400000 in
theorem k_code (n : Nat) (w : World) (hn : n ≤ 99999999) : Calls Tryz.prog 101 #[.int .i64 (n : Nat)] w (fun e w' => e = .returned (.string (codeS n)) ∧ Grow w w') := by
  have hfb := full_bd hn
  refine enter_pureM (args := [.int .i64 (n : Nat)]) [] Tryz.func101 rfl (by rw [Tryz.ntmps101]; simp) (fun g hg => by cases hg) ?_
  refine cj_seq ?_
  refine cj_regionG (gj_step (y_assign rfl) rfl rfl rfl (gj_nil ?_))
  refine ej_th (cj_seq ?_)
  refine cj_regionG (gj_step (y_move rfl) rfl rfl rfl (gj_step (y_mul rfl rfl (by omega)) rfl rfl rfl (gj_step (y_add rfl rfl (by omega)) rfl rfl rfl (gj_step (y_move rfl) rfl rfl rfl (gj_step (y_mul rfl rfl (by omega)) rfl rfl rfl (gj_step (y_rem rfl rfl (by omega) (by omega)) rfl rfl rfl (gj_step (y_sub rfl rfl (by omega)) rfl rfl rfl (gj_step (y_assign rfl) rfl rfl rfl (gj_nil ?_)))))))))
  refine ej_th (cj_seq (cj_region ?_))
  refine oj_makeSlice1 (n := 10) Tryz.underlying268 Tryz.type5 rfl rfl rfl rfl rfl (by decide) (by decide) rfl (fun b14 => ?_)
  refine oj_litOw (b := b14) (e := 5) (c := 10) (sz := 1) (enc := enB) (codF (fullN n) 0) rfl (by rw [codF_0]; exact replicate_enB 10) rfl (by unfold maxLen; decide) ?_
  refine oj_alloc Tryz.zeroValue268 rfl rfl (fun b4 => ?_)
  refine oj_store rfl rfl rfl rfl Tryz.sizeOf268 rfl ?_
  refine oj_nil ?_
  refine ej_th (cj_seq (cj_seq (cj_region ?_)))
  refine oj_step (y_move rfl) rfl rfl rfl ?_
  rw [show (100 : Int) * ((n : Nat) : Int) + 98 - 100 * ((n : Nat) : Int) % 97 = ((fullN n : Nat) : Int) by unfold fullN; omega]
  refine oj_callL (X := Nat × Nat) (fun z => .func (.func 161) #[] #[.pointer (some ⟨z.1, 0, none⟩), .pointer (some ⟨z.2, 0, none⟩)]) [] (fun z => [ownB z.1 (cellsB 3 [.int .i64 (10 : Nat)]), ownB z.2 (cellsB 3 [.int .i64 ((fullN n) : Nat)])]) Tryz.call132 rfl rfl (fun w1 hp => k_digits (fullN n) 10 w1) rfl ?_
  rintro ⟨b3, b2⟩
  dsimp only [List.cons_append, List.nil_append]
  refine oj_nil ?_
  refine ej_th (cj_block ?_)
  refine cj_frzS (O' := [ownB b2 (cellsB 3 [.int .i64 ((fullN n) : Nat)]), ownB b4 (cellsB 268 [.slice (some ⟨b14, 0, none⟩) 10 10]), ow 5 1 enB (some ⟨b14, 0, none⟩) 10 (codF (fullN n) 0)]) (ownB b3 (cellsB 3 [.int .i64 (10 : Nat)])) (ownB b3 (cellsB 3 [.int .i64 (10 : Nat)])) (fun w1 hp => (hp.own _ (List.mem_cons_self ..)).1) (fun b hb => .inl hb) ?_
  refine cj_rangeC (k_digits1 (fullN n) 10 b3 b2 (by omega) (by decide)) (Y := Unit) (Z := Empty) (fun _ _ => True) (fun k _ => [ownB b4 (cellsB 268 [.slice (some ⟨b14, 0, none⟩) 10 10]), ow 5 1 enB (some ⟨b14, 0, none⟩) 10 (codF (fullN n) k)]) Empty.elim Empty.elim () trivial rfl Tryz.call161 (fun _ => rfl) rfl (hO := ?_) ?_ ?_ ?_
  · rw [Nat.pow_zero, Nat.div_one]; infer_instance
  · rintro lo Db r0 r1 k p _ hp9 -
    obtain ⟨hk, rfl⟩ := digL_get hp9
    dsimp only [List.cons_append, List.nil_append]
    refine cj_seq ?_
    refine cj_regionG (gj_step (y_assign rfl) rfl rfl rfl (gj_nil ?_))
    refine ej_th ?_
    refine cj_regionG (gj_step (y_assign rfl) rfl rfl rfl (gj_nil ?_))
    refine ej_beg (cj_block (cj_region ?_))
    refine oj_step (y_load1 Tryz.isAgg268 rfl rfl) rfl rfl rfl ?_
    refine oj_step (y_move rfl) rfl rfl rfl ?_
    refine oj_step (y_sub rfl rfl (by omega)) rfl rfl rfl ?_
    rw [show (9 : Int) - ((k : Nat) : Int) = ((9 - k : Nat) : Int) by omega]
    refine oj_step (y_move rfl) rfl rfl rfl ?_
    refine oj_step (y_add rfl rfl (by omega)) rfl rfl rfl ?_
    rw [show (48 : Int) + (((fullN n) / 10 ^ k % 10) : Nat) = ((48 + ((fullN n) / 10 ^ k % 10) : Nat) : Int) by omega]
    refine oj_step (y_conv Tryz.underlying3 Tryz.underlying5 rfl) rfl rfl rfl ?_
    rw [wrap8 (by omega) (by omega)]
    refine oj_step (y_ixRm (m := 10) (xs := codF (fullN n) k) (codF_len _ _).symm (reads_ow enB_len) Tryz.underlying268 Tryz.sizeOf5 rfl rfl ⟨by omega, by omega⟩) rfl rfl rfl ?_
    refine oj_storeE (i := 9 - k) (u := 48 + ((fullN n) / 10 ^ k % 10)) rfl rfl rfl rfl Tryz.sizeOf5 (fun _ => rfl) (by rw [codF_len]; omega) ?_
    refine oj_nil ?_
    refine ej_blk ?_
    rw [codF_set _ hk]
    exact ej_rdS () trivial (fun _ h => h)
  · rintro Db _ -
    rw [digL_len]
    refine ej_blk (ej_th (cj_seq ?_))
    refine cj_regionG (gj_step (y_load1 Tryz.isAgg268 rfl rfl) rfl rfl rfl (gj_step (y_bytesS (xs := codF (fullN n) 10) (reads_ow enB_len) (fun h => by have h9 := codF_len (fullN n) 10; rw [h] at h9; cases h9) (codF_len _ _).symm Tryz.underlying268 Tryz.underlying5 Tryz.underlying9 rfl) rfl rfl rfl (gj_step (y_assign rfl) rfl rfl rfl (gj_nil ?_))))
    refine ej_th (cj_ret ?_)
    exact ej_retM1 rfl Tryz.results101 rfl (fun w' hp => ⟨rfl, hp.below⟩)
  · intro Db z; exact z.elim

theorem k_Code (n : Int) (w : World)  : Calls Tryz.prog 60 #[.int .i64 n] w (fun e w' => e = .returned (.tuple #[.string (CodS n), .int .i64 (CodE n)]) ∧ Grow w w') := by
  refine enter_pure (args := [.int .i64 n]) [] Tryz.func60 rfl (by rw [Tryz.ntmps60]; simp) (by simp) ?_
  refine cj_seq ?_
  refine cj_regionG (gj_step (y_assign rfl) rfl rfl rfl (gj_step (y_assign rfl) rfl rfl rfl (gj_nil ?_)))
  refine ej_th (cj_seq (cj_seq ?_))
  refine cj_regionG ?_
  refine gj_step (y_move rfl) rfl rfl rfl (?_)
  refine gj_step (y_call Tryz.call100 rfl (fun w hp => k_within _ _ _ w)) rfl rfl rfl ?_
  refine gj_step (y_not rfl) rfl rfl rfl (?_)
  refine gj_nil ?_
  refine ej_th ?_
  refine cj_cond rfl (fun h6 => ?_) (fun h6 => ?_)
  · have h6b := h6
    try simp only [sxb] at h6
    refine cj_seq ?_
    refine cj_regionG (gj_step (y_assign rfl) rfl rfl rfl (gj_step (y_assign rfl) rfl rfl rfl (gj_nil ?_)))
    refine ej_th (cj_ret (ej_then_ret ?_))
    refine ej_ret2 rfl Tryz.results60 rfl rfl (fun w' hp => ⟨?_, hp.below⟩)
    rw [CodS, CodE, not_t h6b]; rfl
  · have h6b := h6
    try simp only [sxb] at h6
    have hb := btw_t (not_f h6b)
    refine cj_skip (ej_th (cj_seq ?_))
    refine cj_regionG ?_
    refine gj_step (y_move rfl) rfl rfl rfl (?_)
    refine gj_step (y_call Tryz.call101 rfl (fun w hp => by
      have h := k_code n.toNat w (by omega)
      rw [Int.toNat_of_nonneg (by omega)] at h
      exact h)) rfl rfl rfl ?_
    refine gj_step (y_assign rfl) rfl rfl rfl (gj_step (y_assign rfl) rfl rfl rfl (?_))
    refine gj_nil ?_
    refine ej_th (cj_ret ?_)
    refine ej_ret2 rfl Tryz.results60 rfl rfl (fun w' hp => ⟨?_, hp.below⟩)
    rw [CodS, CodE, not_f h6b]; rfl

end Go.Proofs.YtppfniekcgnmjaaGreatDoor.Tk
namespace Go.Proofs.YtppfniekcgnmjaaGreatDoor.Le
open Go Go.Sx Go.RowKit Um
def spanOk (lo hi most : Int) : Bool := decide (0 ≤ lo) && decide (lo ≤ hi) && decide (hi ≤ most)
def badTerms (fr fl cap : Int) : Bool := !(btw 0 fr 64) || !(btw 0 cap 1073741824) || !(btw 0 fl cap)
def errT (b : Bool) : Int := if b then 22 else 0
theorem errT_ne (b : Bool) : (errT b ≠ 0) = (b = true) := by cases b <;> simp [errT]
theorem errT_eq (b : Bool) : (errT b = 0) = (b = false) := by cases b <;> simp [errT]
theorem badTerms_no {fr fl cap : Int} (h : badTerms fr fl cap = false) : (0 ≤ fr ∧ fr ≤ 64) ∧ (0 ≤ cap ∧ cap ≤ 1073741824) ∧ (0 ≤ fl ∧ fl ≤ cap) := by
  unfold badTerms at h
  rw [Bool.or_eq_false_iff, Bool.or_eq_false_iff] at h
  exact ⟨btw_t (not_f h.1.1), btw_t (not_f h.1.2), btw_t (not_f h.2)⟩
def mostOf (fr fl cap lo : Int) : Int := min (if lo * fr / 64 < fl then min fl lo else lo * fr / 64) cap
def MostN (fr fl cap lo hi : Int) : Int := if badTerms fr fl cap then 0 else if spanOk lo hi 2147483648 then mostOf fr fl cap lo else 0
def MostE (fr fl cap lo hi : Int) : Int := if badTerms fr fl cap then 22 else if spanOk lo hi 2147483648 then 0 else 7
theorem mul_bd {a b m n : Int} (ha : 0 ≤ a ∧ a ≤ m) (hb : 0 ≤ b ∧ b ≤ n) : 0 ≤ a * b ∧ a * b ≤ m * n :=
  ⟨Int.mul_nonneg ha.1 hb.1, Int.mul_le_mul ha.2 hb.2 hb.1 (by omega)⟩
end Go.Proofs.YtppfniekcgnmjaaGreatDoor.Le
namespace Go.Proofs.YtppfniekcgnmjaaGreatDoor.Le
open Go Go.Sx Go.RowKit
theorem eq_drop {α : Type} [DecidableEq α] (a b : List α) (k : Nat) (x y : α) (hx : a[k]? = some x) (hy : b[k]? = some y) : decide (a.drop k = b.drop k) = (decide (x = y) && decide (a.drop (k + 1) = b.drop (k + 1))) := by
  obtain ⟨h1, h2⟩ := List.getElem?_eq_some_iff.1 hx
  obtain ⟨h3, h4⟩ := List.getElem?_eq_some_iff.1 hy
  rw [List.drop_eq_getElem_cons h1, h2, List.drop_eq_getElem_cons h3, h4]
  by_cases h : x = y <;> by_cases h5 : a.drop (k + 1) = b.drop (k + 1) <;> simp [h, h5]
theorem eq_len {α : Type} [DecidableEq α] {a b : List α} (h : ¬ (a.length : Int) = b.length) : decide (a = b) = false := decide_eq_false (fun e => h (by rw [e]))
theorem len_of {a b : List Int} (h : ((a.length : Int) == (b.length : Int)) = true) : a.length = b.length := by
  have h2 : (a.length : Int) = b.length := by simpa using h
  omega
theorem same_start (a b : List Int) : (((a.length : Int) == (b.length : Int)) && decide (a.drop 0 = b.drop 0)) = decide (a = b) := by
  rw [List.drop_zero, List.drop_zero]
  by_cases h : (a.length : Int) = b.length
  · rw [show ((a.length : Int) == (b.length : Int)) = true by simpa using h]; rfl
  · rw [show ((a.length : Int) == (b.length : Int)) = false by simpa using h, eq_len h]; rfl
theorem beq_dec {x y : Int} {c : Bool} : ((x == y) && c) = (decide (x = y) && c) := by
  by_cases h : x = y <;> simp [h]
theorem Res.of_lit {α : Type} {w w' : World} {b sz : Nat} {enc : α → List Value} {xs : List α} (h : (litS b sz enc xs).P w' ∧ ∀ i, (litS b sz enc xs).fp i → w.heap.size ≤ i ∧ i < w'.heap.size ∧ ∀ o ∈ ([] : List Fact), ¬ o.fp i) : (sl (fun i => w.heap.size ≤ i ∧ i < w'.heap.size) sz enc (some ⟨b, 0, none⟩) xs).P w' :=
  sl_fp h.1 (fun i hi => ⟨(h.2 i hi).1, (h.2 i hi).2.1⟩)
def ringI (n m : Int) : Int := if m ≤ 0 then 0 else ((n.tmod m) + m).tmod m
theorem ringI_bd (n m : Int) (hm : 1 ≤ m) : 0 ≤ ringI n m ∧ ringI n m < m := by
  unfold ringI
  rw [if_neg (by omega)]
  have h1 : -m < n.tmod m ∧ n.tmod m < m := by
    rcases Int.lt_or_le n 0 with h | h
    · have h2 := Int.tmod_lt_of_pos (-n) (show (0 : Int) < m by omega)
      have h3 := Int.tmod_nonneg m (show 0 ≤ -n by omega)
      rw [Int.neg_tmod] at h2 h3
      omega
    · have h2 := Int.tmod_lt_of_pos n (show (0 : Int) < m by omega)
      have h3 := Int.tmod_nonneg m h
      omega
  exact ⟨Int.tmod_nonneg m (by omega), Int.tmod_lt_of_pos _ (by omega)⟩
def pickI (l : List Int) (i : Int) : Int := if l.length = 0 then 0 else l.getD (ringI i l.length).toNat default
theorem gd_of {α : Type} {l : List α} {i : Nat} {x : α} (d : α) (h : l[i]? = some x) : l.getD i d = x := by rw [List.getD_eq_getElem?_getD, h]; rfl
end Go.Proofs.YtppfniekcgnmjaaGreatDoor.Le
namespace Go.Proofs.YtppfniekcgnmjaaGreatDoor.Le
open Go.Sx Go.RowKit
set_option maxRecDepth 20000
theorem fa159_0 : FieldIs Tryz.prog 159 0 0 1 false := ⟨⟨_, _, Tryz.underlying159, rfl, rfl, Tryz.sizeOf3, Tryz.isAgg3, by decide⟩⟩
theorem fa159_1 : FieldIs Tryz.prog 159 1 1 1 false := ⟨⟨_, _, Tryz.underlying159, rfl, rfl, Tryz.sizeOf3, Tryz.isAgg3, by decide⟩⟩
theorem fa159_2 : FieldIs Tryz.prog 159 2 2 1 false := ⟨⟨_, _, Tryz.underlying159, rfl, rfl, Tryz.sizeOf3, Tryz.isAgg3, by decide⟩⟩
theorem fa161_0 : FieldIs Tryz.prog 161 0 0 1 false := ⟨⟨_, _, Tryz.underlying161, rfl, rfl, Tryz.sizeOf3, Tryz.isAgg3, by decide⟩⟩
theorem fa161_1 : FieldIs Tryz.prog 161 1 1 1 false := ⟨⟨_, _, Tryz.underlying161, rfl, rfl, Tryz.sizeOf3, Tryz.isAgg3, by decide⟩⟩
end Go.Proofs.YtppfniekcgnmjaaGreatDoor.Le
namespace Go.Proofs.YtppfniekcgnmjaaGreatDoor.Le
open Go.Sx Go.RowKit Um
set_option maxRecDepth 20000
theorem k_within (n lo hi : Int) (w : World)  : Calls Tryz.prog 56 #[.int .i64 n, .int .i64 lo, .int .i64 hi] w (fun e w' => e = .returned (.bool (btw lo n hi)) ∧ Grow w w') := by
  refine enter_pure (args := [.int .i64 n, .int .i64 lo, .int .i64 hi]) [] Tryz.func56 rfl (by rw [Tryz.ntmps56]; simp) (by simp) ?_
  refine cj_seq ?_
  refine cj_regionG (gj_step (y_assign rfl) rfl rfl rfl (gj_nil ?_))
  refine ej_th (cj_seq ?_)
  refine cj_regionG (gj_step (y_move rfl) rfl rfl rfl (gj_step (y_move rfl) rfl rfl rfl (gj_step (y_geq rfl rfl) rfl rfl rfl (gj_step (y_move rfl) rfl rfl rfl (gj_g 3 10 13 rfl rfl rfl rfl (fun hg10 => gj_yes rfl rfl rfl (y_move rfl) rfl rfl (gj_yes rfl rfl rfl (y_move rfl) rfl rfl (gj_yes rfl rfl rfl (y_leq rfl rfl) rfl rfl (gj_nil rfl)))) (gj_step (y_and rfl rfl rfl) rfl rfl rfl (gj_step (y_assign rfl) rfl rfl rfl (gj_nil ?_))))))))
  refine ej_th (cj_ret ?_)
  exact ej_ret1 rfl Tryz.results56 rfl (fun w' hp => ⟨rfl, hp.below⟩)

theorem k_span (lo hi most : Int) (w : World)  : Calls Tryz.prog 103 #[.agg #[.int .i64 lo, .int .i64 hi], .int .i64 most] w (fun e w' => e = .returned (.bool (spanOk lo hi most)) ∧ Grow w w') := by
  refine enter_pure (args := [.agg #[.int .i64 lo, .int .i64 hi], .int .i64 most]) [] Tryz.func103 rfl (by rw [Tryz.ntmps103]; simp) (by simp) ?_
  refine cj_seq (cj_region ?_)
  refine oj_box rfl rfl rfl (fun b2 => ?_)
  refine oj_step (y_assign rfl) rfl rfl rfl ?_
  refine oj_nil ?_
  refine ej_th (cj_seq ?_)
  refine cj_regionG (gj_step (y_fa0 fa161_0 rfl) rfl rfl rfl (gj_step (y_load1 Tryz.isAgg3 rfl rfl) rfl rfl rfl (gj_step (y_geq rfl rfl) rfl rfl rfl (gj_step (y_move rfl) rfl rfl rfl (gj_g 5 8 13 rfl rfl rfl rfl (fun hg8 => gj_yes rfl rfl rfl (y_fa0 fa161_0 rfl) rfl rfl (gj_yes rfl rfl rfl (y_load1 Tryz.isAgg3 rfl rfl) rfl rfl (gj_yes rfl rfl rfl (y_fa fa161_1 rfl) rfl rfl (gj_yes rfl rfl rfl (y_load1 Tryz.isAgg3 rfl rfl) rfl rfl (gj_yes rfl rfl rfl (y_leq rfl rfl) rfl rfl (gj_nil rfl)))))) (gj_step (y_and rfl rfl rfl) rfl rfl rfl (gj_step (y_move rfl) rfl rfl rfl (gj_g 4 15 19 rfl rfl rfl rfl (fun hg15 => gj_yes rfl rfl rfl (y_fa fa161_1 rfl) rfl rfl (gj_yes rfl rfl rfl (y_load1 Tryz.isAgg3 rfl rfl) rfl rfl (gj_yes rfl rfl rfl (y_move rfl) rfl rfl (gj_yes rfl rfl rfl (y_leq rfl rfl) rfl rfl (gj_nil rfl))))) (gj_step (y_and rfl rfl rfl) rfl rfl rfl (gj_step (y_assign rfl) rfl rfl rfl (gj_nil ?_)))))))))))
  refine ej_th (cj_ret ?_)
  exact ej_ret1 rfl Tryz.results103 rfl (fun w' hp => ⟨rfl, hp.below⟩)

theorem k_CheckTerms (fr fl cap : Int) (w : World)  : Calls Tryz.prog 102 #[.agg #[.int .i64 fr, .int .i64 fl, .int .i64 cap]] w (fun e w' => e = .returned (.int .i64 (errT (badTerms fr fl cap))) ∧ Grow w w') := by
  refine enter_pure (args := [.agg #[.int .i64 fr, .int .i64 fl, .int .i64 cap]]) [] Tryz.func102 rfl (by rw [Tryz.ntmps102]; simp) (by simp) ?_
  refine cj_seq (cj_region ?_)
  refine oj_box rfl rfl rfl (fun b1 => ?_)
  refine oj_step (y_assign rfl) rfl rfl rfl ?_
  refine oj_nil ?_
  refine ej_th (cj_seq (cj_seq ?_))
  refine cj_regionG ?_
  refine gj_step (y_fa0 fa159_0 rfl) rfl rfl rfl (gj_step (y_load1 Tryz.isAgg3 rfl rfl) rfl rfl rfl (?_))
  refine gj_step (y_call Tryz.call56 rfl (fun w hp => k_within _ _ _ w)) rfl rfl rfl ?_
  refine gj_step (y_not rfl) rfl rfl rfl (gj_step (y_move rfl) rfl rfl rfl (?_))
  refine gj_g 4 7 11 rfl rfl rfl rfl (fun hg7 => gj_yes rfl rfl rfl (y_fa fa159_2 rfl) rfl rfl (gj_yes rfl rfl rfl (y_load1 Tryz.isAgg3 rfl rfl) rfl rfl (gj_yes rfl rfl rfl (y_call Tryz.call56 rfl (fun w hp => k_within _ _ _ w)) rfl rfl (gj_yes rfl rfl rfl (y_not rfl) rfl rfl (gj_nil rfl))))) ?_
  refine gj_step (y_or rfl rfl rfl) rfl rfl rfl (gj_step (y_move rfl) rfl rfl rfl (?_))
  refine gj_g 6 13 19 rfl rfl rfl rfl (fun hg13 => gj_yes rfl rfl rfl (y_fa fa159_1 rfl) rfl rfl (gj_yes rfl rfl rfl (y_load1 Tryz.isAgg3 rfl rfl) rfl rfl (gj_yes rfl rfl rfl (y_fa fa159_2 rfl) rfl rfl (gj_yes rfl rfl rfl (y_load1 Tryz.isAgg3 rfl rfl) rfl rfl (gj_yes rfl rfl rfl (y_call Tryz.call56 rfl (fun w hp => k_within _ _ _ w)) rfl rfl (gj_yes rfl rfl rfl (y_not rfl) rfl rfl (gj_nil rfl))))))) ?_
  refine gj_step (y_or rfl rfl rfl) rfl rfl rfl (?_)
  refine gj_nil ?_
  refine ej_th ?_
  refine cj_cond rfl (fun h20 => ?_) (fun h20 => ?_)
  · have h20b := h20
    try simp only [sxb] at h20
    refine cj_seq ?_
    refine cj_regionG (gj_step (y_assign rfl) rfl rfl rfl (gj_nil ?_))
    refine ej_th (cj_ret (ej_then_ret ?_))
    refine ej_ret1 rfl Tryz.results102 rfl (fun w' hp => ⟨?_, hp.below⟩)
    rw [show badTerms fr fl cap = true from h20b]; rfl
  · have h20b := h20
    try simp only [sxb] at h20
    refine cj_skip (ej_th (cj_seq ?_))
    refine cj_regionG (gj_step (y_assign rfl) rfl rfl rfl (gj_nil ?_))
    refine ej_th (cj_ret ?_)
    refine ej_ret1 rfl Tryz.results102 rfl (fun w' hp => ⟨?_, hp.below⟩)
    rw [show badTerms fr fl cap = false from h20b]; rfl

theorem k_most (fr fl cap lo hi : Int) (w : World) (hb : badTerms fr fl cap = false) (hv : 0 ≤ lo ∧ lo ≤ 2147483648) : Calls Tryz.prog 104 #[.agg #[.int .i64 fr, .int .i64 fl, .int .i64 cap], .agg #[.int .i64 lo, .int .i64 hi]] w (fun e w' => e = .returned (.int .i64 (mostOf fr fl cap lo)) ∧ Grow w w') := by
  obtain ⟨h1, h2, h3⟩ := badTerms_no hb
  have hm := mul_bd hv h1
  refine enter_pure (args := [.agg #[.int .i64 fr, .int .i64 fl, .int .i64 cap], .agg #[.int .i64 lo, .int .i64 hi]]) [] Tryz.func104 rfl (by rw [Tryz.ntmps104]; simp) (by simp) ?_
  refine cj_seq (cj_region ?_)
  refine oj_box rfl rfl rfl (fun b2 => ?_)
  refine oj_box rfl rfl rfl (fun b3 => ?_)
  refine oj_step (y_assign rfl) rfl rfl rfl ?_
  refine oj_nil ?_
  refine ej_th (cj_seq ?_)
  refine cj_regionG (gj_step (y_fa0 fa161_0 rfl) rfl rfl rfl (gj_step (y_load1 Tryz.isAgg3 rfl rfl) rfl rfl rfl (gj_step (y_fa0 fa159_0 rfl) rfl rfl rfl (gj_step (y_load1 Tryz.isAgg3 rfl rfl) rfl rfl rfl (gj_step (y_mul rfl rfl (by omega)) rfl rfl rfl (gj_step (y_quo rfl rfl (⟨by omega, by omega, by omega⟩)) rfl rfl rfl (gj_step (y_assign rfl) rfl rfl rfl (gj_nil ?_))))))))
  refine ej_th (cj_seq (cj_seq ?_))
  refine cj_regionG (gj_step (y_move rfl) rfl rfl rfl (gj_step (y_fa fa159_1 rfl) rfl rfl rfl (gj_step (y_load1 Tryz.isAgg3 rfl rfl) rfl rfl rfl (gj_step (y_lss rfl rfl) rfl rfl rfl (gj_nil ?_)))))
  refine ej_th ?_
  refine cj_cond rfl (fun h15 => ?_) (fun h15 => ?_)
  · have h15b := h15
    try simp only [sxb] at h15
    refine cj_regionG (gj_step (y_fa fa159_1 rfl) rfl rfl rfl (gj_step (y_load1 Tryz.isAgg3 rfl rfl) rfl rfl rfl (gj_step (y_fa0 fa161_0 rfl) rfl rfl rfl (gj_step (y_load1 Tryz.isAgg3 rfl rfl) rfl rfl rfl (gj_step (y_min rfl rfl) rfl rfl rfl (gj_step (y_assign rfl) rfl rfl rfl (gj_nil ?_)))))))
    refine ej_th (cj_seq ?_)
    refine cj_regionG (gj_step (y_move rfl) rfl rfl rfl (gj_step (y_fa fa159_2 rfl) rfl rfl rfl (gj_step (y_load1 Tryz.isAgg3 rfl rfl) rfl rfl rfl (gj_step (y_min rfl rfl) rfl rfl rfl (gj_step (y_assign rfl) rfl rfl rfl (gj_nil ?_))))))
    refine ej_th (cj_ret ?_)
    refine ej_ret1 rfl Tryz.results104 rfl (fun w' hp => ⟨?_, hp.below⟩)
    rw [mostOf, if_pos h15]
  · have h15b := h15
    try simp only [sxb] at h15
    refine cj_skip (ej_th (cj_seq ?_))
    refine cj_regionG (gj_step (y_move rfl) rfl rfl rfl (gj_step (y_fa fa159_2 rfl) rfl rfl rfl (gj_step (y_load1 Tryz.isAgg3 rfl rfl) rfl rfl rfl (gj_step (y_min rfl rfl) rfl rfl rfl (gj_step (y_assign rfl) rfl rfl rfl (gj_nil ?_))))))
    refine ej_th (cj_ret ?_)
    refine ej_ret1 rfl Tryz.results104 rfl (fun w' hp => ⟨?_, hp.below⟩)
    rw [mostOf, if_neg (by omega)]

theorem k_Most (fr fl cap lo hi : Int) (w : World)  : Calls Tryz.prog 61 #[.agg #[.int .i64 fr, .int .i64 fl, .int .i64 cap], .agg #[.int .i64 lo, .int .i64 hi]] w (fun e w' => e = .returned (.tuple #[.int .i64 (MostN fr fl cap lo hi), .int .i64 (MostE fr fl cap lo hi)]) ∧ Grow w w') := by
  refine enter_pure (args := [.agg #[.int .i64 fr, .int .i64 fl, .int .i64 cap], .agg #[.int .i64 lo, .int .i64 hi]]) [] Tryz.func61 rfl (by rw [Tryz.ntmps61]; simp) (by simp) ?_
  refine cj_seq (cj_region ?_)
  refine oj_box rfl rfl rfl (fun b2 => ?_)
  refine oj_box rfl rfl rfl (fun b3 => ?_)
  refine oj_step (y_assign rfl) rfl rfl rfl ?_
  refine oj_step (y_assign rfl) rfl rfl rfl ?_
  refine oj_nil ?_
  refine ej_th (cj_seq (cj_seq ?_))
  refine cj_regionG ?_
  refine gj_step (y_loadN Tryz.isAgg159 Tryz.sizeOf159 rfl) rfl rfl rfl (?_)
  refine gj_step (y_call Tryz.call102 rfl (fun w hp => k_CheckTerms _ _ _ w)) rfl rfl rfl ?_
  refine gj_step (y_assign rfl) rfl rfl rfl (?_)
  refine gj_nil ?_
  refine ej_th (cj_seq ?_)
  refine cj_regionG (gj_step (y_move rfl) rfl rfl rfl (gj_step (y_neq rfl rfl) rfl rfl rfl (gj_nil ?_)))
  refine ej_th ?_
  refine cj_cond rfl (fun h10 => ?_) (fun h10 => ?_)
  · have h10b := h10
    try simp only [sxb] at h10
    rw [errT_ne] at h10
    refine cj_seq ?_
    refine cj_regionG (gj_step (y_move rfl) rfl rfl rfl (gj_step (y_assign rfl) rfl rfl rfl (gj_step (y_assign rfl) rfl rfl rfl (gj_nil ?_))))
    refine ej_th (cj_ret (ej_then_ret ?_))
    refine ej_ret2 rfl Tryz.results61 rfl rfl (fun w' hp => ⟨?_, hp.below⟩)
    rw [MostN, MostE, h10]; rfl
  · have h10b := h10
    try simp only [sxb] at h10
    rw [errT_eq] at h10
    refine cj_skip (ej_th (cj_seq (cj_seq ?_)))
    refine cj_regionG ?_
    refine gj_step (y_loadN Tryz.isAgg161 Tryz.sizeOf161 rfl) rfl rfl rfl (?_)
    refine gj_step (y_call Tryz.call103 rfl (fun w hp => k_span _ _ _ w)) rfl rfl rfl ?_
    refine gj_step (y_not rfl) rfl rfl rfl (?_)
    refine gj_nil ?_
    refine ej_th ?_
    refine cj_cond rfl (fun h14 => ?_) (fun h14 => ?_)
    · have h14b := h14
      try simp only [sxb] at h14
      have hs : spanOk lo hi 2147483648 = false := not_t h14b
      refine cj_seq ?_
      refine cj_regionG (gj_step (y_assign rfl) rfl rfl rfl (gj_step (y_assign rfl) rfl rfl rfl (gj_nil ?_)))
      refine ej_th (cj_ret (ej_then_ret ?_))
      refine ej_ret2 rfl Tryz.results61 rfl rfl (fun w' hp => ⟨?_, hp.below⟩)
      rw [MostN, MostE, h10, hs]; rfl
    · have h14b := h14
      try simp only [sxb] at h14
      have hs : spanOk lo hi 2147483648 = true := not_f h14b
      have hs2 := hs
      simp only [spanOk, Bool.and_eq_true, decide_eq_true_eq] at hs2
      refine cj_skip (ej_th (cj_seq ?_))
      refine cj_regionG ?_
      refine gj_step (y_loadN Tryz.isAgg159 Tryz.sizeOf159 rfl) rfl rfl rfl (gj_step (y_loadN Tryz.isAgg161 Tryz.sizeOf161 rfl) rfl rfl rfl (?_))
      refine gj_step (y_call Tryz.call104 rfl (fun w hp => k_most _ _ _ _ _ w (by assumption) (by omega))) rfl rfl rfl ?_
      refine gj_step (y_assign rfl) rfl rfl rfl (gj_step (y_assign rfl) rfl rfl rfl (?_))
      refine gj_nil ?_
      refine ej_th (cj_ret ?_)
      refine ej_ret2 rfl Tryz.results61 rfl rfl (fun w' hp => ⟨?_, hp.below⟩)
      rw [MostN, MostE, h10, hs]; rfl

end Go.Proofs.YtppfniekcgnmjaaGreatDoor.Le
namespace Go.Proofs.YtppfniekcgnmjaaGreatDoor.Au
open Go.Sx Go.RowKit
set_option maxRecDepth 20000
theorem fa109_0 : FieldIs Tryz.prog 109 0 0 1 false := ⟨⟨_, _, Tryz.underlying109, rfl, rfl, Tryz.sizeOf3, Tryz.isAgg3, by decide⟩⟩
theorem fa109_1 : FieldIs Tryz.prog 109 1 1 1 false := ⟨⟨_, _, Tryz.underlying109, rfl, rfl, Tryz.sizeOf3, Tryz.isAgg3, by decide⟩⟩
theorem fa116_0 : FieldIs Tryz.prog 116 0 0 3 true := ⟨⟨_, _, Tryz.underlying116, rfl, rfl, Tryz.sizeOf67, Tryz.isAgg67, by decide⟩⟩
theorem fa67_0 : FieldIs Tryz.prog 67 0 0 1 false := ⟨⟨_, _, Tryz.underlying67, rfl, rfl, Tryz.sizeOf3, Tryz.isAgg3, by decide⟩⟩
theorem fa67_1 : FieldIs Tryz.prog 67 1 1 1 false := ⟨⟨_, _, Tryz.underlying67, rfl, rfl, Tryz.sizeOf3, Tryz.isAgg3, by decide⟩⟩
theorem fa67_2 : FieldIs Tryz.prog 67 2 2 1 false := ⟨⟨_, _, Tryz.underlying67, rfl, rfl, Tryz.sizeOf54, Tryz.isAgg54, by decide⟩⟩
end Go.Proofs.YtppfniekcgnmjaaGreatDoor.Au
