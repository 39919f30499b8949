/- Walks of functions of the program. -/
import Derived.Test.YtafmgkiddhappaaDoorYWAsked
import Derived.Test.YtafmgkiddhappaaDoorYPCov
import Derived.Test.YtafmgkiddhappaaDoorYTyFind
namespace Go.Proofs.YtafmgkiddhappaaDoor
open Go.Sx Go.RowKit
set_option maxRecDepth 20000
theorem k_find1 (a b : ItemV) (xa xb xu x7 x8 i : Nat) (us : List Bool) (w0 : World) (w : World) (hw : FindW w0 w a b xa xb xu x7 x8) (hob : w.heap[xu]? = some (cellsB 4 (bls us))) (hga : GoodI w0 a) (hgb : GoodI w0 b) (hi : i ≤ a.parts.length) (hus : us.length = b.parts.length) (ihc : ∀ p ∈ a.parts, ∀ q ∈ b.parts, ∀ w1, Grow w0 w1 → Calls Tryd.prog 78 #[evI p, evI q] w1 (fun e w' => e = .returned (.bool (covI p q)) ∧ Grow w1 w')) (ihf : ∀ (vs : List Bool) (w1 : World), i < a.parts.length → vs.length = b.parts.length → FindW w0 w1 a b xa xb xu x7 x8 → w1.heap[xu]? = some (cellsB 4 (bls vs)) → Calls Tryd.prog 96 (#[] ++ [.int .i64 ((i : Int) + 1)].toArray ++ #[.pointer (some ⟨xa, 0, none⟩), .pointer (some ⟨xb, 0, none⟩), .pointer (some ⟨x7, 0, none⟩), .pointer (some ⟨x8, 0, none⟩)]) w1 (fun e w' => e = .returned (.bool (asg (covRows (a.parts.drop (i + 1)) b.parts) vs).1) ∧ Mut (ownB xu (cellsB 4 (bls vs))) w1 w' ∧ w'.heap[xu]? = some (cellsB 4 (bls (asg (covRows (a.parts.drop (i + 1)) b.parts) vs).2)))) : Calls Tryd.prog 96 #[.int .i64 (i : Nat), .pointer (some ⟨xa, 0, none⟩), .pointer (some ⟨xb, 0, none⟩), .pointer (some ⟨x7, 0, none⟩), .pointer (some ⟨x8, 0, none⟩)] w (fun e w' => e = .returned (.bool (asg (covRows (a.parts.drop i) b.parts) us).1) ∧ Mut (ownB xu (cellsB 4 (bls us))) w w' ∧ w'.heap[xu]? = some (cellsB 4 (bls (asg (covRows (a.parts.drop i) b.parts) us).2))) := by
  have hl1 := hga.rp.len
  have hl2 := hgb.rp.len
  have hF : ∀ j, j < w0.heap.size → j < w.heap.size ∧ j ≠ xu := fun j h => ⟨Nat.lt_of_lt_of_le h hw.hg.size, fun e => by have := hw.hu; omega⟩
  refine enter_own (args := [.int .i64 (i : Nat), .pointer (some ⟨xa, 0, none⟩), .pointer (some ⟨xb, 0, none⟩), .pointer (some ⟨x7, 0, none⟩), .pointer (some ⟨x8, 0, none⟩)]) xu (cellsB 4 (bls us)) [ownB xa (cellsB 103 [.string a.cls, .slice a.As a.says.length a.cs, .slice a.Ap a.parts.length a.cp]), ownB xb (cellsB 103 [.string b.cls, .slice b.As b.says.length b.cs, .slice b.Ap b.parts.length b.cp]), ownB x7 (cellsB 160 [.slice (some ⟨xu, 0, none⟩) b.parts.length b.parts.length]), ownB x8 (cellsB 114 [.func (.func 96) #[] #[.pointer (some ⟨xa, 0, none⟩), .pointer (some ⟨xb, 0, none⟩), .pointer (some ⟨x7, 0, none⟩), .pointer (some ⟨x8, 0, none⟩)]])] Tryd.func96 rfl (by rw [Tryd.ntmps96]; simp) hob (fun g hg => by
    have hlt : ∀ (x : Nat) (o : Obj), w.heap[x]? = some o → x < w.heap.size := fun x o h => (Array.getElem?_eq_some_iff.1 h).1
    simp only [List.mem_cons, List.mem_nil_iff, or_false] at hg
    rcases hg with rfl | rfl | rfl | rfl
    · exact ⟨hw.ha, fun i hi => by have : i = xa := hi; subst this; exact ⟨hlt _ _ hw.ha, hw.na⟩⟩
    · exact ⟨hw.hb, fun i hi => by have : i = xb := hi; subst this; exact ⟨hlt _ _ hw.hb, hw.nb⟩⟩
    · exact ⟨hw.h7, fun i hi => by have : i = x7 := hi; subst this; exact ⟨hlt _ _ hw.h7, hw.n7⟩⟩
    · exact ⟨hw.h8, fun i hi => by have : i = x8 := hi; subst this; exact ⟨hlt _ _ hw.h8, hw.n8⟩⟩) ?_
  refine cj_seq ?_
  refine cj_regionG (gj_step (y_assign rfl) rfl rfl rfl (gj_nil ?_))
  refine ej_th ?_
  refine cj_scope rfl ?_
  refine cj_seq (cj_seq ?_)
  refine cj_regionG (gj_step (y_move rfl) rfl rfl rfl (gj_step (y_fa fa103_2 rfl) rfl rfl rfl (gj_step (y_loadS1 Tryd.isAgg101 rfl rfl) rfl rfl rfl (gj_step (y_lenA Tryd.underlying101 rfl) rfl rfl rfl (gj_step (y_eql rfl rfl) rfl rfl rfl (gj_nil ?_))))))
  refine ej_th ?_
  refine cj_cond rfl (fun h13 => ?_) (fun h13 => ?_)
  · have h13b := h13
    try simp only [sxb] at h13
    have hie : i = a.parts.length := by omega
    have hro : covRows (a.parts.drop i) b.parts = [] := by rw [List.drop_of_length_le (by omega)]; unfold covRows; rfl
    refine cj_seq ?_
    refine cj_regionG (gj_step (y_assign rfl) rfl rfl rfl (gj_nil ?_))
    refine ej_th (cj_ret (ej_then_ret (ej_noGoto_ret ?_)))
    exact ej_ret1 rfl Tryd.results96 rfl (fun w' hp => ⟨by rw [hro]; rfl, hp.mut, by rw [hro]; exact hp.own1⟩)
  · have h13b := h13
    try simp only [sxb] at h13
    obtain ⟨p, hai⟩ : ∃ p, a.parts[i]? = some p := ⟨_, List.getElem?_eq_getElem (by omega)⟩
    have hro := covRows_drop a.parts b.parts i p hai
    refine cj_rd0 w0 hw.hg hF hga.rp ?_
    refine cj_rd0 w0 hw.hg hF hgb.rp ?_
    refine cj_skip (ej_th (cj_seq (cj_label (ej_th (cj_seq (cj_seq ?_))))))
    refine cj_regionG (gj_step (y_fa fa103_2 rfl) rfl rfl rfl (gj_step (y_loadS1 Tryd.isAgg101 rfl rfl) rfl rfl rfl (gj_step (y_lenA Tryd.underlying101 rfl) rfl rfl rfl (gj_step (y_move rfl) rfl rfl rfl (gj_nil ?_)))))
    refine ej_th (cj_block ?_)
    refine cj_lpi (X := Nat × List Bool) [(0, _), (1, _), (3, _), (4, _), (15, _), (16, _)] (fun ⟨k, vs⟩ => k ≤ b.parts.length ∧ vs.length = b.parts.length ∧ scanA (fun u => asg (covRows (a.parts.drop (i + 1)) b.parts) u) ((b.parts.map (fun q => covI p q)).drop k) k vs = asg (covRows (a.parts.drop i) b.parts) us) (fun ⟨k, vs⟩ => [(17, .int .i64 k)]) (fun ⟨k, vs⟩ => [ownB xu (cellsB 4 (bls vs))]) (fun ⟨k, vs⟩ => [sl (fun i => i < w0.heap.size) 3 encIt b.Ap b.parts, sl (fun i => i < w0.heap.size) 3 encIt a.Ap a.parts, ownB xa (cellsB 103 [.string a.cls, .slice a.As a.says.length a.cs, .slice a.Ap a.parts.length a.cp]), ownB xb (cellsB 103 [.string b.cls, .slice b.As b.says.length b.cs, .slice b.Ap b.parts.length b.cp]), ownB x7 (cellsB 160 [.slice (some ⟨xu, 0, none⟩) b.parts.length b.parts.length]), ownB x8 (cellsB 114 [.func (.func 96) #[] #[.pointer (some ⟨xa, 0, none⟩), .pointer (some ⟨xb, 0, none⟩), .pointer (some ⟨x7, 0, none⟩), .pointer (some ⟨x8, 0, none⟩)]])]) (fun ⟨k, vs⟩ => b.parts.length - k) (0, us) (⟨Nat.zero_le _, hus, by rw [hro]; rfl⟩) ⟨rfl, rfl, rfl, rfl, rfl, rfl, rfl, trivial⟩ ?_
    rintro ⟨k, vs⟩ ⟨hk, hvl, hsc⟩
    dsimp only [List.cons_append, List.nil_append]
    refine cj_seq ?_
    refine cj_regionG (gj_step (y_lss rfl rfl) rfl rfl rfl (gj_nil ?_))
    refine ej_th (cj_seq ?_)
    refine cj_cond rfl (fun h18 => ?_) (fun h18 => ?_)
    · have h18b := h18
      try simp only [sxb] at h18
      obtain ⟨q, hq⟩ : ∃ q, b.parts[k]? = some q := ⟨_, List.getElem?_eq_getElem (by omega)⟩
      obtain ⟨u, hu⟩ : ∃ u, vs[k]? = some u := ⟨_, List.getElem?_eq_getElem (by omega)⟩
      have hrk : (b.parts.map (fun q => covI p q))[k]? = some (covI p q) := by rw [List.getElem?_map, hq]; rfl
      rw [scanA_drop _ _ k _ u vs hrk hu] at hsc
      refine cj_skip (ej_th (cj_seq (cj_block (cj_seq (cj_region ?_)))))
      refine oj_step (y_move rfl) rfl rfl rfl ?_
      refine oj_step (y_ixR (reads_sl) Tryd.underlying101 Tryd.sizeOf103 rfl rfl (⟨by omega, by omega⟩)) rfl rfl rfl ?_
      refine oj_step (y_ldW (reads_sl) Tryd.isAgg103 Tryd.sizeOf103 rfl (hq) (fun _ => rfl)) rfl rfl rfl ?_
      refine oj_alloc Tryd.zeroValue103 rfl rfl (fun b8 => ?_)
      refine oj_step (y_assign rfl) rfl rfl rfl ?_
      refine oj_store rfl rfl rfl rfl Tryd.sizeOf103 rfl ?_
      refine oj_nil ?_
      refine ej_th (cj_seq (cj_seq ?_))
      refine cj_draw (by kernel_rfl) (by kernel_rfl) ?_
      refine gj_step (y_loadS1 Tryd.isAgg160 rfl rfl) rfl rfl rfl (gj_step (y_move rfl) rfl rfl rfl (gj_step (y_ixK Tryd.underlying160 Tryd.sizeOf4 rfl rfl (by omega)) rfl rfl rfl (gj_step (y_load1 Tryd.isAgg4 rfl (bls_get hu)) rfl rfl rfl (gj_step (y_move rfl) rfl rfl rfl (?_)))))
      refine gj_g 8 26 34 rfl rfl rfl rfl (fun hg26 => gj_yes rfl rfl rfl (y_fa fa103_2 rfl) rfl rfl (gj_yes rfl rfl rfl (y_loadS1 Tryd.isAgg101 rfl rfl) rfl rfl (gj_yes rfl rfl rfl (y_move rfl) rfl rfl (gj_yes rfl rfl rfl (y_ixR (reads_sl) Tryd.underlying101 Tryd.sizeOf103 rfl rfl (⟨by omega, by omega⟩)) rfl rfl (gj_yes rfl rfl rfl (y_ldW (reads_sl) Tryd.isAgg103 Tryd.sizeOf103 rfl (hai) (fun _ => rfl)) rfl rfl (gj_yes rfl rfl rfl (y_loadN Tryd.isAgg103 Tryd.sizeOf103 rfl) rfl rfl (gj_yes rfl rfl rfl (y_call Tryd.call78 rfl (fun w hp => by have h := ihc p (List.mem_of_getElem? hai) q (List.mem_of_getElem? hq) w (hp.grow0 hw.hg hF); exact h)) rfl rfl (gj_yes rfl rfl rfl (y_not rfl) rfl rfl (gj_nil rfl))))))))) ?_
      refine gj_step (y_or rfl rfl rfl) rfl rfl rfl (?_)
      refine gj_nil ?_
      refine ej_th ?_
      refine cj_cond rfl (fun h35 => ?_) (fun h35 => ?_)
      · have h35b := h35
        try simp only [sxb] at h35
        rw [if_pos h35b] at hsc
        refine cj_exit (ej_then_exit (ej_blk_hit (ej_th ?_)))
        refine cj_regionG (gj_step (y_add rfl rfl (by omega)) rfl rfl rfl (gj_step (y_move rfl) rfl rfl rfl (gj_nil ?_)))
        exact ej_nx (k + 1, vs) (by simp only; omega) ⟨by first | omega | (simp only; omega), hvl, hsc⟩ ⟨rfl, rfl, rfl, rfl, rfl, rfl, rfl, trivial⟩
      · have h35b := h35
        try simp only [sxb] at h35
        rw [if_neg (by rw [h35b]; simp)] at hsc
        refine cj_skip (ej_th (cj_seq (cj_region ?_)))
        refine oj_step (y_loadS1 Tryd.isAgg160 rfl rfl) rfl rfl rfl ?_
        refine oj_step (y_move rfl) rfl rfl rfl ?_
        refine oj_step (y_ixK Tryd.underlying160 Tryd.sizeOf4 rfl rfl (by omega)) rfl rfl rfl ?_
        refine oj_storeK rfl rfl rfl rfl Tryd.sizeOf4 (by rw [bls_len]; omega) ?_
        rw [bls_set]
        refine oj_nil ?_
        refine ej_th (cj_seq (cj_seq (cj_region ?_)))
        refine oj_step (y_loadS1 Tryd.isAgg114 rfl rfl) rfl rfl rfl ?_
        refine oj_step (y_move rfl) rfl rfl rfl ?_
        refine oj_step (y_add rfl rfl (by omega)) rfl rfl rfl ?_
        refine oj_callMV (X := Unit) (fun _ => .bool (asg (covRows (a.parts.drop (i + 1)) b.parts) (vs.set k true)).1) (fun _ => cellsB 4 (bls (asg (covRows (a.parts.drop (i + 1)) b.parts) (vs.set k true)).2)) rfl rfl ⟨96, #[], #[.pointer (some ⟨xa, 0, none⟩), .pointer (some ⟨xb, 0, none⟩), .pointer (some ⟨x7, 0, none⟩), .pointer (some ⟨x8, 0, none⟩)], rfl, Tryd.call96, fun w hp => (ihf (vs.set k true) w (by omega) (by simp; omega) ⟨hp.grow0 hw.hg hF, hw.hu, hp.bs, hp.bs, hp.bs, hp.bs, hw.na, hw.nb, hw.n7, hw.n8⟩ hp.own1).mono fun e w' ⟨h1, h2, h3⟩ => ⟨(), h1, h2, h3⟩⟩ rfl (fun _ => ?_)
        obtain ⟨us2, hu2⟩ : ∃ u, u = (asg (covRows (a.parts.drop (i + 1)) b.parts) (vs.set k true)).2 := ⟨_, rfl⟩
        have hul2 : us2.length = b.parts.length := by rw [hu2, asg_len]; simp; omega
        rw [← hu2]
        refine oj_nil ?_
        refine ej_th ?_
        refine cj_cond rfl (fun h42 => ?_) (fun h42 => ?_)
        · have h42b := h42
          try simp only [sxb] at h42
          rw [if_pos h42b, ← hu2] at hsc
          refine cj_seq ?_
          refine cj_regionG (gj_step (y_assign rfl) rfl rfl rfl (gj_nil ?_))
          refine ej_th (cj_ret (ej_then_ret (ej_blk_ret (ej_then_ret (ej_then_ret (ej_blk_ret (ej_then_ret (ej_noGoto_ret ?_))))))))
          exact ej_ret1 rfl Tryd.results96 rfl (fun w' hp => ⟨by rw [← hsc], hp.mut, by rw [← hsc]; exact hp.own1⟩)
        · have h42b := h42
          try simp only [sxb] at h42
          rw [if_neg (by rw [h42b]; simp), ← hu2] at hsc
          refine cj_skip (ej_th (cj_region ?_))
          refine oj_step (y_loadS1 Tryd.isAgg160 rfl rfl) rfl rfl rfl ?_
          refine oj_step (y_move rfl) rfl rfl rfl ?_
          refine oj_step (y_ixK Tryd.underlying160 Tryd.sizeOf4 rfl rfl (by omega)) rfl rfl rfl ?_
          refine oj_storeK rfl rfl rfl rfl Tryd.sizeOf4 (by rw [bls_len]; omega) ?_
          rw [bls_set]
          refine oj_nil ?_
          refine ej_blk (ej_th ?_)
          refine cj_regionG (gj_step (y_add rfl rfl (by omega)) rfl rfl rfl (gj_step (y_move rfl) rfl rfl rfl (gj_nil ?_)))
          exact ej_nx (k + 1, us2.set k false) (by simp only; omega) ⟨by first | omega | (simp only; omega), by simp only [List.length_set]; exact hul2, hsc⟩ ⟨rfl, rfl, rfl, rfl, rfl, rfl, rfl, trivial⟩
    · have h18b := h18
      try simp only [sxb] at h18
      refine cj_exit (ej_then_exit (ej_then_exit (ej_blk_hit (ej_th (cj_seq ?_)))))
      refine cj_regionG (gj_step (y_assign rfl) rfl rfl rfl (gj_nil ?_))
      refine ej_th (cj_ret (ej_noGoto_ret ?_))
      rw [List.drop_of_length_le (show (b.parts.map (fun q => covI p q)).length ≤ k by rw [List.length_map]; omega), scanA] at hsc
      exact ej_ret1 rfl Tryd.results96 rfl (fun w' hp => ⟨by rw [← hsc], hp.mut, by rw [← hsc]; exact hp.own1⟩)

end Go.Proofs.YtafmgkiddhappaaDoor
