/- Walks of functions of the program. -/
import Derived.Test.YtafmgkiddhappaaDoorYWFind
import Derived.Test.YtafmgkiddhappaaDoorYTyCov
namespace Go.Proofs.YtafmgkiddhappaaDoor
open Go.Sx Go.RowKit
set_option maxRecDepth 20000
theorem k_findA (a b : ItemV) (xa xb xu x7 x8 : Nat) (w0 : World) (hga : GoodI w0 a) (hgb : GoodI w0 b) (ihc : ∀ p ∈ a.parts, ∀ q ∈ b.parts, ∀ w1, Grow w0 w1 → Calls Tryd.prog 78 #[evI p, evI q] w1 (fun e w' => e = .returned (.bool (covI p q)) ∧ Grow w1 w')) : ∀ (n i : Nat) (us : List Bool) (w : World), a.parts.length - i = n → i ≤ a.parts.length → us.length = b.parts.length → FindW w0 w a b xa xb xu x7 x8 → w.heap[xu]? = some (cellsB 4 (bls us)) →
    Calls Tryd.prog 96 #[.int .i64 (i : Nat), .pointer (some ⟨xa, 0, none⟩), .pointer (some ⟨xb, 0, none⟩), .pointer (some ⟨x7, 0, none⟩), .pointer (some ⟨x8, 0, none⟩)] w (fun e w' => e = .returned (.bool (asg (covRows (a.parts.drop i) b.parts) us).1) ∧ Mut (ownB xu (cellsB 4 (bls us))) w w' ∧ w'.heap[xu]? = some (cellsB 4 (bls (asg (covRows (a.parts.drop i) b.parts) us).2))) := by
  intro n
  induction n with
  | zero =>
    intro i us w hn hi hus hw hob
    exact k_find1 a b xa xb xu x7 x8 i us w0 w hw hob hga hgb hi hus ihc (fun vs w1 hlt _ _ _ => absurd hlt (by omega))
  | succ n ih =>
    intro i us w hn hi hus hw hob
    exact k_find1 a b xa xb xu x7 x8 i us w0 w hw hob hga hgb hi hus ihc (fun vs w1 hlt hvl hw1 ho1 => by have h := ih (i + 1) vs w1 (by omega) (by omega) hvl hw1 ho1; exact h)

theorem k_cov1 (a b : ItemV) (g : List (ByteArray × ClassV)) (w : World) (hga : GoodI w a) (hgb : GoodI w b) (hoa : OkG g a) (hob : OkG g b) (ihc : ∀ p ∈ a.parts, ∀ q ∈ b.parts, ∀ w1, Grow w w1 → Calls Tryd.prog 78 #[evI p, evI q] w1 (fun e w' => e = .returned (.bool (covI p q)) ∧ Grow w1 w')) : Calls Tryd.prog 78 #[evI a, evI b] w (fun e w' => e = .returned (.bool (covI a b)) ∧ Grow w w') := by
  have hl1 := hga.rs.len
  have hl2 := hgb.rs.len
  have hf := hob.few
  refine enter_pure (args := [evI a, evI b]) [] Tryd.func78 rfl (by rw [Tryd.ntmps78]; simp) (by simp) ?_
  refine cj_seq (cj_region ?_)
  refine oj_box rfl rfl rfl (fun b2 => ?_)
  refine oj_box rfl rfl rfl (fun b3 => ?_)
  refine oj_step (y_assign rfl) rfl rfl rfl ?_
  refine oj_nil ?_
  refine ej_th (cj_seq (cj_seq ?_))
  refine cj_regionG (gj_step (y_fa0 fa103_0 rfl) rfl rfl rfl (gj_step (y_load1 Tryd.isAgg9 rfl rfl) rfl rfl rfl (gj_step (y_fa0 fa103_0 rfl) rfl rfl rfl (gj_step (y_load1 Tryd.isAgg9 rfl rfl) rfl rfl rfl (gj_step (y_neqS rfl rfl) rfl rfl rfl (gj_nil ?_))))))
  refine ej_th ?_
  refine cj_cond rfl (fun h13 => ?_) (fun h13 => ?_)
  · have h13b := h13
    try simp only [sxb] at h13
    have hce := bytes_ne h13
    refine cj_seq ?_
    refine cj_regionG (gj_step (y_assign rfl) rfl rfl rfl (gj_nil ?_))
    refine ej_th (cj_ret (ej_then_ret ?_))
    exact ej_ret1 rfl Tryd.results78 rfl (fun w' hp => ⟨by rw [covI_eq, decide_eq_false hce]; rfl, hp.below⟩)
  · have h13b := h13
    try simp only [sxb] at h13
    have hce := bytes_eq h13
    have hsl := hoa.says hob hce
    refine cj_rd hga.rs (fun _ h => h) ?_
    refine cj_rd hgb.rs (fun _ h => h) ?_
    refine cj_skip (ej_th (cj_seq (cj_seq ?_)))
    refine cj_regionG (gj_step (y_fa fa103_1 rfl) rfl rfl rfl (gj_step (y_load1 Tryd.isAgg100 rfl rfl) rfl rfl rfl (gj_step (y_lenA Tryd.underlying100 rfl) rfl rfl rfl (gj_step (y_move rfl) rfl rfl rfl (gj_nil ?_)))))
    refine ej_th (cj_block ?_)
    refine cj_lpic (X := Nat) [(2, _), (3, _), (15, _), (16, _)] (fun k => k ≤ a.says.length ∧ saysCov (a.says.drop k) (b.says.drop k) = saysCov a.says b.says) (fun k => [(17, .int .i64 k)]) (fun k => a.says.length - k) 0 (⟨Nat.zero_le _, rfl⟩) ⟨rfl, rfl, rfl, rfl, rfl, trivial⟩ ?_
    rintro k ⟨hk, hsc⟩
    dsimp only [List.cons_append, List.nil_append]
    refine cj_seq ?_
    refine cj_regionG (gj_step (y_lss rfl rfl) rfl rfl rfl (gj_nil ?_))
    refine ej_th (cj_seq ?_)
    refine cj_cond rfl (fun h18 => ?_) (fun h18 => ?_)
    · have h18b := h18
      try simp only [sxb] at h18
      obtain ⟨s, hs⟩ : ∃ s, a.says[k]? = some s := ⟨_, List.getElem?_eq_getElem (by omega)⟩
      obtain ⟨t, ht⟩ : ∃ t, b.says[k]? = some t := ⟨_, List.getElem?_eq_getElem (by omega)⟩
      rw [saysCov_drop _ _ k s t hs ht] at hsc
      refine cj_skip (ej_th (cj_seq (cj_block (cj_seq ?_))))
      refine cj_regionG (gj_step (y_move rfl) rfl rfl rfl (gj_step (y_ixR (reads_sl) Tryd.underlying100 Tryd.sizeOf9 rfl rfl (⟨by omega, by omega⟩)) rfl rfl rfl (gj_step (y_ld0 (reads_sl) Tryd.isAgg9 rfl (hs) rfl) rfl rfl rfl (gj_step (y_assign rfl) rfl rfl rfl (gj_step (y_assign rfl) rfl rfl rfl (gj_nil ?_))))))
      refine ej_th (cj_seq ?_)
      refine cj_regionG (gj_step (y_move rfl) rfl rfl rfl (gj_step (y_neqS rfl rfl) rfl rfl rfl (gj_step (y_move rfl) rfl rfl rfl (gj_g 7 24 31 rfl rfl rfl rfl (fun hg24 => gj_yes rfl rfl rfl (y_move rfl) rfl rfl (gj_yes rfl rfl rfl (y_fa fa103_1 rfl) rfl rfl (gj_yes rfl rfl rfl (y_load1 Tryd.isAgg100 rfl rfl) rfl rfl (gj_yes rfl rfl rfl (y_move rfl) rfl rfl (gj_yes rfl rfl rfl (y_ixR (reads_sl) Tryd.underlying100 Tryd.sizeOf9 rfl rfl (⟨by omega, by omega⟩)) rfl rfl (gj_yes rfl rfl rfl (y_ld0 (reads_sl) Tryd.isAgg9 rfl (ht) rfl) rfl rfl (gj_yes rfl rfl rfl (y_neqS rfl rfl) rfl rfl (gj_nil rfl)))))))) (gj_step (y_and rfl rfl rfl) rfl rfl rfl (gj_nil ?_))))))
      refine ej_th ?_
      refine cj_cond rfl (fun h32 => ?_) (fun h32 => ?_)
      · have h32b := h32
        try simp only [sxb] at h32
        refine cj_seq ?_
        refine cj_regionG (gj_step (y_assign rfl) rfl rfl rfl (gj_nil ?_))
        refine ej_th (cj_ret (ej_blk_ret (ej_then_ret (ej_then_ret (ej_blk_ret (ej_then_ret ?_))))))
        exact ej_ret1 rfl Tryd.results78 rfl (fun w' hp => ⟨by rw [covI_eq, ← hsc, h32b]; simp, hp.below⟩)
      · have h32b := h32
        try simp only [sxb] at h32
        refine cj_skip (ej_blk (ej_th ?_))
        refine cj_regionG (gj_step (y_add rfl rfl (by omega)) rfl rfl rfl (gj_step (y_move rfl) rfl rfl rfl (gj_nil ?_)))
        exact ej_nx (k + 1) (by omega) ⟨by omega, by rw [← hsc, h32b]; rfl⟩ ⟨rfl, rfl, rfl, rfl, rfl, trivial⟩
    · have h18b := h18
      try simp only [sxb] at h18
      refine cj_exit (ej_then_exit (ej_then_exit (ej_blk_hit (ej_th (cj_seq (cj_region ?_))))))
      refine oj_step (y_fa fa103_2 rfl) rfl rfl rfl ?_
      refine oj_step (y_load1 Tryd.isAgg101 rfl rfl) rfl rfl rfl ?_
      refine oj_step (y_lenA Tryd.underlying101 rfl) rfl rfl rfl ?_
      refine oj_makeSlice1 (n := b.parts.length) Tryd.underlying160 Tryd.type4 rfl rfl rfl rfl rfl (by show 1 * b.parts.length ≤ _; omega) (by omega) rfl (fun b37 => ?_)
      refine oj_alloc Tryd.zeroValue160 rfl rfl (fun b7 => ?_)
      refine oj_store rfl rfl rfl rfl Tryd.sizeOf160 rfl ?_
      refine oj_nil ?_
      refine ej_th (cj_seq (cj_region ?_))
      refine oj_alloc Tryd.zeroValue114 rfl rfl (fun b8 => ?_)
      refine oj_nil ?_
      refine ej_th (cj_seq (cj_region ?_))
      refine oj_step (y_makeFunc rfl rfl) rfl rfl rfl ?_
      refine oj_store rfl rfl rfl rfl Tryd.sizeOf114 rfl ?_
      refine oj_nil ?_
      refine ej_th (cj_seq (cj_region ?_))
      refine oj_step (y_load1 Tryd.isAgg114 rfl rfl) rfl rfl rfl ?_
      refine oj_callMV (X := Unit) (b := b37) (fun _ => .bool (asg (covRows (a.parts.drop 0) b.parts) (List.replicate b.parts.length false)).1) (fun _ => cellsB 4 (bls (asg (covRows (a.parts.drop 0) b.parts) (List.replicate b.parts.length false)).2)) rfl rfl ⟨96, #[], _, rfl, Tryd.call96, fun w1 hp => by
        have hu1 : w1.heap[b37]? = some (cellsB 4 (bls (List.replicate b.parts.length false))) := by rw [bls, List.map_replicate]; exact hp.bo
        have hw1 : FindW w w1 a b b2 b3 b37 b7 b8 := ⟨hp.below, ((hp.newB (b := b37)).2 b37 rfl).1, hp.bo, hp.bo, hp.bo, hp.bo, blk_ne (hp.bo (b := b2)) hu1 (by decide), blk_ne (hp.bo (b := b3)) hu1 (by decide), blk_ne (hp.bo (b := b7)) hu1 (by decide), blk_ne (hp.bo (b := b8)) hu1 (by decide)⟩
        have h := k_findA a b b2 b3 b37 b7 b8 w hga hgb ihc _ 0 (List.replicate b.parts.length false) w1 rfl (Nat.zero_le _) (by simp) hw1 hu1
        exact h.mono fun e w' ⟨h1, h2, h3⟩ => ⟨(), h1, ⟨h2.os, h2.tape, h2.output, h2.size, h2.same⟩, h3⟩⟩ rfl (fun _ => ?_)
      refine oj_step (y_assign rfl) rfl rfl rfl ?_
      refine oj_nil ?_
      refine ej_th (cj_ret ?_)
      have hst : saysCov a.says b.says = true := by rw [← hsc, List.drop_of_length_le (show a.says.length ≤ k by omega)]; rfl
      exact ej_ret1 rfl Tryd.results78 rfl (fun w' hp => ⟨by rw [covI_eq, hst, decide_eq_true hce]; rfl, hp.below⟩)

theorem k_cov {w0 : World} {g : List (ByteArray × ClassV)} {a : ItemV} (hga : GoodI w0 a) : ∀ (b : ItemV) (w : World), Grow w0 w → GoodI w b → OkG g a → OkG g b → Calls Tryd.prog 78 #[evI a, evI b] w (fun e w' => e = .returned (.bool (covI a b)) ∧ Grow w w') := by
  induction hga with
  | mk hs hp hn hm hr ih =>
    intro b w hg hgb hoa hob
    exact k_cov1 _ b g w ((GoodI.mk hs hp hn hm hr).mono hg) hgb hoa hob (fun p hpm q hqm w1 hg1 => ih p hpm q w1 (grow_trans hg hg1) ((hgb.pt q hqm).mono hg1) (hoa.pt p hpm) (hob.pt q hqm))

end Go.Proofs.YtafmgkiddhappaaDoor
