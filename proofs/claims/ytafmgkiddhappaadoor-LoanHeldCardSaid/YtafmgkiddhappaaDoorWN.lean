/- Walks of functions of the program. -/
import Derived.Test.YtafmgkiddhappaaDoorWM
namespace Go.Proofs.YtafmgkiddhappaaDoor
open Go.Sx Go.RowKit
set_option maxRecDepth 20000
theorem ew_Crafts (As Af : Option Addr) (cs cf : Nat) (w : World) (hs : Rd w 5 encSale As mSales) (hf : Rd w 1 enInt Af mFade) : Calls Tryd.prog 16 #[.agg #[.slice As 4 cs, .slice Af 2 cf, .int .i64 50, .int .i64 800, .int .i64 2], .int .i64 0] w (fun e w' => ∃ A c, e = .returned (.tuple #[.slice A ([150, 500, 600] : List Int).length c, .int .i64 0]) ∧ Grow w w' ∧ Res w w' 1 enInt A [150, 500, 600]) := by
  have h := k_Crafts mSales mFade 50 800 2 As Af cs cf 0 w hs hf
  rw [ex_crafts, ex_craftsE] at h
  exact h
theorem ew_Value (As Af : Option Addr) (cs cf : Nat) (w : World) (hs : Rd w 5 encSale As mSales) (hf : Rd w 1 enInt Af mFade) : Calls Tryd.prog 21 #[.agg #[.slice As 4 cs, .slice Af 2 cf, .int .i64 50, .int .i64 800, .int .i64 2], .agg #[.int .i64 0, .int .i64 10, .int .i64 12]] w (fun e w' => e = .returned (.tuple #[.agg #[.int .i64 650, .int .i64 1200], .int .i64 0]) ∧ Grow w w') := by
  have h := k_Value mSales mFade 50 800 2 As Af cs cf 0 10 12 w hs hf
  rw [ex_value.1, ex_value.2.1, ex_value.2.2] at h
  exact h
theorem ew_Most (w : World) : Calls Tryd.prog 28 #[.agg #[.int .i64 40, .int .i64 300, .int .i64 5000], .agg #[.int .i64 400, .int .i64 900]] w (fun e w' => e = .returned (.tuple #[.int .i64 300, .int .i64 0]) ∧ Grow w w') := by
  have h := k_Most 40 300 5000 400 900 w
  rw [ex_most.1, ex_most.2] at h
  exact h
theorem ew_Lend (w : World) : Calls Tryd.prog 30 #[.agg #[.int .i64 40, .int .i64 300, .int .i64 5000], .agg #[.int .i64 650, .int .i64 1200], .int .i64 1000] w (fun e w' => e = .returned (.tuple #[.int .i64 406, .int .i64 0]) ∧ Grow w w') := by
  have h := k_Lend 40 300 5000 650 1200 1000 w
  rw [ex_lend.1, ex_lend.2] at h
  exact h
theorem ew_Owe1 (b : Nat) (w : World) (hc : Rd w 1 enInt (some ⟨b, 0, none⟩) [103, 104]) (hG : Gl w 0 WAYS) : Calls Tryd.prog 32 #[.agg #[.int .i64 1000, .int .i64 16, .int .i64 500, .int .i64 2, .int .i64 50, .int .i64 10, .int .i64 3, .slice (some ⟨b, 0, none⟩) 2 2, .int .i64 100, .int .i64 100000], .slice none 0 0, .int .i64 112] w (fun e w' => e = .returned (.tuple #[.agg #[.int .i64 100000, .int .i64 400, .int .i64 0, .int .i64 10, .bool true], .int .i64 0]) ∧ Grow w w') := by
  have h := k_Owe dealD (some ⟨b, 0, none⟩) 2 [] none 0 112 w hc Rd.nil hG
  rw [ex_owe1.1, ex_owe1.2] at h
  exact h
theorem ew_Owe2 (b : Nat) (w : World) (hc : Rd w 1 enInt (some ⟨b, 0, none⟩) [103, 104]) (hG : Gl w 0 WAYS) (b2 : Nat) (hl : Rd w 3 encAct (some ⟨b2, 0, none⟩) [⟨105, 2, 0⟩]) : Calls Tryd.prog 32 #[.agg #[.int .i64 1000, .int .i64 16, .int .i64 500, .int .i64 2, .int .i64 50, .int .i64 10, .int .i64 3, .slice (some ⟨b, 0, none⟩) 2 2, .int .i64 100, .int .i64 100000], .slice (some ⟨b2, 0, none⟩) 1 1, .int .i64 112] w (fun e w' => e = .returned (.tuple #[.agg #[.int .i64 100000, .int .i64 450, .int .i64 100, .int .i64 7, .bool true], .int .i64 0]) ∧ Grow w w') := by
  have h := k_Owe dealD (some ⟨b, 0, none⟩) 2 [⟨105, 2, 0⟩] (some ⟨b2, 0, none⟩) 1 112 w hc hl hG
  rw [ex_owe2.1, ex_owe2.2] at h
  exact h
theorem ew_Owe3 (b : Nat) (w : World) (hc : Rd w 1 enInt (some ⟨b, 0, none⟩) [103, 104]) (hG : Gl w 0 WAYS) (b2 : Nat) (hl : Rd w 3 encAct (some ⟨b2, 0, none⟩) [⟨105, 1, 20050⟩]) : Calls Tryd.prog 32 #[.agg #[.int .i64 1000, .int .i64 16, .int .i64 500, .int .i64 2, .int .i64 50, .int .i64 10, .int .i64 3, .slice (some ⟨b, 0, none⟩) 2 2, .int .i64 100, .int .i64 100000], .slice (some ⟨b2, 0, none⟩) 1 1, .int .i64 112] w (fun e w' => e = .returned (.tuple #[.agg #[.int .i64 80000, .int .i64 330, .int .i64 50, .int .i64 10, .bool true], .int .i64 0]) ∧ Grow w w') := by
  have h := k_Owe dealD (some ⟨b, 0, none⟩) 2 [⟨105, 1, 20050⟩] (some ⟨b2, 0, none⟩) 1 112 w hc hl hG
  rw [ex_owe3.1, ex_owe3.2] at h
  exact h
theorem ew_Owe4 (b : Nat) (w : World) (hc : Rd w 1 enInt (some ⟨b, 0, none⟩) [103, 104]) (hG : Gl w 0 WAYS) (b2 : Nat) (hl : Rd w 3 encAct (some ⟨b2, 0, none⟩) [⟨105, 3, 5⟩]) : Calls Tryd.prog 32 #[.agg #[.int .i64 1000, .int .i64 16, .int .i64 500, .int .i64 2, .int .i64 50, .int .i64 10, .int .i64 3, .slice (some ⟨b, 0, none⟩) 2 2, .int .i64 100, .int .i64 100000], .slice (some ⟨b2, 0, none⟩) 1 1, .int .i64 112] w (fun e w' => e = .returned (.tuple #[.agg #[.int .i64 100000, .int .i64 150, .int .i64 0, .int .i64 5, .bool true], .int .i64 0]) ∧ Grow w w') := by
  have h := k_Owe dealD (some ⟨b, 0, none⟩) 2 [⟨105, 3, 5⟩] (some ⟨b2, 0, none⟩) 1 112 w hc hl hG
  rw [ex_owe4.1, ex_owe4.2] at h
  exact h
theorem ew_Legal (b : Nat) (w : World) (hc : Rd w 1 enInt (some ⟨b, 0, none⟩) [103, 104]) (hG : Gl w 0 WAYS) : Calls Tryd.prog 39 #[.agg #[.int .i64 1000, .int .i64 16, .int .i64 500, .int .i64 2, .int .i64 50, .int .i64 10, .int .i64 3, .slice (some ⟨b, 0, none⟩) 2 2, .int .i64 100, .int .i64 100000], .slice none 0 0, .int .i64 105] w (fun e w' => e = .returned (.tuple #[.int .i64 300, .int .i64 0]) ∧ Grow w w') := by
  have h := k_Legal dealD (some ⟨b, 0, none⟩) 2 [] none 0 105 w hc Rd.nil hG
  rw [ex_legal.1, ex_legal.2] at h
  exact h
theorem ew_Keep (b : Nat) (w : World) (hc : Rd w 1 enInt (some ⟨b, 0, none⟩) [103, 104]) : Calls Tryd.prog 24 #[.agg #[.int .i64 1000, .int .i64 16, .int .i64 500, .int .i64 2, .int .i64 50, .int .i64 10, .int .i64 3, .slice (some ⟨b, 0, none⟩) 2 2, .int .i64 100, .int .i64 100000], .int .i64 140] w (fun e w' => ∃ A c, e = .returned (.tuple #[.slice A ([115, 128] : List Int).length c, .int .i64 0]) ∧ Grow w w' ∧ Res w w' 1 enInt A [115, 128]) := by
  have h := k_Keep dealD (some ⟨b, 0, none⟩) 2 140 w hc
  rw [ex_keep.1, ex_keep.2] at h
  exact h

theorem k_works  (w : World) (hG : Gl w 0 WAYS) : Calls Tryd.prog 23 #[] w (fun e w' => e = .returned (.bool true) ∧ Grow w w') := by
  refine enter_pure (args := []) [gl 0 WAYS] Tryd.func23 rfl (by rw [Tryd.ntmps23]; simp) (fun g hg => by simp at hg; subst hg; exact ⟨hG.1, fun b hb => by have : b = 0 := hb; rw [this]; exact hG.2⟩) ?_
  refine cj_seq ?_
  refine cj_regionG (gj_step (y_assign rfl) rfl rfl rfl (gj_nil ?_))
  refine ej_th (cj_seq (cj_region ?_))
  refine oj_call (X := Nat × Nat) (fun x => .agg #[.slice (some ⟨x.1, 0, none⟩) 4 4, .slice (some ⟨x.2, 0, none⟩) 2 2, .int .i64 50, .int .i64 800, .int .i64 2]) (fun _ => []) (fun x => [litS x.1 5 encSale mSales, litS x.2 1 enInt mFade]) Tryd.call50 rfl (fun w hp => k_market w) rfl (fun ⟨m16, f16⟩ => ?_)
  dsimp only [List.nil_append, List.cons_append]
  refine oj_callS (fun A c => .tuple #[.slice A ([150, 500, 600] : List Int).length c, .int .i64 0]) 1 enInt [150, 500, 600] Tryd.call16 rfl (fun w hp => ew_Crafts _ _ _ _ w hp.rd hp.rd) rfl (fun A17 c17 fp17 hfp17 => ?_)
  refine oj_step (y_move rfl) rfl rfl rfl ?_
  refine oj_step (y_extract rfl rfl) rfl rfl rfl ?_
  refine oj_step (y_extract rfl rfl) rfl rfl rfl ?_
  refine oj_step (y_assign rfl) rfl rfl rfl ?_
  refine oj_step (y_assign rfl) rfl rfl rfl ?_
  refine oj_nil ?_
  refine ej_th (cj_seq (cj_region ?_))
  refine oj_call (X := Nat × Nat) (fun x => .agg #[.slice (some ⟨x.1, 0, none⟩) 4 4, .slice (some ⟨x.2, 0, none⟩) 2 2, .int .i64 50, .int .i64 800, .int .i64 2]) (fun _ => []) (fun x => [litS x.1 5 encSale mSales, litS x.2 1 enInt mFade]) Tryd.call50 rfl (fun w hp => k_market w) rfl (fun ⟨m21, f21⟩ => ?_)
  dsimp only [List.nil_append, List.cons_append]
  refine oj_step (y_build (cs := [.int .i64 10, .int .i64 12]) st27 rfl (by kernel_rfl)) rfl rfl rfl ?_
  refine oj_step (y_build (cs := [.int .i64 0, .int .i64 10, .int .i64 12]) st29 rfl (by kernel_rfl)) rfl rfl rfl ?_
  refine oj_step (y_call Tryd.call21 rfl (fun w hp => ew_Value _ _ _ _ w hp.rd hp.rd)) rfl rfl rfl ?_
  refine oj_step (y_move rfl) rfl rfl rfl ?_
  refine oj_step (y_extract rfl rfl) rfl rfl rfl ?_
  refine oj_step (y_extract rfl rfl) rfl rfl rfl ?_
  refine oj_alloc Tryd.zeroValue27 rfl rfl (fun b3 => ?_)
  refine oj_store rfl rfl rfl rfl Tryd.sizeOf27 rfl ?_
  refine oj_step (y_assign rfl) rfl rfl rfl ?_
  refine oj_nil ?_
  refine ej_th (cj_seq ?_)
  refine cj_regionG ?_
  refine gj_step (y_call Tryd.call51 rfl (fun w hp => k_terms w)) rfl rfl rfl ?_
  refine gj_step (y_build (cs := [.int .i64 400, .int .i64 900]) st27 rfl (by kernel_rfl)) rfl rfl rfl (?_)
  refine gj_step (y_call Tryd.call28 rfl (fun w hp => ew_Most w)) rfl rfl rfl ?_
  refine gj_step (y_move rfl) rfl rfl rfl (gj_step (y_extract rfl rfl) rfl rfl rfl (gj_step (y_extract rfl rfl) rfl rfl rfl (gj_step (y_assign rfl) rfl rfl rfl (gj_step (y_assign rfl) rfl rfl rfl (?_)))))
  refine gj_nil ?_
  refine ej_th (cj_seq ?_)
  refine cj_draw (by kernel_rfl) (by kernel_rfl) ?_
  refine gj_step (y_call Tryd.call51 rfl (fun w hp => k_terms w)) rfl rfl rfl ?_
  refine gj_step (y_loadN Tryd.isAgg27 Tryd.sizeOf27 rfl) rfl rfl rfl (?_)
  refine gj_step (y_call Tryd.call30 rfl (fun w hp => ew_Lend w)) rfl rfl rfl ?_
  refine gj_step (y_move rfl) rfl rfl rfl (gj_step (y_extract rfl rfl) rfl rfl rfl (gj_step (y_extract rfl rfl) rfl rfl rfl (gj_step (y_assign rfl) rfl rfl rfl (gj_step (y_assign rfl) rfl rfl rfl (?_)))))
  refine gj_nil ?_
  refine ej_th (cj_seq (cj_seq (cj_region ?_)))
  refine oj_step (y_move rfl) rfl rfl rfl ?_
  refine oj_step (y_neq rfl rfl) rfl rfl rfl ?_
  refine oj_step (y_move rfl) rfl rfl rfl ?_
  refine oj_yes rfl rfl rfl ?_
  refine oj_step (y_move rfl) rfl rfl rfl ?_
  refine oj_yes rfl rfl rfl ?_
  refine oj_step (y_neq rfl rfl) rfl rfl rfl ?_
  refine oj_step (y_pick rfl rfl rfl) rfl rfl rfl ?_
  refine oj_step (y_move rfl) rfl rfl rfl ?_
  refine oj_yes rfl rfl rfl ?_
  refine oj_step (y_move rfl) rfl rfl rfl ?_
  refine oj_yes rfl rfl rfl ?_
  refine oj_step (y_neq rfl rfl) rfl rfl rfl ?_
  refine oj_step (y_pick rfl rfl rfl) rfl rfl rfl ?_
  refine oj_step (y_move rfl) rfl rfl rfl ?_
  refine oj_yes rfl rfl rfl ?_
  refine oj_step (y_move rfl) rfl rfl rfl ?_
  refine oj_yes rfl rfl rfl ?_
  refine oj_step (y_neq rfl rfl) rfl rfl rfl ?_
  refine oj_step (y_pick rfl rfl rfl) rfl rfl rfl ?_
  refine oj_step (y_move rfl) rfl rfl rfl ?_
  refine oj_yes rfl rfl rfl ?_
  refine oj_step (y_move rfl) rfl rfl rfl ?_
  refine oj_yes rfl rfl rfl ?_
  refine oj_buildSlice (cs := [.int .i64 150, .int .i64 500, .int .i64 600]) [.int .i64 0, .int .i64 0, .int .i64 0] Tryd.underlying23 Tryd.sizeOf3 Tryd.zeroValue3 rfl rfl (by kernel_rfl) (by kernel_rfl) rfl (fun b55 => ?_)
  refine oj_yes rfl rfl rfl ?_
  refine oj_step (y_call Tryd.call18 rfl (fun w hp => k_Same [150, 500, 600] [150, 500, 600] A17 (some ⟨b55, 0, none⟩) c17 3 w hp.rd (hp.rdLit (sz := 1) (enc := enInt) [150, 500, 600] (fun _ => rfl) rfl (by unfold maxLen; simp)))) rfl rfl rfl ?_
  refine oj_yes rfl rfl rfl ?_
  refine oj_step (y_not rfl) rfl rfl rfl ?_
  refine oj_step (y_pick rfl rfl rfl) rfl rfl rfl ?_
  refine oj_step (y_move rfl) rfl rfl rfl ?_
  refine oj_yes rfl rfl rfl ?_
  refine oj_step (y_loadN Tryd.isAgg27 Tryd.sizeOf27 rfl) rfl rfl rfl ?_
  refine oj_yes rfl rfl rfl ?_
  refine oj_step (y_build (cs := [.int .i64 650, .int .i64 1200]) st27 rfl (by kernel_rfl)) rfl rfl rfl ?_
  refine oj_yes rfl rfl rfl ?_
  refine oj_step (y_bin rfl rfl (fun x y w => ne27 _ _ _ _ x y w)) rfl rfl rfl ?_
  refine oj_step (y_pick rfl rfl rfl) rfl rfl rfl ?_
  refine oj_step (y_move rfl) rfl rfl rfl ?_
  refine oj_yes rfl rfl rfl ?_
  refine oj_step (y_move rfl) rfl rfl rfl ?_
  refine oj_yes rfl rfl rfl ?_
  refine oj_step (y_neq rfl rfl) rfl rfl rfl ?_
  refine oj_step (y_pick rfl rfl rfl) rfl rfl rfl ?_
  refine oj_step (y_move rfl) rfl rfl rfl ?_
  refine oj_yes rfl rfl rfl ?_
  refine oj_step (y_move rfl) rfl rfl rfl ?_
  refine oj_yes rfl rfl rfl ?_
  refine oj_step (y_neq rfl rfl) rfl rfl rfl ?_
  refine oj_step (y_pick rfl rfl rfl) rfl rfl rfl ?_
  refine oj_nil ?_
  refine ej_th ?_
  refine cj_cond rfl (fun h71 => ?_) (fun h71 => ?_)
  · exact absurd h71 (by decide)
  · have h71b := h71
    try simp only [sxb] at h71
    refine cj_skip (ej_th (cj_seq (cj_region ?_)))
    refine oj_call (X := Nat) (fun x => .agg #[.int .i64 1000, .int .i64 16, .int .i64 500, .int .i64 2, .int .i64 50, .int .i64 10, .int .i64 3, .slice (some ⟨x, 0, none⟩) 2 2, .int .i64 100, .int .i64 100000]) (fun _ => []) (fun x => [litS x 1 enInt [103, 104]]) Tryd.call52 rfl (fun w hp => k_deal w) rfl (fun m73 => ?_)
    dsimp only [List.nil_append, List.cons_append]
    refine oj_step (y_call Tryd.call32 rfl (fun w hp => ew_Owe1 m73 w hp.rd hp.glo)) rfl rfl rfl ?_
    refine oj_step (y_move rfl) rfl rfl rfl ?_
    refine oj_step (y_extract rfl rfl) rfl rfl rfl ?_
    refine oj_step (y_extract rfl rfl) rfl rfl rfl ?_
    refine oj_alloc Tryd.zeroValue64 rfl rfl (fun b9 => ?_)
    refine oj_store rfl rfl rfl rfl Tryd.sizeOf64 rfl ?_
    refine oj_step (y_assign rfl) rfl rfl rfl ?_
    refine oj_nil ?_
    refine ej_th (cj_seq (cj_region ?_))
    refine oj_call (X := Nat) (fun x => .agg #[.int .i64 1000, .int .i64 16, .int .i64 500, .int .i64 2, .int .i64 50, .int .i64 10, .int .i64 3, .slice (some ⟨x, 0, none⟩) 2 2, .int .i64 100, .int .i64 100000]) (fun _ => []) (fun x => [litS x 1 enInt [103, 104]]) Tryd.call52 rfl (fun w hp => k_deal w) rfl (fun m78 => ?_)
    dsimp only [List.nil_append, List.cons_append]
    refine oj_step (y_build (cs := [.int .i64 105, .int .i64 2, .int .i64 0]) st68 rfl (by kernel_rfl)) rfl rfl rfl ?_
    refine oj_buildSlice (cs := [.int .i64 105, .int .i64 2, .int .i64 0]) [.int .i64 0, .int .i64 0, .int .i64 0] Tryd.underlying69 Tryd.sizeOf68 Tryd.zeroValue68 rfl rfl (by kernel_rfl) (by kernel_rfl) rfl (fun b80 => ?_)
    refine oj_step (y_call Tryd.call32 rfl (fun w hp => ew_Owe2 m78 w hp.rd hp.glo b80 (hp.rdLit (sz := 3) (enc := encAct) [(⟨105, 2, 0⟩ : Act1)] (fun _ => rfl) rfl (by unfold maxLen; simp)))) rfl rfl rfl ?_
    refine oj_step (y_move rfl) rfl rfl rfl ?_
    refine oj_step (y_extract rfl rfl) rfl rfl rfl ?_
    refine oj_step (y_extract rfl rfl) rfl rfl rfl ?_
    refine oj_alloc Tryd.zeroValue64 rfl rfl (fun b10 => ?_)
    refine oj_store rfl rfl rfl rfl Tryd.sizeOf64 rfl ?_
    refine oj_step (y_assign rfl) rfl rfl rfl ?_
    refine oj_nil ?_
    refine ej_th (cj_seq (cj_region ?_))
    refine oj_call (X := Nat) (fun x => .agg #[.int .i64 1000, .int .i64 16, .int .i64 500, .int .i64 2, .int .i64 50, .int .i64 10, .int .i64 3, .slice (some ⟨x, 0, none⟩) 2 2, .int .i64 100, .int .i64 100000]) (fun _ => []) (fun x => [litS x 1 enInt [103, 104]]) Tryd.call52 rfl (fun w hp => k_deal w) rfl (fun m85 => ?_)
    dsimp only [List.nil_append, List.cons_append]
    refine oj_step (y_build (cs := [.int .i64 105, .int .i64 1, .int .i64 20050]) st68 rfl (by kernel_rfl)) rfl rfl rfl ?_
    refine oj_buildSlice (cs := [.int .i64 105, .int .i64 1, .int .i64 20050]) [.int .i64 0, .int .i64 0, .int .i64 0] Tryd.underlying69 Tryd.sizeOf68 Tryd.zeroValue68 rfl rfl (by kernel_rfl) (by kernel_rfl) rfl (fun b87 => ?_)
    refine oj_step (y_call Tryd.call32 rfl (fun w hp => ew_Owe3 m85 w hp.rd hp.glo b87 (hp.rdLit (sz := 3) (enc := encAct) [(⟨105, 1, 20050⟩ : Act1)] (fun _ => rfl) rfl (by unfold maxLen; simp)))) rfl rfl rfl ?_
    refine oj_step (y_move rfl) rfl rfl rfl ?_
    refine oj_step (y_extract rfl rfl) rfl rfl rfl ?_
    refine oj_step (y_extract rfl rfl) rfl rfl rfl ?_
    refine oj_alloc Tryd.zeroValue64 rfl rfl (fun b11 => ?_)
    refine oj_store rfl rfl rfl rfl Tryd.sizeOf64 rfl ?_
    refine oj_step (y_assign rfl) rfl rfl rfl ?_
    refine oj_nil ?_
    refine ej_th (cj_seq (cj_region ?_))
    refine oj_call (X := Nat) (fun x => .agg #[.int .i64 1000, .int .i64 16, .int .i64 500, .int .i64 2, .int .i64 50, .int .i64 10, .int .i64 3, .slice (some ⟨x, 0, none⟩) 2 2, .int .i64 100, .int .i64 100000]) (fun _ => []) (fun x => [litS x 1 enInt [103, 104]]) Tryd.call52 rfl (fun w hp => k_deal w) rfl (fun m92 => ?_)
    dsimp only [List.nil_append, List.cons_append]
    refine oj_step (y_build (cs := [.int .i64 105, .int .i64 3, .int .i64 5]) st68 rfl (by kernel_rfl)) rfl rfl rfl ?_
    refine oj_buildSlice (cs := [.int .i64 105, .int .i64 3, .int .i64 5]) [.int .i64 0, .int .i64 0, .int .i64 0] Tryd.underlying69 Tryd.sizeOf68 Tryd.zeroValue68 rfl rfl (by kernel_rfl) (by kernel_rfl) rfl (fun b94 => ?_)
    refine oj_step (y_call Tryd.call32 rfl (fun w hp => ew_Owe4 m92 w hp.rd hp.glo b94 (hp.rdLit (sz := 3) (enc := encAct) [(⟨105, 3, 5⟩ : Act1)] (fun _ => rfl) rfl (by unfold maxLen; simp)))) rfl rfl rfl ?_
    refine oj_step (y_move rfl) rfl rfl rfl ?_
    refine oj_step (y_extract rfl rfl) rfl rfl rfl ?_
    refine oj_step (y_extract rfl rfl) rfl rfl rfl ?_
    refine oj_alloc Tryd.zeroValue64 rfl rfl (fun b12 => ?_)
    refine oj_store rfl rfl rfl rfl Tryd.sizeOf64 rfl ?_
    refine oj_step (y_assign rfl) rfl rfl rfl ?_
    refine oj_nil ?_
    refine ej_th (cj_seq (cj_seq (cj_region ?_)))
    refine oj_step (y_move rfl) rfl rfl rfl ?_
    refine oj_step (y_neq rfl rfl) rfl rfl rfl ?_
    refine oj_step (y_move rfl) rfl rfl rfl ?_
    refine oj_yes rfl rfl rfl ?_
    refine oj_step (y_move rfl) rfl rfl rfl ?_
    refine oj_yes rfl rfl rfl ?_
    refine oj_step (y_neq rfl rfl) rfl rfl rfl ?_
    refine oj_step (y_pick rfl rfl rfl) rfl rfl rfl ?_
    refine oj_step (y_move rfl) rfl rfl rfl ?_
    refine oj_yes rfl rfl rfl ?_
    refine oj_step (y_move rfl) rfl rfl rfl ?_
    refine oj_yes rfl rfl rfl ?_
    refine oj_step (y_neq rfl rfl) rfl rfl rfl ?_
    refine oj_step (y_pick rfl rfl rfl) rfl rfl rfl ?_
    refine oj_step (y_move rfl) rfl rfl rfl ?_
    refine oj_yes rfl rfl rfl ?_
    refine oj_step (y_move rfl) rfl rfl rfl ?_
    refine oj_yes rfl rfl rfl ?_
    refine oj_step (y_neq rfl rfl) rfl rfl rfl ?_
    refine oj_step (y_pick rfl rfl rfl) rfl rfl rfl ?_
    refine oj_nil ?_
    refine ej_th ?_
    refine cj_cond rfl (fun h111 => ?_) (fun h111 => ?_)
    · exact absurd h111 (by decide)
    · have h111b := h111
      try simp only [sxb] at h111
      refine cj_skip (ej_th (cj_seq (cj_region ?_)))
      refine oj_call (X := Nat) (fun x => .agg #[.int .i64 1000, .int .i64 16, .int .i64 500, .int .i64 2, .int .i64 50, .int .i64 10, .int .i64 3, .slice (some ⟨x, 0, none⟩) 2 2, .int .i64 100, .int .i64 100000]) (fun _ => []) (fun x => [litS x 1 enInt [103, 104]]) Tryd.call52 rfl (fun w hp => k_deal w) rfl (fun m113 => ?_)
      dsimp only [List.nil_append, List.cons_append]
      refine oj_step (y_call Tryd.call39 rfl (fun w hp => ew_Legal m113 w hp.rd hp.glo)) rfl rfl rfl ?_
      refine oj_step (y_move rfl) rfl rfl rfl ?_
      refine oj_step (y_extract rfl rfl) rfl rfl rfl ?_
      refine oj_step (y_extract rfl rfl) rfl rfl rfl ?_
      refine oj_step (y_assign rfl) rfl rfl rfl ?_
      refine oj_step (y_assign rfl) rfl rfl rfl ?_
      refine oj_nil ?_
      refine ej_th (cj_seq (cj_region ?_))
      refine oj_call (X := Nat) (fun x => .agg #[.int .i64 1000, .int .i64 16, .int .i64 500, .int .i64 2, .int .i64 50, .int .i64 10, .int .i64 3, .slice (some ⟨x, 0, none⟩) 2 2, .int .i64 100, .int .i64 100000]) (fun _ => []) (fun x => [litS x 1 enInt [103, 104]]) Tryd.call52 rfl (fun w hp => k_deal w) rfl (fun m118 => ?_)
      dsimp only [List.nil_append, List.cons_append]
      refine oj_callS (fun A c => .tuple #[.slice A ([115, 128] : List Int).length c, .int .i64 0]) 1 enInt [115, 128] Tryd.call24 rfl (fun w hp => ew_Keep m118 w hp.rd) rfl (fun A119 c119 fp119 hfp119 => ?_)
      refine oj_step (y_move rfl) rfl rfl rfl ?_
      refine oj_step (y_extract rfl rfl) rfl rfl rfl ?_
      refine oj_step (y_extract rfl rfl) rfl rfl rfl ?_
      refine oj_step (y_assign rfl) rfl rfl rfl ?_
      refine oj_step (y_assign rfl) rfl rfl rfl ?_
      refine oj_nil ?_
      refine ej_th (cj_seq (cj_region ?_))
      refine oj_step (y_move rfl) rfl rfl rfl ?_
      refine oj_step (y_eql rfl rfl) rfl rfl rfl ?_
      refine oj_step (y_move rfl) rfl rfl rfl ?_
      refine oj_yes rfl rfl rfl ?_
      refine oj_step (y_move rfl) rfl rfl rfl ?_
      refine oj_yes rfl rfl rfl ?_
      refine oj_step (y_eql rfl rfl) rfl rfl rfl ?_
      refine oj_step (y_pick rfl rfl rfl) rfl rfl rfl ?_
      refine oj_step (y_move rfl) rfl rfl rfl ?_
      refine oj_yes rfl rfl rfl ?_
      refine oj_step (y_loadN Tryd.isAgg64 Tryd.sizeOf64 rfl) rfl rfl rfl ?_
      refine oj_yes rfl rfl rfl ?_
      refine oj_step (y_build (cs := [.int .i64 100000, .int .i64 400, .int .i64 0, .int .i64 10, .bool true]) st64 rfl (by kernel_rfl)) rfl rfl rfl ?_
      refine oj_yes rfl rfl rfl ?_
      refine oj_step (y_bin rfl rfl (fun x y w => eq64 _ _ _ _ _ _ _ _ _ _ x y w)) rfl rfl rfl ?_
      refine oj_step (y_pick rfl rfl rfl) rfl rfl rfl ?_
      refine oj_step (y_move rfl) rfl rfl rfl ?_
      refine oj_yes rfl rfl rfl ?_
      refine oj_step (y_loadN Tryd.isAgg64 Tryd.sizeOf64 rfl) rfl rfl rfl ?_
      refine oj_yes rfl rfl rfl ?_
      refine oj_step (y_build (cs := [.int .i64 100000, .int .i64 450, .int .i64 100, .int .i64 7, .bool true]) st64 rfl (by kernel_rfl)) rfl rfl rfl ?_
      refine oj_yes rfl rfl rfl ?_
      refine oj_step (y_bin rfl rfl (fun x y w => eq64 _ _ _ _ _ _ _ _ _ _ x y w)) rfl rfl rfl ?_
      refine oj_step (y_pick rfl rfl rfl) rfl rfl rfl ?_
      refine oj_step (y_move rfl) rfl rfl rfl ?_
      refine oj_yes rfl rfl rfl ?_
      refine oj_step (y_loadN Tryd.isAgg64 Tryd.sizeOf64 rfl) rfl rfl rfl ?_
      refine oj_yes rfl rfl rfl ?_
      refine oj_step (y_build (cs := [.int .i64 80000, .int .i64 330, .int .i64 50, .int .i64 10, .bool true]) st64 rfl (by kernel_rfl)) rfl rfl rfl ?_
      refine oj_yes rfl rfl rfl ?_
      refine oj_step (y_bin rfl rfl (fun x y w => eq64 _ _ _ _ _ _ _ _ _ _ x y w)) rfl rfl rfl ?_
      refine oj_step (y_pick rfl rfl rfl) rfl rfl rfl ?_
      refine oj_step (y_move rfl) rfl rfl rfl ?_
      refine oj_yes rfl rfl rfl ?_
      refine oj_step (y_loadN Tryd.isAgg64 Tryd.sizeOf64 rfl) rfl rfl rfl ?_
      refine oj_yes rfl rfl rfl ?_
      refine oj_step (y_build (cs := [.int .i64 100000, .int .i64 150, .int .i64 0, .int .i64 5, .bool true]) st64 rfl (by kernel_rfl)) rfl rfl rfl ?_
      refine oj_yes rfl rfl rfl ?_
      refine oj_step (y_bin rfl rfl (fun x y w => eq64 _ _ _ _ _ _ _ _ _ _ x y w)) rfl rfl rfl ?_
      refine oj_step (y_pick rfl rfl rfl) rfl rfl rfl ?_
      refine oj_step (y_move rfl) rfl rfl rfl ?_
      refine oj_yes rfl rfl rfl ?_
      refine oj_step (y_move rfl) rfl rfl rfl ?_
      refine oj_yes rfl rfl rfl ?_
      refine oj_step (y_eql rfl rfl) rfl rfl rfl ?_
      refine oj_step (y_pick rfl rfl rfl) rfl rfl rfl ?_
      refine oj_step (y_move rfl) rfl rfl rfl ?_
      refine oj_yes rfl rfl rfl ?_
      refine oj_step (y_move rfl) rfl rfl rfl ?_
      refine oj_yes rfl rfl rfl ?_
      refine oj_buildSlice (cs := [.int .i64 115, .int .i64 128]) [.int .i64 0, .int .i64 0] Tryd.underlying23 Tryd.sizeOf3 Tryd.zeroValue3 rfl rfl (by kernel_rfl) (by kernel_rfl) rfl (fun b154 => ?_)
      refine oj_yes rfl rfl rfl ?_
      refine oj_step (y_call Tryd.call18 rfl (fun w hp => k_Same [115, 128] [115, 128] A119 (some ⟨b154, 0, none⟩) c119 2 w hp.rd (hp.rdLit (sz := 1) (enc := enInt) [115, 128] (fun _ => rfl) rfl (by unfold maxLen; simp)))) rfl rfl rfl ?_
      refine oj_step (y_pick rfl rfl rfl) rfl rfl rfl ?_
      refine oj_step (y_assign rfl) rfl rfl rfl ?_
      refine oj_nil ?_
      refine ej_th (cj_ret ?_)
      exact ej_ret1 rfl Tryd.results23 rfl (fun w' hp => ⟨rfl, hp.below⟩)

end Go.Proofs.YtafmgkiddhappaaDoor
