/- Walks of functions of the program. -/
import Derived.Test.YtafmgkiddhappaaDoorYWCov
import Derived.Test.YtafmgkiddhappaaDoorYTyCovers
namespace Go.Proofs.YtafmgkiddhappaaDoor
open Go.Sx Go.RowKit
set_option maxRecDepth 20000
theorem k_Covers (l : List ClassV) (A : Option Addr) (c : Nat) (a b : ItemV) (w : World) (hl : Rd w 4 encCl A l) (hgc : ∀ c ∈ l, GoodC w c) (hga : GoodI w a) (hgb : GoodI w b) : Calls Tryd.prog 53 #[.slice A l.length c, evI a, evI b] w (fun e w' => e = .returned (.tuple #[.bool (CovT l a b), .int .i64 (askIE l [a, b])]) ∧ Grow w w') := by
  refine enter_pure (args := [.slice A l.length c, evI a, evI b]) [sl (fun b => b < w.heap.size) 4 encCl A l] Tryd.func53 rfl (by rw [Tryd.ntmps53]; simp) (fun g hg => by simp at hg; subst hg; exact ⟨hl, fun _ h => h⟩) ?_
  refine cj_seq (cj_region ?_)
  refine oj_box rfl rfl rfl (fun b4 => ?_)
  refine oj_box rfl rfl rfl (fun b5 => ?_)
  refine oj_step (y_assign rfl) rfl rfl rfl ?_
  refine oj_step (y_assign rfl) rfl rfl rfl ?_
  refine oj_nil ?_
  refine ej_th (cj_seq (cj_seq (cj_region ?_)))
  refine oj_step (y_move rfl) rfl rfl rfl ?_
  refine oj_step (y_loadN Tryd.isAgg103 Tryd.sizeOf103 rfl) rfl rfl rfl ?_
  refine oj_step (y_loadN Tryd.isAgg103 Tryd.sizeOf103 rfl) rfl rfl rfl ?_
  refine oj_buildSlice (cs := [.string a.cls, .slice a.As a.says.length a.cs, .slice a.Ap a.parts.length a.cp, .string b.cls, .slice b.As b.says.length b.cs, .slice b.Ap b.parts.length b.cp]) [.string ⟨#[]⟩, .slice none 0 0, .slice none 0 0, .string ⟨#[]⟩, .slice none 0 0, .slice none 0 0] Tryd.underlying101 Tryd.sizeOf103 Tryd.zeroValue103 rfl rfl (by kernel_rfl) (by kernel_rfl) rfl (fun b14 => ?_)
  refine oj_litOw (b := b14) (e := 103) (c := 2) (sz := 3) (enc := encIt) [a, b] rfl rfl rfl (by unfold maxLen; simp) ?_
  refine oj_call (X := Nat) (fun m => .tuple #[.map (bif askIOk l [a, b] then some m else none), .int .i64 (askIE l [a, b])]) (fun _ => []) (fun _ => []) Tryd.call77 rfl (fun w hp => by
    have h := k_pasked l A c [a, b] (some ⟨b14, 0, none⟩) 2 w hp.rd (fun c hc => (hgc c hc).mono hp.below) (hp.rdO (A := some ⟨b14, 0, none⟩) (fun _ => rfl) (by unfold maxLen; simp)) (fun x hx => by
      simp only [List.mem_cons, List.mem_nil_iff, or_false] at hx
      rcases hx with rfl | rfl
      · exact hga.mono hp.below
      · exact hgb.mono hp.below)
    exact h.mono fun e w' ⟨m, he, hg, _⟩ => ⟨m, he, hg, by simp, by simp, by simp⟩) rfl (fun m15 => ?_)
  dsimp only [List.cons_append, List.nil_append]
  refine oj_step (y_move rfl) rfl rfl rfl ?_
  refine oj_step (y_extract rfl rfl) rfl rfl rfl ?_
  refine oj_step (y_extract rfl rfl) rfl rfl rfl ?_
  refine oj_step (y_assign rfl) rfl rfl rfl ?_
  refine oj_step (y_assign rfl) rfl rfl rfl ?_
  refine oj_nil ?_
  refine ej_th (cj_seq ?_)
  refine cj_regionG (gj_step (y_move rfl) rfl rfl rfl (gj_step (y_neq rfl rfl) rfl rfl rfl (gj_nil ?_)))
  refine ej_th ?_
  refine cj_cond rfl (fun h19 => ?_) (fun h19 => ?_)
  · have h19b := h19
    try simp only [sxb] at h19
    have hno := askIE_no h19b
    refine cj_seq ?_
    refine cj_regionG (gj_step (y_move rfl) rfl rfl rfl (gj_step (y_assign rfl) rfl rfl rfl (gj_step (y_assign rfl) rfl rfl rfl (gj_nil ?_))))
    refine ej_th (cj_ret (ej_then_ret ?_))
    have hv : CovT l a b = false := by rw [CovT, hno]; rfl
    exact ej_ret2 rfl Tryd.results53 rfl rfl (fun w' hp => ⟨by rw [hv], hp.below⟩)
  · have h19b := h19
    try simp only [sxb] at h19
    have hok := askIE_ok h19b
    have hoa := ask_okG hok a (by simp)
    have hob := ask_okG hok b (by simp)
    refine cj_skip (ej_th (cj_seq ?_))
    refine cj_regionG ?_
    refine gj_step (y_loadN Tryd.isAgg103 Tryd.sizeOf103 rfl) rfl rfl rfl (gj_step (y_loadN Tryd.isAgg103 Tryd.sizeOf103 rfl) rfl rfl rfl (?_))
    refine gj_step (y_call Tryd.call78 rfl (fun w hp => by have h := k_cov hga b w hp.below (hgb.mono hp.below) hoa hob; exact h)) rfl rfl rfl ?_
    refine gj_step (y_assign rfl) rfl rfl rfl (gj_step (y_assign rfl) rfl rfl rfl (?_))
    refine gj_nil ?_
    refine ej_th (cj_ret ?_)
    have hv : CovT l a b = covI a b := by rw [CovT, hok]; rfl
    have hz : askIE l [a, b] = 0 := by simpa using h19b
    exact ej_ret2 rfl Tryd.results53 rfl rfl (fun w' hp => ⟨by rw [hv, hz], hp.below⟩)

end Go.Proofs.YtafmgkiddhappaaDoor
