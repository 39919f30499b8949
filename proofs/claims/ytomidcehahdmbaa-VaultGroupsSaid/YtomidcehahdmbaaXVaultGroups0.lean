/- Texts of ours, joined: 2 of them. Conditions: none. -/
import Derived.Test.YtomidcehahdmbaaZh
import Derived.Test.YtomidcehahdmbaaProg
import Derived.Laws.StructEq
namespace Go.Proofs.Ytomidcehahdmbaa
open Go.Sx Go.RowKit
set_option maxRecDepth 20000

end Go.Proofs.Ytomidcehahdmbaa
namespace Go.Proofs.Ytomidcehahdmbaa
open Go.Sx Go.RowKit Vm
set_option maxRecDepth 20000
theorem k_VaultGroups (s : StrV) (n : Int) (w : World) (hs : StrRd w s) : Calls Try.prog 4 #[.agg #[.slice s.Ar s.rooms.length s.cr, .slice s.Ag s.gates.length s.cg, .slice s.As s.staff.length s.cs], .int .i64 n] w (fun e w' => e = .returned (.bool true) ∧ Grow w w') := by
  refine enter_pure (args := [.agg #[.slice s.Ar s.rooms.length s.cr, .slice s.Ag s.gates.length s.cg, .slice s.As s.staff.length s.cs], .int .i64 n]) [] Try.func4 rfl (by rw [Try.ntmps4]; simp) (by simp) ?_
  refine cj_seq (cj_region ?_)
  refine oj_box rfl rfl rfl (fun b2 => ?_)
  refine oj_step (y_assign rfl) rfl rfl rfl ?_
  refine oj_nil ?_
  refine ej_th (cj_seq (cj_region ?_))
  refine oj_step (y_loadN Try.isAgg26 Try.sizeOf26 rfl) rfl rfl rfl ?_
  refine oj_step (y_move rfl) rfl rfl rfl ?_
  refine oj_callS (fun A c => .tuple #[.slice A (intsL (grpsV s n)).length c, .int .i64 (roomE s n)]) 1 enInt (intsL (grpsV s n)) Try.call20 rfl (fun w hp => k_Groups s n w (hs.mono hp.below)) rfl (fun A12 c12 fp12 hfp12 => ?_)
  refine oj_step (y_move rfl) rfl rfl rfl ?_
  refine oj_step (y_extract rfl rfl) rfl rfl rfl ?_
  refine oj_step (y_extract rfl rfl) rfl rfl rfl ?_
  refine oj_step (y_assign rfl) rfl rfl rfl ?_
  refine oj_step (y_assign rfl) rfl rfl rfl ?_
  refine oj_nil ?_
  refine ej_th (cj_seq (cj_region ?_))
  refine oj_step (y_loadN Try.isAgg26 Try.sizeOf26 rfl) rfl rfl rfl ?_
  refine oj_step (y_move rfl) rfl rfl rfl ?_
  refine oj_callS (fun A c => .tuple #[.slice A (intsL (grpsV s n)).length c, .int .i64 (roomE s n)]) 1 enInt (intsL (grpsV s n)) Try.call21 rfl (fun w hp => k_rGroups s n w (hs.mono hp.below)) rfl (fun A18 c18 fp18 hfp18 => ?_)
  refine oj_step (y_move rfl) rfl rfl rfl ?_
  refine oj_step (y_extract rfl rfl) rfl rfl rfl ?_
  refine oj_step (y_extract rfl rfl) rfl rfl rfl ?_
  refine oj_step (y_assign rfl) rfl rfl rfl ?_
  refine oj_step (y_assign rfl) rfl rfl rfl ?_
  refine oj_nil ?_
  refine ej_th (cj_seq (cj_seq ?_))
  refine cj_regionG ?_
  refine gj_step (y_move rfl) rfl rfl rfl (gj_step (y_move rfl) rfl rfl rfl (?_))
  refine gj_step (y_call Try.call22 rfl (fun w hp => k_Same (intsL (grpsV s n)) (intsL (grpsV s n)) A12 A18 c12 c18 w hp.rd hp.rd)) rfl rfl rfl ?_
  refine gj_step (y_not rfl) rfl rfl rfl (gj_step (y_move rfl) rfl rfl rfl (?_))
  refine gj_g 3 25 28 rfl rfl rfl rfl (fun hg25 => gj_yes rfl rfl rfl (y_move rfl) rfl rfl (gj_yes rfl rfl rfl (y_move rfl) rfl rfl (gj_yes rfl rfl rfl (y_neq rfl rfl) rfl rfl (gj_nil rfl)))) ?_
  refine gj_step (y_or rfl rfl rfl) rfl rfl rfl (?_)
  refine gj_nil ?_
  refine ej_th ?_
  refine cj_cond rfl (fun h29 => ?_) (fun h29 => ?_)
  · simp at h29
  · have h29b := h29
    try simp only [sxb] at h29
    refine cj_skip (ej_th (cj_seq (cj_region ?_)))
    refine oj_step (y_loadN Try.isAgg26 Try.sizeOf26 rfl) rfl rfl rfl ?_
    refine oj_step (y_move rfl) rfl rfl rfl ?_
    refine oj_callS (fun A c => .tuple #[.slice A (intsL (grdsV s n)).length c, .int .i64 (roomE s n)]) 1 enInt (intsL (grdsV s n)) Try.call23 rfl (fun w hp => k_Guards s n w (hs.mono hp.below)) rfl (fun A33 c33 fp33 hfp33 => ?_)
    refine oj_step (y_move rfl) rfl rfl rfl ?_
    refine oj_step (y_extract rfl rfl) rfl rfl rfl ?_
    refine oj_step (y_extract rfl rfl) rfl rfl rfl ?_
    refine oj_step (y_assign rfl) rfl rfl rfl ?_
    refine oj_step (y_assign rfl) rfl rfl rfl ?_
    refine oj_nil ?_
    refine ej_th (cj_seq (cj_region ?_))
    refine oj_step (y_loadN Try.isAgg26 Try.sizeOf26 rfl) rfl rfl rfl ?_
    refine oj_step (y_move rfl) rfl rfl rfl ?_
    refine oj_callS (fun A c => .tuple #[.slice A (intsL (grdsV s n)).length c, .int .i64 (roomE s n)]) 1 enInt (intsL (grdsV s n)) Try.call24 rfl (fun w hp => k_rGuards s n w (hs.mono hp.below)) rfl (fun A39 c39 fp39 hfp39 => ?_)
    refine oj_step (y_move rfl) rfl rfl rfl ?_
    refine oj_step (y_extract rfl rfl) rfl rfl rfl ?_
    refine oj_step (y_extract rfl rfl) rfl rfl rfl ?_
    refine oj_step (y_assign rfl) rfl rfl rfl ?_
    refine oj_step (y_assign rfl) rfl rfl rfl ?_
    refine oj_nil ?_
    refine ej_th (cj_seq ?_)
    refine cj_regionG ?_
    refine gj_step (y_move rfl) rfl rfl rfl (gj_step (y_move rfl) rfl rfl rfl (?_))
    refine gj_step (y_call Try.call22 rfl (fun w hp => k_Same (intsL (grdsV s n)) (intsL (grdsV s n)) A33 A39 c33 c39 w hp.rd hp.rd)) rfl rfl rfl ?_
    refine gj_step (y_move rfl) rfl rfl rfl (?_)
    refine gj_g 3 45 48 rfl rfl rfl rfl (fun hg45 => gj_yes rfl rfl rfl (y_move rfl) rfl rfl (gj_yes rfl rfl rfl (y_move rfl) rfl rfl (gj_yes rfl rfl rfl (y_eql rfl rfl) rfl rfl (gj_nil rfl)))) ?_
    refine gj_step (y_and rfl rfl rfl) rfl rfl rfl (gj_step (y_move rfl) rfl rfl rfl (?_))
    refine gj_g 1 50 51 rfl rfl rfl rfl (fun hg50 => gj_yes rfl rfl rfl (y_call Try.call19 rfl (fun w hp => k_works w)) rfl rfl (gj_nil rfl)) ?_
    refine gj_step (y_and rfl rfl rfl) rfl rfl rfl (gj_step (y_assign rfl) rfl rfl rfl (?_))
    refine gj_nil ?_
    refine ej_th (cj_ret ?_)
    exact ej_ret1 rfl Try.results4 rfl (fun w' hp => ⟨by simp, hp.below⟩)

end Go.Proofs.Ytomidcehahdmbaa
