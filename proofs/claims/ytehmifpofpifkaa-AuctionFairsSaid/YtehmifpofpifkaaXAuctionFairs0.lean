/- Texts of ours, joined: 2 of them. Conditions: none. -/
import Derived.Test.YtehmifpofpifkaaZj
import Derived.Test.YtehmifpofpifkaaProg
import Derived.Laws.StructEq
namespace Go.Proofs.Ytehmifpofpifkaa
open Go.Sx Go.RowKit
set_option maxRecDepth 20000
theorem ne41 (a0 b0 : Int) (a1 b1 : Int) (a2 b2 : Int) (a3 b3 : Int) (a4 b4 : Int) (x y : Operand) (w : World) : (do eqGuard .neq 41 x y (.agg #[.int .i64 a0, .int .i64 a1, .int .i64 a2, .int .i64 a3, .int .i64 a4]) (.agg #[.int .i64 b0, .int .i64 b1, .int .i64 b2, .int .i64 b3, .int .i64 b4]); binOp .neq 41 (.agg #[.int .i64 a0, .int .i64 a1, .int .i64 a2, .int .i64 a3, .int .i64 a4]) (.agg #[.int .i64 b0, .int .i64 b1, .int .i64 b2, .int .i64 b3, .int .i64 b4]) : Sem Value).run Try.prog w = .ok (.bool (!((a0 == b0) && (a1 == b1) && (a2 == b2) && (a3 == b3) && (a4 == b4)))) w := by
  simp [go_sem, Try.eqGuardType41, Try.stoodInHeld41, Try.underlying41, Try.underlying3]
  try ((repeat' split) <;> simp_all)
end Go.Proofs.Ytehmifpofpifkaa
namespace Go.Proofs.Ytehmifpofpifkaa
open Go.Sx Go.RowKit Am
set_option maxRecDepth 20000
theorem k_AuctionRungs (st rv : Int) (lad : List RiseV) (Al : Option Addr) (cl : Nat) (n0 n1 : Int) (w : World) (hlad : Rd w 2 encRi Al lad) : Calls Try.prog 3 #[.agg #[.int .i64 st, .int .i64 rv, .slice Al lad.length cl], .agg #[.int .i64 n0, .int .i64 n1]] w (fun e w' => e = .returned (.bool true) ∧ Grow w w') := by
  refine enter_pure (args := [.agg #[.int .i64 st, .int .i64 rv, .slice Al lad.length cl], .agg #[.int .i64 n0, .int .i64 n1]]) [sl (fun b => b < w.heap.size) 2 encRi Al lad] Try.func3 rfl (by rw [Try.ntmps3]; simp) (fun g hg => by simp at hg; subst hg; exact ⟨hlad, fun _ h => h⟩) ?_
  refine cj_seq (cj_region ?_)
  refine oj_box rfl rfl rfl (fun b2 => ?_)
  refine oj_box rfl rfl rfl (fun b3 => ?_)
  refine oj_step (y_assign rfl) rfl rfl rfl ?_
  refine oj_nil ?_
  refine ej_th (cj_seq ?_)
  refine cj_regionG ?_
  refine gj_step (y_loadN Try.isAgg24 Try.sizeOf24 rfl) rfl rfl rfl (gj_step (y_ixArrC 0 Try.underlying25 Try.sizeOf3 rfl rfl (by decide) (by decide)) rfl rfl rfl (gj_step (y_load1 Try.isAgg3 rfl rfl) rfl rfl rfl (?_)))
  refine gj_step (y_call Try.call15 rfl (fun w hp => k_Rung st rv lad Al cl n0 w hp.rd)) rfl rfl rfl ?_
  refine gj_step (y_move rfl) rfl rfl rfl (gj_step (y_extract rfl rfl) rfl rfl rfl (gj_step (y_extract rfl rfl) rfl rfl rfl (gj_step (y_assign rfl) rfl rfl rfl (gj_step (y_assign rfl) rfl rfl rfl (?_)))))
  refine gj_nil ?_
  refine ej_th (cj_seq ?_)
  refine cj_regionG ?_
  refine gj_step (y_loadN Try.isAgg24 Try.sizeOf24 rfl) rfl rfl rfl (gj_step (y_ixArrC 0 Try.underlying25 Try.sizeOf3 rfl rfl (by decide) (by decide)) rfl rfl rfl (gj_step (y_load1 Try.isAgg3 rfl rfl) rfl rfl rfl (?_)))
  refine gj_step (y_call Try.call16 rfl (fun w hp => k_rRung st rv lad Al cl n0 w hp.rd)) rfl rfl rfl ?_
  refine gj_step (y_move rfl) rfl rfl rfl (gj_step (y_extract rfl rfl) rfl rfl rfl (gj_step (y_extract rfl rfl) rfl rfl rfl (gj_step (y_assign rfl) rfl rfl rfl (gj_step (y_assign rfl) rfl rfl rfl (?_)))))
  refine gj_nil ?_
  refine ej_th (cj_seq (cj_seq ?_))
  refine cj_draw (by kernel_rfl) (by kernel_rfl) ?_
  refine gj_step (y_move rfl) rfl rfl rfl (gj_step (y_move rfl) rfl rfl rfl (gj_step (y_neq rfl rfl) rfl rfl rfl (gj_step (y_move rfl) rfl rfl rfl (?_))))
  refine gj_g 3 26 29 rfl rfl rfl rfl (fun hg26 => gj_yes rfl rfl rfl (y_move rfl) rfl rfl (gj_yes rfl rfl rfl (y_move rfl) rfl rfl (gj_yes rfl rfl rfl (y_neq rfl rfl) rfl rfl (gj_nil rfl)))) ?_
  refine gj_step (y_or rfl rfl rfl) rfl rfl rfl (gj_step (y_move rfl) rfl rfl rfl (?_))
  refine gj_g 5 31 36 rfl rfl rfl rfl (fun hg31 => gj_yes rfl rfl rfl (y_loadN Try.isAgg24 Try.sizeOf24 rfl) rfl rfl (gj_yes rfl rfl rfl (y_call Try.call17 rfl (fun w hp => k_Check st rv lad Al cl w hp.rd)) rfl rfl (gj_yes rfl rfl rfl (y_loadN Try.isAgg24 Try.sizeOf24 rfl) rfl rfl (gj_yes rfl rfl rfl (y_call Try.call18 rfl (fun w hp => k_rCheck st rv lad Al cl w hp.rd)) rfl rfl (gj_yes rfl rfl rfl (y_neq rfl rfl) rfl rfl (gj_nil rfl)))))) ?_
  refine gj_step (y_or rfl rfl rfl) rfl rfl rfl (?_)
  refine gj_nil ?_
  refine ej_th ?_
  refine cj_cond rfl (fun h37 => ?_) (fun h37 => ?_)
  · exact absurd h37 (by simp)
  · have h37b := h37
    try simp only [sxb] at h37
    refine cj_skip (ej_th (cj_seq ?_))
    refine cj_regionG ?_
    refine gj_step (y_loadN Try.isAgg24 Try.sizeOf24 rfl) rfl rfl rfl (gj_step (y_ixArrC 1 Try.underlying25 Try.sizeOf3 rfl rfl (by decide) (by decide)) rfl rfl rfl (gj_step (y_load1 Try.isAgg3 rfl rfl) rfl rfl rfl (?_)))
    refine gj_step (y_call Try.call19 rfl (fun w hp => k_Next st rv lad Al cl n1 w hp.rd)) rfl rfl rfl ?_
    refine gj_step (y_move rfl) rfl rfl rfl (gj_step (y_extract rfl rfl) rfl rfl rfl (gj_step (y_extract rfl rfl) rfl rfl rfl (gj_step (y_assign rfl) rfl rfl rfl (gj_step (y_assign rfl) rfl rfl rfl (?_)))))
    refine gj_nil ?_
    refine ej_th (cj_seq ?_)
    refine cj_regionG ?_
    refine gj_step (y_loadN Try.isAgg24 Try.sizeOf24 rfl) rfl rfl rfl (gj_step (y_ixArrC 1 Try.underlying25 Try.sizeOf3 rfl rfl (by decide) (by decide)) rfl rfl rfl (gj_step (y_load1 Try.isAgg3 rfl rfl) rfl rfl rfl (?_)))
    refine gj_step (y_call Try.call20 rfl (fun w hp => k_rNext st rv lad Al cl n1 w hp.rd)) rfl rfl rfl ?_
    refine gj_step (y_move rfl) rfl rfl rfl (gj_step (y_extract rfl rfl) rfl rfl rfl (gj_step (y_extract rfl rfl) rfl rfl rfl (gj_step (y_assign rfl) rfl rfl rfl (gj_step (y_assign rfl) rfl rfl rfl (?_)))))
    refine gj_nil ?_
    refine ej_th (cj_seq ?_)
    refine cj_regionG ?_
    refine gj_step (y_move rfl) rfl rfl rfl (gj_step (y_move rfl) rfl rfl rfl (gj_step (y_eql rfl rfl) rfl rfl rfl (gj_step (y_move rfl) rfl rfl rfl (?_))))
    refine gj_g 3 55 58 rfl rfl rfl rfl (fun hg55 => gj_yes rfl rfl rfl (y_move rfl) rfl rfl (gj_yes rfl rfl rfl (y_move rfl) rfl rfl (gj_yes rfl rfl rfl (y_eql rfl rfl) rfl rfl (gj_nil rfl)))) ?_
    refine gj_step (y_and rfl rfl rfl) rfl rfl rfl (gj_step (y_move rfl) rfl rfl rfl (?_))
    refine gj_g 1 60 61 rfl rfl rfl rfl (fun hg60 => gj_yes rfl rfl rfl (y_call Try.call21 rfl (fun w hp => k_works w)) rfl rfl (gj_nil rfl)) ?_
    refine gj_step (y_and rfl rfl rfl) rfl rfl rfl (gj_step (y_assign rfl) rfl rfl rfl (?_))
    refine gj_nil ?_
    refine ej_th (cj_ret ?_)
    refine ej_ret1 rfl Try.results3 rfl (fun w' hp => ⟨?_, hp.below⟩)
    simp

theorem k_AuctionSells (st rv : Int) (lad : List RiseV) (Al : Option Addr) (cl : Nat) (bs : List BidV) (Ab : Option Addr) (cb : Nat) (w : World) (hlad : Rd w 2 encRi Al lad) (hbs : Rd w 3 encBi Ab bs) : Calls Try.prog 4 #[.agg #[.int .i64 st, .int .i64 rv, .slice Al lad.length cl], .slice Ab bs.length cb] w (fun e w' => e = .returned (.bool true) ∧ Grow w w') := by
  refine enter_pure (args := [.agg #[.int .i64 st, .int .i64 rv, .slice Al lad.length cl], .slice Ab bs.length cb]) [sl (fun b => b < w.heap.size) 2 encRi Al lad, sl (fun b => b < w.heap.size) 3 encBi Ab bs] Try.func4 rfl (by rw [Try.ntmps4]; simp) (fun g hg => by simp at hg; rcases hg with rfl | rfl; exact ⟨hlad, fun _ h => h⟩; exact ⟨hbs, fun _ h => h⟩) ?_
  refine cj_seq (cj_region ?_)
  refine oj_box rfl rfl rfl (fun b2 => ?_)
  refine oj_step (y_assign rfl) rfl rfl rfl ?_
  refine oj_nil ?_
  refine ej_th (cj_seq (cj_region ?_))
  refine oj_step (y_loadN Try.isAgg24 Try.sizeOf24 rfl) rfl rfl rfl ?_
  refine oj_step (y_move rfl) rfl rfl rfl ?_
  refine oj_step (y_call Try.call22 rfl (fun w hp => k_Sell st rv lad Al cl bs Ab cb w hp.rd hp.rd)) rfl rfl rfl ?_
  refine oj_step (y_move rfl) rfl rfl rfl ?_
  refine oj_step (y_extract rfl rfl) rfl rfl rfl ?_
  refine oj_step (y_extract rfl rfl) rfl rfl rfl ?_
  refine oj_alloc Try.zeroValue34 rfl rfl (fun b5 => ?_)
  refine oj_store rfl rfl rfl rfl Try.sizeOf34 rfl ?_
  refine oj_step (y_assign rfl) rfl rfl rfl ?_
  refine oj_nil ?_
  refine ej_th (cj_seq (cj_region ?_))
  refine oj_step (y_loadN Try.isAgg24 Try.sizeOf24 rfl) rfl rfl rfl ?_
  refine oj_step (y_move rfl) rfl rfl rfl ?_
  refine oj_step (y_call Try.call23 rfl (fun w hp => k_rSell st rv lad Al cl bs Ab cb w hp.rd hp.rd)) rfl rfl rfl ?_
  refine oj_step (y_move rfl) rfl rfl rfl ?_
  refine oj_step (y_extract rfl rfl) rfl rfl rfl ?_
  refine oj_step (y_extract rfl rfl) rfl rfl rfl ?_
  refine oj_alloc Try.zeroValue34 rfl rfl (fun b7 => ?_)
  refine oj_store rfl rfl rfl rfl Try.sizeOf34 rfl ?_
  refine oj_step (y_assign rfl) rfl rfl rfl ?_
  refine oj_nil ?_
  refine ej_th (cj_seq (cj_seq ?_))
  refine cj_regionG (gj_step (y_loadN Try.isAgg34 Try.sizeOf34 rfl) rfl rfl rfl (gj_step (y_loadN Try.isAgg34 Try.sizeOf34 rfl) rfl rfl rfl (gj_step (y_bin rfl rfl (fun x y w => ne34 _ _ _ _ x y w)) rfl rfl rfl (gj_step (y_move rfl) rfl rfl rfl (gj_g 3 27 30 rfl rfl rfl rfl (fun hg27 => gj_yes rfl rfl rfl (y_move rfl) rfl rfl (gj_yes rfl rfl rfl (y_move rfl) rfl rfl (gj_yes rfl rfl rfl (y_neq rfl rfl) rfl rfl (gj_nil rfl)))) (gj_step (y_or rfl rfl rfl) rfl rfl rfl (gj_nil ?_)))))))
  refine ej_th ?_
  refine cj_cond rfl (fun h31 => ?_) (fun h31 => ?_)
  · exact absurd h31 (by simp)
  · have h31b := h31
    try simp only [sxb] at h31
    refine cj_skip (ej_th (cj_seq (cj_region ?_)))
    refine oj_step (y_loadN Try.isAgg24 Try.sizeOf24 rfl) rfl rfl rfl ?_
    refine oj_step (y_move rfl) rfl rfl rfl ?_
    refine oj_callS (fun A c => .tuple #[.slice A (RoomL st rv lad bs).length c, .int .i64 (SellE st rv lad bs)]) 5 encLe (RoomL st rv lad bs) Try.call24 rfl (fun w hp => k_Room st rv lad Al cl bs Ab cb w hp.rd hp.rd) rfl (fun A35 c35 fp35 hfp35 => ?_)
    refine oj_step (y_move rfl) rfl rfl rfl ?_
    refine oj_step (y_extract rfl rfl) rfl rfl rfl ?_
    refine oj_step (y_extract rfl rfl) rfl rfl rfl ?_
    refine oj_step (y_assign rfl) rfl rfl rfl ?_
    refine oj_step (y_assign rfl) rfl rfl rfl ?_
    refine oj_nil ?_
    refine ej_th (cj_seq (cj_region ?_))
    refine oj_step (y_loadN Try.isAgg24 Try.sizeOf24 rfl) rfl rfl rfl ?_
    refine oj_step (y_move rfl) rfl rfl rfl ?_
    refine oj_callS (fun A c => .tuple #[.slice A (RoomL st rv lad bs).length c, .int .i64 (SellE st rv lad bs)]) 5 encLe (RoomL st rv lad bs) Try.call25 rfl (fun w hp => k_rRoom st rv lad Al cl bs Ab cb w hp.rd hp.rd) rfl (fun A41 c41 fp41 hfp41 => ?_)
    refine oj_step (y_move rfl) rfl rfl rfl ?_
    refine oj_step (y_extract rfl rfl) rfl rfl rfl ?_
    refine oj_step (y_extract rfl rfl) rfl rfl rfl ?_
    refine oj_step (y_assign rfl) rfl rfl rfl ?_
    refine oj_step (y_assign rfl) rfl rfl rfl ?_
    refine oj_nil ?_
    refine ej_th (cj_seq (cj_seq ?_))
    refine cj_regionG (gj_step (y_move rfl) rfl rfl rfl (gj_step (y_lenA Try.underlying37 rfl) rfl rfl rfl (gj_step (y_move rfl) rfl rfl rfl (gj_step (y_lenA Try.underlying37 rfl) rfl rfl rfl (gj_step (y_neq rfl rfl) rfl rfl rfl (gj_step (y_move rfl) rfl rfl rfl (gj_g 3 49 52 rfl rfl rfl rfl (fun hg49 => gj_yes rfl rfl rfl (y_move rfl) rfl rfl (gj_yes rfl rfl rfl (y_move rfl) rfl rfl (gj_yes rfl rfl rfl (y_neq rfl rfl) rfl rfl (gj_nil rfl)))) (gj_step (y_or rfl rfl rfl) rfl rfl rfl (gj_nil ?_)))))))))
    refine ej_th ?_
    refine cj_cond rfl (fun h53 => ?_) (fun h53 => ?_)
    · exact absurd h53 (by simp)
    · have h53b := h53
      try simp only [sxb] at h53
      refine cj_skip (ej_th (cj_seq (cj_seq ?_)))
      refine cj_regionG (gj_step (y_assign rfl) rfl rfl rfl (gj_nil ?_))
      refine ej_th (cj_block ?_)
      refine cj_get (fun w1 hp => (show Rd w1 5 encLe A35 (RoomL st rv lad bs) from hp.rd).len) (fun hlr => ?_)
      refine cj_lpic (X := Nat) [(9, _), (10, _)] (fun k => k ≤ (RoomL st rv lad bs).length ∧ True) (fun k => [(11, .int .i64 k)]) (fun k => (RoomL st rv lad bs).length - k) 0 (⟨Nat.zero_le _, trivial⟩) ⟨rfl, rfl, rfl, trivial⟩ ?_
      rintro k ⟨hk, hsk⟩
      dsimp only [List.cons_append, List.nil_append]
      refine cj_seq (cj_seq ?_)
      refine cj_regionG (gj_step (y_move rfl) rfl rfl rfl (gj_step (y_move rfl) rfl rfl rfl (gj_step (y_lenA Try.underlying37 rfl) rfl rfl rfl (gj_step (y_lss rfl rfl) rfl rfl rfl (gj_nil ?_)))))
      refine ej_th ?_
      refine cj_cond rfl (fun h57 => ?_) (fun h57 => ?_)
      · have h57b := h57
        try simp only [sxb] at h57
        obtain ⟨x, hx⟩ : ∃ x, (RoomL st rv lad bs)[k]? = some x := ⟨_, List.getElem?_eq_getElem (by omega)⟩
        refine cj_skip (ej_th (cj_seq (cj_block (cj_seq ?_))))
        refine cj_draw (by kernel_rfl) (by kernel_rfl) (gj_step (y_move rfl) rfl rfl rfl (gj_step (y_move rfl) rfl rfl rfl (gj_step (y_ixR (reads_sl) Try.underlying37 Try.sizeOf41 rfl rfl (⟨by omega, by omega⟩)) rfl rfl rfl (gj_step (y_ldW (reads_sl) Try.isAgg41 Try.sizeOf41 rfl (hx) (fun _ => rfl)) rfl rfl rfl (gj_step (y_move rfl) rfl rfl rfl (gj_step (y_move rfl) rfl rfl rfl (gj_step (y_ixR (reads_sl) Try.underlying37 Try.sizeOf41 rfl rfl (⟨by omega, by omega⟩)) rfl rfl rfl (gj_step (y_ldW (reads_sl) Try.isAgg41 Try.sizeOf41 rfl (hx) (fun _ => rfl)) rfl rfl rfl (gj_step (y_bin rfl rfl (fun x y w => ne41 _ _ _ _ _ _ _ _ _ _ x y w)) rfl rfl rfl (gj_nil ?_))))))))))
        refine ej_th ?_
        refine cj_cond rfl (fun h68 => ?_) (fun h68 => ?_)
        · exact absurd h68 (by simp)
        · have h68b := h68
          try simp only [sxb] at h68
          refine cj_skip (ej_blk (ej_th ?_))
          refine cj_regionG (gj_step (y_move rfl) rfl rfl rfl (gj_step (y_add rfl rfl (by omega)) rfl rfl rfl (gj_step (y_assign rfl) rfl rfl rfl (gj_nil ?_))))
          exact ej_nx (k + 1) (by omega) ⟨by omega, trivial⟩ ⟨rfl, rfl, rfl, trivial⟩
      · have h57b := h57
        try simp only [sxb] at h57
        refine cj_exit (ej_then_exit (ej_then_exit (ej_blk_hit (ej_th (cj_seq ?_)))))
        refine cj_regionG ?_
        refine gj_step (y_call Try.call21 rfl (fun w hp => k_works w)) rfl rfl rfl ?_
        refine gj_step (y_assign rfl) rfl rfl rfl (?_)
        refine gj_nil ?_
        refine ej_th (cj_ret ?_)
        refine ej_ret1 rfl Try.results4 rfl (fun w' hp => ⟨?_, hp.below⟩)
        rfl

theorem k_AuctionRings (past : List Int) (Ap : Option Addr) (cp : Nat) (few : Int) (w : World) (hpa : Rd w 1 enInt Ap past) : Calls Try.prog 5 #[.slice Ap past.length cp, .int .i64 few] w (fun e w' => e = .returned (.bool true) ∧ Grow w w') := by
  refine enter_pure (args := [.slice Ap past.length cp, .int .i64 few]) [sl (fun b => b < w.heap.size) 1 enInt Ap past] Try.func5 rfl (by rw [Try.ntmps5]; simp) (fun g hg => by simp at hg; subst hg; exact ⟨hpa, fun _ h => h⟩) ?_
  refine cj_seq ?_
  refine cj_regionG (gj_step (y_assign rfl) rfl rfl rfl (gj_nil ?_))
  refine ej_th (cj_seq (cj_region ?_))
  refine oj_step (y_move rfl) rfl rfl rfl ?_
  refine oj_step (y_move rfl) rfl rfl rfl ?_
  refine oj_callS (fun A c => .tuple #[.slice A (ringV past few).length c, .int .i64 (ringE past few)]) 1 enInt (ringV past few) Try.call26 rfl (fun w hp => k_Rings past Ap cp few w hp.rd) rfl (fun A12 c12 fp12 hfp12 => ?_)
  refine oj_step (y_move rfl) rfl rfl rfl ?_
  refine oj_step (y_extract rfl rfl) rfl rfl rfl ?_
  refine oj_step (y_extract rfl rfl) rfl rfl rfl ?_
  refine oj_step (y_assign rfl) rfl rfl rfl ?_
  refine oj_step (y_assign rfl) rfl rfl rfl ?_
  refine oj_nil ?_
  refine ej_th (cj_seq (cj_region ?_))
  refine oj_step (y_move rfl) rfl rfl rfl ?_
  refine oj_step (y_move rfl) rfl rfl rfl ?_
  refine oj_callS (fun A c => .tuple #[.slice A (ringV past few).length c, .int .i64 (ringE past few)]) 1 enInt (ringV past few) Try.call27 rfl (fun w hp => k_rRings past Ap cp few w hp.rd) rfl (fun A18 c18 fp18 hfp18 => ?_)
  refine oj_step (y_move rfl) rfl rfl rfl ?_
  refine oj_step (y_extract rfl rfl) rfl rfl rfl ?_
  refine oj_step (y_extract rfl rfl) rfl rfl rfl ?_
  refine oj_step (y_assign rfl) rfl rfl rfl ?_
  refine oj_step (y_assign rfl) rfl rfl rfl ?_
  refine oj_nil ?_
  refine ej_th (cj_seq ?_)
  refine cj_regionG ?_
  refine gj_step (y_move rfl) rfl rfl rfl (gj_step (y_move rfl) rfl rfl rfl (?_))
  refine gj_step (y_call Try.call28 rfl (fun w hp => k_Same (ringV past few) (ringV past few) A12 A18 c12 c18 w hp.rd hp.rd)) rfl rfl rfl ?_
  refine gj_step (y_move rfl) rfl rfl rfl (?_)
  refine gj_g 3 24 27 rfl rfl rfl rfl (fun hg24 => gj_yes rfl rfl rfl (y_move rfl) rfl rfl (gj_yes rfl rfl rfl (y_move rfl) rfl rfl (gj_yes rfl rfl rfl (y_eql rfl rfl) rfl rfl (gj_nil rfl)))) ?_
  refine gj_step (y_and rfl rfl rfl) rfl rfl rfl (gj_step (y_move rfl) rfl rfl rfl (?_))
  refine gj_g 1 29 30 rfl rfl rfl rfl (fun hg29 => gj_yes rfl rfl rfl (y_call Try.call21 rfl (fun w hp => k_works w)) rfl rfl (gj_nil rfl)) ?_
  refine gj_step (y_and rfl rfl rfl) rfl rfl rfl (gj_step (y_assign rfl) rfl rfl rfl (?_))
  refine gj_nil ?_
  refine ej_th (cj_ret ?_)
  refine ej_ret1 rfl Try.results5 rfl (fun w' hp => ⟨?_, hp.below⟩)
  simp

theorem k_AuctionFairs (res : List Int) (Ar : Option Addr) (cr : Nat) (vs : List ListV) (Av : Option Addr) (cv : Nat) (to : List Int) (At : Option Addr) (ct : Nat) (ps : List Int) (Ap : Option Addr) (cp : Nat) (w : World) (hres : Rd w 1 enInt Ar res) (hvs : Rd w 1 encLs Av vs) (hgv : ∀ r ∈ vs, GoodL w r) (hto : Rd w 1 enInt At to) (hps : Rd w 1 enInt Ap ps) : Calls Try.prog 12 #[.agg #[.slice Ar res.length cr, .slice Av vs.length cv], .agg #[.slice At to.length ct, .slice Ap ps.length cp]] w (fun e w' => e = .returned (.bool true) ∧ Grow w w') := by
  refine enter_pure (args := [.agg #[.slice Ar res.length cr, .slice Av vs.length cv], .agg #[.slice At to.length ct, .slice Ap ps.length cp]]) [sl (fun b => b < w.heap.size) 1 enInt Ar res, sl (fun b => b < w.heap.size) 1 encLs Av vs, sl (fun b => b < w.heap.size) 1 enInt At to, sl (fun b => b < w.heap.size) 1 enInt Ap ps] Try.func12 rfl (by rw [Try.ntmps12]; simp) (fun g hg => by simp at hg; rcases hg with rfl | rfl | rfl | rfl; exact ⟨hres, fun _ h => h⟩; exact ⟨hvs, fun _ h => h⟩; exact ⟨hto, fun _ h => h⟩; exact ⟨hps, fun _ h => h⟩) ?_
  refine cj_seq (cj_region ?_)
  refine oj_box rfl rfl rfl (fun b2 => ?_)
  refine oj_box rfl rfl rfl (fun b3 => ?_)
  refine oj_step (y_assign rfl) rfl rfl rfl ?_
  refine oj_nil ?_
  refine ej_th (cj_seq ?_)
  refine cj_regionG ?_
  refine gj_step (y_loadN Try.isAgg60 Try.sizeOf60 rfl) rfl rfl rfl (gj_step (y_loadN Try.isAgg62 Try.sizeOf62 rfl) rfl rfl rfl (?_))
  refine gj_step (y_call Try.call44 rfl (fun w hp => k_Fair res Ar cr vs Av cv to At ct ps Ap cp w hp.rd hp.rd (fun r h => (hgv r h).mono hp.below) hp.rd hp.rd)) rfl rfl rfl ?_
  refine gj_step (y_move rfl) rfl rfl rfl (gj_step (y_extract rfl rfl) rfl rfl rfl (gj_step (y_extract rfl rfl) rfl rfl rfl (gj_step (y_assign rfl) rfl rfl rfl (gj_step (y_assign rfl) rfl rfl rfl (?_)))))
  refine gj_nil ?_
  refine ej_th (cj_seq ?_)
  refine cj_regionG ?_
  refine gj_step (y_loadN Try.isAgg60 Try.sizeOf60 rfl) rfl rfl rfl (gj_step (y_loadN Try.isAgg62 Try.sizeOf62 rfl) rfl rfl rfl (?_))
  refine gj_step (y_call Try.call43 rfl (fun w hp => k_rFair res Ar cr vs Av cv to At ct ps Ap cp w hp.rd hp.rd (fun r h => (hgv r h).mono hp.below) hp.rd hp.rd)) rfl rfl rfl ?_
  refine gj_step (y_move rfl) rfl rfl rfl (gj_step (y_extract rfl rfl) rfl rfl rfl (gj_step (y_extract rfl rfl) rfl rfl rfl (gj_step (y_assign rfl) rfl rfl rfl (gj_step (y_assign rfl) rfl rfl rfl (?_)))))
  refine gj_nil ?_
  refine ej_th (cj_seq ?_)
  refine cj_regionG ?_
  refine gj_step (y_move rfl) rfl rfl rfl (gj_step (y_move rfl) rfl rfl rfl (gj_step (y_eqlB Try.underlying4 rfl rfl) rfl rfl rfl (gj_step (y_move rfl) rfl rfl rfl (?_))))
  refine gj_g 3 24 27 rfl rfl rfl rfl (fun hg24 => gj_yes rfl rfl rfl (y_move rfl) rfl rfl (gj_yes rfl rfl rfl (y_move rfl) rfl rfl (gj_yes rfl rfl rfl (y_eql rfl rfl) rfl rfl (gj_nil rfl)))) ?_
  refine gj_step (y_and rfl rfl rfl) rfl rfl rfl (gj_step (y_move rfl) rfl rfl rfl (?_))
  refine gj_g 1 29 30 rfl rfl rfl rfl (fun hg29 => gj_yes rfl rfl rfl (y_call Try.call21 rfl (fun w hp => k_works w)) rfl rfl (gj_nil rfl)) ?_
  refine gj_step (y_and rfl rfl rfl) rfl rfl rfl (gj_step (y_assign rfl) rfl rfl rfl (?_))
  refine gj_nil ?_
  refine ej_th (cj_ret ?_)
  refine ej_ret1 rfl Try.results12 rfl (fun w' hp => ⟨?_, hp.below⟩)
  simp

end Go.Proofs.Ytehmifpofpifkaa
