/- Texts of ours, joined: 7 of them. Conditions: none. -/
import Derived.Test.YtehmifpofpifkaaZj
import Derived.Test.YtehmifpofpifkaaProg
import Derived.Laws.StructEq
namespace Go.Proofs.Ytehmifpofpifkaa
open Go.Sx Go.RowKit
set_option maxRecDepth 20000
theorem ne41 (a0 b0 : Int) (a1 b1 : Int) (a2 b2 : Int) (a3 b3 : Int) (a4 b4 : Int) (x y : Operand) (w : World) : (do eqGuard .neq 41 x y (.agg #[.int .i64 a0, .int .i64 a1, .int .i64 a2, .int .i64 a3, .int .i64 a4]) (.agg #[.int .i64 b0, .int .i64 b1, .int .i64 b2, .int .i64 b3, .int .i64 b4]); binOp .neq 41 (.agg #[.int .i64 a0, .int .i64 a1, .int .i64 a2, .int .i64 a3, .int .i64 a4]) (.agg #[.int .i64 b0, .int .i64 b1, .int .i64 b2, .int .i64 b3, .int .i64 b4]) : Sem Value).run Try.prog w = .ok (.bool (!((a0 == b0) && (a1 == b1) && (a2 == b2) && (a3 == b3) && (a4 == b4)))) w := by
  simp [go_sem, Try.eqGuardType41, Try.stoodInHeld41, Try.underlying41, Try.underlying3]
  try ((repeat' split) <;> simp_all)
end Go.Proofs.Ytehmifpofpifkaa
namespace Go.Proofs.Ytehmifpofpifkaa
open Go.Sx Go.RowKit Am
set_option maxRecDepth 20000
theorem k_AuctionRungs (st rv : Int) (lad : List RiseV) (Al : Option Addr) (cl : Nat) (n0 n1 : Int) (w : World) (hlad : Rd w 2 encRi Al lad) : Calls Try.prog 3 #[.agg #[.int .i64 st, .int .i64 rv, .slice Al lad.length cl], .agg #[.int .i64 n0, .int .i64 n1]] w (fun e w' => e = .returned (.bool true) ∧ Grow w w') := by
  refine enter_pure (args := [.agg #[.int .i64 st, .int .i64 rv, .slice Al lad.length cl], .agg #[.int .i64 n0, .int .i64 n1]]) [sl (fun b => b < w.heap.size) 2 encRi Al lad] Try.func3 rfl (by rw [Try.ntmps3]; simp) (fun g hg => by simp at hg; subst hg; exact ⟨hlad, fun _ h => h⟩) ?_
  refine cj_seq (cj_region ?_)
  refine oj_box rfl rfl rfl (fun b2 => ?_)
  refine oj_box rfl rfl rfl (fun b3 => ?_)
  refine oj_step (y_assign rfl) rfl rfl rfl ?_
  refine oj_nil ?_
  refine ej_th (cj_seq ?_)
  refine cj_regionG ?_
  refine gj_step (y_loadN Try.isAgg24 Try.sizeOf24 rfl) rfl rfl rfl (gj_step (y_ixArrC 0 Try.underlying25 Try.sizeOf3 rfl rfl (by decide) (by decide)) rfl rfl rfl (gj_step (y_load1 Try.isAgg3 rfl rfl) rfl rfl rfl (?_)))
  refine gj_step (y_call Try.call15 rfl (fun w hp => k_Rung st rv lad Al cl n0 w hp.rd)) rfl rfl rfl ?_
  refine gj_step (y_move rfl) rfl rfl rfl (gj_step (y_extract rfl rfl) rfl rfl rfl (gj_step (y_extract rfl rfl) rfl rfl rfl (gj_step (y_assign rfl) rfl rfl rfl (gj_step (y_assign rfl) rfl rfl rfl (?_)))))
  refine gj_nil ?_
  refine ej_th (cj_seq ?_)
  refine cj_regionG ?_
  refine gj_step (y_loadN Try.isAgg24 Try.sizeOf24 rfl) rfl rfl rfl (gj_step (y_ixArrC 0 Try.underlying25 Try.sizeOf3 rfl rfl (by decide) (by decide)) rfl rfl rfl (gj_step (y_load1 Try.isAgg3 rfl rfl) rfl rfl rfl (?_)))
  refine gj_step (y_call Try.call16 rfl (fun w hp => k_rRung st rv lad Al cl n0 w hp.rd)) rfl rfl rfl ?_
  refine gj_step (y_move rfl) rfl rfl rfl (gj_step (y_extract rfl rfl) rfl rfl rfl (gj_step (y_extract rfl rfl) rfl rfl rfl (gj_step (y_assign rfl) rfl rfl rfl (gj_step (y_assign rfl) rfl rfl rfl (?_)))))
  refine gj_nil ?_
  refine ej_th (cj_seq (cj_seq ?_))
  refine cj_draw (by kernel_rfl) (by kernel_rfl) ?_
  refine gj_step (y_move rfl) rfl rfl rfl (gj_step (y_move rfl) rfl rfl rfl (gj_step (y_neq rfl rfl) rfl rfl rfl (gj_step (y_move rfl) rfl rfl rfl (?_))))
  refine gj_g 3 26 29 rfl rfl rfl rfl (fun hg26 => gj_yes rfl rfl rfl (y_move rfl) rfl rfl (gj_yes rfl rfl rfl (y_move rfl) rfl rfl (gj_yes rfl rfl rfl (y_neq rfl rfl) rfl rfl (gj_nil rfl)))) ?_
  refine gj_step (y_or rfl rfl rfl) rfl rfl rfl (gj_step (y_move rfl) rfl rfl rfl (?_))
  refine gj_g 5 31 36 rfl rfl rfl rfl (fun hg31 => gj_yes rfl rfl rfl (y_loadN Try.isAgg24 Try.sizeOf24 rfl) rfl rfl (gj_yes rfl rfl rfl (y_call Try.call17 rfl (fun w hp => k_Check st rv lad Al cl w hp.rd)) rfl rfl (gj_yes rfl rfl rfl (y_loadN Try.isAgg24 Try.sizeOf24 rfl) rfl rfl (gj_yes rfl rfl rfl (y_call Try.call18 rfl (fun w hp => k_rCheck st rv lad Al cl w hp.rd)) rfl rfl (gj_yes rfl rfl rfl (y_neq rfl rfl) rfl rfl (gj_nil rfl)))))) ?_
  refine gj_step (y_or rfl rfl rfl) rfl rfl rfl (?_)
  refine gj_nil ?_
  refine ej_th ?_
  refine cj_cond rfl (fun h37 => ?_) (fun h37 => ?_)
  · exact absurd h37 (by simp)
  · have h37b := h37
    try simp only [sxb] at h37
    refine cj_skip (ej_th (cj_seq ?_))
    refine cj_regionG ?_
    refine gj_step (y_loadN Try.isAgg24 Try.sizeOf24 rfl) rfl rfl rfl (gj_step (y_ixArrC 1 Try.underlying25 Try.sizeOf3 rfl rfl (by decide) (by decide)) rfl rfl rfl (gj_step (y_load1 Try.isAgg3 rfl rfl) rfl rfl rfl (?_)))
    refine gj_step (y_call Try.call19 rfl (fun w hp => k_Next st rv lad Al cl n1 w hp.rd)) rfl rfl rfl ?_
    refine gj_step (y_move rfl) rfl rfl rfl (gj_step (y_extract rfl rfl) rfl rfl rfl (gj_step (y_extract rfl rfl) rfl rfl rfl (gj_step (y_assign rfl) rfl rfl rfl (gj_step (y_assign rfl) rfl rfl rfl (?_)))))
    refine gj_nil ?_
    refine ej_th (cj_seq ?_)
    refine cj_regionG ?_
    refine gj_step (y_loadN Try.isAgg24 Try.sizeOf24 rfl) rfl rfl rfl (gj_step (y_ixArrC 1 Try.underlying25 Try.sizeOf3 rfl rfl (by decide) (by decide)) rfl rfl rfl (gj_step (y_load1 Try.isAgg3 rfl rfl) rfl rfl rfl (?_)))
    refine gj_step (y_call Try.call20 rfl (fun w hp => k_rNext st rv lad Al cl n1 w hp.rd)) rfl rfl rfl ?_
    refine gj_step (y_move rfl) rfl rfl rfl (gj_step (y_extract rfl rfl) rfl rfl rfl (gj_step (y_extract rfl rfl) rfl rfl rfl (gj_step (y_assign rfl) rfl rfl rfl (gj_step (y_assign rfl) rfl rfl rfl (?_)))))
    refine gj_nil ?_
    refine ej_th (cj_seq ?_)
    refine cj_regionG ?_
    refine gj_step (y_move rfl) rfl rfl rfl (gj_step (y_move rfl) rfl rfl rfl (gj_step (y_eql rfl rfl) rfl rfl rfl (gj_step (y_move rfl) rfl rfl rfl (?_))))
    refine gj_g 3 55 58 rfl rfl rfl rfl (fun hg55 => gj_yes rfl rfl rfl (y_move rfl) rfl rfl (gj_yes rfl rfl rfl (y_move rfl) rfl rfl (gj_yes rfl rfl rfl (y_eql rfl rfl) rfl rfl (gj_nil rfl)))) ?_
    refine gj_step (y_and rfl rfl rfl) rfl rfl rfl (gj_step (y_move rfl) rfl rfl rfl (?_))
    refine gj_g 1 60 61 rfl rfl rfl rfl (fun hg60 => gj_yes rfl rfl rfl (y_call Try.call21 rfl (fun w hp => k_works w)) rfl rfl (gj_nil rfl)) ?_
    refine gj_step (y_and rfl rfl rfl) rfl rfl rfl (gj_step (y_assign rfl) rfl rfl rfl (?_))
    refine gj_nil ?_
    refine ej_th (cj_ret ?_)
    refine ej_ret1 rfl Try.results3 rfl (fun w' hp => ⟨?_, hp.below⟩)
    simp

theorem k_AuctionSells (st rv : Int) (lad : List RiseV) (Al : Option Addr) (cl : Nat) (bs : List BidV) (Ab : Option Addr) (cb : Nat) (w : World) (hlad : Rd w 2 encRi Al lad) (hbs : Rd w 3 encBi Ab bs) : Calls Try.prog 4 #[.agg #[.int .i64 st, .int .i64 rv, .slice Al lad.length cl], .slice Ab bs.length cb] w (fun e w' => e = .returned (.bool true) ∧ Grow w w') := by
  refine enter_pure (args := [.agg #[.int .i64 st, .int .i64 rv, .slice Al lad.length cl], .slice Ab bs.length cb]) [sl (fun b => b < w.heap.size) 2 encRi Al lad, sl (fun b => b < w.heap.size) 3 encBi Ab bs] Try.func4 rfl (by rw [Try.ntmps4]; simp) (fun g hg => by simp at hg; rcases hg with rfl | rfl; exact ⟨hlad, fun _ h => h⟩; exact ⟨hbs, fun _ h => h⟩) ?_
  refine cj_seq (cj_region ?_)
  refine oj_box rfl rfl rfl (fun b2 => ?_)
  refine oj_step (y_assign rfl) rfl rfl rfl ?_
  refine oj_nil ?_
  refine ej_th (cj_seq (cj_region ?_))
  refine oj_step (y_loadN Try.isAgg24 Try.sizeOf24 rfl) rfl rfl rfl ?_
  refine oj_step (y_move rfl) rfl rfl rfl ?_
  refine oj_step (y_call Try.call22 rfl (fun w hp => k_Sell st rv lad Al cl bs Ab cb w hp.rd hp.rd)) rfl rfl rfl ?_
  refine oj_step (y_move rfl) rfl rfl rfl ?_
  refine oj_step (y_extract rfl rfl) rfl rfl rfl ?_
  refine oj_step (y_extract rfl rfl) rfl rfl rfl ?_
  refine oj_alloc Try.zeroValue34 rfl rfl (fun b5 => ?_)
  refine oj_store rfl rfl rfl rfl Try.sizeOf34 rfl ?_
  refine oj_step (y_assign rfl) rfl rfl rfl ?_
  refine oj_nil ?_
  refine ej_th (cj_seq (cj_region ?_))
  refine oj_step (y_loadN Try.isAgg24 Try.sizeOf24 rfl) rfl rfl rfl ?_
  refine oj_step (y_move rfl) rfl rfl rfl ?_
  refine oj_step (y_call Try.call23 rfl (fun w hp => k_rSell st rv lad Al cl bs Ab cb w hp.rd hp.rd)) rfl rfl rfl ?_
  refine oj_step (y_move rfl) rfl rfl rfl ?_
  refine oj_step (y_extract rfl rfl) rfl rfl rfl ?_
  refine oj_step (y_extract rfl rfl) rfl rfl rfl ?_
  refine oj_alloc Try.zeroValue34 rfl rfl (fun b7 => ?_)
  refine oj_store rfl rfl rfl rfl Try.sizeOf34 rfl ?_
  refine oj_step (y_assign rfl) rfl rfl rfl ?_
  refine oj_nil ?_
  refine ej_th (cj_seq (cj_seq ?_))
  refine cj_regionG (gj_step (y_loadN Try.isAgg34 Try.sizeOf34 rfl) rfl rfl rfl (gj_step (y_loadN Try.isAgg34 Try.sizeOf34 rfl) rfl rfl rfl (gj_step (y_bin rfl rfl (fun x y w => ne34 _ _ _ _ x y w)) rfl rfl rfl (gj_step (y_move rfl) rfl rfl rfl (gj_g 3 27 30 rfl rfl rfl rfl (fun hg27 => gj_yes rfl rfl rfl (y_move rfl) rfl rfl (gj_yes rfl rfl rfl (y_move rfl) rfl rfl (gj_yes rfl rfl rfl (y_neq rfl rfl) rfl rfl (gj_nil rfl)))) (gj_step (y_or rfl rfl rfl) rfl rfl rfl (gj_nil ?_)))))))
  refine ej_th ?_
  refine cj_cond rfl (fun h31 => ?_) (fun h31 => ?_)
  · exact absurd h31 (by simp)
  · have h31b := h31
    try simp only [sxb] at h31
    refine cj_skip (ej_th (cj_seq (cj_region ?_)))
    refine oj_step (y_loadN Try.isAgg24 Try.sizeOf24 rfl) rfl rfl rfl ?_
    refine oj_step (y_move rfl) rfl rfl rfl ?_
    refine oj_callS (fun A c => .tuple #[.slice A (RoomL st rv lad bs).length c, .int .i64 (SellE st rv lad bs)]) 5 encLe (RoomL st rv lad bs) Try.call24 rfl (fun w hp => k_Room st rv lad Al cl bs Ab cb w hp.rd hp.rd) rfl (fun A35 c35 fp35 hfp35 => ?_)
    refine oj_step (y_move rfl) rfl rfl rfl ?_
    refine oj_step (y_extract rfl rfl) rfl rfl rfl ?_
    refine oj_step (y_extract rfl rfl) rfl rfl rfl ?_
    refine oj_step (y_assign rfl) rfl rfl rfl ?_
    refine oj_step (y_assign rfl) rfl rfl rfl ?_
    refine oj_nil ?_
    refine ej_th (cj_seq (cj_region ?_))
    refine oj_step (y_loadN Try.isAgg24 Try.sizeOf24 rfl) rfl rfl rfl ?_
    refine oj_step (y_move rfl) rfl rfl rfl ?_
    refine oj_callS (fun A c => .tuple #[.slice A (RoomL st rv lad bs).length c, .int .i64 (SellE st rv lad bs)]) 5 encLe (RoomL st rv lad bs) Try.call25 rfl (fun w hp => k_rRoom st rv lad Al cl bs Ab cb w hp.rd hp.rd) rfl (fun A41 c41 fp41 hfp41 => ?_)
    refine oj_step (y_move rfl) rfl rfl rfl ?_
    refine oj_step (y_extract rfl rfl) rfl rfl rfl ?_
    refine oj_step (y_extract rfl rfl) rfl rfl rfl ?_
    refine oj_step (y_assign rfl) rfl rfl rfl ?_
    refine oj_step (y_assign rfl) rfl rfl rfl ?_
    refine oj_nil ?_
    refine ej_th (cj_seq (cj_seq ?_))
    refine cj_regionG (gj_step (y_move rfl) rfl rfl rfl (gj_step (y_lenA Try.underlying37 rfl) rfl rfl rfl (gj_step (y_move rfl) rfl rfl rfl (gj_step (y_lenA Try.underlying37 rfl) rfl rfl rfl (gj_step (y_neq rfl rfl) rfl rfl rfl (gj_step (y_move rfl) rfl rfl rfl (gj_g 3 49 52 rfl rfl rfl rfl (fun hg49 => gj_yes rfl rfl rfl (y_move rfl) rfl rfl (gj_yes rfl rfl rfl (y_move rfl) rfl rfl (gj_yes rfl rfl rfl (y_neq rfl rfl) rfl rfl (gj_nil rfl)))) (gj_step (y_or rfl rfl rfl) rfl rfl rfl (gj_nil ?_)))))))))
    refine ej_th ?_
    refine cj_cond rfl (fun h53 => ?_) (fun h53 => ?_)
    · exact absurd h53 (by simp)
    · have h53b := h53
      try simp only [sxb] at h53
      refine cj_skip (ej_th (cj_seq (cj_seq ?_)))
      refine cj_regionG (gj_step (y_assign rfl) rfl rfl rfl (gj_nil ?_))
      refine ej_th (cj_block ?_)
      refine cj_get (fun w1 hp => (show Rd w1 5 encLe A35 (RoomL st rv lad bs) from hp.rd).len) (fun hlr => ?_)
      refine cj_lpic (X := Nat) [(9, _), (10, _)] (fun k => k ≤ (RoomL st rv lad bs).length ∧ True) (fun k => [(11, .int .i64 k)]) (fun k => (RoomL st rv lad bs).length - k) 0 (⟨Nat.zero_le _, trivial⟩) ⟨rfl, rfl, rfl, trivial⟩ ?_
      rintro k ⟨hk, hsk⟩
      dsimp only [List.cons_append, List.nil_append]
      refine cj_seq (cj_seq ?_)
      refine cj_regionG (gj_step (y_move rfl) rfl rfl rfl (gj_step (y_move rfl) rfl rfl rfl (gj_step (y_lenA Try.underlying37 rfl) rfl rfl rfl (gj_step (y_lss rfl rfl) rfl rfl rfl (gj_nil ?_)))))
      refine ej_th ?_
      refine cj_cond rfl (fun h57 => ?_) (fun h57 => ?_)
      · have h57b := h57
        try simp only [sxb] at h57
        obtain ⟨x, hx⟩ : ∃ x, (RoomL st rv lad bs)[k]? = some x := ⟨_, List.getElem?_eq_getElem (by omega)⟩
        refine cj_skip (ej_th (cj_seq (cj_block (cj_seq ?_))))
        refine cj_draw (by kernel_rfl) (by kernel_rfl) (gj_step (y_move rfl) rfl rfl rfl (gj_step (y_move rfl) rfl rfl rfl (gj_step (y_ixR (reads_sl) Try.underlying37 Try.sizeOf41 rfl rfl (⟨by omega, by omega⟩)) rfl rfl rfl (gj_step (y_ldW (reads_sl) Try.isAgg41 Try.sizeOf41 rfl (hx) (fun _ => rfl)) rfl rfl rfl (gj_step (y_move rfl) rfl rfl rfl (gj_step (y_move rfl) rfl rfl rfl (gj_step (y_ixR (reads_sl) Try.underlying37 Try.sizeOf41 rfl rfl (⟨by omega, by omega⟩)) rfl rfl rfl (gj_step (y_ldW (reads_sl) Try.isAgg41 Try.sizeOf41 rfl (hx) (fun _ => rfl)) rfl rfl rfl (gj_step (y_bin rfl rfl (fun x y w => ne41 _ _ _ _ _ _ _ _ _ _ x y w)) rfl rfl rfl (gj_nil ?_))))))))))
        refine ej_th ?_
        refine cj_cond rfl (fun h68 => ?_) (fun h68 => ?_)
        · exact absurd h68 (by simp)
        · have h68b := h68
          try simp only [sxb] at h68
          refine cj_skip (ej_blk (ej_th ?_))
          refine cj_regionG (gj_step (y_move rfl) rfl rfl rfl (gj_step (y_add rfl rfl (by omega)) rfl rfl rfl (gj_step (y_assign rfl) rfl rfl rfl (gj_nil ?_))))
          exact ej_nx (k + 1) (by omega) ⟨by omega, trivial⟩ ⟨rfl, rfl, rfl, trivial⟩
      · have h57b := h57
        try simp only [sxb] at h57
        refine cj_exit (ej_then_exit (ej_then_exit (ej_blk_hit (ej_th (cj_seq ?_)))))
        refine cj_regionG ?_
        refine gj_step (y_call Try.call21 rfl (fun w hp => k_works w)) rfl rfl rfl ?_
        refine gj_step (y_assign rfl) rfl rfl rfl (?_)
        refine gj_nil ?_
        refine ej_th (cj_ret ?_)
        refine ej_ret1 rfl Try.results4 rfl (fun w' hp => ⟨?_, hp.below⟩)
        rfl

theorem k_AuctionRings (past : List Int) (Ap : Option Addr) (cp : Nat) (few : Int) (w : World) (hpa : Rd w 1 enInt Ap past) : Calls Try.prog 5 #[.slice Ap past.length cp, .int .i64 few] w (fun e w' => e = .returned (.bool true) ∧ Grow w w') := by
  refine enter_pure (args := [.slice Ap past.length cp, .int .i64 few]) [sl (fun b => b < w.heap.size) 1 enInt Ap past] Try.func5 rfl (by rw [Try.ntmps5]; simp) (fun g hg => by simp at hg; subst hg; exact ⟨hpa, fun _ h => h⟩) ?_
  refine cj_seq ?_
  refine cj_regionG (gj_step (y_assign rfl) rfl rfl rfl (gj_nil ?_))
  refine ej_th (cj_seq (cj_region ?_))
  refine oj_step (y_move rfl) rfl rfl rfl ?_
  refine oj_step (y_move rfl) rfl rfl rfl ?_
  refine oj_callS (fun A c => .tuple #[.slice A (ringV past few).length c, .int .i64 (ringE past few)]) 1 enInt (ringV past few) Try.call26 rfl (fun w hp => k_Rings past Ap cp few w hp.rd) rfl (fun A12 c12 fp12 hfp12 => ?_)
  refine oj_step (y_move rfl) rfl rfl rfl ?_
  refine oj_step (y_extract rfl rfl) rfl rfl rfl ?_
  refine oj_step (y_extract rfl rfl) rfl rfl rfl ?_
  refine oj_step (y_assign rfl) rfl rfl rfl ?_
  refine oj_step (y_assign rfl) rfl rfl rfl ?_
  refine oj_nil ?_
  refine ej_th (cj_seq (cj_region ?_))
  refine oj_step (y_move rfl) rfl rfl rfl ?_
  refine oj_step (y_move rfl) rfl rfl rfl ?_
  refine oj_callS (fun A c => .tuple #[.slice A (ringV past few).length c, .int .i64 (ringE past few)]) 1 enInt (ringV past few) Try.call27 rfl (fun w hp => k_rRings past Ap cp few w hp.rd) rfl (fun A18 c18 fp18 hfp18 => ?_)
  refine oj_step (y_move rfl) rfl rfl rfl ?_
  refine oj_step (y_extract rfl rfl) rfl rfl rfl ?_
  refine oj_step (y_extract rfl rfl) rfl rfl rfl ?_
  refine oj_step (y_assign rfl) rfl rfl rfl ?_
  refine oj_step (y_assign rfl) rfl rfl rfl ?_
  refine oj_nil ?_
  refine ej_th (cj_seq ?_)
  refine cj_regionG ?_
  refine gj_step (y_move rfl) rfl rfl rfl (gj_step (y_move rfl) rfl rfl rfl (?_))
  refine gj_step (y_call Try.call28 rfl (fun w hp => k_Same (ringV past few) (ringV past few) A12 A18 c12 c18 w hp.rd hp.rd)) rfl rfl rfl ?_
  refine gj_step (y_move rfl) rfl rfl rfl (?_)
  refine gj_g 3 24 27 rfl rfl rfl rfl (fun hg24 => gj_yes rfl rfl rfl (y_move rfl) rfl rfl (gj_yes rfl rfl rfl (y_move rfl) rfl rfl (gj_yes rfl rfl rfl (y_eql rfl rfl) rfl rfl (gj_nil rfl)))) ?_
  refine gj_step (y_and rfl rfl rfl) rfl rfl rfl (gj_step (y_move rfl) rfl rfl rfl (?_))
  refine gj_g 1 29 30 rfl rfl rfl rfl (fun hg29 => gj_yes rfl rfl rfl (y_call Try.call21 rfl (fun w hp => k_works w)) rfl rfl (gj_nil rfl)) ?_
  refine gj_step (y_and rfl rfl rfl) rfl rfl rfl (gj_step (y_assign rfl) rfl rfl rfl (?_))
  refine gj_nil ?_
  refine ej_th (cj_ret ?_)
  refine ej_ret1 rfl Try.results5 rfl (fun w' hp => ⟨?_, hp.below⟩)
  simp

theorem k_AuctionFairs (res : List Int) (Ar : Option Addr) (cr : Nat) (vs : List ListV) (Av : Option Addr) (cv : Nat) (to : List Int) (At : Option Addr) (ct : Nat) (ps : List Int) (Ap : Option Addr) (cp : Nat) (w : World) (hres : Rd w 1 enInt Ar res) (hvs : Rd w 1 encLs Av vs) (hgv : ∀ r ∈ vs, GoodL w r) (hto : Rd w 1 enInt At to) (hps : Rd w 1 enInt Ap ps) : Calls Try.prog 12 #[.agg #[.slice Ar res.length cr, .slice Av vs.length cv], .agg #[.slice At to.length ct, .slice Ap ps.length cp]] w (fun e w' => e = .returned (.bool true) ∧ Grow w w') := by
  refine enter_pure (args := [.agg #[.slice Ar res.length cr, .slice Av vs.length cv], .agg #[.slice At to.length ct, .slice Ap ps.length cp]]) [sl (fun b => b < w.heap.size) 1 enInt Ar res, sl (fun b => b < w.heap.size) 1 encLs Av vs, sl (fun b => b < w.heap.size) 1 enInt At to, sl (fun b => b < w.heap.size) 1 enInt Ap ps] Try.func12 rfl (by rw [Try.ntmps12]; simp) (fun g hg => by simp at hg; rcases hg with rfl | rfl | rfl | rfl; exact ⟨hres, fun _ h => h⟩; exact ⟨hvs, fun _ h => h⟩; exact ⟨hto, fun _ h => h⟩; exact ⟨hps, fun _ h => h⟩) ?_
  refine cj_seq (cj_region ?_)
  refine oj_box rfl rfl rfl (fun b2 => ?_)
  refine oj_box rfl rfl rfl (fun b3 => ?_)
  refine oj_step (y_assign rfl) rfl rfl rfl ?_
  refine oj_nil ?_
  refine ej_th (cj_seq ?_)
  refine cj_regionG ?_
  refine gj_step (y_loadN Try.isAgg60 Try.sizeOf60 rfl) rfl rfl rfl (gj_step (y_loadN Try.isAgg62 Try.sizeOf62 rfl) rfl rfl rfl (?_))
  refine gj_step (y_call Try.call44 rfl (fun w hp => k_Fair res Ar cr vs Av cv to At ct ps Ap cp w hp.rd hp.rd (fun r h => (hgv r h).mono hp.below) hp.rd hp.rd)) rfl rfl rfl ?_
  refine gj_step (y_move rfl) rfl rfl rfl (gj_step (y_extract rfl rfl) rfl rfl rfl (gj_step (y_extract rfl rfl) rfl rfl rfl (gj_step (y_assign rfl) rfl rfl rfl (gj_step (y_assign rfl) rfl rfl rfl (?_)))))
  refine gj_nil ?_
  refine ej_th (cj_seq ?_)
  refine cj_regionG ?_
  refine gj_step (y_loadN Try.isAgg60 Try.sizeOf60 rfl) rfl rfl rfl (gj_step (y_loadN Try.isAgg62 Try.sizeOf62 rfl) rfl rfl rfl (?_))
  refine gj_step (y_call Try.call43 rfl (fun w hp => k_rFair res Ar cr vs Av cv to At ct ps Ap cp w hp.rd hp.rd (fun r h => (hgv r h).mono hp.below) hp.rd hp.rd)) rfl rfl rfl ?_
  refine gj_step (y_move rfl) rfl rfl rfl (gj_step (y_extract rfl rfl) rfl rfl rfl (gj_step (y_extract rfl rfl) rfl rfl rfl (gj_step (y_assign rfl) rfl rfl rfl (gj_step (y_assign rfl) rfl rfl rfl (?_)))))
  refine gj_nil ?_
  refine ej_th (cj_seq ?_)
  refine cj_regionG ?_
  refine gj_step (y_move rfl) rfl rfl rfl (gj_step (y_move rfl) rfl rfl rfl (gj_step (y_eqlB Try.underlying4 rfl rfl) rfl rfl rfl (gj_step (y_move rfl) rfl rfl rfl (?_))))
  refine gj_g 3 24 27 rfl rfl rfl rfl (fun hg24 => gj_yes rfl rfl rfl (y_move rfl) rfl rfl (gj_yes rfl rfl rfl (y_move rfl) rfl rfl (gj_yes rfl rfl rfl (y_eql rfl rfl) rfl rfl (gj_nil rfl)))) ?_
  refine gj_step (y_and rfl rfl rfl) rfl rfl rfl (gj_step (y_move rfl) rfl rfl rfl (?_))
  refine gj_g 1 29 30 rfl rfl rfl rfl (fun hg29 => gj_yes rfl rfl rfl (y_call Try.call21 rfl (fun w hp => k_works w)) rfl rfl (gj_nil rfl)) ?_
  refine gj_step (y_and rfl rfl rfl) rfl rfl rfl (gj_step (y_assign rfl) rfl rfl rfl (?_))
  refine gj_nil ?_
  refine ej_th (cj_ret ?_)
  refine ej_ret1 rfl Try.results12 rfl (fun w' hp => ⟨?_, hp.below⟩)
  simp

end Go.Proofs.Ytehmifpofpifkaa
namespace Go.Proofs.Ytehmifpofpifkaa
open Go Go.Sx Go.RowKit Am

theorem gD {l : List Int} {i : Nat} (h : i < l.length) : l[i]? = some (l.getD i 0) := by rw [List.getD_eq_getElem?_getD, List.getElem?_eq_getElem h]; rfl
theorem sig_gain {rows : List (List Int)} {ps res to : List Int} {i : Nat} (h : i < to.length) : gt (fun i j => wv res rows i j - (ps.getD j 0 - res.getD j 0)) i (sig to i) = gainF rows ps i (to.getD i 0) := by
  have hx := gD h
  unfold sig gainF
  rw [hx]
  by_cases h0 : 0 ≤ to.getD i 0
  · simp only [if_pos h0, gt]
    unfold wv rv
    omega
  · simp only [if_neg h0, gt]
theorem fairB_iff {res : List Int} {rows : List (List Int)} {ps to : List Int} (hok : OkL res.length to) (htl : to.length = rows.length) :
    fairB res rows ps to = true ↔ FairA rows.length res.length (wv res rows) (sig to) (fun k => ps.getD k 0 - res.getD k 0) := by
  have hv := sig_val hok
  rw [htl] at hv
  unfold fairB
  rw [Bool.and_eq_true, allN_iff, allN_iff]
  have h1 : ∀ k, k < res.length → (f1 res ps to k = true ↔ (0 ≤ ps.getD k 0 - res.getD k 0) ∧ ((∀ i, i < rows.length → sig to i ≠ some k) → ps.getD k 0 - res.getD k 0 = 0)) := fun k hk => by
    unfold f1
    rw [Bool.not_eq_true', Bool.or_eq_false_iff, decide_eq_false_iff_not, Bool.and_eq_false_iff, decide_eq_false_iff_not, Bool.not_eq_false']
    rw [sold_iff, htl]
    constructor
    · rintro ⟨a, b⟩
      refine ⟨by omega, fun hn => ?_⟩
      rcases b with b | ⟨i, hi, e⟩
      · omega
      · exact absurd e (hn i hi)
    · rintro ⟨a, b⟩
      refine ⟨by omega, ?_⟩
      by_cases hs : ∃ i, i < rows.length ∧ sig to i = some k
      · exact .inr hs
      · exact .inl (by have := b (fun i hi e => hs ⟨i, hi, e⟩); omega)
  have h2 : ∀ i, i < rows.length → (f2 res.length rows ps to i = true ↔ 0 ≤ gt (fun i j => wv res rows i j - (ps.getD j 0 - res.getD j 0)) i (sig to i) ∧ ∀ j, j < res.length → wv res rows i j - (ps.getD j 0 - res.getD j 0) ≤ gt (fun i j => wv res rows i j - (ps.getD j 0 - res.getD j 0)) i (sig to i)) := fun i hi => by
    rw [sig_gain (by omega)]
    unfold f2
    rw [Bool.and_eq_true, decide_eq_true_iff, allN_iff]
    have e : ∀ j, f2j rows ps i (gainF rows ps i (to.getD i 0)) j = true ↔ wv res rows i j - (ps.getD j 0 - res.getD j 0) ≤ gainF rows ps i (to.getD i 0) := fun j => by
      unfold f2j
      rw [decide_eq_true_iff]
      unfold wv rv
      omega
    constructor
    · rintro ⟨a, b⟩; exact ⟨a, fun j hj => (e j).1 (b j (Nat.zero_le _) (by omega))⟩
    · rintro ⟨a, b⟩; exact ⟨a, fun j _ hj => (e j).2 (b j (by omega))⟩
  constructor
  · rintro ⟨a, b⟩
    refine ⟨hv, fun j hj => ((h1 j hj).1 (a j (Nat.zero_le _) (by omega))).1, fun j hj hn => ((h1 j hj).1 (a j (Nat.zero_le _) (by omega))).2 hn, fun i j hi e => ?_, fun i j hi hj => ((h2 i hi).1 (b i (Nat.zero_le _) (by omega))).2 j hj⟩
    have h3 := ((h2 i hi).1 (b i (Nat.zero_le _) (by omega))).1
    rw [e] at h3
    simp only [gt] at h3
    omega
  · intro h
    refine ⟨fun k _ hk => (h1 k (by omega)).2 ⟨h.nn k (by omega), h.un k (by omega)⟩, fun i _ hi => (h2 i (by omega)).2 ⟨?_, fun j hj => h.ef i j (by omega) hj⟩⟩
    have := h.gain (i := i) (by omega)
    exact this
theorem prices_len (res : List Int) (rows : List (List Int)) : (pricesL res rows).length = res.length := by simp [pricesL]
theorem prices_get (res : List Int) (rows : List (List Int)) {k : Nat} (hk : k < res.length) : (pricesL res rows).getD k 0 = priceC res rows k := by
  rw [List.getD_eq_getElem?_getD, pricesL, List.getElem?_map, List.getElem?_range hk]; rfl
/-- what is known of a closing -/
structure CloF (res : List Int) (rows : List (List Int)) : Prop where
  ok : OkL res.length (bestF res rows).1
  len : (bestF res rows).1.length = rows.length
  fair : FairA rows.length res.length (wv res rows) (sig (bestF res rows).1) (fun k => (pricesL res rows).getD k 0 - res.getD k 0)
  max : IsMax rows.length res.length (wv res rows) ((bestF res rows).2 - sumR res)
  pr : ∀ k, k < res.length → IsMax rows.length (res.length + 1) (dup res.length k (wv res rows)) (priceC res rows k - rv res k + ((bestF res rows).2 - sumR res))
  wt : wt rows.length (wv res rows) (sig (bestF res rows).1) = (bestF res rows).2 - sumR res
theorem fairA_congr {n m : Nat} {w : Nat → Nat → Int} {σ : Nat → Option Nat} {q q' : Nat → Int} (h : FairA n m w σ q) (e : ∀ j, j < m → q j = q' j) : FairA n m w σ q' := by
  have hg : ∀ i, i < n → gt (fun i j => w i j - q j) i (σ i) = gt (fun i j => w i j - q' j) i (σ i) := fun i hi => by
    cases hs : σ i with
    | none => rfl
    | some j => simp only [gt]; rw [e j (h.val.lot i j hi hs)]
  exact ⟨h.val, fun j hj => e j hj ▸ h.nn j hj, fun j hj hn => e j hj ▸ h.un j hj hn, fun i j hi hs => e j (h.val.lot i j hi hs) ▸ h.ir i j hi hs, fun i j hi hj => by rw [← e j hj, ← hg i hi]; exact h.ef i j hi hj⟩
theorem cloF {res : List Int} {rows : List (List Int)} (h : CloOk res rows) : CloF res rows := by
  obtain ⟨a, b, c, d, e⟩ := best_spec h.nn.1 h.nn.2
  have hp := fun k => price_max h.nn.1 h.nn.2 h.len k
  have hv := sig_val a
  rw [b] at hv
  have hf := fair_least d (fun k _ => hp k) hv e
  refine ⟨a, b, fairA_congr hf fun j hj => ?_, d, fun k _ => hp k, e⟩
  rw [prices_get res rows hj]
  unfold rv
  omega
/-- a price lies between the reserve and what somebody would give -/
theorem price_bdV {res : List Int} {rows : List (List Int)} (h : CloOk res rows) {k : Nat} (hk : k < res.length) {V : Int} (h1 : res.getD k 0 ≤ V) (h2 : ∀ i, i < rows.length → vv rows i k ≤ V) : res.getD k 0 ≤ priceC res rows k ∧ priceC res rows k ≤ V := by
  have hf := cloF h
  have a := hf.fair.nn k hk
  rw [prices_get res rows hk] at a
  have b := price_le hf.max (hf.pr k hk) (V := V - rv res k) (by unfold rv; omega) (fun i hi => by
    have := h2 i hi
    unfold wv rv; omega)
  unfold rv at b
  omega
theorem price_100 {res : List Int} {rows : List (List Int)} (h : CloOk res rows) {k : Nat} (hk : k < res.length) : 0 ≤ priceC res rows k ∧ priceC res rows k ≤ 100000 := by
  have hr := h.res _ (getD_mem (l := res) (d := 0) hk)
  have := price_bdV h hk (V := 100000) hr.2 (fun i hi => by
    unfold vv
    have h1 : rows[i]? = some (rows.getD i []) := by rw [List.getD_eq_getElem?_getD, List.getElem?_eq_getElem hi]; rfl
    have h2 := List.mem_of_getElem? h1
    have h3 := h.len _ h2
    exact (h.val _ h2 _ (getD_mem (by omega))).2)
  omega
theorem okF_of {m n : Nat} {to : List Int} (h : OkL m to) (hl : to.length = n) : fitsB m n to = true := by
  unfold fitsB
  rw [(okF_ok m to).2 h, decide_eq_true (by omega)]; rfl
theorem awB_clo {res : List Int} {vs : List ListV} (h : cloB res vs = true) : awB res vs (bestF res (rowsV vs)).1 (pricesL res (rowsV vs)) = true := by
  obtain ⟨hco, _, _⟩ := clo_ok h
  have hf := cloF hco
  unfold awB
  rw [okF_of hf.ok (by rw [hf.len, rowsV_len]), Bool.true_and, Bool.and_eq_true, beq_iff_eq, prices_len, List.all_eq_true]
  refine ⟨rfl, fun p hp => ?_⟩
  obtain ⟨k, hk, rfl⟩ := List.mem_map.1 hp
  exact btw_t.2 (price_100 hco (by simpa using hk))
/-- the award of Close is fair -/
theorem fair_clo {res : List Int} {vs : List ListV} (h : cloB res vs = true) : FairV res vs (CloA res vs).1 (CloA res vs).2 = true ∧ FairE res vs (CloA res vs).1 (CloA res vs).2 = 0 := by
  obtain ⟨hco, _, _⟩ := clo_ok h
  have hf := cloF hco
  obtain ⟨e, _⟩ := cloA_yes h
  rw [e]
  obtain ⟨e1, e2⟩ := fair_yes h (awB_clo h)
  refine ⟨?_, e2⟩
  rw [e1, fairB_iff hf.ok hf.len]
  exact hf.fair
theorem cloE_iff {res : List Int} {vs : List ListV} : cloE res vs = 0 ↔ cloB res vs = true := by
  unfold cloE
  split <;> simp_all
theorem fairE_ne {res : List Int} {vs : List ListV} {to ps : List Int} (h : cloB res vs = true) : FairE res vs to ps = 0 ∨ FairE res vs to ps = 63 := by
  unfold FairE
  rw [if_pos h]
  split
  · exact .inl rfl
  · exact .inr rfl
theorem fair_true {res : List Int} {vs : List ListV} {to ps : List Int} (h2 : FairV res vs to ps = true) : ps.length = res.length ∧ FairA (rowsV vs).length res.length (wv res (rowsV vs)) (sig to) (fun k => ps.getD k 0 - res.getD k 0) := by
  unfold FairV at h2
  rw [Bool.and_eq_true, Bool.and_eq_true] at h2
  obtain ⟨⟨hok, htl⟩, hpl, _⟩ := aw_ok h2.1.2
  exact ⟨hpl, (fairB_iff hok (by rw [htl, rowsV_len])).1 h2.2⟩
/-- no fair award has a lesser price -/
theorem least_price {res : List Int} {vs : List ListV} {to ps : List Int} (h : cloB res vs = true) (h2 : FairV res vs to ps = true) {k : Nat} (hk : k < res.length) : priceC res (rowsV vs) k ≤ ps.getD k 0 := by
  obtain ⟨hco, _, _⟩ := clo_ok h
  have hf := cloF hco
  obtain ⟨_, hfa⟩ := fair_true h2
  have := hfa.least hf.max (hf.pr k hk) hk
  unfold rv at this
  omega
/-- the award of Close is worth most -/
theorem most_worth {res : List Int} {vs : List ListV} {to : List Int} (h : cloB res vs = true) (h2 : WorE res vs to = 0) : WorV res vs to ≤ WorV res vs (CloA res vs).1 := by
  obtain ⟨hco, _, _⟩ := clo_ok h
  have hf := cloF hco
  have hy : fitsB res.length vs.length to = true := by
    unfold WorE at h2
    rw [if_pos h] at h2
    split at h2
    · assumption
    · cases h2
  obtain ⟨hok, htl⟩ := fits_ok hy
  obtain ⟨e, _⟩ := cloA_yes h
  rw [e]
  unfold WorV
  rw [if_pos ⟨h, hy⟩, if_pos ⟨h, okF_of hf.ok (by rw [hf.len, rowsV_len])⟩, worthP_eq hok, worthP_eq hf.ok, hf.len, hf.wt, htl]
  have hv := sig_val hok
  rw [htl, ← rowsV_len vs] at hv
  have := hf.max.le _ hv
  rw [rowsV_len] at this
  omega
theorem worE_clo {res : List Int} {vs : List ListV} (h : cloB res vs = true) : WorE res vs (CloA res vs).1 = 0 := by
  obtain ⟨hco, _, _⟩ := clo_ok h
  have hf := cloF hco
  obtain ⟨e, _⟩ := cloA_yes h
  rw [e]
  unfold WorE
  rw [if_pos h, if_pos (okF_of hf.ok (by rw [hf.len, rowsV_len]))]
theorem encLs_len (x : ListV) : (encLs x).length = 1 := rfl
theorem cloE_or (res : List Int) (vs : List ListV) : cloE res vs = 0 ∨ cloE res vs = 62 := by
  unfold cloE
  split
  · exact .inl rfl
  · exact .inr rfl
/-! ### What a bidder gains -/
def gainE (vals to ps : List Int) (i : Nat) : Int × Bool :=
  if to.length ≤ i then (0, false) else if to.getD i 0 = -1 then (0, true) else
  if !(btw 0 (to.getD i 0) ((ps.length : Int) - 1)) || decide ((vals.length : Int) ≤ to.getD i 0) then (0, false) else (vals.getD (to.getD i 0).toNat 0 - ps.getD (to.getD i 0).toNat 0, true)
theorem row_get {rows : List (List Int)} {i : Nat} {l : List Int} (h : rows[i]? = some l) (j : Nat) : vv rows i j = l.getD j 0 := by
  unfold vv
  rw [List.getD_eq_getElem?_getD (l := rows), h]; rfl
theorem gainE_ok {rows : List (List Int)} {vals to ps : List Int} {i m : Nat} (hr : rows[i]? = some vals) (hl : vals.length = m) (hp : ps.length = m) (hok : OkL m to) (hi : i < to.length) : gainE vals to ps i = (gainF rows ps i (to.getD i 0), true) := by
  have hx := hok.rng _ (getD_mem (l := to) (d := 0) hi)
  unfold gainE gainF
  rw [if_neg (by omega)]
  by_cases h1 : to.getD i 0 = -1
  · rw [if_pos h1, h1]; rfl
  · have e1 : btw 0 (to.getD i 0) ((ps.length : Int) - 1) = true := btw_t.2 (by omega)
    rw [if_neg h1, e1, decide_eq_false (by omega), row_get hr]
    simp only [Bool.not_true, Bool.or_false, Bool.false_eq_true, if_false]
    rw [if_pos (by omega)]
theorem gt_congr {f g : Nat → Nat → Int} {i : Nat} {s : Option Nat} (h : ∀ j, s = some j → f i j = g i j) : gt f i s = gt g i s := by
  cases s with
  | none => rfl
  | some j => exact h j rfl
theorem clo_sig {res : List Int} {rows : List (List Int)} (h : CloOk res rows) {res2 : List Int} {rows2 : List (List Int)} {i : Nat} (hi : i < rows.length) {M : Int} (hr : res2 = res) (hM : M = (bestF res rows).2 - sumR res) :
    gt (fun i j => wv res2 rows2 i j - (priceC res rows j - rv res j + M - M)) i (sig (bestF res rows).1 i) = gainF rows2 (pricesL res rows) i ((bestF res rows).1.getD i 0) := by
  subst hr
  have hf := cloF h
  have hv := sig_val hf.ok
  rw [hf.len] at hv
  rw [← sig_gain (res := res2) (by rw [hf.len]; exact hi)]
  refine gt_congr fun j hj => ?_
  have := hv.lot i j hi hj
  rw [prices_get res2 rows this]
  unfold rv
  omega
/-- nobody gains by a lie -/
theorem truth_gain {res : List Int} {rows rows2 : List (List Int)} (h : CloOk res rows) (h2 : CloOk res rows2) (hl : rows2.length = rows.length) {i : Nat} (hi : i < rows.length) (hne : ∀ k, k ≠ i → rows2[k]? = rows[k]?) :
    gainF rows (pricesL res rows2) i ((bestF res rows2).1.getD i 0) ≤ gainF rows (pricesL res rows) i ((bestF res rows).1.getD i 0) := by
  have hf := cloF h
  have hf2 := cloF h2
  have hv := sig_val hf.ok
  have hv2 := sig_val hf2.ok
  rw [hf.len] at hv
  rw [hf2.len, hl] at hv2
  have hm2 := hf2.max
  have hp2 := hf2.pr
  have hw2 := hf2.wt
  rw [hl] at hm2 hp2 hw2
  have := truth (w := wv res rows) (w' := wv res rows2) hi (fun k _ hk j => by
    have e : rows2.getD k [] = rows.getD k [] := by rw [List.getD_eq_getElem?_getD, List.getD_eq_getElem?_getD, hne k hk]
    unfold wv vv; rw [e]) hf.max hf.pr hv hf.wt hm2 hp2 hv2 hw2
  rw [clo_sig h hi rfl rfl, clo_sig h2 (by rw [hl]; exact hi) rfl rfl] at this
  exact this
theorem gain_nn {res : List Int} {rows : List (List Int)} (h : CloOk res rows) {i : Nat} (hi : i < rows.length) : 0 ≤ gainF rows (pricesL res rows) i ((bestF res rows).1.getD i 0) := by
  have hf := cloF h
  have := hf.fair.gain hi
  rw [sig_gain (by rw [hf.len]; exact hi)] at this
  exact this
theorem gainF_bd {rows : List (List Int)} {ps : List Int} {i : Nat} {x : Int} (h1 : ∀ r ∈ rows, ∀ v ∈ r, 0 ≤ v ∧ v ≤ 100000) (h2 : ∀ p ∈ ps, 0 ≤ p ∧ p ≤ 100000) : -100000 ≤ gainF rows ps i x ∧ gainF rows ps i x ≤ 100000 := by
  have g0 : ∀ (l : List Int), (∀ v ∈ l, 0 ≤ v ∧ v ≤ 100000) → ∀ k, 0 ≤ l.getD k 0 ∧ l.getD k 0 ≤ 100000 := fun l hl k => by
    by_cases hk : k < l.length
    · exact hl _ (getD_mem hk)
    · rw [List.getD_eq_getElem?_getD, List.getElem?_eq_none (by omega)]; simp
  unfold gainF
  split
  · have a := g0 ps h2 x.toNat
    have b : 0 ≤ vv rows i x.toNat ∧ vv rows i x.toNat ≤ 100000 := by
      unfold vv
      by_cases hi : i < rows.length
      · have h3 : rows[i]? = some (rows.getD i []) := by rw [List.getD_eq_getElem?_getD, List.getElem?_eq_getElem hi]; rfl
        exact g0 _ (h1 _ (List.mem_of_getElem? h3)) _
      · rw [show rows.getD i [] = [] by rw [List.getD_eq_getElem?_getD, List.getElem?_eq_none (by omega)]; rfl]; simp
    omega
  · omega
theorem prices_bd {res : List Int} {rows : List (List Int)} (h : CloOk res rows) : ∀ p ∈ pricesL res rows, 0 ≤ p ∧ p ≤ 100000 := fun p hp => by
  obtain ⟨k, hk, rfl⟩ := List.mem_map.1 hp
  exact price_100 h (by simpa using hk)
/-! ### One more bidder, a greater reserve -/
theorem wide_price {res : List Int} {rows : List (List Int)} {l : List Int} (h : CloOk res rows) (h2 : CloOk res (rows ++ [l])) {k : Nat} (hk : k < res.length) : priceC res rows k ≤ priceC res (rows ++ [l]) k := by
  have hf := cloF h
  have hf2 := cloF h2
  have hl : (rows ++ [l]).length = rows.length + 1 := by simp
  have hm2 := hf2.max
  have hp2 := hf2.pr k hk
  rw [hl] at hm2 hp2
  have hw : ∀ i j, i < rows.length → wv res rows i j = wv res (rows ++ [l]) i j := fun i j hi => by
    have e : rows.getD i [] = (rows ++ [l]).getD i [] := by rw [List.getD_eq_getElem?_getD, List.getD_eq_getElem?_getD, List.getElem?_append_left hi]
    unfold wv vv; rw [e]
  have := more_bidder (hf.max.congr fun i j hi _ => hw i j hi) ((hf.pr k hk).congr fun i j hi _ => by unfold dup; exact hw i _ hi) hm2 hp2
  omega
theorem dear_price {res : List Int} {rows : List (List Int)} {c : Nat} {v : Int} (h : CloOk res rows) (h2 : CloOk (res.set c v) rows) (hc : c < res.length) (hv : res.getD c 0 ≤ v) {k : Nat} (hk : k < res.length) : priceC res rows k ≤ priceC (res.set c v) rows k := by
  have hf := cloF h
  have hf2 := cloF h2
  have hl : (res.set c v).length = res.length := by simp
  have hm2 := hf2.max
  have hp2 := hf2.pr k (by omega)
  rw [hl] at hm2 hp2
  have hg : ∀ j, (res.set c v).getD j 0 = res.getD j 0 + (if j = c then v - res.getD c 0 else 0) := fun j => by
    rw [List.getD_eq_getElem?_getD, List.getElem?_set]
    by_cases e : c = j
    · subst e; rw [if_pos rfl, if_pos hc, if_pos rfl]; simp only [Option.getD_some]; omega
    · rw [if_neg e, if_neg (fun e2 => e e2.symm), List.getD_eq_getElem?_getD]; omega
  have := more_reserve (c := c) (d := v - res.getD c 0) (w' := wv (res.set c v) rows) (by omega) (fun i j => by unfold wv rv; rw [hg j]; omega) hf.max (hf.pr k hk) hm2 hp2
  have e := hg k
  unfold rv at this
  rw [e] at this
  omega
theorem clo_set {res : List Int} {rows : List (List Int)} {c : Nat} {v : Int} (h : CloOk res rows) (hv : 0 ≤ v ∧ v ≤ 100000) : ∀ x ∈ res.set c v, 0 ≤ x ∧ x ≤ 100000 := fun x hx => by
  rcases List.mem_or_eq_of_mem_set hx with h1 | h1
  · exact h.res x h1
  · rw [h1]; exact hv
theorem cloB_set {res : List Int} {vs : List ListV} {c : Nat} {v : Int} (h : cloB res vs = true) (hv : 0 ≤ v ∧ v ≤ 100000) : cloB (res.set c v) vs = true := by
  obtain ⟨hco, _, _⟩ := clo_ok h
  unfold cloB at h ⊢
  rw [Bool.and_eq_true, Bool.and_eq_true, Bool.and_eq_true] at h ⊢
  rw [List.length_set]
  refine ⟨⟨⟨h.1.1.1, List.all_eq_true.2 fun x hx => btw_t.2 (clo_set hco hv x hx)⟩, h.1.2⟩, h.2⟩
def mostV (rows : List (List Int)) (j : Nat) : List (List Int) → Int → Int
  | [], b => b
  | r :: l, b => mostV rows j l (if j < r.length then max b (r.getD j 0) else b)
end Go.Proofs.Ytehmifpofpifkaa
namespace Go.Proofs.Ytehmifpofpifkaa
open Go.Sx Go.RowKit
set_option maxRecDepth 20000

end Go.Proofs.Ytehmifpofpifkaa
namespace Go.Proofs.Ytehmifpofpifkaa
open Go.Sx Go.RowKit Am
set_option maxRecDepth 20000
set_option maxHeartbeats 2000000 in
theorem k_AuctionCloses (res : List Int) (Ar : Option Addr) (cr : Nat) (vs : List ListV) (Av : Option Addr) (cv : Nat) (to : List Int) (At : Option Addr) (ct : Nat) (w : World) (hres : Rd w 1 enInt Ar res) (hvs : Rd w 1 encLs Av vs) (hgv : ∀ r ∈ vs, GoodL w r) (hto : Rd w 1 enInt At to) : Calls Try.prog 11 #[.agg #[.slice Ar res.length cr, .slice Av vs.length cv], .slice At to.length ct] w (fun e w' => e = .returned (.bool true) ∧ Grow w w') := by
  have hlr := hres.len
  have hlv := hvs.len
  refine enter_pure (args := [.agg #[.slice Ar res.length cr, .slice Av vs.length cv], .slice At to.length ct]) [sl (fun b => b < w.heap.size) 1 enInt Ar res, sl (fun b => b < w.heap.size) 1 encLs Av vs, sl (fun b => b < w.heap.size) 1 enInt At to] Try.func11 rfl (by rw [Try.ntmps11]; simp) (fun g hg => by simp at hg; rcases hg with rfl | rfl | rfl; exact ⟨hres, fun _ h => h⟩; exact ⟨hvs, fun _ h => h⟩; exact ⟨hto, fun _ h => h⟩) ?_
  refine cj_seq (cj_region ?_)
  refine oj_box rfl rfl rfl (fun b2 => ?_)
  refine oj_step (y_assign rfl) rfl rfl rfl ?_
  refine oj_nil ?_
  refine ej_th (cj_seq ?_)
  refine cj_regionG ?_
  refine gj_step (y_loadN Try.isAgg60 Try.sizeOf60 rfl) rfl rfl rfl (gj_step (y_move rfl) rfl rfl rfl (?_))
  refine gj_step (y_call Try.call38 rfl (fun w hp => k_Worth res Ar cr vs Av cv to At ct w hp.rd hp.rd (fun r h => (hgv r h).mono hp.below) hp.rd)) rfl rfl rfl ?_
  refine gj_step (y_move rfl) rfl rfl rfl (gj_step (y_extract rfl rfl) rfl rfl rfl (gj_step (y_extract rfl rfl) rfl rfl rfl (gj_step (y_assign rfl) rfl rfl rfl (gj_step (y_assign rfl) rfl rfl rfl (?_)))))
  refine gj_nil ?_
  refine ej_th (cj_seq ?_)
  refine cj_regionG ?_
  refine gj_step (y_loadN Try.isAgg60 Try.sizeOf60 rfl) rfl rfl rfl (gj_step (y_move rfl) rfl rfl rfl (?_))
  refine gj_step (y_call Try.call39 rfl (fun w hp => k_rWorth res Ar cr vs Av cv to At ct w hp.rd hp.rd (fun r h => (hgv r h).mono hp.below) hp.rd)) rfl rfl rfl ?_
  refine gj_step (y_move rfl) rfl rfl rfl (gj_step (y_extract rfl rfl) rfl rfl rfl (gj_step (y_extract rfl rfl) rfl rfl rfl (gj_step (y_assign rfl) rfl rfl rfl (gj_step (y_assign rfl) rfl rfl rfl (?_)))))
  refine gj_nil ?_
  refine ej_th (cj_seq (cj_seq ?_))
  refine cj_draw (by kernel_rfl) (by kernel_rfl) ?_
  refine gj_step (y_move rfl) rfl rfl rfl (gj_step (y_move rfl) rfl rfl rfl (gj_step (y_neq rfl rfl) rfl rfl rfl (gj_step (y_move rfl) rfl rfl rfl (?_))))
  refine gj_g 3 30 33 rfl rfl rfl rfl (fun hg30 => gj_yes rfl rfl rfl (y_move rfl) rfl rfl (gj_yes rfl rfl rfl (y_move rfl) rfl rfl (gj_yes rfl rfl rfl (y_neq rfl rfl) rfl rfl (gj_nil rfl)))) ?_
  refine gj_step (y_or rfl rfl rfl) rfl rfl rfl (gj_step (y_move rfl) rfl rfl rfl (?_))
  refine gj_g 5 35 40 rfl rfl rfl rfl (fun hg35 => gj_yes rfl rfl rfl (y_loadN Try.isAgg60 Try.sizeOf60 rfl) rfl rfl (gj_yes rfl rfl rfl (y_call Try.call40 rfl (fun w hp => k_CheckC res Ar cr vs Av cv w hp.rd hp.rd (fun r h => (hgv r h).mono hp.below))) rfl rfl (gj_yes rfl rfl rfl (y_loadN Try.isAgg60 Try.sizeOf60 rfl) rfl rfl (gj_yes rfl rfl rfl (y_call Try.call41 rfl (fun w hp => k_rCheckC res Ar cr vs Av cv w hp.rd hp.rd (fun r h => (hgv r h).mono hp.below))) rfl rfl (gj_yes rfl rfl rfl (y_neq rfl rfl) rfl rfl (gj_nil rfl)))))) ?_
  refine gj_step (y_or rfl rfl rfl) rfl rfl rfl (?_)
  refine gj_nil ?_
  refine ej_th ?_
  refine cj_cond rfl (fun h41 => ?_) (fun h41 => ?_)
  · exact absurd h41 (by simp)
  · have h41b := h41
    try simp only [sxb] at h41
    refine cj_skip (ej_th (cj_seq (cj_region ?_)))
    refine oj_step (y_loadN Try.isAgg60 Try.sizeOf60 rfl) rfl rfl rfl ?_
    refine oj_callS (fun A c => .tuple #[.slice A (CloA res vs).2.length c, .int .i64 (cloE res vs)]) 1 enInt (CloA res vs).2 Try.call34 rfl (fun w hp => k_Prices res Ar cr vs Av cv w hp.rd hp.rd (fun r h => (hgv r h).mono hp.below)) rfl (fun A44 c44 fp44 hfp44 => ?_)
    refine oj_step (y_move rfl) rfl rfl rfl ?_
    refine oj_step (y_extract rfl rfl) rfl rfl rfl ?_
    refine oj_step (y_extract rfl rfl) rfl rfl rfl ?_
    refine oj_step (y_assign rfl) rfl rfl rfl ?_
    refine oj_step (y_assign rfl) rfl rfl rfl ?_
    refine oj_nil ?_
    refine ej_th (cj_seq (cj_region ?_))
    refine oj_step (y_loadN Try.isAgg60 Try.sizeOf60 rfl) rfl rfl rfl ?_
    refine oj_callS (fun A c => .tuple #[.slice A (CloA res vs).2.length c, .int .i64 (cloE res vs)]) 1 enInt (CloA res vs).2 Try.call42 rfl (fun w hp => k_rPrices res Ar cr vs Av cv w hp.rd hp.rd (fun r h => (hgv r h).mono hp.below)) rfl (fun A49 c49 fp49 hfp49 => ?_)
    refine oj_step (y_move rfl) rfl rfl rfl ?_
    refine oj_step (y_extract rfl rfl) rfl rfl rfl ?_
    refine oj_step (y_extract rfl rfl) rfl rfl rfl ?_
    refine oj_step (y_assign rfl) rfl rfl rfl ?_
    refine oj_step (y_assign rfl) rfl rfl rfl ?_
    refine oj_nil ?_
    refine ej_th (cj_seq (cj_region ?_))
    refine oj_step (y_loadN Try.isAgg60 Try.sizeOf60 rfl) rfl rfl rfl ?_
    refine oj_call (X := { z : Option Addr × Nat × Option Addr × Nat × Nat × Nat // ∀ i, z.2.2.2.2.1 ≤ i ∧ i < z.2.2.2.2.2 → w.heap.size ≤ i }) (fun z => .tuple #[.agg #[.slice z.1.1 (CloA res vs).1.length z.1.2.1, .slice z.1.2.2.1 (CloA res vs).2.length z.1.2.2.2.1], .int .i64 (cloE res vs)]) (fun _ => []) (fun z => [sl (fun i => z.1.2.2.2.2.1 ≤ i ∧ i < z.1.2.2.2.2.2) 1 enInt z.1.1 (CloA res vs).1, sl (fun i => z.1.2.2.2.2.1 ≤ i ∧ i < z.1.2.2.2.2.2) 1 enInt z.1.2.2.1 (CloA res vs).2]) Try.call32 rfl (fun w1 hp => (k_Close res Ar cr vs Av cv w1 hp.rd hp.rd (fun r h => (hgv r h).mono hp.below)).mono fun e w2 ⟨z, h1, h2, h3, h4, h5⟩ => ⟨⟨z, fun i hi => Nat.le_trans hp.size ((h5 _ (.head _)).2 i hi).1⟩, h1, h2, h3, h4, h5⟩) rfl ?_
    rintro ⟨⟨q1, q2, q3, q4, q5, q6⟩, hq⟩
    dsimp only [List.nil_append, List.cons_append] at hq ⊢
    refine oj_step (y_move rfl) rfl rfl rfl ?_
    refine oj_step (y_extract rfl rfl) rfl rfl rfl ?_
    refine oj_step (y_extract rfl rfl) rfl rfl rfl ?_
    refine oj_alloc Try.zeroValue62 rfl rfl (fun b11 => ?_)
    refine oj_store rfl rfl rfl rfl Try.sizeOf62 rfl ?_
    refine oj_step (y_assign rfl) rfl rfl rfl ?_
    refine oj_nil ?_
    refine ej_th (cj_seq (cj_seq ?_))
    refine cj_regionG ?_
    refine gj_step (y_move rfl) rfl rfl rfl (gj_step (y_move rfl) rfl rfl rfl (?_))
    refine gj_step (y_call Try.call28 rfl (fun w hp => k_Same (CloA res vs).2 (CloA res vs).2 A44 A49 c44 c49 w hp.rd hp.rd)) rfl rfl rfl ?_
    refine gj_step (y_not rfl) rfl rfl rfl (gj_step (y_move rfl) rfl rfl rfl (?_))
    refine gj_g 3 61 64 rfl rfl rfl rfl (fun hg61 => gj_yes rfl rfl rfl (y_move rfl) rfl rfl (gj_yes rfl rfl rfl (y_move rfl) rfl rfl (gj_yes rfl rfl rfl (y_neq rfl rfl) rfl rfl (gj_nil rfl)))) ?_
    refine gj_step (y_or rfl rfl rfl) rfl rfl rfl (gj_step (y_move rfl) rfl rfl rfl (?_))
    refine gj_g 3 66 69 rfl rfl rfl rfl (fun hg66 => gj_yes rfl rfl rfl (y_move rfl) rfl rfl (gj_yes rfl rfl rfl (y_move rfl) rfl rfl (gj_yes rfl rfl rfl (y_neq rfl rfl) rfl rfl (gj_nil rfl)))) ?_
    refine gj_step (y_or rfl rfl rfl) rfl rfl rfl (?_)
    refine gj_nil ?_
    refine ej_th ?_
    refine cj_cond rfl (fun h70 => ?_) (fun h70 => ?_)
    · exact absurd h70 (by simp)
    · have h70b := h70
      try simp only [sxb] at h70
      refine cj_skip (ej_th (cj_seq (cj_seq ?_)))
      refine cj_regionG (gj_step (y_move rfl) rfl rfl rfl (gj_step (y_neq rfl rfl) rfl rfl rfl (gj_nil ?_)))
      refine ej_th ?_
      refine cj_cond rfl (fun h72 => ?_) (fun h72 => ?_)
      · have h72b := h72
        try simp only [sxb] at h72
        obtain ⟨e1, e2⟩ := cloA_no (cloE_no h72b)
        refine cj_seq ?_
        refine cj_regionG ?_
        refine gj_step (y_fa0 fa62_0 rfl) rfl rfl rfl (gj_step (y_load1 Try.isAgg43 rfl rfl) rfl rfl rfl (gj_step (y_lenA Try.underlying43 rfl) rfl rfl rfl (gj_step (y_eql rfl rfl) rfl rfl rfl (gj_step (y_move rfl) rfl rfl rfl (?_)))))
        refine gj_g 4 77 81 rfl rfl rfl rfl (fun hg77 => gj_yes rfl rfl rfl (y_fa fa62_1 rfl) rfl rfl (gj_yes rfl rfl rfl (y_load1 Try.isAgg43 rfl rfl) rfl rfl (gj_yes rfl rfl rfl (y_lenA Try.underlying43 rfl) rfl rfl (gj_yes rfl rfl rfl (y_eql rfl rfl) rfl rfl (gj_nil rfl))))) ?_
        refine gj_step (y_and rfl rfl rfl) rfl rfl rfl (gj_step (y_move rfl) rfl rfl rfl (?_))
        refine gj_g 1 83 84 rfl rfl rfl rfl (fun hg83 => gj_yes rfl rfl rfl (y_call Try.call21 rfl (fun w hp => k_works w)) rfl rfl (gj_nil rfl)) ?_
        refine gj_step (y_and rfl rfl rfl) rfl rfl rfl (gj_step (y_assign rfl) rfl rfl rfl (?_))
        refine gj_nil ?_
        refine ej_th (cj_ret (ej_then_ret ?_))
        refine ej_ret1 rfl Try.results11 rfl (fun w' hp => ⟨?_, hp.below⟩)
        rw [e1]; rfl
      · have h72b := h72
        try simp only [sxb] at h72
        have hyes := cloE_0 h72b
        obtain ⟨e1, e2⟩ := fair_clo hyes
        refine cj_skip (ej_th (cj_seq ?_))
        refine cj_regionG ?_
        refine gj_step (y_loadN Try.isAgg60 Try.sizeOf60 rfl) rfl rfl rfl (gj_step (y_loadN Try.isAgg62 Try.sizeOf62 rfl) rfl rfl rfl (?_))
        refine gj_step (y_call Try.call43 rfl (fun w hp => k_rFair res Ar cr vs Av cv (CloA res vs).1 q1 q2 (CloA res vs).2 q3 q4 w hp.rd hp.rd (fun r h => (hgv r h).mono hp.below) hp.rd hp.rd)) rfl rfl rfl ?_
        refine gj_step (y_move rfl) rfl rfl rfl (gj_step (y_extract rfl rfl) rfl rfl rfl (gj_step (y_extract rfl rfl) rfl rfl rfl (gj_step (y_assign rfl) rfl rfl rfl (gj_step (y_assign rfl) rfl rfl rfl (?_)))))
        refine gj_nil ?_
        refine ej_th (cj_seq ?_)
        refine cj_regionG ?_
        refine gj_step (y_move rfl) rfl rfl rfl (gj_step (y_move rfl) rfl rfl rfl (?_))
        refine gj_g 2 93 95 rfl rfl rfl rfl (fun hg93 => gj_yes rfl rfl rfl (y_move rfl) rfl rfl (gj_yes rfl rfl rfl (y_eql rfl rfl) rfl rfl (gj_nil rfl))) ?_
        refine gj_step (y_and rfl rfl rfl) rfl rfl rfl (gj_step (y_move rfl) rfl rfl rfl (?_))
        refine gj_g 4 97 101 rfl rfl rfl rfl (fun hg97 => gj_yes rfl rfl rfl (y_fa fa62_1 rfl) rfl rfl (gj_yes rfl rfl rfl (y_load1 Try.isAgg43 rfl rfl) rfl rfl (gj_yes rfl rfl rfl (y_move rfl) rfl rfl (gj_yes rfl rfl rfl (y_call Try.call28 rfl (fun w hp => k_Same (CloA res vs).2 (CloA res vs).2 q3 A49 q4 c49 w hp.rd hp.rd)) rfl rfl (gj_nil rfl))))) ?_
        refine gj_step (y_and rfl rfl rfl) rfl rfl rfl (gj_step (y_move rfl) rfl rfl rfl (?_))
        refine gj_g 1 103 104 rfl rfl rfl rfl (fun hg103 => gj_yes rfl rfl rfl (y_call Try.call21 rfl (fun w hp => k_works w)) rfl rfl (gj_nil rfl)) ?_
        refine gj_step (y_and rfl rfl rfl) rfl rfl rfl (gj_step (y_assign rfl) rfl rfl rfl (?_))
        refine gj_nil ?_
        refine ej_th (cj_ret ?_)
        refine ej_ret1 rfl Try.results11 rfl (fun w' hp => ⟨?_, hp.below⟩)
        rw [e1, e2]; simp

set_option maxHeartbeats 2000000 in
theorem k_AuctionLeast (res : List Int) (Ar : Option Addr) (cr : Nat) (vs : List ListV) (Av : Option Addr) (cv : Nat) (to : List Int) (At : Option Addr) (ct : Nat) (ps : List Int) (Ap : Option Addr) (cp : Nat) (w : World) (hres : Rd w 1 enInt Ar res) (hvs : Rd w 1 encLs Av vs) (hgv : ∀ r ∈ vs, GoodL w r) (hto : Rd w 1 enInt At to) (hps : Rd w 1 enInt Ap ps) : Calls Try.prog 13 #[.agg #[.slice Ar res.length cr, .slice Av vs.length cv], .agg #[.slice At to.length ct, .slice Ap ps.length cp]] w (fun e w' => e = .returned (.bool true) ∧ Grow w w') := by
  have hlr := hres.len
  have hlv := hvs.len
  have hlt := hto.len
  have hlp := hps.len
  refine enter_pure (args := [.agg #[.slice Ar res.length cr, .slice Av vs.length cv], .agg #[.slice At to.length ct, .slice Ap ps.length cp]]) [sl (fun b => b < w.heap.size) 1 enInt Ar res, sl (fun b => b < w.heap.size) 1 encLs Av vs, sl (fun b => b < w.heap.size) 1 enInt At to, sl (fun b => b < w.heap.size) 1 enInt Ap ps] Try.func13 rfl (by rw [Try.ntmps13]; simp) (fun g hg => by simp at hg; rcases hg with rfl | rfl | rfl | rfl; exact ⟨hres, fun _ h => h⟩; exact ⟨hvs, fun _ h => h⟩; exact ⟨hto, fun _ h => h⟩; exact ⟨hps, fun _ h => h⟩) ?_
  refine cj_seq (cj_region ?_)
  refine oj_box rfl rfl rfl (fun b2 => ?_)
  refine oj_box rfl rfl rfl (fun b3 => ?_)
  refine oj_step (y_assign rfl) rfl rfl rfl ?_
  refine oj_nil ?_
  refine ej_th (cj_seq (cj_region ?_))
  refine oj_step (y_loadN Try.isAgg60 Try.sizeOf60 rfl) rfl rfl rfl ?_
  refine oj_call (X := { z : Option Addr × Nat × Option Addr × Nat × Nat × Nat // ∀ i, z.2.2.2.2.1 ≤ i ∧ i < z.2.2.2.2.2 → w.heap.size ≤ i }) (fun z => .tuple #[.agg #[.slice z.1.1 (CloA res vs).1.length z.1.2.1, .slice z.1.2.2.1 (CloA res vs).2.length z.1.2.2.2.1], .int .i64 (cloE res vs)]) (fun _ => []) (fun z => [sl (fun i => z.1.2.2.2.2.1 ≤ i ∧ i < z.1.2.2.2.2.2) 1 enInt z.1.1 (CloA res vs).1, sl (fun i => z.1.2.2.2.2.1 ≤ i ∧ i < z.1.2.2.2.2.2) 1 enInt z.1.2.2.1 (CloA res vs).2]) Try.call32 rfl (fun w1 hp => (k_Close res Ar cr vs Av cv w1 hp.rd hp.rd (fun r h => (hgv r h).mono hp.below)).mono fun e w2 ⟨z, h1, h2, h3, h4, h5⟩ => ⟨⟨z, fun i hi => Nat.le_trans hp.size ((h5 _ (.head _)).2 i hi).1⟩, h1, h2, h3, h4, h5⟩) rfl ?_
  rintro ⟨⟨q1, q2, q3, q4, q5, q6⟩, hq⟩
  dsimp only [List.nil_append, List.cons_append] at hq ⊢
  refine oj_step (y_move rfl) rfl rfl rfl ?_
  refine oj_step (y_extract rfl rfl) rfl rfl rfl ?_
  refine oj_step (y_extract rfl rfl) rfl rfl rfl ?_
  refine oj_alloc Try.zeroValue62 rfl rfl (fun b5 => ?_)
  refine oj_store rfl rfl rfl rfl Try.sizeOf62 rfl ?_
  refine oj_step (y_assign rfl) rfl rfl rfl ?_
  refine oj_nil ?_
  refine ej_th (cj_seq (cj_seq ?_))
  refine cj_regionG (gj_step (y_move rfl) rfl rfl rfl (gj_step (y_neq rfl rfl) rfl rfl rfl (gj_nil ?_)))
  refine ej_th ?_
  refine cj_cond rfl (fun h20 => ?_) (fun h20 => ?_)
  · have h20b := h20
    try simp only [sxb] at h20
    obtain ⟨e1, e2⟩ := cloA_no (cloE_no h20b)
    refine cj_seq ?_
    refine cj_regionG ?_
    refine gj_step (y_fa0 fa62_0 rfl) rfl rfl rfl (gj_step (y_load1 Try.isAgg43 rfl rfl) rfl rfl rfl (gj_step (y_lenA Try.underlying43 rfl) rfl rfl rfl (gj_step (y_eql rfl rfl) rfl rfl rfl (gj_step (y_move rfl) rfl rfl rfl (?_)))))
    refine gj_g 4 25 29 rfl rfl rfl rfl (fun hg25 => gj_yes rfl rfl rfl (y_fa fa62_1 rfl) rfl rfl (gj_yes rfl rfl rfl (y_load1 Try.isAgg43 rfl rfl) rfl rfl (gj_yes rfl rfl rfl (y_lenA Try.underlying43 rfl) rfl rfl (gj_yes rfl rfl rfl (y_eql rfl rfl) rfl rfl (gj_nil rfl))))) ?_
    refine gj_step (y_and rfl rfl rfl) rfl rfl rfl (gj_step (y_move rfl) rfl rfl rfl (?_))
    refine gj_g 1 31 32 rfl rfl rfl rfl (fun hg31 => gj_yes rfl rfl rfl (y_call Try.call21 rfl (fun w hp => k_works w)) rfl rfl (gj_nil rfl)) ?_
    refine gj_step (y_and rfl rfl rfl) rfl rfl rfl (gj_step (y_assign rfl) rfl rfl rfl (?_))
    refine gj_nil ?_
    refine ej_th (cj_ret (ej_then_ret ?_))
    refine ej_ret1 rfl Try.results13 rfl (fun w' hp => ⟨?_, hp.below⟩)
    rw [e1]; rfl
  · have h20b := h20
    try simp only [sxb] at h20
    have hyes := cloE_0 h20b
    obtain ⟨e1, e2⟩ := fair_clo hyes
    have e3 := worE_clo hyes
    have hcl : (CloA res vs).2.length = res.length := by rw [(cloA_yes hyes).1]; exact prices_len ..
    refine cj_skip (ej_th (cj_seq ?_))
    refine cj_regionG ?_
    refine gj_step (y_loadN Try.isAgg60 Try.sizeOf60 rfl) rfl rfl rfl (gj_step (y_loadN Try.isAgg62 Try.sizeOf62 rfl) rfl rfl rfl (?_))
    refine gj_step (y_call Try.call44 rfl (fun w hp => k_Fair res Ar cr vs Av cv (CloA res vs).1 q1 q2 (CloA res vs).2 q3 q4 w hp.rd hp.rd (fun r h => (hgv r h).mono hp.below) hp.rd hp.rd)) rfl rfl rfl ?_
    refine gj_step (y_move rfl) rfl rfl rfl (gj_step (y_extract rfl rfl) rfl rfl rfl (gj_step (y_extract rfl rfl) rfl rfl rfl (gj_step (y_assign rfl) rfl rfl rfl (gj_step (y_assign rfl) rfl rfl rfl (?_)))))
    refine gj_nil ?_
    refine ej_th (cj_seq ?_)
    refine cj_regionG ?_
    refine gj_step (y_loadN Try.isAgg60 Try.sizeOf60 rfl) rfl rfl rfl (gj_step (y_fa0 fa62_0 rfl) rfl rfl rfl (gj_step (y_load1 Try.isAgg43 rfl rfl) rfl rfl rfl (?_)))
    refine gj_step (y_call Try.call38 rfl (fun w hp => k_Worth res Ar cr vs Av cv (CloA res vs).1 q1 q2 w hp.rd hp.rd (fun r h => (hgv r h).mono hp.below) hp.rd)) rfl rfl rfl ?_
    refine gj_step (y_move rfl) rfl rfl rfl (gj_step (y_extract rfl rfl) rfl rfl rfl (gj_step (y_extract rfl rfl) rfl rfl rfl (gj_step (y_assign rfl) rfl rfl rfl (gj_step (y_assign rfl) rfl rfl rfl (?_)))))
    refine gj_nil ?_
    refine ej_th (cj_seq (cj_seq ?_))
    refine cj_regionG (gj_step (y_move rfl) rfl rfl rfl (gj_step (y_not rfl) rfl rfl rfl (gj_step (y_move rfl) rfl rfl rfl (gj_g 2 49 51 rfl rfl rfl rfl (fun hg49 => gj_yes rfl rfl rfl (y_move rfl) rfl rfl (gj_yes rfl rfl rfl (y_neq rfl rfl) rfl rfl (gj_nil rfl))) (gj_step (y_or rfl rfl rfl) rfl rfl rfl (gj_step (y_move rfl) rfl rfl rfl (gj_g 2 53 55 rfl rfl rfl rfl (fun hg53 => gj_yes rfl rfl rfl (y_move rfl) rfl rfl (gj_yes rfl rfl rfl (y_neq rfl rfl) rfl rfl (gj_nil rfl))) (gj_step (y_or rfl rfl rfl) rfl rfl rfl (gj_nil ?_)))))))))
    refine ej_th ?_
    refine cj_cond rfl (fun h56 => ?_) (fun h56 => ?_)
    · exact absurd h56 (by rw [e1, e2, e3]; simp)
    · have h56b := h56
      try simp only [sxb] at h56
      refine cj_skip (ej_th (cj_seq (cj_seq ?_)))
      refine cj_regionG ?_
      refine gj_step (y_loadN Try.isAgg60 Try.sizeOf60 rfl) rfl rfl rfl (gj_step (y_fa0 fa62_0 rfl) rfl rfl rfl (gj_step (y_load1 Try.isAgg43 rfl rfl) rfl rfl rfl (?_)))
      refine gj_step (y_call Try.call38 rfl (fun w hp => k_Worth res Ar cr vs Av cv to At ct w hp.rd hp.rd (fun r h => (hgv r h).mono hp.below) hp.rd)) rfl rfl rfl ?_
      refine gj_step (y_move rfl) rfl rfl rfl (gj_step (y_extract rfl rfl) rfl rfl rfl (gj_step (y_extract rfl rfl) rfl rfl rfl (gj_step (y_assign rfl) rfl rfl rfl (gj_step (y_assign rfl) rfl rfl rfl (?_)))))
      refine gj_nil ?_
      refine ej_th (cj_seq ?_)
      refine cj_regionG (gj_step (y_move rfl) rfl rfl rfl (gj_step (y_eql rfl rfl) rfl rfl rfl (gj_step (y_move rfl) rfl rfl rfl (gj_g 3 66 69 rfl rfl rfl rfl (fun hg66 => gj_yes rfl rfl rfl (y_move rfl) rfl rfl (gj_yes rfl rfl rfl (y_move rfl) rfl rfl (gj_yes rfl rfl rfl (y_gtr rfl rfl) rfl rfl (gj_nil rfl)))) (gj_step (y_and rfl rfl rfl) rfl rfl rfl (gj_nil ?_))))))
      refine ej_th ?_
      refine cj_cond rfl (fun h70 => ?_) (fun h70 => ?_)
      · simp at h70
        have := most_worth hyes h70.1
        omega
      · have h70b := h70
        try simp only [sxb] at h70
        refine cj_skip (ej_th (cj_seq ?_))
        refine cj_regionG ?_
        refine gj_step (y_loadN Try.isAgg60 Try.sizeOf60 rfl) rfl rfl rfl (gj_step (y_loadN Try.isAgg62 Try.sizeOf62 rfl) rfl rfl rfl (?_))
        refine gj_step (y_call Try.call44 rfl (fun w hp => k_Fair res Ar cr vs Av cv to At ct ps Ap cp w hp.rd hp.rd (fun r h => (hgv r h).mono hp.below) hp.rd hp.rd)) rfl rfl rfl ?_
        refine gj_step (y_move rfl) rfl rfl rfl (gj_step (y_extract rfl rfl) rfl rfl rfl (gj_step (y_extract rfl rfl) rfl rfl rfl (gj_step (y_assign rfl) rfl rfl rfl (gj_step (y_assign rfl) rfl rfl rfl (?_)))))
        refine gj_nil ?_
        refine ej_th (cj_seq (cj_seq ?_))
        refine cj_regionG (gj_step (y_move rfl) rfl rfl rfl (gj_step (y_neq rfl rfl) rfl rfl rfl (gj_step (y_move rfl) rfl rfl rfl (gj_g 2 79 81 rfl rfl rfl rfl (fun hg79 => gj_yes rfl rfl rfl (y_move rfl) rfl rfl (gj_yes rfl rfl rfl (y_not rfl) rfl rfl (gj_nil rfl))) (gj_step (y_or rfl rfl rfl) rfl rfl rfl (gj_nil ?_))))))
        refine ej_th ?_
        refine cj_cond rfl (fun h82 => ?_) (fun h82 => ?_)
        · have h82b := h82
          try simp only [sxb] at h82
          have h9 := fairE_ne (to := to) (ps := ps) hyes
          refine cj_seq ?_
          refine cj_regionG ?_
          refine gj_step (y_move rfl) rfl rfl rfl (gj_step (y_eql rfl rfl) rfl rfl rfl (gj_step (y_move rfl) rfl rfl rfl (?_)))
          refine gj_g 2 85 87 rfl rfl rfl rfl (fun hg85 => gj_yes rfl rfl rfl (y_move rfl) rfl rfl (gj_yes rfl rfl rfl (y_eql rfl rfl) rfl rfl (gj_nil rfl))) ?_
          refine gj_step (y_or rfl rfl rfl) rfl rfl rfl (gj_step (y_move rfl) rfl rfl rfl (?_))
          refine gj_g 1 89 90 rfl rfl rfl rfl (fun hg89 => gj_yes rfl rfl rfl (y_call Try.call21 rfl (fun w hp => k_works w)) rfl rfl (gj_nil rfl)) ?_
          refine gj_step (y_and rfl rfl rfl) rfl rfl rfl (gj_step (y_assign rfl) rfl rfl rfl (?_))
          refine gj_nil ?_
          refine ej_th (cj_ret (ej_then_ret ?_))
          refine ej_ret1 rfl Try.results13 rfl (fun w' hp => ⟨?_, hp.below⟩)
          rcases h9 with h | h <;> rw [h] <;> rfl
        · have h82b := h82
          try simp only [sxb] at h82
          have hft : FairV res vs to ps = true := by simp at h82b; exact h82b.2
          obtain ⟨hpl, _⟩ := fair_true hft
          refine cj_skip (ej_th (cj_seq (cj_seq ?_)))
          refine cj_regionG (gj_step (y_assign rfl) rfl rfl rfl (gj_nil ?_))
          refine ej_th (cj_block ?_)
          refine cj_get (fun w1 hp => (show Rd w1 1 enInt q3 (CloA res vs).2 from hp.rd).len) (fun hlc => ?_)
          refine cj_lpic (X := Nat) [(3, _), (5, _)] (fun k => k ≤ (CloA res vs).2.length ∧ True) (fun k => [(13, .int .i64 k)]) (fun k => (CloA res vs).2.length - k) 0 (⟨Nat.zero_le _, trivial⟩) ⟨rfl, rfl, rfl, trivial⟩ ?_
          rintro k ⟨hk, hsk⟩
          dsimp only [List.cons_append, List.nil_append]
          refine cj_seq (cj_seq ?_)
          refine cj_regionG (gj_step (y_move rfl) rfl rfl rfl (gj_step (y_fa fa62_1 rfl) rfl rfl rfl (gj_step (y_load1 Try.isAgg43 rfl rfl) rfl rfl rfl (gj_step (y_lenA Try.underlying43 rfl) rfl rfl rfl (gj_step (y_lss rfl rfl) rfl rfl rfl (gj_nil ?_))))))
          refine ej_th ?_
          refine cj_cond rfl (fun h96 => ?_) (fun h96 => ?_)
          · have h96b := h96
            try simp only [sxb] at h96
            have hk5 : k < res.length := by omega
            have hx : (CloA res vs).2[k]? = some (priceC res (rowsV vs) k) := by rw [← prices_get res (rowsV vs) hk5, (cloA_yes hyes).1]; exact gD (by rw [prices_len]; exact hk5)
            have hle := least_price hyes hft hk5
            refine cj_skip (ej_th (cj_seq (cj_block (cj_seq ?_))))
            refine cj_draw (by kernel_rfl) (by kernel_rfl) (gj_step (y_move rfl) rfl rfl rfl (gj_step (y_fa fa62_1 rfl) rfl rfl rfl (gj_step (y_load1 Try.isAgg43 rfl rfl) rfl rfl rfl (gj_step (y_lenA Try.underlying43 rfl) rfl rfl rfl (gj_step (y_geq rfl rfl) rfl rfl rfl (gj_step (y_move rfl) rfl rfl rfl (gj_g 11 104 115 rfl rfl rfl rfl (fun hg104 => gj_yes rfl rfl rfl (y_fa fa62_1 rfl) rfl rfl (gj_yes rfl rfl rfl (y_load1 Try.isAgg43 rfl rfl) rfl rfl (gj_yes rfl rfl rfl (y_move rfl) rfl rfl (gj_yes rfl rfl rfl (y_ixR (reads_sl) Try.underlying43 Try.sizeOf3 rfl rfl (⟨by omega, by omega⟩)) rfl rfl (gj_yes rfl rfl rfl (y_ld0 (reads_sl) Try.isAgg3 rfl (hx) rfl) rfl rfl (gj_yes rfl rfl rfl (y_fa fa62_1 rfl) rfl rfl (gj_yes rfl rfl rfl (y_load1 Try.isAgg43 rfl rfl) rfl rfl (gj_yes rfl rfl rfl (y_move rfl) rfl rfl (gj_yes rfl rfl rfl (y_ixR (reads_sl) Try.underlying43 Try.sizeOf3 rfl rfl (⟨by omega, by have := hg104; omega⟩)) rfl rfl (gj_yes rfl rfl rfl (y_ld0 (reads_sl) Try.isAgg3 rfl (geq (0 : Int) (by have := hg104; omega)) rfl) rfl rfl (gj_yes rfl rfl rfl (y_gtr rfl rfl) rfl rfl (gj_nil rfl)))))))))))) (gj_step (y_or rfl rfl rfl) rfl rfl rfl (gj_nil ?_)))))))))
            refine ej_th ?_
            refine cj_cond rfl (fun h116 => ?_) (fun h116 => ?_)
            · simp at h116
              have h8 := h116.resolve_left (by omega)
              rw [List.getD_eq_getElem?_getD] at hle
              omega
            · have h116b := h116
              try simp only [sxb] at h116
              refine cj_skip (ej_blk (ej_th ?_))
              refine cj_regionG (gj_step (y_move rfl) rfl rfl rfl (gj_step (y_add rfl rfl (by omega)) rfl rfl rfl (gj_step (y_assign rfl) rfl rfl rfl (gj_nil ?_))))
              exact ej_nx (k + 1) (by omega) ⟨by omega, trivial⟩ ⟨rfl, rfl, rfl, trivial⟩
          · have h96b := h96
            try simp only [sxb] at h96
            refine cj_exit (ej_then_exit (ej_then_exit (ej_blk_hit (ej_th (cj_seq ?_)))))
            refine cj_regionG ?_
            refine gj_step (y_call Try.call21 rfl (fun w hp => k_works w)) rfl rfl rfl ?_
            refine gj_step (y_assign rfl) rfl rfl rfl (?_)
            refine gj_nil ?_
            refine ej_th (cj_ret ?_)
            refine ej_ret1 rfl Try.results13 rfl (fun w' hp => ⟨?_, hp.below⟩)
            rfl

end Go.Proofs.Ytehmifpofpifkaa
namespace Go.Proofs.Ytehmifpofpifkaa
open Go.Sx Go.RowKit
set_option maxRecDepth 20000

end Go.Proofs.Ytehmifpofpifkaa
namespace Go.Proofs.Ytehmifpofpifkaa
open Go.Sx Go.RowKit Am
set_option maxRecDepth 20000
theorem k_gain (vals : List Int) (Aw : Option Addr) (cw : Nat) (to : List Int) (At : Option Addr) (ct : Nat) (ps : List Int) (Ap : Option Addr) (cp : Nat) (i : Nat) (w : World) (hvl : Rd w 1 enInt Aw vals) (hto : Rd w 1 enInt At to) (hps : Rd w 1 enInt Ap ps) (hvb : ∀ v ∈ vals, 0 ≤ v ∧ v ≤ 100000) (hpb : ∀ p ∈ ps, 0 ≤ p ∧ p ≤ 100000) : Calls Try.prog 33 #[.slice Aw vals.length cw, .agg #[.slice At to.length ct, .slice Ap ps.length cp], .int .i64 (i : Nat)] w (fun e w' => e = .returned (.tuple #[.int .i64 (gainE vals to ps i).1, .bool (gainE vals to ps i).2]) ∧ Grow w w') := by
  have hlw := hvl.len
  have hlt := hto.len
  have hlp := hps.len
  refine enter_pure (args := [.slice Aw vals.length cw, .agg #[.slice At to.length ct, .slice Ap ps.length cp], .int .i64 (i : Nat)]) [sl (fun b => b < w.heap.size) 1 enInt Aw vals, sl (fun b => b < w.heap.size) 1 enInt At to, sl (fun b => b < w.heap.size) 1 enInt Ap ps] Try.func33 rfl (by rw [Try.ntmps33]; simp) (fun g hg => by simp at hg; rcases hg with rfl | rfl | rfl; exact ⟨hvl, fun _ h => h⟩; exact ⟨hto, fun _ h => h⟩; exact ⟨hps, fun _ h => h⟩) ?_
  refine cj_seq (cj_region ?_)
  refine oj_box rfl rfl rfl (fun b4 => ?_)
  refine oj_step (y_assign rfl) rfl rfl rfl ?_
  refine oj_step (y_assign rfl) rfl rfl rfl ?_
  refine oj_nil ?_
  refine ej_th (cj_seq (cj_seq ?_))
  refine cj_regionG (gj_step (y_move rfl) rfl rfl rfl (gj_step (y_fa0 fa62_0 rfl) rfl rfl rfl (gj_step (y_load1 Try.isAgg43 rfl rfl) rfl rfl rfl (gj_step (y_lenA Try.underlying43 rfl) rfl rfl rfl (gj_step (y_geq rfl rfl) rfl rfl rfl (gj_step (y_move rfl) rfl rfl rfl (gj_g 6 14 20 rfl rfl rfl rfl (fun hg14 => gj_yes rfl rfl rfl (y_fa0 fa62_0 rfl) rfl rfl (gj_yes rfl rfl rfl (y_load1 Try.isAgg43 rfl rfl) rfl rfl (gj_yes rfl rfl rfl (y_move rfl) rfl rfl (gj_yes rfl rfl rfl (y_ixR (reads_sl) Try.underlying43 Try.sizeOf3 rfl rfl (⟨by have := hg14; omega, by have := hg14; simp only [sxb] at this; omega⟩)) rfl rfl (gj_yes rfl rfl rfl (y_ld0 (reads_sl) Try.isAgg3 rfl ((show to[((i : Nat) : Int).toNat]? = some (to.getD i 0) from gD (by have := hg14; simp only [sxb] at this; omega))) rfl) rfl rfl (gj_yes rfl rfl rfl (y_eql rfl rfl) rfl rfl (gj_nil rfl))))))) (gj_step (y_or rfl rfl rfl) rfl rfl rfl (gj_nil ?_)))))))))
  refine ej_th ?_
  refine cj_cond rfl (fun h21 => ?_) (fun h21 => ?_)
  · have h21b := h21
    try simp only [sxb] at h21
    have h9 : (decide ((to.length : Int) ≤ (i : Int)) || (to.getD i 0 == -1)) = true := h21b
    rw [Bool.or_eq_true, decide_eq_true_iff, beq_iff_eq] at h9
    refine cj_seq ?_
    refine cj_draw (by kernel_rfl) (by kernel_rfl) (gj_step (y_move rfl) rfl rfl rfl (gj_step (y_fa0 fa62_0 rfl) rfl rfl rfl (gj_step (y_load1 Try.isAgg43 rfl rfl) rfl rfl rfl (gj_step (y_lenA Try.underlying43 rfl) rfl rfl rfl (gj_step (y_lss rfl rfl) rfl rfl rfl (gj_step (y_assign rfl) rfl rfl rfl (gj_step (y_assign rfl) rfl rfl rfl (gj_nil ?_))))))))
    refine ej_th (cj_ret (ej_then_ret ?_))
    refine ej_ret2 rfl Try.results33 rfl rfl (fun w' hp => ⟨?_, hp.below⟩)
    unfold gainE
    by_cases hl : to.length ≤ i
    · rw [if_pos hl, decide_eq_false (by omega)]
    · rw [if_neg hl, if_pos (by rcases h9 with h | h; omega; exact h), decide_eq_true (by omega)]
  · have h21b := h21
    try simp only [sxb] at h21
    have h9 : (decide ((to.length : Int) ≤ (i : Int)) || (to.getD i 0 == -1)) = false := h21b
    rw [Bool.or_eq_false_iff, decide_eq_false_iff_not, beq_eq_false_iff_ne] at h9
    obtain ⟨h9, h8⟩ := h9
    have e0 : gainE vals to ps i = if (!(btw 0 (to.getD i 0) ((ps.length : Int) - 1)) || decide ((vals.length : Int) ≤ to.getD i 0)) = true then (0, false) else (vals.getD (to.getD i 0).toNat 0 - ps.getD (to.getD i 0).toNat 0, true) := by
      unfold gainE
      rw [if_neg (by omega), if_neg h8]
    refine cj_skip (ej_th (cj_seq ?_))
    refine cj_regionG (gj_step (y_fa0 fa62_0 rfl) rfl rfl rfl (gj_step (y_load1 Try.isAgg43 rfl rfl) rfl rfl rfl (gj_step (y_move rfl) rfl rfl rfl (gj_step (y_ixR (reads_sl) Try.underlying43 Try.sizeOf3 rfl rfl (⟨by omega, by omega⟩)) rfl rfl rfl (gj_step (y_ld0 (reads_sl) Try.isAgg3 rfl ((show to[((i : Nat) : Int).toNat]? = some (to.getD i 0) from gD (by omega))) rfl) rfl rfl rfl (gj_step (y_assign rfl) rfl rfl rfl (gj_nil ?_)))))))
    refine ej_th (cj_seq (cj_seq ?_))
    refine cj_regionG ?_
    refine gj_step (y_move rfl) rfl rfl rfl (gj_step (y_fa fa62_1 rfl) rfl rfl rfl (gj_step (y_load1 Try.isAgg43 rfl rfl) rfl rfl rfl (gj_step (y_lenA Try.underlying43 rfl) rfl rfl rfl (gj_step (y_sub rfl rfl (by omega)) rfl rfl rfl (?_)))))
    refine gj_step (y_call Try.call35 rfl (fun w hp => k_From 0 (to.getD i 0) ((ps.length : Int) - 1) w)) rfl rfl rfl ?_
    refine gj_step (y_not rfl) rfl rfl rfl (gj_step (y_move rfl) rfl rfl rfl (?_))
    refine gj_g 4 39 43 rfl rfl rfl rfl (fun hg39 => gj_yes rfl rfl rfl (y_move rfl) rfl rfl (gj_yes rfl rfl rfl (y_move rfl) rfl rfl (gj_yes rfl rfl rfl (y_lenA Try.underlying43 rfl) rfl rfl (gj_yes rfl rfl rfl (y_geq rfl rfl) rfl rfl (gj_nil rfl))))) ?_
    refine gj_step (y_or rfl rfl rfl) rfl rfl rfl (?_)
    refine gj_nil ?_
    refine ej_th ?_
    refine cj_cond rfl (fun h44 => ?_) (fun h44 => ?_)
    · have h44b := h44
      try simp only [sxb] at h44
      have h7 : (!(btw 0 (to.getD i 0) ((ps.length : Int) - 1)) || decide ((vals.length : Int) ≤ to.getD i 0)) = true := h44b
      rw [if_pos h7] at e0
      refine cj_seq ?_
      refine cj_regionG (gj_step (y_assign rfl) rfl rfl rfl (gj_step (y_assign rfl) rfl rfl rfl (gj_nil ?_)))
      refine ej_th (cj_ret (ej_then_ret ?_))
      refine ej_ret2 rfl Try.results33 rfl rfl (fun w' hp => ⟨?_, hp.below⟩)
      rw [e0]
    · have h44b := h44
      try simp only [sxb] at h44
      have h7 : (!(btw 0 (to.getD i 0) ((ps.length : Int) - 1)) || decide ((vals.length : Int) ≤ to.getD i 0)) = false := h44b
      rw [if_neg (by rw [h7]; simp)] at e0
      rw [Bool.or_eq_false_iff, decide_eq_false_iff_not] at h7
      have hxb := btw_t.1 (not_f h7.1)
      have hv2 := hvb _ (getD_mem (l := vals) (d := 0) (by omega : (to.getD i 0).toNat < vals.length))
      have hp2 := hpb _ (getD_mem (l := ps) (d := 0) (by omega : (to.getD i 0).toNat < ps.length))
      refine cj_skip (ej_th (cj_seq ?_))
      refine cj_draw (by kernel_rfl) (by kernel_rfl) (gj_step (y_move rfl) rfl rfl rfl (gj_step (y_move rfl) rfl rfl rfl (gj_step (y_ixR (reads_sl) Try.underlying43 Try.sizeOf3 rfl rfl (⟨by omega, by omega⟩)) rfl rfl rfl (gj_step (y_ld0 (reads_sl) Try.isAgg3 rfl (gD (by omega)) rfl) rfl rfl rfl (gj_step (y_fa fa62_1 rfl) rfl rfl rfl (gj_step (y_load1 Try.isAgg43 rfl rfl) rfl rfl rfl (gj_step (y_move rfl) rfl rfl rfl (gj_step (y_ixR (reads_sl) Try.underlying43 Try.sizeOf3 rfl rfl (⟨by omega, by omega⟩)) rfl rfl rfl (gj_step (y_ld0 (reads_sl) Try.isAgg3 rfl (gD (by omega)) rfl) rfl rfl rfl (gj_step (y_sub rfl rfl (by omega)) rfl rfl rfl (gj_step (y_assign rfl) rfl rfl rfl (gj_step (y_assign rfl) rfl rfl rfl (gj_nil ?_)))))))))))))
      refine ej_th (cj_ret ?_)
      refine ej_ret2 rfl Try.results33 rfl rfl (fun w' hp => ⟨?_, hp.below⟩)
      rw [e0]

set_option maxHeartbeats 4000000 in
theorem k_AuctionTruth (res : List Int) (Ar : Option Addr) (cr : Nat) (vs : List ListV) (Av : Option Addr) (cv : Nat) (n : Int) (to : List Int) (At : Option Addr) (ct : Nat) (w : World) (hres : Rd w 1 enInt Ar res) (hvs : Rd w 1 encLs Av vs) (hgv : ∀ r ∈ vs, GoodL w r) (hto : Rd w 1 enInt At to) : Calls Try.prog 8 #[.agg #[.slice Ar res.length cr, .slice Av vs.length cv], .int .i64 n, .slice At to.length ct] w (fun e w' => e = .returned (.bool true) ∧ Grow w w') := by
  have hlr := hres.len
  have hlv := hvs.len
  refine enter_pure (args := [.agg #[.slice Ar res.length cr, .slice Av vs.length cv], .int .i64 n, .slice At to.length ct]) [sl (fun b => b < w.heap.size) 1 enInt Ar res, sl (fun b => b < w.heap.size) 1 encLs Av vs, sl (fun b => b < w.heap.size) 1 enInt At to] Try.func8 rfl (by rw [Try.ntmps8]; simp) (fun g hg => by simp at hg; rcases hg with rfl | rfl | rfl; exact ⟨hres, fun _ h => h⟩; exact ⟨hvs, fun _ h => h⟩; exact ⟨hto, fun _ h => h⟩) ?_
  refine cj_seq (cj_region ?_)
  refine oj_box rfl rfl rfl (fun b3 => ?_)
  refine oj_step (y_assign rfl) rfl rfl rfl ?_
  refine oj_nil ?_
  refine ej_th (cj_seq (cj_region ?_))
  refine oj_step (y_loadN Try.isAgg60 Try.sizeOf60 rfl) rfl rfl rfl ?_
  refine oj_call (X := { z : Option Addr × Nat × Option Addr × Nat × Nat × Nat // ∀ i, z.2.2.2.2.1 ≤ i ∧ i < z.2.2.2.2.2 → w.heap.size ≤ i }) (fun z => .tuple #[.agg #[.slice z.1.1 (CloA res vs).1.length z.1.2.1, .slice z.1.2.2.1 (CloA res vs).2.length z.1.2.2.2.1], .int .i64 (cloE res vs)]) (fun _ => []) (fun z => [sl (fun i => z.1.2.2.2.2.1 ≤ i ∧ i < z.1.2.2.2.2.2) 1 enInt z.1.1 (CloA res vs).1, sl (fun i => z.1.2.2.2.2.1 ≤ i ∧ i < z.1.2.2.2.2.2) 1 enInt z.1.2.2.1 (CloA res vs).2]) Try.call32 rfl (fun w1 hp => (k_Close res Ar cr vs Av cv w1 hp.rd hp.rd (fun r h => (hgv r h).mono hp.below)).mono fun e w2 ⟨z, h1, h2, h3, h4, h5⟩ => ⟨⟨z, fun i hi => Nat.le_trans hp.size ((h5 _ (.head _)).2 i hi).1⟩, h1, h2, h3, h4, h5⟩) rfl ?_
  rintro ⟨⟨q1, q2, q3, q4, q5, q6⟩, hq⟩
  dsimp only [List.nil_append, List.cons_append] at hq ⊢
  refine oj_step (y_move rfl) rfl rfl rfl ?_
  refine oj_step (y_extract rfl rfl) rfl rfl rfl ?_
  refine oj_step (y_extract rfl rfl) rfl rfl rfl ?_
  refine oj_alloc Try.zeroValue62 rfl rfl (fun b7 => ?_)
  refine oj_store rfl rfl rfl rfl Try.sizeOf62 rfl ?_
  refine oj_step (y_assign rfl) rfl rfl rfl ?_
  refine oj_nil ?_
  refine ej_th (cj_seq (cj_seq ?_))
  refine cj_regionG (gj_step (y_move rfl) rfl rfl rfl (gj_step (y_neq rfl rfl) rfl rfl rfl (gj_step (y_move rfl) rfl rfl rfl (gj_g 4 22 26 rfl rfl rfl rfl (fun hg22 => gj_yes rfl rfl rfl (y_fa fa60_1 rfl) rfl rfl (gj_yes rfl rfl rfl (y_load1 Try.isAgg58 rfl rfl) rfl rfl (gj_yes rfl rfl rfl (y_lenA Try.underlying58 rfl) rfl rfl (gj_yes rfl rfl rfl (y_eql rfl rfl) rfl rfl (gj_nil rfl))))) (gj_step (y_or rfl rfl rfl) rfl rfl rfl (gj_nil ?_))))))
  refine ej_th ?_
  refine cj_cond rfl (fun h27 => ?_) (fun h27 => ?_)
  · have h27b := h27
    try simp only [sxb] at h27
    have hno : cloE res vs = 62 := by
      rcases cloE_or res vs with h | h
      · exfalso
        obtain ⟨hco, _, hn⟩ := clo_ok (cloE_iff.1 h)
        simp at h27b
        rcases h27b with h1 | h1
        · exact h1 h
        · rw [h1] at hn; simp at hn
      · exact h
    refine cj_seq ?_
    refine cj_regionG ?_
    refine gj_step (y_move rfl) rfl rfl rfl (gj_step (y_eql rfl rfl) rfl rfl rfl (gj_step (y_move rfl) rfl rfl rfl (?_)))
    refine gj_g 1 30 31 rfl rfl rfl rfl (fun hg30 => gj_yes rfl rfl rfl (y_call Try.call21 rfl (fun w hp => k_works w)) rfl rfl (gj_nil rfl)) ?_
    refine gj_step (y_and rfl rfl rfl) rfl rfl rfl (gj_step (y_assign rfl) rfl rfl rfl (?_))
    refine gj_nil ?_
    refine ej_th (cj_ret (ej_then_ret ?_))
    refine ej_ret1 rfl Try.results8 rfl (fun w' hp => ⟨?_, hp.below⟩)
    rw [hno]; rfl
  · have h27b := h27
    try simp only [sxb] at h27
    have hyes : cloB res vs = true := by simp at h27b; exact cloE_iff.1 h27b.1
    obtain ⟨hco, h5, hn⟩ := clo_ok hyes
    have hrb := ringI_bd n vs.length (by omega)
    obtain ⟨ea, _⟩ := cloA_yes hyes
    refine cj_skip (ej_th (cj_seq ?_))
    refine cj_regionG ?_
    refine gj_step (y_move rfl) rfl rfl rfl (gj_step (y_fa fa60_1 rfl) rfl rfl rfl (gj_step (y_load1 Try.isAgg58 rfl rfl) rfl rfl rfl (gj_step (y_lenA Try.underlying58 rfl) rfl rfl rfl (?_))))
    refine gj_step (y_call Try.call31 rfl (fun w hp => k_Ring n vs.length w (by omega))) rfl rfl rfl ?_
    refine gj_step (y_assign rfl) rfl rfl rfl (?_)
    refine gj_nil ?_
    refine ej_th (cj_seq ?_)
    obtain ⟨i, hiR⟩ : ∃ i : Nat, ringI n vs.length = (i : Int) := ⟨(ringI n vs.length).toNat, by omega⟩
    rw [hiR] at hrb ⊢
    obtain ⟨r, hr⟩ : ∃ r, vs[i]? = some r := ⟨_, List.getElem?_eq_getElem (by omega)⟩
    have hgr := hgv r (List.mem_of_getElem? hr)
    have hrl := hgr.len
    have hrg := rowsV_get hr
    have hrm : r.l.length = res.length := hco.len _ (List.mem_of_getElem? hrg)
    have hf := cloF hco
    have hirw : i < (rowsV vs).length := by rw [rowsV_len]; omega
    refine cj_rd hgr (fun _ h => h) ?_
    have hvb : ∀ v ∈ r.l, 0 ≤ v ∧ v ≤ 100000 := hco.val _ (List.mem_of_getElem? hrg)
    have hpb : ∀ p ∈ (CloA res vs).2, 0 ≤ p ∧ p ≤ 100000 := by rw [ea]; exact prices_bd hco
    have eg : gainE r.l (CloA res vs).1 (CloA res vs).2 i = (gainF (rowsV vs) (pricesL res (rowsV vs)) i ((bestF res (rowsV vs)).1.getD i 0), true) := by rw [ea]; exact gainE_ok hrg hrm (prices_len ..) hf.ok (by rw [hf.len]; exact hirw)
    have hnn := gain_nn hco hirw
    refine cj_draw (by kernel_rfl) (by kernel_rfl) ?_
    refine gj_step (y_fa fa60_1 rfl) rfl rfl rfl (gj_step (y_load1 Try.isAgg58 rfl rfl) rfl rfl rfl (gj_step (y_move rfl) rfl rfl rfl (gj_step (y_ixR (reads_sl) Try.underlying58 Try.sizeOf43 rfl rfl (⟨by omega, by omega⟩)) rfl rfl rfl (gj_step (y_ld0 (reads_sl) Try.isAgg43 rfl (hr) rfl) rfl rfl rfl (gj_step (y_loadN Try.isAgg62 Try.sizeOf62 rfl) rfl rfl rfl (gj_step (y_move rfl) rfl rfl rfl (?_)))))))
    refine gj_step (y_call Try.call33 rfl (fun w hp => k_gain r.l r.A r.c (CloA res vs).1 q1 q2 (CloA res vs).2 q3 q4 i w hp.rd hp.rd hp.rd hvb hpb)) rfl rfl rfl ?_
    refine gj_step (y_move rfl) rfl rfl rfl (gj_step (y_extract rfl rfl) rfl rfl rfl (gj_step (y_extract rfl rfl) rfl rfl rfl (gj_step (y_assign rfl) rfl rfl rfl (gj_step (y_assign rfl) rfl rfl rfl (?_)))))
    refine gj_nil ?_
    refine ej_th (cj_seq (cj_seq ?_))
    refine cj_regionG (gj_step (y_move rfl) rfl rfl rfl (gj_step (y_not rfl) rfl rfl rfl (gj_step (y_move rfl) rfl rfl rfl (gj_g 2 51 53 rfl rfl rfl rfl (fun hg51 => gj_yes rfl rfl rfl (y_move rfl) rfl rfl (gj_yes rfl rfl rfl (y_lss rfl rfl) rfl rfl (gj_nil rfl))) (gj_step (y_or rfl rfl rfl) rfl rfl rfl (gj_nil ?_))))))
    refine ej_th ?_
    refine cj_cond rfl (fun h54 => ?_) (fun h54 => ?_)
    · rw [eg] at h54
      simp only [Bool.not_true, Bool.false_or, decide_eq_true_eq] at h54
      omega
    · have h54b := h54
      try simp only [sxb] at h54
      refine cj_skip (ej_th (cj_seq ?_))
      refine cj_plan 9 (by kernel_rfl) (by kernel_rfl) ?_
      refine pl_y 0 rfl (y_fa0 fa60_0 rfl) rfl rfl rfl rfl (by kernel_rfl) ?_
      refine pl_y 1 rfl (y_load1 Try.isAgg43 rfl rfl) rfl rfl rfl rfl (by kernel_rfl) ?_
      refine pl_y 3 rfl (y_fa fa60_1 rfl) rfl rfl rfl rfl (by kernel_rfl) ?_
      refine pl_y 4 rfl (y_load1 Try.isAgg58 rfl rfl) rfl rfl rfl rfl (by kernel_rfl) ?_
      refine pl_w2 2 7 (by kernel_rfl) rfl rfl (pl_fire rfl rfl rfl (by kernel_rfl) ?_) (pl_fire rfl rfl rfl (by kernel_rfl) ?_)
      · refine oj_buildSlice (cs := []) [] Try.underlying58 Try.sizeOf43 Try.zeroValue43 rfl rfl (by kernel_rfl) (by kernel_rfl) rfl (fun b57 => ?_)
        refine oj_litOw (b := b57) (e := 43) (c := 0) (sz := 1) (enc := encLs) [] rfl rfl rfl (by unfold maxLen; simp) ?_
        refine oj_nil ?_
        refine ej_pl (lt_y (y_load1 Try.isAgg58 rfl rfl) rfl (lt_y (y_fa fa60_1 rfl) rfl (lt_y (y_load1 Try.isAgg43 rfl rfl) rfl (lt_y (y_fa0 fa60_0 rfl) rfl (lt_nil))))) ?_
        refine pl_w2 5 7 (by kernel_rfl) rfl rfl (pl_fire rfl rfl rfl (by kernel_rfl) ?_) (pl_fire rfl rfl rfl (by kernel_rfl) ?_)
        · refine oj_append (xs := ([] : List ListV)) (c := 0) el58 (fun _ => rfl) encLs_one rfl rfl rfl (reads_sl) (by unfold maxLen; simp only [List.length_nil]; omega) (by simp only [List.length_nil]; omega) rfl (fun A60 c60 => ?_)
          refine oj_nil ?_
          refine ej_pl (lt_w (by kernel_rfl) (lt_y (y_fa fa60_1 rfl) rfl (lt_y (y_load1 Try.isAgg43 rfl rfl) rfl (lt_y (y_fa0 fa60_0 rfl) rfl (lt_nil))))) ?_
          refine pl_y 6 rfl (y_build (cs := [.slice Ar res.length cr, .slice A60 (([] : List ListV) ++ vs).length c60]) st60 rfl (by kernel_rfl)) rfl rfl rfl rfl (by kernel_rfl) ?_
          refine pl_w1 7 (by kernel_rfl) rfl rfl (pl_fire rfl rfl rfl (by kernel_rfl) ?_)
          refine oj_alloc Try.zeroValue60 rfl rfl (fun b12 => ?_)
          refine oj_nil ?_
          refine ej_pl (lt_y (y_build (cs := [.slice Ar res.length cr, .slice A60 (([] : List ListV) ++ vs).length c60]) st60 rfl (by kernel_rfl)) rfl (lt_y (y_load1 Try.isAgg58 rfl rfl) rfl (lt_y (y_fa fa60_1 rfl) rfl (lt_y (y_load1 Try.isAgg43 rfl rfl) rfl (lt_y (y_fa0 fa60_0 rfl) rfl (lt_nil)))))) ?_
          refine pl_w1 8 (by kernel_rfl) rfl rfl (pl_fire rfl rfl rfl (by kernel_rfl) ?_)
          refine oj_store rfl rfl rfl rfl Try.sizeOf60 rfl ?_
          refine oj_nil ?_
          refine ej_pl (lt_w (by kernel_rfl) (lt_w (by kernel_rfl) (lt_w (by kernel_rfl) (lt_w (by kernel_rfl) (lt_w (by kernel_rfl) (lt_nil)))))) ?_
          refine pl_end (by kernel_rfl) ?_
          refine ej_th (cj_seq (cj_region ?_))
          refine oj_step (y_fa fa60_1 rfl) rfl rfl rfl ?_
          refine oj_step (y_load1 Try.isAgg58 rfl rfl) rfl rfl rfl ?_
          refine oj_step (y_move rfl) rfl rfl rfl ?_
          refine oj_step (y_move rfl) rfl rfl rfl ?_
          refine oj_step (y_ixR (reads_ow encLs_len) Try.underlying58 Try.sizeOf43 rfl rfl (⟨by omega, by show ((i : Nat) : Int) < ((vs.length : Nat) : Int); omega⟩)) rfl rfl rfl ?_
          refine oj_storeE (i := i) (u := ⟨At, ct, to⟩) rfl rfl rfl rfl Try.sizeOf43 (fun _ => rfl) (by first | omega | (simp only [List.length_set]; omega) | (simp; omega)) ?_
          refine oj_nil ?_
          refine ej_th (cj_seq ?_)
          obtain ⟨vl, hvl⟩ : ∃ vl, vl = ((([] : List ListV) ++ vs).set i ⟨At, ct, to⟩) := ⟨_, rfl⟩
          have hvll : vl.length = vs.length := by rw [hvl]; simp
          have hvle : (([] : List ListV) ++ vs).length = vl.length := by rw [hvll]; rfl
          have hgl : ∀ (r : ListV) (w2 : World), r ∈ vl → Grow w w2 → GoodL w2 r := fun r w2 hm hg => by
            rw [hvl, List.nil_append] at hm
            rcases List.mem_or_eq_of_mem_set hm with h | h
            · exact (hgv r h).mono hg
            · rw [h]; exact hto.mono hg
          rw [← hvl, hvle]
          refine cj_region ?_
          refine oj_step (y_loadN Try.isAgg60 Try.sizeOf60 rfl) rfl rfl rfl ?_
          refine oj_call (X := { z : Option Addr × Nat × Option Addr × Nat × Nat × Nat // ∀ i, z.2.2.2.2.1 ≤ i ∧ i < z.2.2.2.2.2 → w.heap.size ≤ i }) (fun z => .tuple #[.agg #[.slice z.1.1 (CloA res vl).1.length z.1.2.1, .slice z.1.2.2.1 (CloA res vl).2.length z.1.2.2.2.1], .int .i64 (cloE res vl)]) (fun _ => []) (fun z => [sl (fun i => z.1.2.2.2.2.1 ≤ i ∧ i < z.1.2.2.2.2.2) 1 enInt z.1.1 (CloA res vl).1, sl (fun i => z.1.2.2.2.2.1 ≤ i ∧ i < z.1.2.2.2.2.2) 1 enInt z.1.2.2.1 (CloA res vl).2]) Try.call32 rfl (fun w1 hp => (k_Close res Ar cr vl A60 c60 w1 hp.rd (hp.rdO (fun _ => rfl) (by unfold maxLen; omega)) (fun r h => hgl r w1 h hp.below)).mono fun e w2 ⟨z, h1, h2, h3, h4, h5⟩ => ⟨⟨z, fun i hi => Nat.le_trans hp.size ((h5 _ (.head _)).2 i hi).1⟩, h1, h2, h3, h4, h5⟩) rfl ?_
          rintro ⟨⟨p1, p2, p3, p4, p5, p6⟩, hp⟩
          dsimp only [List.nil_append, List.cons_append] at hp ⊢
          refine oj_step (y_move rfl) rfl rfl rfl ?_
          refine oj_step (y_extract rfl rfl) rfl rfl rfl ?_
          refine oj_step (y_extract rfl rfl) rfl rfl rfl ?_
          refine oj_alloc Try.zeroValue62 rfl rfl (fun b13 => ?_)
          refine oj_store rfl rfl rfl rfl Try.sizeOf62 rfl ?_
          refine oj_step (y_assign rfl) rfl rfl rfl ?_
          refine oj_nil ?_
          refine ej_th (cj_seq (cj_seq ?_))
          refine cj_regionG (gj_step (y_move rfl) rfl rfl rfl (gj_step (y_neq rfl rfl) rfl rfl rfl (gj_nil ?_)))
          refine ej_th ?_
          refine cj_cond rfl (fun h73 => ?_) (fun h73 => ?_)
          · have h73b := h73
            try simp only [sxb] at h73
            have hno2 : cloE res vl = 62 := by
              rcases cloE_or res vl with h | h
              · rw [h] at h73b; simp at h73b
              · exact h
            refine cj_seq ?_
            refine cj_regionG ?_
            refine gj_step (y_move rfl) rfl rfl rfl (gj_step (y_eql rfl rfl) rfl rfl rfl (gj_step (y_move rfl) rfl rfl rfl (?_)))
            refine gj_g 1 76 77 rfl rfl rfl rfl (fun hg76 => gj_yes rfl rfl rfl (y_call Try.call21 rfl (fun w hp => k_works w)) rfl rfl (gj_nil rfl)) ?_
            refine gj_step (y_and rfl rfl rfl) rfl rfl rfl (gj_step (y_assign rfl) rfl rfl rfl (?_))
            refine gj_nil ?_
            refine ej_th (cj_ret (ej_then_ret ?_))
            refine ej_ret1 rfl Try.results8 rfl (fun w' hp => ⟨?_, hp.below⟩)
            rw [hno2]; rfl
          · have h73b := h73
            try simp only [sxb] at h73
            have hyes2 := cloE_0 h73b
            obtain ⟨hco2, _, _⟩ := clo_ok hyes2
            obtain ⟨ea2, _⟩ := cloA_yes hyes2
            have hf2 := cloF hco2
            have hrw2 : (rowsV vl).length = (rowsV vs).length := by rw [rowsV_len, rowsV_len, hvll]
            have hpb2 : ∀ p ∈ (CloA res vl).2, 0 ≤ p ∧ p ≤ 100000 := by rw [ea2]; exact prices_bd hco2
            have eg2 : gainE r.l (CloA res vl).1 (CloA res vl).2 i = (gainF (rowsV vs) (pricesL res (rowsV vl)) i ((bestF res (rowsV vl)).1.getD i 0), true) := by rw [ea2]; exact gainE_ok hrg hrm (prices_len ..) hf2.ok (by rw [hf2.len, hrw2]; exact hirw)
            have htr := truth_gain hco hco2 hrw2 hirw (fun k hk => by
              rw [hvl]
              unfold rowsV
              rw [List.nil_append, List.getElem?_map, List.getElem?_map, List.getElem?_set, if_neg (fun e => hk e.symm)])
            refine cj_skip (ej_th (cj_seq ?_))
            refine cj_draw (by kernel_rfl) (by kernel_rfl) ?_
            refine gj_step (y_fa fa60_1 rfl) rfl rfl rfl (gj_step (y_load1 Try.isAgg58 rfl rfl) rfl rfl rfl (gj_step (y_move rfl) rfl rfl rfl (gj_step (y_ixR (reads_sl) Try.underlying58 Try.sizeOf43 rfl rfl (⟨by omega, by omega⟩)) rfl rfl rfl (gj_step (y_ld0 (reads_sl) Try.isAgg43 rfl (hr) rfl) rfl rfl rfl (gj_step (y_loadN Try.isAgg62 Try.sizeOf62 rfl) rfl rfl rfl (gj_step (y_move rfl) rfl rfl rfl (?_)))))))
            refine gj_step (y_call Try.call33 rfl (fun w hp => k_gain r.l r.A r.c (CloA res vl).1 p1 p2 (CloA res vl).2 p3 p4 i w hp.rd hp.rd hp.rd hvb hpb2)) rfl rfl rfl ?_
            refine gj_step (y_move rfl) rfl rfl rfl (gj_step (y_extract rfl rfl) rfl rfl rfl (gj_step (y_extract rfl rfl) rfl rfl rfl (gj_step (y_assign rfl) rfl rfl rfl (gj_step (y_assign rfl) rfl rfl rfl (?_)))))
            refine gj_nil ?_
            refine ej_th (cj_seq ?_)
            refine cj_regionG ?_
            refine gj_step (y_move rfl) rfl rfl rfl (gj_step (y_move rfl) rfl rfl rfl (?_))
            refine gj_g 3 91 94 rfl rfl rfl rfl (fun hg91 => gj_yes rfl rfl rfl (y_move rfl) rfl rfl (gj_yes rfl rfl rfl (y_move rfl) rfl rfl (gj_yes rfl rfl rfl (y_leq rfl rfl) rfl rfl (gj_nil rfl)))) ?_
            refine gj_step (y_and rfl rfl rfl) rfl rfl rfl (gj_step (y_move rfl) rfl rfl rfl (?_))
            refine gj_g 1 96 97 rfl rfl rfl rfl (fun hg96 => gj_yes rfl rfl rfl (y_call Try.call21 rfl (fun w hp => k_works w)) rfl rfl (gj_nil rfl)) ?_
            refine gj_step (y_and rfl rfl rfl) rfl rfl rfl (gj_step (y_assign rfl) rfl rfl rfl (?_))
            refine gj_nil ?_
            refine ej_th (cj_ret ?_)
            refine ej_ret1 rfl Try.results8 rfl (fun w' hp => ⟨?_, hp.below⟩)
            rw [eg, eg2]
            simp only [Bool.true_and, Bool.and_true]
            exact congrArg (fun q => Ending.returned (.bool q)) (by simp; exact htr)
        · refine oj_alloc Try.zeroValue60 rfl rfl (fun b12 => ?_)
          refine oj_nil ?_
          refine ej_pl (lt_y (y_load1 Try.isAgg58 rfl rfl) rfl (lt_y (y_fa fa60_1 rfl) rfl (lt_y (y_load1 Try.isAgg43 rfl rfl) rfl (lt_y (y_fa0 fa60_0 rfl) rfl (lt_nil))))) ?_
          refine pl_w1 5 (by kernel_rfl) rfl rfl (pl_fire rfl rfl rfl (by kernel_rfl) ?_)
          refine oj_append (xs := ([] : List ListV)) (c := 0) el58 (fun _ => rfl) encLs_one rfl rfl rfl (reads_sl) (by unfold maxLen; simp only [List.length_nil]; omega) (by simp only [List.length_nil]; omega) rfl (fun A60 c60 => ?_)
          refine oj_nil ?_
          refine ej_pl (lt_w (by kernel_rfl) (lt_y (y_fa fa60_1 rfl) rfl (lt_y (y_load1 Try.isAgg43 rfl rfl) rfl (lt_y (y_fa0 fa60_0 rfl) rfl (lt_nil))))) ?_
          refine pl_y 6 rfl (y_build (cs := [.slice Ar res.length cr, .slice A60 (([] : List ListV) ++ vs).length c60]) st60 rfl (by kernel_rfl)) rfl rfl rfl rfl (by kernel_rfl) ?_
          refine pl_w1 8 (by kernel_rfl) rfl rfl (pl_fire rfl rfl rfl (by kernel_rfl) ?_)
          refine oj_store rfl rfl rfl rfl Try.sizeOf60 rfl ?_
          refine oj_nil ?_
          refine ej_pl (lt_w (by kernel_rfl) (lt_w (by kernel_rfl) (lt_w (by kernel_rfl) (lt_w (by kernel_rfl) (lt_w (by kernel_rfl) (lt_nil)))))) ?_
          refine pl_end (by kernel_rfl) ?_
          refine ej_th (cj_seq (cj_region ?_))
          refine oj_step (y_fa fa60_1 rfl) rfl rfl rfl ?_
          refine oj_step (y_load1 Try.isAgg58 rfl rfl) rfl rfl rfl ?_
          refine oj_step (y_move rfl) rfl rfl rfl ?_
          refine oj_step (y_move rfl) rfl rfl rfl ?_
          refine oj_step (y_ixR (reads_ow encLs_len) Try.underlying58 Try.sizeOf43 rfl rfl (⟨by omega, by show ((i : Nat) : Int) < ((vs.length : Nat) : Int); omega⟩)) rfl rfl rfl ?_
          refine oj_storeE (i := i) (u := ⟨At, ct, to⟩) rfl rfl rfl rfl Try.sizeOf43 (fun _ => rfl) (by first | omega | (simp only [List.length_set]; omega) | (simp; omega)) ?_
          refine oj_nil ?_
          refine ej_th (cj_seq ?_)
          obtain ⟨vl, hvl⟩ : ∃ vl, vl = ((([] : List ListV) ++ vs).set i ⟨At, ct, to⟩) := ⟨_, rfl⟩
          have hvll : vl.length = vs.length := by rw [hvl]; simp
          have hvle : (([] : List ListV) ++ vs).length = vl.length := by rw [hvll]; rfl
          have hgl : ∀ (r : ListV) (w2 : World), r ∈ vl → Grow w w2 → GoodL w2 r := fun r w2 hm hg => by
            rw [hvl, List.nil_append] at hm
            rcases List.mem_or_eq_of_mem_set hm with h | h
            · exact (hgv r h).mono hg
            · rw [h]; exact hto.mono hg
          rw [← hvl, hvle]
          refine cj_region ?_
          refine oj_step (y_loadN Try.isAgg60 Try.sizeOf60 rfl) rfl rfl rfl ?_
          refine oj_call (X := { z : Option Addr × Nat × Option Addr × Nat × Nat × Nat // ∀ i, z.2.2.2.2.1 ≤ i ∧ i < z.2.2.2.2.2 → w.heap.size ≤ i }) (fun z => .tuple #[.agg #[.slice z.1.1 (CloA res vl).1.length z.1.2.1, .slice z.1.2.2.1 (CloA res vl).2.length z.1.2.2.2.1], .int .i64 (cloE res vl)]) (fun _ => []) (fun z => [sl (fun i => z.1.2.2.2.2.1 ≤ i ∧ i < z.1.2.2.2.2.2) 1 enInt z.1.1 (CloA res vl).1, sl (fun i => z.1.2.2.2.2.1 ≤ i ∧ i < z.1.2.2.2.2.2) 1 enInt z.1.2.2.1 (CloA res vl).2]) Try.call32 rfl (fun w1 hp => (k_Close res Ar cr vl A60 c60 w1 hp.rd (hp.rdO (fun _ => rfl) (by unfold maxLen; omega)) (fun r h => hgl r w1 h hp.below)).mono fun e w2 ⟨z, h1, h2, h3, h4, h5⟩ => ⟨⟨z, fun i hi => Nat.le_trans hp.size ((h5 _ (.head _)).2 i hi).1⟩, h1, h2, h3, h4, h5⟩) rfl ?_
          rintro ⟨⟨p1, p2, p3, p4, p5, p6⟩, hp⟩
          dsimp only [List.nil_append, List.cons_append] at hp ⊢
          refine oj_step (y_move rfl) rfl rfl rfl ?_
          refine oj_step (y_extract rfl rfl) rfl rfl rfl ?_
          refine oj_step (y_extract rfl rfl) rfl rfl rfl ?_
          refine oj_alloc Try.zeroValue62 rfl rfl (fun b13 => ?_)
          refine oj_store rfl rfl rfl rfl Try.sizeOf62 rfl ?_
          refine oj_step (y_assign rfl) rfl rfl rfl ?_
          refine oj_nil ?_
          refine ej_th (cj_seq (cj_seq ?_))
          refine cj_regionG (gj_step (y_move rfl) rfl rfl rfl (gj_step (y_neq rfl rfl) rfl rfl rfl (gj_nil ?_)))
          refine ej_th ?_
          refine cj_cond rfl (fun h73 => ?_) (fun h73 => ?_)
          · have h73b := h73
            try simp only [sxb] at h73
            have hno2 : cloE res vl = 62 := by
              rcases cloE_or res vl with h | h
              · rw [h] at h73b; simp at h73b
              · exact h
            refine cj_seq ?_
            refine cj_regionG ?_
            refine gj_step (y_move rfl) rfl rfl rfl (gj_step (y_eql rfl rfl) rfl rfl rfl (gj_step (y_move rfl) rfl rfl rfl (?_)))
            refine gj_g 1 76 77 rfl rfl rfl rfl (fun hg76 => gj_yes rfl rfl rfl (y_call Try.call21 rfl (fun w hp => k_works w)) rfl rfl (gj_nil rfl)) ?_
            refine gj_step (y_and rfl rfl rfl) rfl rfl rfl (gj_step (y_assign rfl) rfl rfl rfl (?_))
            refine gj_nil ?_
            refine ej_th (cj_ret (ej_then_ret ?_))
            refine ej_ret1 rfl Try.results8 rfl (fun w' hp => ⟨?_, hp.below⟩)
            rw [hno2]; rfl
          · have h73b := h73
            try simp only [sxb] at h73
            have hyes2 := cloE_0 h73b
            obtain ⟨hco2, _, _⟩ := clo_ok hyes2
            obtain ⟨ea2, _⟩ := cloA_yes hyes2
            have hf2 := cloF hco2
            have hrw2 : (rowsV vl).length = (rowsV vs).length := by rw [rowsV_len, rowsV_len, hvll]
            have hpb2 : ∀ p ∈ (CloA res vl).2, 0 ≤ p ∧ p ≤ 100000 := by rw [ea2]; exact prices_bd hco2
            have eg2 : gainE r.l (CloA res vl).1 (CloA res vl).2 i = (gainF (rowsV vs) (pricesL res (rowsV vl)) i ((bestF res (rowsV vl)).1.getD i 0), true) := by rw [ea2]; exact gainE_ok hrg hrm (prices_len ..) hf2.ok (by rw [hf2.len, hrw2]; exact hirw)
            have htr := truth_gain hco hco2 hrw2 hirw (fun k hk => by
              rw [hvl]
              unfold rowsV
              rw [List.nil_append, List.getElem?_map, List.getElem?_map, List.getElem?_set, if_neg (fun e => hk e.symm)])
            refine cj_skip (ej_th (cj_seq ?_))
            refine cj_draw (by kernel_rfl) (by kernel_rfl) ?_
            refine gj_step (y_fa fa60_1 rfl) rfl rfl rfl (gj_step (y_load1 Try.isAgg58 rfl rfl) rfl rfl rfl (gj_step (y_move rfl) rfl rfl rfl (gj_step (y_ixR (reads_sl) Try.underlying58 Try.sizeOf43 rfl rfl (⟨by omega, by omega⟩)) rfl rfl rfl (gj_step (y_ld0 (reads_sl) Try.isAgg43 rfl (hr) rfl) rfl rfl rfl (gj_step (y_loadN Try.isAgg62 Try.sizeOf62 rfl) rfl rfl rfl (gj_step (y_move rfl) rfl rfl rfl (?_)))))))
            refine gj_step (y_call Try.call33 rfl (fun w hp => k_gain r.l r.A r.c (CloA res vl).1 p1 p2 (CloA res vl).2 p3 p4 i w hp.rd hp.rd hp.rd hvb hpb2)) rfl rfl rfl ?_
            refine gj_step (y_move rfl) rfl rfl rfl (gj_step (y_extract rfl rfl) rfl rfl rfl (gj_step (y_extract rfl rfl) rfl rfl rfl (gj_step (y_assign rfl) rfl rfl rfl (gj_step (y_assign rfl) rfl rfl rfl (?_)))))
            refine gj_nil ?_
            refine ej_th (cj_seq ?_)
            refine cj_regionG ?_
            refine gj_step (y_move rfl) rfl rfl rfl (gj_step (y_move rfl) rfl rfl rfl (?_))
            refine gj_g 3 91 94 rfl rfl rfl rfl (fun hg91 => gj_yes rfl rfl rfl (y_move rfl) rfl rfl (gj_yes rfl rfl rfl (y_move rfl) rfl rfl (gj_yes rfl rfl rfl (y_leq rfl rfl) rfl rfl (gj_nil rfl)))) ?_
            refine gj_step (y_and rfl rfl rfl) rfl rfl rfl (gj_step (y_move rfl) rfl rfl rfl (?_))
            refine gj_g 1 96 97 rfl rfl rfl rfl (fun hg96 => gj_yes rfl rfl rfl (y_call Try.call21 rfl (fun w hp => k_works w)) rfl rfl (gj_nil rfl)) ?_
            refine gj_step (y_and rfl rfl rfl) rfl rfl rfl (gj_step (y_assign rfl) rfl rfl rfl (?_))
            refine gj_nil ?_
            refine ej_th (cj_ret ?_)
            refine ej_ret1 rfl Try.results8 rfl (fun w' hp => ⟨?_, hp.below⟩)
            rw [eg, eg2]
            simp only [Bool.true_and, Bool.and_true]
            exact congrArg (fun q => Ending.returned (.bool q)) (by simp; exact htr)
      · refine oj_alloc Try.zeroValue60 rfl rfl (fun b12 => ?_)
        refine oj_nil ?_
        refine ej_pl (lt_y (y_load1 Try.isAgg58 rfl rfl) rfl (lt_y (y_fa fa60_1 rfl) rfl (lt_y (y_load1 Try.isAgg43 rfl rfl) rfl (lt_y (y_fa0 fa60_0 rfl) rfl (lt_nil))))) ?_
        refine pl_w1 2 (by kernel_rfl) rfl rfl (pl_fire rfl rfl rfl (by kernel_rfl) ?_)
        refine oj_buildSlice (cs := []) [] Try.underlying58 Try.sizeOf43 Try.zeroValue43 rfl rfl (by kernel_rfl) (by kernel_rfl) rfl (fun b57 => ?_)
        refine oj_litOw (b := b57) (e := 43) (c := 0) (sz := 1) (enc := encLs) [] rfl rfl rfl (by unfold maxLen; simp) ?_
        refine oj_nil ?_
        refine ej_pl (lt_y (y_load1 Try.isAgg58 rfl rfl) rfl (lt_y (y_fa fa60_1 rfl) rfl (lt_y (y_load1 Try.isAgg43 rfl rfl) rfl (lt_y (y_fa0 fa60_0 rfl) rfl (lt_nil))))) ?_
        refine pl_w1 5 (by kernel_rfl) rfl rfl (pl_fire rfl rfl rfl (by kernel_rfl) ?_)
        refine oj_append (xs := ([] : List ListV)) (c := 0) el58 (fun _ => rfl) encLs_one rfl rfl rfl (reads_sl) (by unfold maxLen; simp only [List.length_nil]; omega) (by simp only [List.length_nil]; omega) rfl (fun A60 c60 => ?_)
        refine oj_nil ?_
        refine ej_pl (lt_w (by kernel_rfl) (lt_y (y_fa fa60_1 rfl) rfl (lt_y (y_load1 Try.isAgg43 rfl rfl) rfl (lt_y (y_fa0 fa60_0 rfl) rfl (lt_nil))))) ?_
        refine pl_y 6 rfl (y_build (cs := [.slice Ar res.length cr, .slice A60 (([] : List ListV) ++ vs).length c60]) st60 rfl (by kernel_rfl)) rfl rfl rfl rfl (by kernel_rfl) ?_
        refine pl_w1 8 (by kernel_rfl) rfl rfl (pl_fire rfl rfl rfl (by kernel_rfl) ?_)
        refine oj_store rfl rfl rfl rfl Try.sizeOf60 rfl ?_
        refine oj_nil ?_
        refine ej_pl (lt_w (by kernel_rfl) (lt_w (by kernel_rfl) (lt_w (by kernel_rfl) (lt_w (by kernel_rfl) (lt_w (by kernel_rfl) (lt_nil)))))) ?_
        refine pl_end (by kernel_rfl) ?_
        refine ej_th (cj_seq (cj_region ?_))
        refine oj_step (y_fa fa60_1 rfl) rfl rfl rfl ?_
        refine oj_step (y_load1 Try.isAgg58 rfl rfl) rfl rfl rfl ?_
        refine oj_step (y_move rfl) rfl rfl rfl ?_
        refine oj_step (y_move rfl) rfl rfl rfl ?_
        refine oj_step (y_ixR (reads_ow encLs_len) Try.underlying58 Try.sizeOf43 rfl rfl (⟨by omega, by show ((i : Nat) : Int) < ((vs.length : Nat) : Int); omega⟩)) rfl rfl rfl ?_
        refine oj_storeE (i := i) (u := ⟨At, ct, to⟩) rfl rfl rfl rfl Try.sizeOf43 (fun _ => rfl) (by first | omega | (simp only [List.length_set]; omega) | (simp; omega)) ?_
        refine oj_nil ?_
        refine ej_th (cj_seq ?_)
        obtain ⟨vl, hvl⟩ : ∃ vl, vl = ((([] : List ListV) ++ vs).set i ⟨At, ct, to⟩) := ⟨_, rfl⟩
        have hvll : vl.length = vs.length := by rw [hvl]; simp
        have hvle : (([] : List ListV) ++ vs).length = vl.length := by rw [hvll]; rfl
        have hgl : ∀ (r : ListV) (w2 : World), r ∈ vl → Grow w w2 → GoodL w2 r := fun r w2 hm hg => by
          rw [hvl, List.nil_append] at hm
          rcases List.mem_or_eq_of_mem_set hm with h | h
          · exact (hgv r h).mono hg
          · rw [h]; exact hto.mono hg
        rw [← hvl, hvle]
        refine cj_region ?_
        refine oj_step (y_loadN Try.isAgg60 Try.sizeOf60 rfl) rfl rfl rfl ?_
        refine oj_call (X := { z : Option Addr × Nat × Option Addr × Nat × Nat × Nat // ∀ i, z.2.2.2.2.1 ≤ i ∧ i < z.2.2.2.2.2 → w.heap.size ≤ i }) (fun z => .tuple #[.agg #[.slice z.1.1 (CloA res vl).1.length z.1.2.1, .slice z.1.2.2.1 (CloA res vl).2.length z.1.2.2.2.1], .int .i64 (cloE res vl)]) (fun _ => []) (fun z => [sl (fun i => z.1.2.2.2.2.1 ≤ i ∧ i < z.1.2.2.2.2.2) 1 enInt z.1.1 (CloA res vl).1, sl (fun i => z.1.2.2.2.2.1 ≤ i ∧ i < z.1.2.2.2.2.2) 1 enInt z.1.2.2.1 (CloA res vl).2]) Try.call32 rfl (fun w1 hp => (k_Close res Ar cr vl A60 c60 w1 hp.rd (hp.rdO (fun _ => rfl) (by unfold maxLen; omega)) (fun r h => hgl r w1 h hp.below)).mono fun e w2 ⟨z, h1, h2, h3, h4, h5⟩ => ⟨⟨z, fun i hi => Nat.le_trans hp.size ((h5 _ (.head _)).2 i hi).1⟩, h1, h2, h3, h4, h5⟩) rfl ?_
        rintro ⟨⟨p1, p2, p3, p4, p5, p6⟩, hp⟩
        dsimp only [List.nil_append, List.cons_append] at hp ⊢
        refine oj_step (y_move rfl) rfl rfl rfl ?_
        refine oj_step (y_extract rfl rfl) rfl rfl rfl ?_
        refine oj_step (y_extract rfl rfl) rfl rfl rfl ?_
        refine oj_alloc Try.zeroValue62 rfl rfl (fun b13 => ?_)
        refine oj_store rfl rfl rfl rfl Try.sizeOf62 rfl ?_
        refine oj_step (y_assign rfl) rfl rfl rfl ?_
        refine oj_nil ?_
        refine ej_th (cj_seq (cj_seq ?_))
        refine cj_regionG (gj_step (y_move rfl) rfl rfl rfl (gj_step (y_neq rfl rfl) rfl rfl rfl (gj_nil ?_)))
        refine ej_th ?_
        refine cj_cond rfl (fun h73 => ?_) (fun h73 => ?_)
        · have h73b := h73
          try simp only [sxb] at h73
          have hno2 : cloE res vl = 62 := by
            rcases cloE_or res vl with h | h
            · rw [h] at h73b; simp at h73b
            · exact h
          refine cj_seq ?_
          refine cj_regionG ?_
          refine gj_step (y_move rfl) rfl rfl rfl (gj_step (y_eql rfl rfl) rfl rfl rfl (gj_step (y_move rfl) rfl rfl rfl (?_)))
          refine gj_g 1 76 77 rfl rfl rfl rfl (fun hg76 => gj_yes rfl rfl rfl (y_call Try.call21 rfl (fun w hp => k_works w)) rfl rfl (gj_nil rfl)) ?_
          refine gj_step (y_and rfl rfl rfl) rfl rfl rfl (gj_step (y_assign rfl) rfl rfl rfl (?_))
          refine gj_nil ?_
          refine ej_th (cj_ret (ej_then_ret ?_))
          refine ej_ret1 rfl Try.results8 rfl (fun w' hp => ⟨?_, hp.below⟩)
          rw [hno2]; rfl
        · have h73b := h73
          try simp only [sxb] at h73
          have hyes2 := cloE_0 h73b
          obtain ⟨hco2, _, _⟩ := clo_ok hyes2
          obtain ⟨ea2, _⟩ := cloA_yes hyes2
          have hf2 := cloF hco2
          have hrw2 : (rowsV vl).length = (rowsV vs).length := by rw [rowsV_len, rowsV_len, hvll]
          have hpb2 : ∀ p ∈ (CloA res vl).2, 0 ≤ p ∧ p ≤ 100000 := by rw [ea2]; exact prices_bd hco2
          have eg2 : gainE r.l (CloA res vl).1 (CloA res vl).2 i = (gainF (rowsV vs) (pricesL res (rowsV vl)) i ((bestF res (rowsV vl)).1.getD i 0), true) := by rw [ea2]; exact gainE_ok hrg hrm (prices_len ..) hf2.ok (by rw [hf2.len, hrw2]; exact hirw)
          have htr := truth_gain hco hco2 hrw2 hirw (fun k hk => by
            rw [hvl]
            unfold rowsV
            rw [List.nil_append, List.getElem?_map, List.getElem?_map, List.getElem?_set, if_neg (fun e => hk e.symm)])
          refine cj_skip (ej_th (cj_seq ?_))
          refine cj_draw (by kernel_rfl) (by kernel_rfl) ?_
          refine gj_step (y_fa fa60_1 rfl) rfl rfl rfl (gj_step (y_load1 Try.isAgg58 rfl rfl) rfl rfl rfl (gj_step (y_move rfl) rfl rfl rfl (gj_step (y_ixR (reads_sl) Try.underlying58 Try.sizeOf43 rfl rfl (⟨by omega, by omega⟩)) rfl rfl rfl (gj_step (y_ld0 (reads_sl) Try.isAgg43 rfl (hr) rfl) rfl rfl rfl (gj_step (y_loadN Try.isAgg62 Try.sizeOf62 rfl) rfl rfl rfl (gj_step (y_move rfl) rfl rfl rfl (?_)))))))
          refine gj_step (y_call Try.call33 rfl (fun w hp => k_gain r.l r.A r.c (CloA res vl).1 p1 p2 (CloA res vl).2 p3 p4 i w hp.rd hp.rd hp.rd hvb hpb2)) rfl rfl rfl ?_
          refine gj_step (y_move rfl) rfl rfl rfl (gj_step (y_extract rfl rfl) rfl rfl rfl (gj_step (y_extract rfl rfl) rfl rfl rfl (gj_step (y_assign rfl) rfl rfl rfl (gj_step (y_assign rfl) rfl rfl rfl (?_)))))
          refine gj_nil ?_
          refine ej_th (cj_seq ?_)
          refine cj_regionG ?_
          refine gj_step (y_move rfl) rfl rfl rfl (gj_step (y_move rfl) rfl rfl rfl (?_))
          refine gj_g 3 91 94 rfl rfl rfl rfl (fun hg91 => gj_yes rfl rfl rfl (y_move rfl) rfl rfl (gj_yes rfl rfl rfl (y_move rfl) rfl rfl (gj_yes rfl rfl rfl (y_leq rfl rfl) rfl rfl (gj_nil rfl)))) ?_
          refine gj_step (y_and rfl rfl rfl) rfl rfl rfl (gj_step (y_move rfl) rfl rfl rfl (?_))
          refine gj_g 1 96 97 rfl rfl rfl rfl (fun hg96 => gj_yes rfl rfl rfl (y_call Try.call21 rfl (fun w hp => k_works w)) rfl rfl (gj_nil rfl)) ?_
          refine gj_step (y_and rfl rfl rfl) rfl rfl rfl (gj_step (y_assign rfl) rfl rfl rfl (?_))
          refine gj_nil ?_
          refine ej_th (cj_ret ?_)
          refine ej_ret1 rfl Try.results8 rfl (fun w' hp => ⟨?_, hp.below⟩)
          rw [eg, eg2]
          simp only [Bool.true_and, Bool.and_true]
          exact congrArg (fun q => Ending.returned (.bool q)) (by simp; exact htr)

end Go.Proofs.Ytehmifpofpifkaa
