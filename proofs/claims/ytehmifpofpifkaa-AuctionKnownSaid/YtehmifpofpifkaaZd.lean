/- Texts of ours, joined: 24 of them. Conditions: none. -/
import Derived.Test.YtehmifpofpifkaaZc
import Derived.Test.YtehmifpofpifkaaProg
import Derived.Laws.StructEq
namespace Go.Proofs.Ytehmifpofpifkaa
open Go.Sx Go.RowKit
set_option maxRecDepth 20000
theorem fa24_0 : FieldIs Try.prog 24 0 0 1 false := ⟨⟨_, _, Try.underlying24, rfl, rfl, Try.sizeOf3, Try.isAgg3, by decide⟩⟩
theorem fa24_1 : FieldIs Try.prog 24 1 1 1 false := ⟨⟨_, _, Try.underlying24, rfl, rfl, Try.sizeOf3, Try.isAgg3, by decide⟩⟩
theorem fa24_2 : FieldIs Try.prog 24 2 2 1 false := ⟨⟨_, _, Try.underlying24, rfl, rfl, Try.sizeOf22, Try.isAgg22, by decide⟩⟩
theorem fa81_0 : FieldIs Try.prog 81 0 0 1 false := ⟨⟨_, _, Try.underlying81, rfl, rfl, Try.sizeOf3, Try.isAgg3, by decide⟩⟩
theorem fa81_1 : FieldIs Try.prog 81 1 1 1 false := ⟨⟨_, _, Try.underlying81, rfl, rfl, Try.sizeOf3, Try.isAgg3, by decide⟩⟩
theorem fa85_0 : FieldIs Try.prog 85 0 0 3 true := ⟨⟨_, _, Try.underlying85, rfl, rfl, Try.sizeOf24, Try.isAgg24, by decide⟩⟩
end Go.Proofs.Ytehmifpofpifkaa
namespace Go.Proofs.Ytehmifpofpifkaa
open Go.Sx Go.RowKit Am
set_option maxRecDepth 20000
theorem k_within (n lo hi : Int) (w : World)  : Calls Try.prog 49 #[.int .i64 n, .int .i64 lo, .int .i64 hi] w (fun e w' => e = .returned (.bool (decide (lo ≤ n) && decide (n ≤ hi))) ∧ Grow w w') := by
  refine enter_pure (args := [.int .i64 n, .int .i64 lo, .int .i64 hi]) [] Try.func49 rfl (by rw [Try.ntmps49]; simp) (by simp) ?_
  refine cj_seq ?_
  refine cj_regionG (gj_step (y_assign rfl) rfl rfl rfl (gj_nil ?_))
  refine ej_th (cj_seq ?_)
  refine cj_regionG (gj_step (y_move rfl) rfl rfl rfl (gj_step (y_move rfl) rfl rfl rfl (gj_step (y_geq rfl rfl) rfl rfl rfl (gj_step (y_move rfl) rfl rfl rfl (gj_g 3 10 13 rfl rfl rfl rfl (fun hg10 => gj_yes rfl rfl rfl (y_move rfl) rfl rfl (gj_yes rfl rfl rfl (y_move rfl) rfl rfl (gj_yes rfl rfl rfl (y_leq rfl rfl) rfl rfl (gj_nil rfl)))) (gj_step (y_and rfl rfl rfl) rfl rfl rfl (gj_step (y_assign rfl) rfl rfl rfl (gj_nil ?_))))))))
  refine ej_th (cj_ret ?_)
  exact ej_ret1 rfl Try.results49 rfl (fun w' hp => ⟨rfl, hp.below⟩)

theorem k_From (lo n hi : Int) (w : World)  : Calls Try.prog 35 #[.int .i64 lo, .int .i64 n, .int .i64 hi] w (fun e w' => e = .returned (.bool (decide (lo ≤ n) && decide (n ≤ hi))) ∧ Grow w w') := by
  refine enter_pure (args := [.int .i64 lo, .int .i64 n, .int .i64 hi]) [] Try.func35 rfl (by rw [Try.ntmps35]; simp) (by simp) ?_
  refine cj_seq ?_
  refine cj_regionG (gj_step (y_assign rfl) rfl rfl rfl (gj_nil ?_))
  refine ej_th (cj_seq ?_)
  refine cj_regionG (gj_step (y_move rfl) rfl rfl rfl (gj_step (y_move rfl) rfl rfl rfl (gj_step (y_leq rfl rfl) rfl rfl rfl (gj_step (y_move rfl) rfl rfl rfl (gj_g 3 10 13 rfl rfl rfl rfl (fun hg10 => gj_yes rfl rfl rfl (y_move rfl) rfl rfl (gj_yes rfl rfl rfl (y_move rfl) rfl rfl (gj_yes rfl rfl rfl (y_leq rfl rfl) rfl rfl (gj_nil rfl)))) (gj_step (y_and rfl rfl rfl) rfl rfl rfl (gj_step (y_assign rfl) rfl rfl rfl (gj_nil ?_))))))))
  refine ej_th (cj_ret ?_)
  exact ej_ret1 rfl Try.results35 rfl (fun w' hp => ⟨rfl, hp.below⟩)

theorem k_Check (st rv : Int) (lad : List RiseV) (Al : Option Addr) (cl : Nat) (w : World) (hlad : Rd w 2 encRi Al lad) : Calls Try.prog 17 #[.agg #[.int .i64 st, .int .i64 rv, .slice Al lad.length cl]] w (fun e w' => e = .returned (.int .i64 (lotE st rv lad)) ∧ Grow w w') := by
  have hlen := hlad.len
  refine enter_pure (args := [.agg #[.int .i64 st, .int .i64 rv, .slice Al lad.length cl]]) [sl (fun b => b < w.heap.size) 2 encRi Al lad] Try.func17 rfl (by rw [Try.ntmps17]; simp) (fun g hg => by simp at hg; subst hg; exact ⟨hlad, fun _ h => h⟩) ?_
  refine cj_seq (cj_region ?_)
  refine oj_box rfl rfl rfl (fun b1 => ?_)
  refine oj_step (y_assign rfl) rfl rfl rfl ?_
  refine oj_nil ?_
  refine ej_th (cj_seq (cj_seq ?_))
  refine cj_regionG ?_
  refine gj_step (y_fa0 fa24_0 rfl) rfl rfl rfl (gj_step (y_load1 Try.isAgg3 rfl rfl) rfl rfl rfl (?_))
  refine gj_step (y_call Try.call49 rfl (fun w hp => k_within _ _ _ w)) rfl rfl rfl ?_
  refine gj_step (y_not rfl) rfl rfl rfl (gj_step (y_move rfl) rfl rfl rfl (?_))
  refine gj_g 4 9 13 rfl rfl rfl rfl (fun hg9 => gj_yes rfl rfl rfl (y_fa fa24_1 rfl) rfl rfl (gj_yes rfl rfl rfl (y_load1 Try.isAgg3 rfl rfl) rfl rfl (gj_yes rfl rfl rfl (y_call Try.call49 rfl (fun w hp => k_within _ _ _ w)) rfl rfl (gj_yes rfl rfl rfl (y_not rfl) rfl rfl (gj_nil rfl))))) ?_
  refine gj_step (y_or rfl rfl rfl) rfl rfl rfl (gj_step (y_move rfl) rfl rfl rfl (?_))
  refine gj_g 5 15 20 rfl rfl rfl rfl (fun hg15 => gj_yes rfl rfl rfl (y_fa fa24_2 rfl) rfl rfl (gj_yes rfl rfl rfl (y_load1 Try.isAgg22 rfl rfl) rfl rfl (gj_yes rfl rfl rfl (y_lenA Try.underlying22 rfl) rfl rfl (gj_yes rfl rfl rfl (y_call Try.call49 rfl (fun w hp => k_within _ _ _ w)) rfl rfl (gj_yes rfl rfl rfl (y_not rfl) rfl rfl (gj_nil rfl)))))) ?_
  refine gj_step (y_or rfl rfl rfl) rfl rfl rfl (gj_step (y_move rfl) rfl rfl rfl (?_))
  refine gj_g 6 22 28 rfl rfl rfl rfl (fun hg22 => gj_yes rfl rfl rfl (y_fa fa24_2 rfl) rfl rfl (gj_yes rfl rfl rfl (y_load1 Try.isAgg22 rfl rfl) rfl rfl (gj_yes rfl rfl rfl (y_ixR (reads_sl) Try.underlying22 Try.sizeOf81 rfl rfl (⟨by omega, by have := hg22; simp only [sxb] at this; omega⟩)) rfl rfl (gj_yes rfl rfl rfl (y_faE fa81_0 rfl) rfl rfl (gj_yes rfl rfl rfl (y_ld1 (reads_sl) Try.isAgg3 rfl (geq default (by have := hg22; simp only [sxb] at this; omega)) rfl) rfl rfl (gj_yes rfl rfl rfl (y_neq rfl rfl) rfl rfl (gj_nil rfl))))))) ?_
  refine gj_step (y_or rfl rfl rfl) rfl rfl rfl (?_)
  refine gj_nil ?_
  refine ej_th ?_
  refine cj_cond rfl (fun h29 => ?_) (fun h29 => ?_)
  · have h29b := h29
    try simp only [sxb] at h29
    rw [lotH_V] at h29b
    have hno := not_t h29b
    refine cj_seq ?_
    refine cj_regionG (gj_step (y_assign rfl) rfl rfl rfl (gj_nil ?_))
    refine ej_th (cj_ret (ej_then_ret ?_))
    refine ej_ret1 rfl Try.results17 rfl (fun w' hp => ⟨?_, hp.below⟩)
    rw [lotE, lotB_H, hno]; rfl
  · have h29b := h29
    try simp only [sxb] at h29
    rw [lotH_V] at h29b
    have hyes := not_f h29b
    have hz : (lad.getD 0 default).fr = 0 := (lotH_z hyes).2
    refine cj_skip (ej_th (cj_seq (cj_seq ?_)))
    refine cj_regionG (gj_step (y_fa fa24_2 rfl) rfl rfl rfl (gj_step (y_load1 Try.isAgg22 rfl rfl) rfl rfl rfl (gj_step (y_lenA Try.underlying22 rfl) rfl rfl rfl (gj_step (y_move rfl) rfl rfl rfl (gj_nil ?_)))))
    refine ej_th (cj_block ?_)
    refine cj_lpic (X := Nat) [(1, _), (31, _), (32, _)] (fun k => k ≤ lad.length ∧ (∀ j, j < k → 0 ≤ (lad.getD j default).fr ∧ (lad.getD j default).fr ≤ 100000) ∧ ladG (prevAt lad k) (lad.drop k) = ladG none lad) (fun k => [(33, .int .i64 k)]) (fun k => lad.length - k) 0 (⟨Nat.zero_le _, fun j h => absurd h (Nat.not_lt_zero _), rfl⟩) ⟨rfl, rfl, rfl, rfl, trivial⟩ ?_
    rintro k ⟨hk, hpv, hsk⟩
    dsimp only [List.cons_append, List.nil_append]
    refine cj_seq ?_
    refine cj_regionG (gj_step (y_lss rfl rfl) rfl rfl rfl (gj_nil ?_))
    refine ej_th (cj_seq ?_)
    refine cj_cond rfl (fun h34 => ?_) (fun h34 => ?_)
    · have h34b := h34
      try simp only [sxb] at h34
      obtain ⟨r, hx⟩ : ∃ r, lad[k]? = some r := ⟨_, List.getElem?_eq_getElem (by omega)⟩
      rw [ladG_drop lad k r hx] at hsk
      have hgr : lad.getD k default = r := by rw [List.getD_eq_getElem?_getD, hx]; rfl
      have hV := step_V lad k r hk
      refine cj_skip (ej_th (cj_seq (cj_block (cj_seq (cj_region ?_)))))
      refine oj_step (y_move rfl) rfl rfl rfl ?_
      refine oj_step (y_ixR (reads_sl) Try.underlying22 Try.sizeOf81 rfl rfl (⟨by omega, by omega⟩)) rfl rfl rfl ?_
      refine oj_step (y_ldW (reads_sl) Try.isAgg81 Try.sizeOf81 rfl (hx) (fun _ => rfl)) rfl rfl rfl ?_
      refine oj_alloc Try.zeroValue81 rfl rfl (fun b4 => ?_)
      refine oj_step (y_assign rfl) rfl rfl rfl ?_
      refine oj_store rfl rfl rfl rfl Try.sizeOf81 rfl ?_
      refine oj_nil ?_
      refine ej_th (cj_seq ?_)
      refine cj_draw (by kernel_rfl) (by kernel_rfl) ?_
      refine gj_step (y_fa fa81_1 rfl) rfl rfl rfl (gj_step (y_load1 Try.isAgg3 rfl rfl) rfl rfl rfl (?_))
      refine gj_step (y_call Try.call49 rfl (fun w hp => k_within _ _ _ w)) rfl rfl rfl ?_
      refine gj_step (y_not rfl) rfl rfl rfl (gj_step (y_move rfl) rfl rfl rfl (?_))
      refine gj_g 16 42 58 rfl rfl rfl rfl (fun hg42 => gj_yes rfl rfl rfl (y_move rfl) rfl rfl (gj_yes rfl rfl rfl (y_gtr rfl rfl) rfl rfl (gj_yes rfl rfl rfl (y_move rfl) rfl rfl (gj_g 12 45 57 rfl rfl rfl rfl (fun hg45 => gj_yes rfl rfl rfl (y_fa0 fa81_0 rfl) rfl rfl (gj_yes rfl rfl rfl (y_load1 Try.isAgg3 rfl rfl) rfl rfl (gj_yes rfl rfl rfl (y_fa fa24_2 rfl) rfl rfl (gj_yes rfl rfl rfl (y_load1 Try.isAgg22 rfl rfl) rfl rfl (gj_yes rfl rfl rfl (y_move rfl) rfl rfl (gj_yes rfl rfl rfl (y_sub rfl rfl (by omega)) rfl rfl (gj_yes rfl rfl rfl (y_ixR (reads_sl) Try.underlying22 Try.sizeOf81 rfl rfl (⟨by have := hg45; simp only [sxb] at this; omega, by have := hg45; simp only [sxb] at this; omega⟩)) rfl rfl (gj_yes rfl rfl rfl (y_faE fa81_0 rfl) rfl rfl (gj_yes rfl rfl rfl (y_ld1 (reads_sl) Try.isAgg3 rfl (geq default (by have := hg45; simp only [sxb] at this; omega)) rfl) rfl rfl (gj_yes rfl rfl rfl (y_add rfl rfl (by have := hpv ((k : Int) - 1).toNat (by have := hg45; simp only [sxb] at this; omega); omega)) rfl rfl (gj_yes rfl rfl rfl (y_call Try.call49 rfl (fun w hp => k_within _ _ _ w)) rfl rfl (gj_yes rfl rfl rfl (y_not rfl) rfl rfl (gj_nil rfl))))))))))))) (gj_yes rfl rfl rfl (y_and rfl rfl rfl) rfl rfl (gj_nil rfl)))))) ?_
      refine gj_step (y_or rfl rfl rfl) rfl rfl rfl (?_)
      refine gj_nil ?_
      refine ej_th ?_
      refine cj_cond rfl (fun h59 => ?_) (fun h59 => ?_)
      · have h59b := h59
        try simp only [sxb] at h59
        rw [hV] at h59b
        refine cj_seq ?_
        refine cj_regionG (gj_step (y_assign rfl) rfl rfl rfl (gj_nil ?_))
        refine ej_th (cj_ret (ej_blk_ret (ej_then_ret (ej_then_ret (ej_blk_ret (ej_then_ret ?_))))))
        refine ej_ret1 rfl Try.results17 rfl (fun w' hp => ⟨?_, hp.below⟩)
        rw [lotE, lotB_H, hyes, ← hsk, not_t h59b]; rfl
      · have h59b := h59
        try simp only [sxb] at h59
        rw [hV] at h59b
        have hstep := not_f h59b
        have hfr : 0 ≤ r.fr ∧ r.fr ≤ 100000 := step_fr hx hstep hpv hz
        refine cj_skip (ej_blk (ej_th ?_))
        refine cj_regionG (gj_step (y_add rfl rfl (by omega)) rfl rfl rfl (gj_step (y_move rfl) rfl rfl rfl (gj_nil ?_)))
        refine ej_nx (k + 1) (by omega) ⟨by omega, fun j hj => ?_, by rw [← hsk, hstep, Bool.true_and]⟩ ⟨rfl, rfl, rfl, rfl, trivial⟩
        by_cases e : j = k
        · rw [e, hgr]; exact hfr
        · exact hpv j (by omega)
    · have h34b := h34
      try simp only [sxb] at h34
      refine cj_exit (ej_then_exit (ej_then_exit (ej_blk_hit (ej_th (cj_seq ?_)))))
      refine cj_regionG (gj_step (y_assign rfl) rfl rfl rfl (gj_nil ?_))
      refine ej_th (cj_ret ?_)
      refine ej_ret1 rfl Try.results17 rfl (fun w' hp => ⟨?_, hp.below⟩)
      rw [lotE, lotB_H, hyes, ← hsk, List.drop_of_length_le (by omega)]; rfl

theorem k_rungs1 (st rv : Int) (lad : List RiseV) (Al : Option Addr) (cl : Nat) (bx : Nat) (fp : Nat → Prop) (hok : LotOk st rv lad) : IterX Try.prog 105 #[.pointer (some ⟨bx, 0, none⟩)] (fun p : Int => [.int .i64 p]) (rgL lad st) [ownB bx (cellsB 85 [.int .i64 st, .int .i64 rv, .slice Al lad.length cl]), sl fp 2 encRi Al lad] := by
  intro l J Jx w hgr hadd hdrop hfacts hgrx hdrx hfx hround hJ0
  have hst := hok.st
  have hl8 := hok.len
  have hll := hok.lad
  have hl1 := hll.ne
  have hlz := hll.zero
  refine enter_pure (args := [.func (.yield l) #[] #[], .pointer (some ⟨bx, 0, none⟩)]) [ownB bx (cellsB 85 [.int .i64 st, .int .i64 rv, .slice Al lad.length cl]), sl fp 2 encRi Al lad] Try.func105 rfl (by rw [Try.ntmps105]; simp) (fun g hg => hfacts [] 0 w hJ0 g (List.mem_append_left _ hg)) ?_
  refine cj_seq ?_
  refine cj_regionG (gj_step (y_assign rfl) rfl rfl rfl (gj_nil ?_))
  refine ej_th (cj_seq ?_)
  refine cj_regionG (gj_step (y_fa0 fa85_0 rfl) rfl rfl rfl (gj_step (y_fa0 fa24_0 rfl) rfl rfl rfl (gj_step (y_loadS1 Try.isAgg3 rfl rfl) rfl rfl rfl (gj_step (y_assign rfl) rfl rfl rfl (gj_nil ?_)))))
  refine ej_th (cj_block ?_)
  refine cj_loopB (X := Nat × Nat × Int) (fun ⟨k, a, p⟩ => k ≤ (rgL lad st).length ∧ (a < lad.length ∧ (lad.getD a default).fr ≤ p) ∧ (1 ≤ p ∧ p ≤ 200000) ∧ (rgL lad st).drop k = rgL lad p) (fun ⟨k, a, p⟩ => [(0, .func (.yield l) #[] #[]), (1, .pointer (some ⟨bx, 0, none⟩)), (3, .int .i64 (a : Nat)), (4, .int .i64 p)]) (fun ⟨k, a, p⟩ => fun W => J [] k W) [ownB bx (cellsB 85 [.int .i64 st, .int .i64 rv, .slice Al lad.length cl]), sl fp 2 encRi Al lad] (fun ⟨k, a, p⟩ => (200001 - p).toNat) (0, 0, st) (⟨Nat.zero_le _, ⟨by omega, by omega⟩, by omega, rfl⟩) ⟨rfl, rfl, rfl, rfl, trivial⟩ (fun w1 hp => hgr _ _ _ _ hJ0 hp.below) (fun x W h g hg => hfacts [] _ W h g (List.mem_append_left _ hg)) ?_
  rintro ⟨k, a, p⟩ W ⟨hk, ⟨hal, haf⟩, hpb, hsk⟩ hJW
  refine cj_seq (cj_seq ?_)
  refine cj_regionG (gj_step (y_move rfl) rfl rfl rfl (gj_step (y_leq rfl rfl) rfl rfl rfl (gj_nil ?_)))
  refine ej_th ?_
  refine cj_cond rfl (fun h9 => ?_) (fun h9 => ?_)
  · have h9b := h9
    try simp only [sxb] at h9
    obtain ⟨hget, hdn⟩ := rg_get hll (by omega) (by omega) hsk
    refine cj_skip (ej_th (cj_seq (cj_block (cj_seq (cj_seq (cj_region ?_))))))
    refine oj_step (y_move rfl) rfl rfl rfl ?_
    refine oj_step (y_move rfl) rfl rfl rfl ?_
    refine oj_yieldB (T := TB J Jx (k + 1)) [ownB bx (cellsB 85 [.int .i64 st, .int .i64 rv, .slice Al lad.length cl]), sl fp 2 encRi Al lad] rfl rfl rfl (fun w1 hp => hround [] k p w1 hget (hgr _ _ _ _ hJW hp.below)) rfl (fun b W h g hg => ?_) (fun b21 W21 hT21 => ?_)
    · cases b with
      | true => exact hfacts [] _ W h g (List.mem_append_left _ hg)
      | false => exact hfx [] _ W h g (List.mem_append_left _ hg)
    rotate_left
    refine oj_step (y_not rfl) rfl rfl rfl ?_
    refine oj_nil ?_
    refine ej_th ?_
    refine cj_cond rfl (fun h22 => ?_) (fun h22 => ?_)
    · have h22b := h22
      try simp only [sxb] at h22
      have hb21 : b21 = false := not_t h22b
      subst hb21
      refine cj_ret (ej_then_ret (ej_blk_ret (ej_then_ret (ej_then_ret (ej_blk_ret ?_)))))
      exact ej_ret0 rfl Try.results105 (fun w' hp => ⟨⟨_, rfl⟩, .inr ⟨k + 1, hgrx _ _ _ _ hT21 hp.below⟩⟩)
    · have h22b := h22
      try simp only [sxb] at h22
      have hb21 : b21 = true := not_f h22b
      subst hb21
      have hJ2 : J [] (k + 1) W21 := hT21
      have hkl := (List.getElem?_eq_some_iff.1 hget).1
      refine cj_skip (ej_th (cj_block ?_))
      refine cj_loopB (X := Nat) (fun b => b < lad.length ∧ (lad.getD b default).fr ≤ p) (fun b => [(0, .func (.yield l) #[] #[]), (1, .pointer (some ⟨bx, 0, none⟩)), (3, .int .i64 (b : Nat)), (4, .int .i64 p)]) (fun b => fun W => J [] (k + 1) W) [ownB bx (cellsB 85 [.int .i64 st, .int .i64 rv, .slice Al lad.length cl]), sl fp 2 encRi Al lad] (fun b => lad.length - b) a (⟨hal, haf⟩) ⟨rfl, rfl, rfl, rfl, trivial⟩ (fun w1 hp => hgr _ _ _ _ hJ2 hp.below) (fun x W h g hg => hfacts [] _ W h g (List.mem_append_left _ hg)) ?_
      rintro b W2 ⟨hbl, hbf⟩ hJW2
      refine cj_seq (cj_seq ?_)
      refine cj_regionG (gj_step (y_move rfl) rfl rfl rfl (gj_step (y_add rfl rfl (by omega)) rfl rfl rfl (gj_step (y_fa0 fa85_0 rfl) rfl rfl rfl (gj_step (y_fa fa24_2 rfl) rfl rfl rfl (gj_step (y_loadS1 Try.isAgg22 rfl rfl) rfl rfl rfl (gj_step (y_lenA Try.underlying22 rfl) rfl rfl rfl (gj_step (y_lss rfl rfl) rfl rfl rfl (gj_step (y_move rfl) rfl rfl rfl (gj_g 10 30 40 rfl rfl rfl rfl (fun hg30 => gj_yes rfl rfl rfl (y_fa0 fa85_0 rfl) rfl rfl (gj_yes rfl rfl rfl (y_fa fa24_2 rfl) rfl rfl (gj_yes rfl rfl rfl (y_loadS1 Try.isAgg22 rfl rfl) rfl rfl (gj_yes rfl rfl rfl (y_move rfl) rfl rfl (gj_yes rfl rfl rfl (y_add rfl rfl (by omega)) rfl rfl (gj_yes rfl rfl rfl (y_ixR (reads_sl) Try.underlying22 Try.sizeOf81 rfl rfl (⟨by have := hg30; simp only [sxb] at this; omega, by have := hg30; simp only [sxb] at this; omega⟩)) rfl rfl (gj_yes rfl rfl rfl (y_faE fa81_0 rfl) rfl rfl (gj_yes rfl rfl rfl (y_ld1 (reads_sl) Try.isAgg3 rfl (geq default (by have := hg30; simp only [sxb] at this; omega)) rfl) rfl rfl (gj_yes rfl rfl rfl (y_move rfl) rfl rfl (gj_yes rfl rfl rfl (y_leq rfl rfl) rfl rfl (gj_nil rfl))))))))))) (gj_step (y_and rfl rfl rfl) rfl rfl rfl (gj_nil ?_)))))))))))
      refine ej_th ?_
      refine cj_cond rfl (fun h41 => ?_) (fun h41 => ?_)
      · have h41b := h41
        try simp only [sxb] at h41
        rw [show (((b : Nat) : Int) + 1).toNat = b + 1 by omega] at h41b
        simp only [sxb] at h41b
        refine cj_skip (ej_th (cj_block ?_))
        refine cj_regionG (gj_step (y_move rfl) rfl rfl rfl (gj_step (y_add rfl rfl (by omega)) rfl rfl rfl (gj_step (y_assign rfl) rfl rfl rfl (gj_nil ?_))))
        refine ej_blk ?_
        rw [show ((b : Nat) : Int) + 1 = ((b + 1 : Nat) : Int) by omega]
        exact ej_nxB (b + 1) (by omega) ⟨by omega, by omega⟩ ⟨rfl, rfl, rfl, rfl, trivial⟩ (fun w1 hg => hgr _ _ _ _ hJW2 hg)
      · have h41b := h41
        try simp only [sxb] at h41
        rw [show (((b : Nat) : Int) + 1).toNat = b + 1 by omega] at h41b
        simp only [sxb] at h41b
        refine cj_exit (ej_then_exit (ej_then_exit (ej_blk_hit (ej_blk (ej_th ?_)))))
        refine cj_regionG (gj_step (y_move rfl) rfl rfl rfl (gj_step (y_fa0 fa85_0 rfl) rfl rfl rfl (gj_step (y_fa fa24_2 rfl) rfl rfl rfl (gj_step (y_loadS1 Try.isAgg22 rfl rfl) rfl rfl rfl (gj_step (y_move rfl) rfl rfl rfl (gj_step (y_ixR (reads_sl) Try.underlying22 Try.sizeOf81 rfl rfl (⟨by omega, by omega⟩)) rfl rfl rfl (gj_step (y_faE fa81_1 rfl) rfl rfl rfl (gj_step (y_ld1 (reads_sl) Try.isAgg3 rfl (geq default (by omega)) rfl) rfl rfl rfl (gj_step (y_add rfl rfl (by have := (hll.by1 _ (getD_mem (d := default) (by omega : b < lad.length))); rw [show ((b : Nat) : Int).toNat = b by omega]; omega)) rfl rfl rfl (gj_step (y_assign rfl) rfl rfl rfl (gj_nil ?_)))))))))))
        have hnx := at_next hll hbl hbf (fun h => by omega)
        have hby := byR_bd hll (p := p) (by omega)
        have hnp : nx lad p = p + byR lad p := rfl
        rw [show ((b : Nat) : Int).toNat = b by omega, hnx]
        exact ej_nxB (k + 1, b, nx lad p) (by first | omega | (simp only; omega)) ⟨by first | omega | (simp only; omega), ⟨hbl, by first | omega | (simp only; omega)⟩, by first | omega | (simp only; omega), hdn⟩ ⟨rfl, rfl, rfl, rfl, trivial⟩ (fun w1 hg => hgr _ _ _ _ hJW2 hg)
  · have h9b := h9
    try simp only [sxb] at h9
    have hke := rg_end hll (by omega) (by omega) hk hsk
    subst hke
    refine cj_exit (ej_then_exit (ej_then_exit (ej_blk_hit ?_)))
    exact ej_end0 rfl Try.results105 (fun w' hp => ⟨⟨_, rfl⟩, .inl (hgr _ _ _ _ hJW hp.below)⟩)

theorem k_rungs (st rv : Int) (lad : List RiseV) (Al : Option Addr) (cl : Nat) (w : World)  : Calls Try.prog 90 #[.agg #[.int .i64 st, .int .i64 rv, .slice Al lad.length cl]] w (fun e w' => ∃ x : Nat, e = .returned (.func (.func 105) #[] #[.pointer (some ⟨x, 0, none⟩)]) ∧ Grow w w' ∧ (∀ g ∈ ([] : List Fact), g.P w' ∧ ∀ b, g.fp b → w.heap.size ≤ b ∧ b < w'.heap.size) ∧ ([] : List Fact).Pairwise (fun f g => ∀ b, f.fp b → ¬ g.fp b) ∧ (∀ g ∈ [ownB x (cellsB 85 [.int .i64 st, .int .i64 rv, .slice Al lad.length cl])], g.P w' ∧ ∀ b, g.fp b → w.heap.size ≤ b ∧ b < w'.heap.size ∧ ∀ o ∈ ([] : List Fact), ¬ o.fp b)) := by
  refine enter_pure (args := [.agg #[.int .i64 st, .int .i64 rv, .slice Al lad.length cl]]) [] Try.func90 rfl (by rw [Try.ntmps90]; simp) (by simp) ?_
  refine cj_seq (cj_region ?_)
  refine oj_box rfl rfl rfl (fun b1 => ?_)
  refine oj_step (y_assign rfl) rfl rfl rfl ?_
  refine oj_nil ?_
  refine ej_th (cj_seq ?_)
  refine cj_regionG (gj_step (y_makeFunc rfl rfl) rfl rfl rfl (gj_step (y_assign rfl) rfl rfl rfl (gj_nil ?_)))
  refine ej_th (cj_ret ?_)
  exact ej_ret1 rfl Try.results90 rfl (fun w' hp => ⟨b1, rfl, hp.below, by simp, List.Pairwise.nil, fun g hg => ⟨(hp.own g hg).1, fun b hb => ⟨Nat.le_of_not_lt ((hp.own g hg).2 b hb).2, ((hp.own g hg).2 b hb).1, by simp⟩⟩⟩)

theorem k_rung (st rv : Int) (lad : List RiseV) (Al : Option Addr) (cl : Nat) (n : Int) (w : World) (hlad : Rd w 2 encRi Al lad) (hok : LotOk st rv lad) : Calls Try.prog 47 #[.agg #[.int .i64 st, .int .i64 rv, .slice Al lad.length cl], .int .i64 n] w (fun e w' => e = .returned (.int .i64 (rungR st lad n)) ∧ Grow w w') := by
  refine enter_pureM (args := [.agg #[.int .i64 st, .int .i64 rv, .slice Al lad.length cl], .int .i64 n]) [sl (fun b => b < w.heap.size) 2 encRi Al lad] Try.func47 rfl (by rw [Try.ntmps47]; simp) (fun g hg => by simp at hg; subst hg; exact ⟨hlad, fun _ h => h⟩) ?_
  refine cj_seq (cj_region ?_)
  refine oj_box rfl rfl rfl (fun b2 => ?_)
  refine oj_box rfl rfl rfl (fun b3 => ?_)
  refine oj_step (y_assign rfl) rfl rfl rfl ?_
  refine oj_nil ?_
  refine ej_th (cj_seq (cj_region ?_))
  refine oj_alloc Try.zeroValue3 rfl rfl (fun b5 => ?_)
  refine oj_store rfl rfl rfl rfl Try.sizeOf3 rfl ?_
  refine oj_nil ?_
  refine ej_th (cj_seq (cj_seq (cj_region ?_)))
  refine oj_step (y_loadN Try.isAgg85 Try.sizeOf85 rfl) rfl rfl rfl ?_
  refine oj_call (X := Nat) (fun z => .func (.func 105) #[] #[.pointer (some ⟨z, 0, none⟩)]) (fun _ => []) (fun z => [ownB z (cellsB 85 [.int .i64 st, .int .i64 rv, .slice Al lad.length cl])]) Try.call90 rfl (fun w hp => k_rungs st rv lad Al cl w) rfl (fun bx => ?_)
  dsimp only [List.nil_append, List.cons_append]
  refine oj_nil ?_
  refine ej_th (cj_block ?_)
  refine cj_rangeX (k_rungs1 st rv lad Al cl bx (fun b => b < w.heap.size) hok) (Y := Int) (Z := Unit) (fun k y => rungF n ((rgL lad st).drop k) y = rungF n (rgL lad st) 0) (fun _ y => [ownB b5 (cellsB 3 [.int .i64 y]), ownB b3 (cellsB 3 [.int .i64 n]), ownB b2 (cellsB 85 [.int .i64 st, .int .i64 rv, .slice Al lad.length cl])]) (fun _ => .exit 0) (fun _ => [ownB b5 (cellsB 3 [.int .i64 (rungF n (rgL lad st) 0)]), ownB b3 (cellsB 3 [.int .i64 n]), ownB b2 (cellsB 85 [.int .i64 st, .int .i64 rv, .slice Al lad.length cl])]) (0 : Int) rfl rfl Try.call105 (fun _ => rfl) rfl ?_ ?_ ?_
  · rintro Xs lo Db r0 r1 k p y hp9 hy
    rw [rungF_drop n y _ k p hp9] at hy
    dsimp only [List.cons_append, List.nil_append]
    refine cj_regionG (gj_step (y_assign rfl) rfl rfl rfl (gj_nil ?_))
    refine ej_beg (cj_block (cj_seq (cj_seq ?_)))
    refine cj_regionG (gj_step (y_move rfl) rfl rfl rfl (gj_step (y_load1 Try.isAgg3 rfl rfl) rfl rfl rfl (gj_step (y_gtr rfl rfl) rfl rfl rfl (gj_nil ?_))))
    refine ej_th ?_
    refine cj_cond rfl (fun h12 => ?_) (fun h12 => ?_)
    · have h12b := h12
      try simp only [sxb] at h12
      refine cj_exit (ej_then_exit (ej_blk_pass rfl ?_))
      rw [if_pos (by omega)] at hy
      subst hy
      exact ej_rdx () rfl
    · have h12b := h12
      try simp only [sxb] at h12
      refine cj_skip (ej_th (cj_region ?_))
      refine oj_step (y_move rfl) rfl rfl rfl ?_
      refine oj_store rfl rfl rfl rfl Try.sizeOf3 rfl ?_
      refine oj_nil ?_
      refine ej_blk ?_
      rw [if_neg (by omega)] at hy
      exact ej_rd p hy
  · rintro Db y hy
    rw [List.drop_of_length_le (Nat.le_refl _)] at hy
    have hy2 : y = rungF n (rgL lad st) 0 := hy
    subst hy2
    refine ej_blk (ej_th (cj_seq ?_))
    refine cj_regionG (gj_step (y_load1 Try.isAgg3 rfl rfl) rfl rfl rfl (gj_step (y_assign rfl) rfl rfl rfl (gj_nil ?_)))
    refine ej_th (cj_ret ?_)
    exact ej_retM1 rfl Try.results47 rfl (fun w' hp => ⟨rfl, hp.below⟩)
  · rintro Db -
    refine cj_exit (ej_blk_hit (ej_th (cj_seq ?_)))
    refine cj_regionG (gj_step (y_load1 Try.isAgg3 rfl rfl) rfl rfl rfl (gj_step (y_assign rfl) rfl rfl rfl (gj_nil ?_)))
    refine ej_th (cj_ret ?_)
    exact ej_retM1 rfl Try.results47 rfl (fun w' hp => ⟨rfl, hp.below⟩)

theorem k_behind (st rv : Int) (lad : List RiseV) (Al : Option Addr) (cl : Nat) (n : Int) (w : World) (hlad : Rd w 2 encRi Al lad) (hok : LotOk st rv lad) : Calls Try.prog 50 #[.agg #[.int .i64 st, .int .i64 rv, .slice Al lad.length cl], .int .i64 n] w (fun e w' => e = .returned (.int .i64 (behF n (rgL lad st))) ∧ Grow w w') := by
  refine enter_pureM (args := [.agg #[.int .i64 st, .int .i64 rv, .slice Al lad.length cl], .int .i64 n]) [sl (fun b => b < w.heap.size) 2 encRi Al lad] Try.func50 rfl (by rw [Try.ntmps50]; simp) (fun g hg => by simp at hg; subst hg; exact ⟨hlad, fun _ h => h⟩) ?_
  refine cj_seq (cj_region ?_)
  refine oj_box rfl rfl rfl (fun b2 => ?_)
  refine oj_box rfl rfl rfl (fun b3 => ?_)
  refine oj_alloc Try.zeroValue3 rfl rfl (fun b4 => ?_)
  refine oj_nil ?_
  refine ej_th (cj_seq (cj_seq (cj_region ?_)))
  refine oj_step (y_loadN Try.isAgg85 Try.sizeOf85 rfl) rfl rfl rfl ?_
  refine oj_call (X := Nat) (fun z => .func (.func 105) #[] #[.pointer (some ⟨z, 0, none⟩)]) (fun _ => []) (fun z => [ownB z (cellsB 85 [.int .i64 st, .int .i64 rv, .slice Al lad.length cl])]) Try.call90 rfl (fun w hp => k_rungs st rv lad Al cl w) rfl (fun bx => ?_)
  dsimp only [List.nil_append, List.cons_append]
  refine oj_nil ?_
  refine ej_th (cj_block ?_)
  refine cj_rangeX (k_rungs1 st rv lad Al cl bx (fun b => b < w.heap.size) hok) (Y := Unit) (Z := Unit) (fun k _ => behF n ((rgL lad st).drop k) = behF n (rgL lad st)) (fun _ _ => [ownB b4 (cellsB 3 [.int .i64 0]), ownB b3 (cellsB 3 [.int .i64 n]), ownB b2 (cellsB 85 [.int .i64 st, .int .i64 rv, .slice Al lad.length cl])]) (fun _ => .ret) (fun _ => [ownB b4 (cellsB 3 [.int .i64 (behF n (rgL lad st))]), ownB b3 (cellsB 3 [.int .i64 n]), ownB b2 (cellsB 85 [.int .i64 st, .int .i64 rv, .slice Al lad.length cl])]) () rfl rfl Try.call105 (fun _ => rfl) rfl ?_ ?_ ?_
  · rintro Xs lo Db r0 r1 k p - hp9 hy
    rw [behF_drop n _ k p hp9] at hy
    dsimp only [List.cons_append, List.nil_append]
    refine cj_regionG (gj_step (y_assign rfl) rfl rfl rfl (gj_nil ?_))
    refine ej_beg (cj_block (cj_seq ?_))
    refine cj_regionG (gj_step (y_move rfl) rfl rfl rfl (gj_step (y_load1 Try.isAgg3 rfl rfl) rfl rfl rfl (gj_step (y_gtr rfl rfl) rfl rfl rfl (gj_nil ?_))))
    refine ej_th ?_
    refine cj_cond rfl (fun h11 => ?_) (fun h11 => ?_)
    · have h11b := h11
      try simp only [sxb] at h11
      refine cj_seq (cj_region ?_)
      refine oj_step (y_move rfl) rfl rfl rfl ?_
      refine oj_store rfl rfl rfl rfl Try.sizeOf3 rfl ?_
      refine oj_nil ?_
      refine ej_th (cj_ret (ej_blk_ret ?_))
      rw [if_pos (by omega)] at hy
      subst hy
      exact ej_rdr () rfl
    · have h11b := h11
      try simp only [sxb] at h11
      refine cj_skip (ej_blk ?_)
      rw [if_neg (by omega)] at hy
      exact ej_rd () hy
  · rintro Db - hy
    rw [List.drop_of_length_le (Nat.le_refl _)] at hy
    have hy2 : behF n (rgL lad st) = 0 := hy.symm
    refine ej_blk (ej_th (cj_seq (cj_region ?_)))
    refine oj_store rfl rfl rfl rfl Try.sizeOf3 rfl ?_
    refine oj_nil ?_
    refine ej_th (cj_ret ?_)
    exact ej_retMc1 rfl Try.results50 rfl (y_load1 Try.isAgg3 rfl rfl) (fun w' hp => ⟨by rw [hy2], hp.below⟩)
  · rintro Db -
    refine cj_ret (ej_blk_ret (ej_then_ret ?_))
    exact ej_retMc1 rfl Try.results50 rfl (y_load1 Try.isAgg3 rfl rfl) (fun w' hp => ⟨rfl, hp.below⟩)

end Go.Proofs.Ytehmifpofpifkaa
namespace Go.Proofs.Ytehmifpofpifkaa
open Go.Sx Go.RowKit
set_option maxRecDepth 20000
theorem st85 : StructIs Try.prog 85 [(0, 3)] [.int .i64 0, .int .i64 0, .slice none 0 0] := ⟨⟨_, Try.underlying85, fun w => by simp [Try.sizeOf24], Try.zeroValue85⟩⟩
end Go.Proofs.Ytehmifpofpifkaa
namespace Go.Proofs.Ytehmifpofpifkaa
open Go.Sx Go.RowKit Am
set_option maxRecDepth 20000
theorem k_Rung (st rv : Int) (lad : List RiseV) (Al : Option Addr) (cl : Nat) (n : Int) (w : World) (hlad : Rd w 2 encRi Al lad) : Calls Try.prog 15 #[.agg #[.int .i64 st, .int .i64 rv, .slice Al lad.length cl], .int .i64 n] w (fun e w' => e = .returned (.tuple #[.int .i64 (RungV st rv lad n), .int .i64 (RungE st rv lad n)]) ∧ Grow w w') := by
  refine enter_pure (args := [.agg #[.int .i64 st, .int .i64 rv, .slice Al lad.length cl], .int .i64 n]) [sl (fun b => b < w.heap.size) 2 encRi Al lad] Try.func15 rfl (by rw [Try.ntmps15]; simp) (fun g hg => by simp at hg; subst hg; exact ⟨hlad, fun _ h => h⟩) ?_
  refine cj_seq (cj_region ?_)
  refine oj_box rfl rfl rfl (fun b2 => ?_)
  refine oj_step (y_assign rfl) rfl rfl rfl ?_
  refine oj_step (y_assign rfl) rfl rfl rfl ?_
  refine oj_nil ?_
  refine ej_th (cj_seq (cj_seq ?_))
  refine cj_regionG ?_
  refine gj_step (y_loadN Try.isAgg24 Try.sizeOf24 rfl) rfl rfl rfl (?_)
  refine gj_step (y_call Try.call17 rfl (fun w hp => k_Check st rv lad Al cl w hp.rd)) rfl rfl rfl ?_
  refine gj_step (y_assign rfl) rfl rfl rfl (?_)
  refine gj_nil ?_
  refine ej_th (cj_seq ?_)
  refine cj_regionG (gj_step (y_move rfl) rfl rfl rfl (gj_step (y_neq rfl rfl) rfl rfl rfl (gj_nil ?_)))
  refine ej_th ?_
  refine cj_cond rfl (fun h11 => ?_) (fun h11 => ?_)
  · have h11b := h11
    try simp only [sxb] at h11
    have hno := lotE_no h11b
    refine cj_seq ?_
    refine cj_regionG (gj_step (y_move rfl) rfl rfl rfl (gj_step (y_assign rfl) rfl rfl rfl (gj_step (y_assign rfl) rfl rfl rfl (gj_nil ?_))))
    refine ej_th (cj_ret (ej_then_ret ?_))
    refine ej_ret2 rfl Try.results15 rfl rfl (fun w' hp => ⟨?_, hp.below⟩)
    rw [RungV, RungE, hno, lotE, hno]; rfl
  · have h11b := h11
    try simp only [sxb] at h11
    have hyes := lotE_0 h11b
    have hok := lot_ok hyes
    have hbd := rung_bd hok n
    refine cj_skip (ej_th (cj_seq (cj_seq ?_)))
    refine cj_regionG ?_
    refine gj_step (y_loadN Try.isAgg24 Try.sizeOf24 rfl) rfl rfl rfl (gj_step (y_build st85 rfl rfl) rfl rfl rfl (gj_step (y_move rfl) rfl rfl rfl (?_)))
    refine gj_step (y_call Try.call47 rfl (fun w hp => k_rung st rv lad Al cl n w hp.rd hok)) rfl rfl rfl ?_
    refine gj_step (y_assign rfl) rfl rfl rfl (?_)
    refine gj_nil ?_
    refine ej_th (cj_seq ?_)
    refine cj_regionG (gj_step (y_move rfl) rfl rfl rfl (gj_step (y_gtr rfl rfl) rfl rfl rfl (gj_nil ?_)))
    refine ej_th ?_
    refine cj_cond rfl (fun h18 => ?_) (fun h18 => ?_)
    · have h18b := h18
      try simp only [sxb] at h18
      refine cj_seq ?_
      refine cj_regionG (gj_step (y_move rfl) rfl rfl rfl (gj_step (y_assign rfl) rfl rfl rfl (gj_step (y_assign rfl) rfl rfl rfl (gj_nil ?_))))
      refine ej_th (cj_ret (ej_then_ret ?_))
      refine ej_ret2 rfl Try.results15 rfl rfl (fun w' hp => ⟨?_, hp.below⟩)
      rw [RungV, RungE, hyes, if_pos rfl, if_pos rfl, if_pos h18]
    · have h18b := h18
      try simp only [sxb] at h18
      refine cj_skip (ej_th (cj_seq ?_))
      refine cj_regionG (gj_step (y_assign rfl) rfl rfl rfl (gj_step (y_assign rfl) rfl rfl rfl (gj_nil ?_)))
      refine ej_th (cj_ret ?_)
      refine ej_ret2 rfl Try.results15 rfl rfl (fun w' hp => ⟨?_, hp.below⟩)
      rw [RungV, RungE, hyes, if_pos rfl, if_pos rfl, if_neg (by omega), show rungR st lad n = 0 by omega]

theorem k_Next (st rv : Int) (lad : List RiseV) (Al : Option Addr) (cl : Nat) (n : Int) (w : World) (hlad : Rd w 2 encRi Al lad) : Calls Try.prog 19 #[.agg #[.int .i64 st, .int .i64 rv, .slice Al lad.length cl], .int .i64 n] w (fun e w' => e = .returned (.tuple #[.int .i64 (NextV st rv lad n), .int .i64 (NextE st rv lad n)]) ∧ Grow w w') := by
  refine enter_pure (args := [.agg #[.int .i64 st, .int .i64 rv, .slice Al lad.length cl], .int .i64 n]) [sl (fun b => b < w.heap.size) 2 encRi Al lad] Try.func19 rfl (by rw [Try.ntmps19]; simp) (fun g hg => by simp at hg; subst hg; exact ⟨hlad, fun _ h => h⟩) ?_
  refine cj_seq (cj_region ?_)
  refine oj_box rfl rfl rfl (fun b2 => ?_)
  refine oj_step (y_assign rfl) rfl rfl rfl ?_
  refine oj_step (y_assign rfl) rfl rfl rfl ?_
  refine oj_nil ?_
  refine ej_th (cj_seq ?_)
  refine cj_regionG ?_
  refine gj_step (y_loadN Try.isAgg24 Try.sizeOf24 rfl) rfl rfl rfl (gj_step (y_move rfl) rfl rfl rfl (?_))
  refine gj_step (y_call Try.call15 rfl (fun w hp => k_Rung st rv lad Al cl n w hp.rd)) rfl rfl rfl ?_
  refine gj_step (y_move rfl) rfl rfl rfl (gj_step (y_extract rfl rfl) rfl rfl rfl (gj_step (y_extract rfl rfl) rfl rfl rfl (gj_step (y_assign rfl) rfl rfl rfl (gj_step (y_assign rfl) rfl rfl rfl (?_)))))
  refine gj_nil ?_
  refine ej_th (cj_seq (cj_seq ?_))
  refine cj_regionG (gj_step (y_move rfl) rfl rfl rfl (gj_step (y_eql rfl rfl) rfl rfl rfl (gj_nil ?_)))
  refine ej_th ?_
  refine cj_cond rfl (fun h16 => ?_) (fun h16 => ?_)
  · have h16b := h16
    try simp only [sxb] at h16
    have hno := rungE_60 h16b
    refine cj_seq ?_
    refine cj_regionG (gj_step (y_move rfl) rfl rfl rfl (gj_step (y_assign rfl) rfl rfl rfl (gj_step (y_assign rfl) rfl rfl rfl (gj_nil ?_))))
    refine ej_th (cj_ret (ej_then_ret ?_))
    refine ej_ret2 rfl Try.results19 rfl rfl (fun w' hp => ⟨?_, hp.below⟩)
    rw [NextV, NextE, RungE, hno]; rfl
  · have h16b := h16
    try simp only [sxb] at h16
    have hyes := rungE_ok h16b
    have hok := lot_ok hyes
    have hbd := rung_bd hok n
    have hbb := beh_bd hok n
    refine cj_skip (ej_th (cj_seq (cj_seq ?_)))
    refine cj_regionG (gj_step (y_move rfl) rfl rfl rfl (gj_step (y_neq rfl rfl) rfl rfl rfl (gj_step (y_move rfl) rfl rfl rfl (gj_g 3 20 23 rfl rfl rfl rfl (fun hg20 => gj_yes rfl rfl rfl (y_move rfl) rfl rfl (gj_yes rfl rfl rfl (y_move rfl) rfl rfl (gj_yes rfl rfl rfl (y_neq rfl rfl) rfl rfl (gj_nil rfl)))) (gj_step (y_or rfl rfl rfl) rfl rfl rfl (gj_nil ?_))))))
    refine ej_th ?_
    refine cj_cond rfl (fun h24 => ?_) (fun h24 => ?_)
    · have h24b := h24
      try simp only [sxb] at h24
      have hn := next_no hyes h24b
      refine cj_seq ?_
      refine cj_regionG (gj_step (y_assign rfl) rfl rfl rfl (gj_step (y_assign rfl) rfl rfl rfl (gj_nil ?_)))
      refine ej_th (cj_ret (ej_then_ret ?_))
      refine ej_ret2 rfl Try.results19 rfl rfl (fun w' hp => ⟨?_, hp.below⟩)
      rw [NextV, NextE, hyes, if_neg (fun h => hn h.2), if_pos rfl, if_neg hn]
    · have h24b := h24
      try simp only [sxb] at h24
      have hn := next_yes hyes h24b
      refine cj_skip (ej_th (cj_seq (cj_seq ?_)))
      refine cj_regionG ?_
      refine gj_step (y_loadN Try.isAgg24 Try.sizeOf24 rfl) rfl rfl rfl (gj_step (y_build st85 rfl rfl) rfl rfl rfl (gj_step (y_move rfl) rfl rfl rfl (?_)))
      refine gj_step (y_call Try.call50 rfl (fun w hp => k_behind st rv lad Al cl n w hp.rd hok)) rfl rfl rfl ?_
      refine gj_step (y_assign rfl) rfl rfl rfl (?_)
      refine gj_nil ?_
      refine ej_th (cj_seq ?_)
      refine cj_regionG (gj_step (y_move rfl) rfl rfl rfl (gj_step (y_gtr rfl rfl) rfl rfl rfl (gj_nil ?_)))
      refine ej_th ?_
      refine cj_cond rfl (fun h30 => ?_) (fun h30 => ?_)
      · have h30b := h30
        try simp only [sxb] at h30
        refine cj_seq ?_
        refine cj_regionG (gj_step (y_move rfl) rfl rfl rfl (gj_step (y_assign rfl) rfl rfl rfl (gj_step (y_assign rfl) rfl rfl rfl (gj_nil ?_))))
        refine ej_th (cj_ret (ej_then_ret ?_))
        refine ej_ret2 rfl Try.results19 rfl rfl (fun w' hp => ⟨?_, hp.below⟩)
        rw [NextV, NextE, hyes, if_pos ⟨rfl, hn⟩, if_pos rfl, if_pos hn, if_pos h30]
      · have h30b := h30
        try simp only [sxb] at h30
        refine cj_skip (ej_th (cj_seq ?_))
        refine cj_regionG (gj_step (y_assign rfl) rfl rfl rfl (gj_step (y_assign rfl) rfl rfl rfl (gj_nil ?_)))
        refine ej_th (cj_ret ?_)
        refine ej_ret2 rfl Try.results19 rfl rfl (fun w' hp => ⟨?_, hp.below⟩)
        rw [NextV, NextE, hyes, if_pos ⟨rfl, hn⟩, if_pos rfl, if_pos hn, if_neg (by omega), show behF n (rgL lad st) = 0 by omega]

theorem k_rCheck (st rv : Int) (lad : List RiseV) (Al : Option Addr) (cl : Nat) (w : World) (hlad : Rd w 2 encRi Al lad) : Calls Try.prog 18 #[.agg #[.int .i64 st, .int .i64 rv, .slice Al lad.length cl]] w (fun e w' => e = .returned (.int .i64 (lotE st rv lad)) ∧ Grow w w') := by
  have hlen := hlad.len
  refine enter_pure (args := [.agg #[.int .i64 st, .int .i64 rv, .slice Al lad.length cl]]) [sl (fun b => b < w.heap.size) 2 encRi Al lad] Try.func18 rfl (by rw [Try.ntmps18]; simp) (fun g hg => by simp at hg; subst hg; exact ⟨hlad, fun _ h => h⟩) ?_
  refine cj_seq (cj_region ?_)
  refine oj_box rfl rfl rfl (fun b1 => ?_)
  refine oj_step (y_assign rfl) rfl rfl rfl ?_
  refine oj_nil ?_
  refine ej_th (cj_seq ?_)
  refine cj_regionG ?_
  refine gj_step (y_fa0 fa24_0 rfl) rfl rfl rfl (gj_step (y_load1 Try.isAgg3 rfl rfl) rfl rfl rfl (?_))
  refine gj_step (y_call Try.call35 rfl (fun w hp => k_From _ _ _ w)) rfl rfl rfl ?_
  refine gj_step (y_move rfl) rfl rfl rfl (?_)
  refine gj_g 3 9 12 rfl rfl rfl rfl (fun hg9 => gj_yes rfl rfl rfl (y_fa fa24_1 rfl) rfl rfl (gj_yes rfl rfl rfl (y_load1 Try.isAgg3 rfl rfl) rfl rfl (gj_yes rfl rfl rfl (y_call Try.call35 rfl (fun w hp => k_From _ _ _ w)) rfl rfl (gj_nil rfl)))) ?_
  refine gj_step (y_and rfl rfl rfl) rfl rfl rfl (gj_step (y_move rfl) rfl rfl rfl (?_))
  refine gj_g 4 14 18 rfl rfl rfl rfl (fun hg14 => gj_yes rfl rfl rfl (y_fa fa24_2 rfl) rfl rfl (gj_yes rfl rfl rfl (y_load1 Try.isAgg22 rfl rfl) rfl rfl (gj_yes rfl rfl rfl (y_lenA Try.underlying22 rfl) rfl rfl (gj_yes rfl rfl rfl (y_call Try.call35 rfl (fun w hp => k_From _ _ _ w)) rfl rfl (gj_nil rfl))))) ?_
  refine gj_step (y_and rfl rfl rfl) rfl rfl rfl (gj_step (y_assign rfl) rfl rfl rfl (?_))
  refine gj_nil ?_
  refine ej_th (cj_seq (cj_seq ?_))
  refine cj_regionG (gj_step (y_assign rfl) rfl rfl rfl (gj_nil ?_))
  refine ej_th (cj_block ?_)
  refine cj_lpic (X := Nat × Bool) [(1, _), (2, _)] (fun ⟨k, ok⟩ => k ≤ lad.length ∧ (ok && refG (prevAt lad k) (lad.drop k)) = (((((decide (1 ≤ st) && decide (st ≤ 100000)) && (decide (0 ≤ rv) && decide (rv ≤ 100000))) && (decide ((1 : Int) ≤ lad.length) && decide ((lad.length : Int) ≤ 8)))) && refG none lad)) (fun ⟨k, ok⟩ => [(3, .bool ok), (4, .int .i64 k)]) (fun ⟨k, ok⟩ => lad.length - k) (0, _) (⟨Nat.zero_le _, rfl⟩) ⟨rfl, rfl, rfl, rfl, trivial⟩ ?_
  rintro ⟨k, ok⟩ ⟨hk, hsk⟩
  dsimp only [List.cons_append, List.nil_append]
  refine cj_seq (cj_seq ?_)
  refine cj_regionG (gj_step (y_move rfl) rfl rfl rfl (gj_step (y_fa fa24_2 rfl) rfl rfl rfl (gj_step (y_load1 Try.isAgg22 rfl rfl) rfl rfl rfl (gj_step (y_lenA Try.underlying22 rfl) rfl rfl rfl (gj_step (y_lss rfl rfl) rfl rfl rfl (gj_nil ?_))))))
  refine ej_th ?_
  refine cj_cond rfl (fun h24 => ?_) (fun h24 => ?_)
  · have h24b := h24
    try simp only [sxb] at h24
    obtain ⟨r, hx⟩ : ∃ r, lad[k]? = some r := ⟨_, List.getElem?_eq_getElem (by omega)⟩
    rw [refG_drop lad k r hx] at hsk
    have hV := refStep_V lad k r hk ok
    have hi : (0 : Int) ≤ k ∧ (k : Int) < lad.length := by omega
    refine cj_skip (ej_th (cj_seq (cj_block (cj_seq (cj_region ?_)))))
    refine oj_step (y_fa fa24_2 rfl) rfl rfl rfl ?_
    refine oj_step (y_load1 Try.isAgg22 rfl rfl) rfl rfl rfl ?_
    refine oj_step (y_move rfl) rfl rfl rfl ?_
    refine oj_step (y_ixR (reads_sl) Try.underlying22 Try.sizeOf81 rfl rfl (hi)) rfl rfl rfl ?_
    refine oj_step (y_ldW (reads_sl) Try.isAgg81 Try.sizeOf81 rfl (hx) (fun _ => rfl)) rfl rfl rfl ?_
    refine oj_alloc Try.zeroValue81 rfl rfl (fun b5 => ?_)
    refine oj_store rfl rfl rfl rfl Try.sizeOf81 rfl ?_
    refine oj_nil ?_
    refine ej_th ?_
    refine cj_draw (by kernel_rfl) (by kernel_rfl) ?_
    refine gj_step (y_move rfl) rfl rfl rfl (gj_step (y_move rfl) rfl rfl rfl (?_))
    refine gj_g 3 33 36 rfl rfl rfl rfl (fun hg33 => gj_yes rfl rfl rfl (y_fa0 fa81_0 rfl) rfl rfl (gj_yes rfl rfl rfl (y_load1 Try.isAgg3 rfl rfl) rfl rfl (gj_yes rfl rfl rfl (y_call Try.call35 rfl (fun w hp => k_From _ _ _ w)) rfl rfl (gj_nil rfl)))) ?_
    refine gj_step (y_and rfl rfl rfl) rfl rfl rfl (gj_step (y_move rfl) rfl rfl rfl (?_))
    refine gj_g 3 38 41 rfl rfl rfl rfl (fun hg38 => gj_yes rfl rfl rfl (y_fa fa81_1 rfl) rfl rfl (gj_yes rfl rfl rfl (y_load1 Try.isAgg3 rfl rfl) rfl rfl (gj_yes rfl rfl rfl (y_call Try.call35 rfl (fun w hp => k_From _ _ _ w)) rfl rfl (gj_nil rfl)))) ?_
    refine gj_step (y_and rfl rfl rfl) rfl rfl rfl (gj_step (y_move rfl) rfl rfl rfl (?_))
    refine gj_g 7 43 50 rfl rfl rfl rfl (fun hg43 => gj_yes rfl rfl rfl (y_move rfl) rfl rfl (gj_yes rfl rfl rfl (y_gtr rfl rfl) rfl rfl (gj_yes rfl rfl rfl (y_move rfl) rfl rfl (gj_g 3 46 49 rfl rfl rfl rfl (fun hg46 => gj_yes rfl rfl rfl (y_fa0 fa81_0 rfl) rfl rfl (gj_yes rfl rfl rfl (y_load1 Try.isAgg3 rfl rfl) rfl rfl (gj_yes rfl rfl rfl (y_eql rfl rfl) rfl rfl (gj_nil rfl)))) (gj_yes rfl rfl rfl (y_or rfl rfl rfl) rfl rfl (gj_nil rfl)))))) ?_
    refine gj_step (y_and rfl rfl rfl) rfl rfl rfl (gj_step (y_move rfl) rfl rfl rfl (?_))
    refine gj_g 14 52 66 rfl rfl rfl rfl (fun hg52 => gj_yes rfl rfl rfl (y_move rfl) rfl rfl (gj_yes rfl rfl rfl (y_eql rfl rfl) rfl rfl (gj_yes rfl rfl rfl (y_move rfl) rfl rfl (gj_g 10 55 65 rfl rfl rfl rfl (fun hg55 => gj_yes rfl rfl rfl (y_fa fa24_2 rfl) rfl rfl (gj_yes rfl rfl rfl (y_load1 Try.isAgg22 rfl rfl) rfl rfl (gj_yes rfl rfl rfl (y_move rfl) rfl rfl (gj_yes rfl rfl rfl (y_sub rfl rfl (by omega)) rfl rfl (gj_yes rfl rfl rfl (y_ixR (reads_sl) Try.underlying22 Try.sizeOf81 rfl rfl (⟨by have := hg55; simp only [sxb] at this; omega, by have := hg55; simp only [sxb] at this; omega⟩)) rfl rfl (gj_yes rfl rfl rfl (y_faE fa81_0 rfl) rfl rfl (gj_yes rfl rfl rfl (y_ld1 (reads_sl) Try.isAgg3 rfl (geq default (by have := hg55; simp only [sxb] at this; omega)) rfl) rfl rfl (gj_yes rfl rfl rfl (y_fa0 fa81_0 rfl) rfl rfl (gj_yes rfl rfl rfl (y_load1 Try.isAgg3 rfl rfl) rfl rfl (gj_yes rfl rfl rfl (y_lss rfl rfl) rfl rfl (gj_nil rfl))))))))))) (gj_yes rfl rfl rfl (y_or rfl rfl rfl) rfl rfl (gj_nil rfl)))))) ?_
    refine gj_step (y_and rfl rfl rfl) rfl rfl rfl (gj_step (y_assign rfl) rfl rfl rfl (?_))
    refine gj_nil ?_
    refine ej_blk (ej_th ?_)
    refine cj_regionG (gj_step (y_move rfl) rfl rfl rfl (gj_step (y_add rfl rfl (by omega)) rfl rfl rfl (gj_step (y_assign rfl) rfl rfl rfl (gj_nil ?_))))
    rw [hV]
    exact ej_nx (k + 1, _) (by simp only; omega) ⟨by first | omega | (simp only; omega), by rw [← hsk]; cases ok <;> rfl⟩ ⟨rfl, rfl, rfl, rfl, trivial⟩
  · have h24b := h24
    try simp only [sxb] at h24
    rw [List.drop_of_length_le (by omega)] at hsk
    have hall := ref_all st rv lad
    rw [← hsk] at hall
    have hfin : ok = lotB st rv lad := by rw [← hall]; exact (Bool.and_true _).symm
    refine cj_exit (ej_then_exit (ej_then_exit (ej_blk_hit (ej_th (cj_seq (cj_seq ?_))))))
    refine cj_regionG (gj_step (y_move rfl) rfl rfl rfl (gj_step (y_not rfl) rfl rfl rfl (gj_nil ?_)))
    refine ej_th ?_
    refine cj_cond rfl (fun h69 => ?_) (fun h69 => ?_)
    · have h69b := h69
      try simp only [sxb] at h69
      have hno : lotB st rv lad = false := by rw [← hfin]; exact not_t h69b
      refine cj_seq ?_
      refine cj_regionG (gj_step (y_assign rfl) rfl rfl rfl (gj_nil ?_))
      refine ej_th (cj_ret (ej_then_ret ?_))
      refine ej_ret1 rfl Try.results18 rfl (fun w' hp => ⟨?_, hp.below⟩)
      rw [lotE, hno]; rfl
    · have h69b := h69
      try simp only [sxb] at h69
      have hyes : lotB st rv lad = true := by rw [← hfin]; exact not_f h69b
      refine cj_skip (ej_th (cj_seq ?_))
      refine cj_regionG (gj_step (y_assign rfl) rfl rfl rfl (gj_nil ?_))
      refine ej_th (cj_ret ?_)
      refine ej_ret1 rfl Try.results18 rfl (fun w' hp => ⟨?_, hp.below⟩)
      rw [lotE, hyes]; rfl

theorem k_rbehind (st rv : Int) (lad : List RiseV) (Al : Option Addr) (cl : Nat) (n : Int) (w : World) (hlad : Rd w 2 encRi Al lad) (hll : LadOk lad) (hn : 0 ≤ n ∧ n ≤ 300000) : Calls Try.prog 51 #[.agg #[.int .i64 st, .int .i64 rv, .slice Al lad.length cl], .int .i64 n] w (fun e w' => e = .returned (.int .i64 (nx lad n)) ∧ Grow w w') := by
  have hlen := hlad.len
  have hbb := byR_bd hll hn.1
  refine enter_pure (args := [.agg #[.int .i64 st, .int .i64 rv, .slice Al lad.length cl], .int .i64 n]) [sl (fun b => b < w.heap.size) 2 encRi Al lad] Try.func51 rfl (by rw [Try.ntmps51]; simp) (fun g hg => by simp at hg; subst hg; exact ⟨hlad, fun _ h => h⟩) ?_
  refine cj_seq (cj_region ?_)
  refine oj_box rfl rfl rfl (fun b2 => ?_)
  refine oj_step (y_assign rfl) rfl rfl rfl ?_
  refine oj_nil ?_
  refine ej_th (cj_seq ?_)
  refine cj_regionG (gj_step (y_assign rfl) rfl rfl rfl (gj_nil ?_))
  refine ej_th (cj_seq (cj_seq ?_))
  refine cj_regionG (gj_step (y_assign rfl) rfl rfl rfl (gj_nil ?_))
  refine ej_th (cj_block ?_)
  refine cj_lpic (X := Nat × Int) [(1, _), (2, _), (4, _)] (fun ⟨k, b⟩ => k ≤ lad.length ∧ byG n (lad.drop k) b = byR lad n) (fun ⟨k, b⟩ => [(5, .int .i64 b), (6, .int .i64 k)]) (fun ⟨k, b⟩ => lad.length - k) (0, 0) (⟨Nat.zero_le _, rfl⟩) ⟨rfl, rfl, rfl, rfl, rfl, trivial⟩ ?_
  rintro ⟨k, b⟩ ⟨hk, hsk⟩
  dsimp only [List.cons_append, List.nil_append]
  refine cj_seq (cj_seq ?_)
  refine cj_regionG (gj_step (y_move rfl) rfl rfl rfl (gj_step (y_fa fa24_2 rfl) rfl rfl rfl (gj_step (y_load1 Try.isAgg22 rfl rfl) rfl rfl rfl (gj_step (y_lenA Try.underlying22 rfl) rfl rfl rfl (gj_step (y_lss rfl rfl) rfl rfl rfl (gj_nil ?_))))))
  refine ej_th ?_
  refine cj_cond rfl (fun h11 => ?_) (fun h11 => ?_)
  · have h11b := h11
    try simp only [sxb] at h11
    obtain ⟨r, hx⟩ : ∃ r, lad[k]? = some r := ⟨_, List.getElem?_eq_getElem (by omega)⟩
    rw [byG_drop n b lad k r hx] at hsk
    have hi : (0 : Int) ≤ k ∧ (k : Int) < lad.length := by omega
    refine cj_skip (ej_th (cj_seq (cj_block (cj_seq ?_))))
    refine cj_regionG (gj_step (y_fa fa24_2 rfl) rfl rfl rfl (gj_step (y_load1 Try.isAgg22 rfl rfl) rfl rfl rfl (gj_step (y_move rfl) rfl rfl rfl (gj_step (y_ixR (reads_sl) Try.underlying22 Try.sizeOf81 rfl rfl (hi)) rfl rfl rfl (gj_step (y_faE fa81_0 rfl) rfl rfl rfl (gj_step (y_ld1 (reads_sl) Try.isAgg3 rfl (hx) rfl) rfl rfl rfl (gj_step (y_move rfl) rfl rfl rfl (gj_step (y_leq rfl rfl) rfl rfl rfl (gj_nil ?_)))))))))
    refine ej_th ?_
    refine cj_cond rfl (fun h21 => ?_) (fun h21 => ?_)
    · have h21b := h21
      try simp only [sxb] at h21
      rw [if_pos (by omega)] at hsk
      refine cj_regionG (gj_step (y_fa fa24_2 rfl) rfl rfl rfl (gj_step (y_load1 Try.isAgg22 rfl rfl) rfl rfl rfl (gj_step (y_move rfl) rfl rfl rfl (gj_step (y_ixR (reads_sl) Try.underlying22 Try.sizeOf81 rfl rfl (hi)) rfl rfl rfl (gj_step (y_faE fa81_1 rfl) rfl rfl rfl (gj_step (y_ld1 (reads_sl) Try.isAgg3 rfl (hx) rfl) rfl rfl rfl (gj_step (y_assign rfl) rfl rfl rfl (gj_nil ?_))))))))
      refine ej_blk (ej_th ?_)
      refine cj_regionG (gj_step (y_move rfl) rfl rfl rfl (gj_step (y_add rfl rfl (by omega)) rfl rfl rfl (gj_step (y_assign rfl) rfl rfl rfl (gj_nil ?_))))
      exact ej_nx (k + 1, r.by_) (by simp only; omega) ⟨by first | omega | (simp only; omega), hsk⟩ ⟨rfl, rfl, rfl, rfl, rfl, trivial⟩
    · have h21b := h21
      try simp only [sxb] at h21
      rw [if_neg (by omega)] at hsk
      refine cj_skip (ej_blk (ej_th ?_))
      refine cj_regionG (gj_step (y_move rfl) rfl rfl rfl (gj_step (y_add rfl rfl (by omega)) rfl rfl rfl (gj_step (y_assign rfl) rfl rfl rfl (gj_nil ?_))))
      exact ej_nx (k + 1, b) (by simp only; omega) ⟨by first | omega | (simp only; omega), hsk⟩ ⟨rfl, rfl, rfl, rfl, rfl, trivial⟩
  · have h11b := h11
    try simp only [sxb] at h11
    rw [List.drop_of_length_le (by omega)] at hsk
    have hfin : b = byR lad n := hsk
    subst hfin
    refine cj_exit (ej_then_exit (ej_then_exit (ej_blk_hit (ej_th (cj_seq ?_)))))
    refine cj_regionG (gj_step (y_move rfl) rfl rfl rfl (gj_step (y_move rfl) rfl rfl rfl (gj_step (y_add rfl rfl (by omega)) rfl rfl rfl (gj_step (y_assign rfl) rfl rfl rfl (gj_nil ?_)))))
    refine ej_th (cj_ret ?_)
    exact ej_ret1 rfl Try.results51 rfl (fun w' hp => ⟨rfl, hp.below⟩)

theorem k_rrung (st rv : Int) (lad : List RiseV) (Al : Option Addr) (cl : Nat) (n : Int) (w : World) (hlad : Rd w 2 encRi Al lad) (hok : LotOk st rv lad) : Calls Try.prog 48 #[.agg #[.int .i64 st, .int .i64 rv, .slice Al lad.length cl], .int .i64 n] w (fun e w' => e = .returned (.int .i64 (rungR st lad n)) ∧ Grow w w') := by
  have hst := hok.st
  have hll := hok.lad
  rw [← refRung_eq hok n]
  refine enter_pure (args := [.agg #[.int .i64 st, .int .i64 rv, .slice Al lad.length cl], .int .i64 n]) [sl (fun b => b < w.heap.size) 2 encRi Al lad] Try.func48 rfl (by rw [Try.ntmps48]; simp) (fun g hg => by simp at hg; subst hg; exact ⟨hlad, fun _ h => h⟩) ?_
  refine cj_seq (cj_region ?_)
  refine oj_box rfl rfl rfl (fun b2 => ?_)
  refine oj_step (y_assign rfl) rfl rfl rfl ?_
  refine oj_nil ?_
  refine ej_th (cj_seq (cj_seq ?_))
  refine cj_regionG (gj_step (y_move rfl) rfl rfl rfl (gj_step (y_fa0 fa24_0 rfl) rfl rfl rfl (gj_step (y_load1 Try.isAgg3 rfl rfl) rfl rfl rfl (gj_step (y_lss rfl rfl) rfl rfl rfl (gj_nil ?_)))))
  refine ej_th ?_
  refine cj_cond rfl (fun h9 => ?_) (fun h9 => ?_)
  · have h9b := h9
    try simp only [sxb] at h9
    refine cj_seq ?_
    refine cj_regionG (gj_step (y_assign rfl) rfl rfl rfl (gj_nil ?_))
    refine ej_th (cj_ret (ej_then_ret ?_))
    refine ej_ret1 rfl Try.results48 rfl (fun w' hp => ⟨?_, hp.below⟩)
    rw [refRung, if_pos h9]
  · have h9b := h9
    try simp only [sxb] at h9
    refine cj_skip (ej_th (cj_seq ?_))
    refine cj_regionG (gj_step (y_fa0 fa24_0 rfl) rfl rfl rfl (gj_step (y_load1 Try.isAgg3 rfl rfl) rfl rfl rfl (gj_step (y_assign rfl) rfl rfl rfl (gj_nil ?_))))
    refine ej_th (cj_seq (cj_block ?_))
    refine cj_lpic (X := Int) [(1, _), (2, _), (4, _)] (fun x => (1 ≤ x ∧ x ≤ 100000) ∧ refR lad (min n 100000) 100001 x = refR lad (min n 100000) 100001 st) (fun x => [(5, .int .i64 x)]) (fun x => (200001 - x).toNat) st (⟨hst, rfl⟩) ⟨rfl, rfl, rfl, rfl, trivial⟩ ?_
    rintro x ⟨hxb, hsk⟩
    dsimp only [List.cons_append, List.nil_append]
    refine cj_seq (cj_seq ?_)
    refine cj_regionG ?_
    refine gj_step (y_loadN Try.isAgg24 Try.sizeOf24 rfl) rfl rfl rfl (gj_step (y_move rfl) rfl rfl rfl (?_))
    refine gj_step (y_call Try.call51 rfl (fun w hp => k_rbehind st rv lad Al cl x w hp.rd hll (by omega))) rfl rfl rfl ?_
    refine gj_step (y_move rfl) rfl rfl rfl (gj_step (y_min rfl rfl) rfl rfl rfl (gj_step (y_leq rfl rfl) rfl rfl rfl (?_)))
    refine gj_nil ?_
    refine ej_th ?_
    refine cj_cond rfl (fun h17 => ?_) (fun h17 => ?_)
    · have h17b := h17
      try simp only [sxb] at h17
      rw [refR_step hll (by omega) (by omega), if_pos (by omega)] at hsk
      have hby := byR_bd hll (p := x) (by omega)
      have hnp : nx lad x = x + byR lad x := rfl
      refine cj_skip (ej_th (cj_block ?_))
      refine cj_regionG ?_
      refine gj_step (y_loadN Try.isAgg24 Try.sizeOf24 rfl) rfl rfl rfl (gj_step (y_move rfl) rfl rfl rfl (?_))
      refine gj_step (y_call Try.call51 rfl (fun w hp => k_rbehind st rv lad Al cl x w hp.rd hll (by omega))) rfl rfl rfl ?_
      refine gj_step (y_assign rfl) rfl rfl rfl (?_)
      refine gj_nil ?_
      refine ej_blk ?_
      exact ej_nx (nx lad x) (by omega) ⟨by omega, hsk⟩ ⟨rfl, rfl, rfl, rfl, trivial⟩
    · have h17b := h17
      try simp only [sxb] at h17
      rw [refR_step hll (by omega) (by omega), if_neg (by omega)] at hsk
      refine cj_exit (ej_then_exit (ej_then_exit (ej_blk_hit (ej_th (cj_seq ?_)))))
      refine cj_regionG (gj_step (y_move rfl) rfl rfl rfl (gj_step (y_assign rfl) rfl rfl rfl (gj_nil ?_)))
      refine ej_th (cj_ret ?_)
      refine ej_ret1 rfl Try.results48 rfl (fun w' hp => ⟨?_, hp.below⟩)
      rw [refRung, if_neg (by omega), ← hsk]

theorem k_rreserve (st rv : Int) (lad : List RiseV) (Al : Option Addr) (cl : Nat) (w : World) (hlad : Rd w 2 encRi Al lad) (hok : LotOk st rv lad) : Calls Try.prog 60 #[.agg #[.int .i64 st, .int .i64 rv, .slice Al lad.length cl]] w (fun e w' => e = .returned (.int .i64 (leastR st rv lad)) ∧ Grow w w') := by
  have hst := hok.st
  have hrv := hok.rv
  have hll := hok.lad
  rw [← leastR_eq hok]
  refine enter_pure (args := [.agg #[.int .i64 st, .int .i64 rv, .slice Al lad.length cl]]) [sl (fun b => b < w.heap.size) 2 encRi Al lad] Try.func60 rfl (by rw [Try.ntmps60]; simp) (fun g hg => by simp at hg; subst hg; exact ⟨hlad, fun _ h => h⟩) ?_
  refine cj_seq (cj_region ?_)
  refine oj_box rfl rfl rfl (fun b1 => ?_)
  refine oj_step (y_assign rfl) rfl rfl rfl ?_
  refine oj_nil ?_
  refine ej_th (cj_seq ?_)
  refine cj_regionG (gj_step (y_fa0 fa24_0 rfl) rfl rfl rfl (gj_step (y_load1 Try.isAgg3 rfl rfl) rfl rfl rfl (gj_step (y_assign rfl) rfl rfl rfl (gj_nil ?_))))
  refine ej_th (cj_seq (cj_block ?_))
  refine cj_lpic (X := Int) [(1, _), (2, _)] (fun x => (1 ≤ x ∧ x ≤ 200000) ∧ resR lad rv 100001 x = resR lad rv 100001 st) (fun x => [(3, .int .i64 x)]) (fun x => (300001 - x).toNat) st (⟨by omega, rfl⟩) ⟨rfl, rfl, rfl, trivial⟩ ?_
  rintro x ⟨hxb, hsk⟩
  dsimp only [List.cons_append, List.nil_append]
  refine cj_seq (cj_seq ?_)
  refine cj_regionG (gj_step (y_move rfl) rfl rfl rfl (gj_step (y_fa fa24_1 rfl) rfl rfl rfl (gj_step (y_load1 Try.isAgg3 rfl rfl) rfl rfl rfl (gj_step (y_lss rfl rfl) rfl rfl rfl (gj_nil ?_)))))
  refine ej_th ?_
  refine cj_cond rfl (fun h9 => ?_) (fun h9 => ?_)
  · have h9b := h9
    try simp only [sxb] at h9
    rw [resR_step hll (by omega) (by omega), if_pos (by omega)] at hsk
    have hby := byR_bd hll (p := x) (by omega)
    have hnp : nx lad x = x + byR lad x := rfl
    refine cj_skip (ej_th (cj_block ?_))
    refine cj_regionG ?_
    refine gj_step (y_loadN Try.isAgg24 Try.sizeOf24 rfl) rfl rfl rfl (gj_step (y_move rfl) rfl rfl rfl (?_))
    refine gj_step (y_call Try.call51 rfl (fun w hp => k_rbehind st rv lad Al cl x w hp.rd hll (by omega))) rfl rfl rfl ?_
    refine gj_step (y_assign rfl) rfl rfl rfl (?_)
    refine gj_nil ?_
    refine ej_blk ?_
    exact ej_nx (nx lad x) (by omega) ⟨by omega, hsk⟩ ⟨rfl, rfl, rfl, trivial⟩
  · have h9b := h9
    try simp only [sxb] at h9
    rw [resR_step hll (by omega) (by omega), if_neg (by omega)] at hsk
    refine cj_exit (ej_then_exit (ej_then_exit (ej_blk_hit (ej_th (cj_seq (cj_seq ?_))))))
    refine cj_regionG (gj_step (y_move rfl) rfl rfl rfl (gj_step (y_gtr rfl rfl) rfl rfl rfl (gj_nil ?_)))
    refine ej_th ?_
    refine cj_cond rfl (fun h14 => ?_) (fun h14 => ?_)
    · have h14b := h14
      try simp only [sxb] at h14
      refine cj_seq ?_
      refine cj_regionG (gj_step (y_assign rfl) rfl rfl rfl (gj_nil ?_))
      refine ej_th (cj_ret (ej_then_ret ?_))
      refine ej_ret1 rfl Try.results60 rfl (fun w' hp => ⟨?_, hp.below⟩)
      rw [← hsk, if_pos h14]
    · have h14b := h14
      try simp only [sxb] at h14
      refine cj_skip (ej_th (cj_seq ?_))
      refine cj_regionG (gj_step (y_move rfl) rfl rfl rfl (gj_step (y_assign rfl) rfl rfl rfl (gj_nil ?_)))
      refine ej_th (cj_ret ?_)
      refine ej_ret1 rfl Try.results60 rfl (fun w' hp => ⟨?_, hp.below⟩)
      rw [← hsk, if_neg (by omega)]

theorem k_rRung (st rv : Int) (lad : List RiseV) (Al : Option Addr) (cl : Nat) (n : Int) (w : World) (hlad : Rd w 2 encRi Al lad) : Calls Try.prog 16 #[.agg #[.int .i64 st, .int .i64 rv, .slice Al lad.length cl], .int .i64 n] w (fun e w' => e = .returned (.tuple #[.int .i64 (RungV st rv lad n), .int .i64 (RungE st rv lad n)]) ∧ Grow w w') := by
  refine enter_pure (args := [.agg #[.int .i64 st, .int .i64 rv, .slice Al lad.length cl], .int .i64 n]) [sl (fun b => b < w.heap.size) 2 encRi Al lad] Try.func16 rfl (by rw [Try.ntmps16]; simp) (fun g hg => by simp at hg; subst hg; exact ⟨hlad, fun _ h => h⟩) ?_
  refine cj_seq (cj_region ?_)
  refine oj_box rfl rfl rfl (fun b2 => ?_)
  refine oj_step (y_assign rfl) rfl rfl rfl ?_
  refine oj_step (y_assign rfl) rfl rfl rfl ?_
  refine oj_nil ?_
  refine ej_th (cj_seq (cj_seq ?_))
  refine cj_regionG ?_
  refine gj_step (y_loadN Try.isAgg24 Try.sizeOf24 rfl) rfl rfl rfl (?_)
  refine gj_step (y_call Try.call18 rfl (fun w hp => k_rCheck st rv lad Al cl w hp.rd)) rfl rfl rfl ?_
  refine gj_step (y_assign rfl) rfl rfl rfl (?_)
  refine gj_nil ?_
  refine ej_th (cj_seq ?_)
  refine cj_regionG (gj_step (y_move rfl) rfl rfl rfl (gj_step (y_neq rfl rfl) rfl rfl rfl (gj_nil ?_)))
  refine ej_th ?_
  refine cj_cond rfl (fun h11 => ?_) (fun h11 => ?_)
  · have h11b := h11
    try simp only [sxb] at h11
    have hno := lotE_no h11b
    refine cj_seq ?_
    refine cj_regionG (gj_step (y_move rfl) rfl rfl rfl (gj_step (y_assign rfl) rfl rfl rfl (gj_step (y_assign rfl) rfl rfl rfl (gj_nil ?_))))
    refine ej_th (cj_ret (ej_then_ret ?_))
    refine ej_ret2 rfl Try.results16 rfl rfl (fun w' hp => ⟨?_, hp.below⟩)
    rw [RungV, RungE, hno, lotE, hno]; rfl
  · have h11b := h11
    try simp only [sxb] at h11
    have hyes := lotE_0 h11b
    have hok := lot_ok hyes
    have hbd := rung_bd hok n
    refine cj_skip (ej_th (cj_seq ?_))
    refine cj_regionG ?_
    refine gj_step (y_loadN Try.isAgg24 Try.sizeOf24 rfl) rfl rfl rfl (gj_step (y_move rfl) rfl rfl rfl (?_))
    refine gj_step (y_call Try.call48 rfl (fun w hp => k_rrung st rv lad Al cl n w hp.rd hok)) rfl rfl rfl ?_
    refine gj_step (y_assign rfl) rfl rfl rfl (?_)
    refine gj_nil ?_
    refine ej_th (cj_seq (cj_seq ?_))
    refine cj_regionG (gj_step (y_move rfl) rfl rfl rfl (gj_step (y_eql rfl rfl) rfl rfl rfl (gj_nil ?_)))
    refine ej_th ?_
    refine cj_cond rfl (fun h17 => ?_) (fun h17 => ?_)
    · have h17b := h17
      try simp only [sxb] at h17
      refine cj_seq ?_
      refine cj_regionG (gj_step (y_assign rfl) rfl rfl rfl (gj_step (y_assign rfl) rfl rfl rfl (gj_nil ?_)))
      refine ej_th (cj_ret (ej_then_ret ?_))
      refine ej_ret2 rfl Try.results16 rfl rfl (fun w' hp => ⟨?_, hp.below⟩)
      rw [RungV, RungE, hyes, if_pos rfl, if_pos rfl, if_neg (by omega), show rungR st lad n = 0 from h17]
    · have h17b := h17
      try simp only [sxb] at h17
      refine cj_skip (ej_th (cj_seq ?_))
      refine cj_regionG (gj_step (y_move rfl) rfl rfl rfl (gj_step (y_assign rfl) rfl rfl rfl (gj_step (y_assign rfl) rfl rfl rfl (gj_nil ?_))))
      refine ej_th (cj_ret ?_)
      refine ej_ret2 rfl Try.results16 rfl rfl (fun w' hp => ⟨?_, hp.below⟩)
      rw [RungV, RungE, hyes, if_pos rfl, if_pos rfl, if_pos (by omega)]

theorem k_rNext (st rv : Int) (lad : List RiseV) (Al : Option Addr) (cl : Nat) (n : Int) (w : World) (hlad : Rd w 2 encRi Al lad) : Calls Try.prog 20 #[.agg #[.int .i64 st, .int .i64 rv, .slice Al lad.length cl], .int .i64 n] w (fun e w' => e = .returned (.tuple #[.int .i64 (NextV st rv lad n), .int .i64 (NextE st rv lad n)]) ∧ Grow w w') := by
  refine enter_pure (args := [.agg #[.int .i64 st, .int .i64 rv, .slice Al lad.length cl], .int .i64 n]) [sl (fun b => b < w.heap.size) 2 encRi Al lad] Try.func20 rfl (by rw [Try.ntmps20]; simp) (fun g hg => by simp at hg; subst hg; exact ⟨hlad, fun _ h => h⟩) ?_
  refine cj_seq (cj_region ?_)
  refine oj_box rfl rfl rfl (fun b2 => ?_)
  refine oj_step (y_assign rfl) rfl rfl rfl ?_
  refine oj_step (y_assign rfl) rfl rfl rfl ?_
  refine oj_nil ?_
  refine ej_th (cj_seq (cj_seq ?_))
  refine cj_regionG ?_
  refine gj_step (y_loadN Try.isAgg24 Try.sizeOf24 rfl) rfl rfl rfl (?_)
  refine gj_step (y_call Try.call18 rfl (fun w hp => k_rCheck st rv lad Al cl w hp.rd)) rfl rfl rfl ?_
  refine gj_step (y_assign rfl) rfl rfl rfl (?_)
  refine gj_nil ?_
  refine ej_th (cj_seq ?_)
  refine cj_regionG (gj_step (y_move rfl) rfl rfl rfl (gj_step (y_neq rfl rfl) rfl rfl rfl (gj_nil ?_)))
  refine ej_th ?_
  refine cj_cond rfl (fun h11 => ?_) (fun h11 => ?_)
  · have h11b := h11
    try simp only [sxb] at h11
    have hno := lotE_no h11b
    refine cj_seq ?_
    refine cj_regionG (gj_step (y_move rfl) rfl rfl rfl (gj_step (y_assign rfl) rfl rfl rfl (gj_step (y_assign rfl) rfl rfl rfl (gj_nil ?_))))
    refine ej_th (cj_ret (ej_then_ret ?_))
    refine ej_ret2 rfl Try.results20 rfl rfl (fun w' hp => ⟨?_, hp.below⟩)
    rw [NextV, NextE, hno, lotE, hno]; rfl
  · have h11b := h11
    try simp only [sxb] at h11
    have hyes := lotE_0 h11b
    have hok := lot_ok hyes
    have hbd := rung_bd hok n
    refine cj_skip (ej_th (cj_seq (cj_seq ?_)))
    refine cj_regionG ?_
    refine gj_step (y_move rfl) rfl rfl rfl (gj_step (y_gtr rfl rfl) rfl rfl rfl (gj_step (y_move rfl) rfl rfl rfl (?_)))
    refine gj_g 5 15 20 rfl rfl rfl rfl (fun hg15 => gj_yes rfl rfl rfl (y_loadN Try.isAgg24 Try.sizeOf24 rfl) rfl rfl (gj_yes rfl rfl rfl (y_move rfl) rfl rfl (gj_yes rfl rfl rfl (y_call Try.call48 rfl (fun w hp => k_rrung st rv lad Al cl n w hp.rd hok)) rfl rfl (gj_yes rfl rfl rfl (y_move rfl) rfl rfl (gj_yes rfl rfl rfl (y_neq rfl rfl) rfl rfl (gj_nil rfl)))))) ?_
    refine gj_step (y_or rfl rfl rfl) rfl rfl rfl (gj_step (y_move rfl) rfl rfl rfl (?_))
    refine gj_g 2 22 24 rfl rfl rfl rfl (fun hg22 => gj_yes rfl rfl rfl (y_move rfl) rfl rfl (gj_yes rfl rfl rfl (y_eql rfl rfl) rfl rfl (gj_nil rfl))) ?_
    refine gj_step (y_or rfl rfl rfl) rfl rfl rfl (?_)
    refine gj_nil ?_
    refine ej_th ?_
    refine cj_cond rfl (fun h25 => ?_) (fun h25 => ?_)
    · have h25b := h25
      try simp only [sxb] at h25
      have hn := rnext_no hok h25b
      refine cj_seq ?_
      refine cj_regionG (gj_step (y_assign rfl) rfl rfl rfl (gj_step (y_assign rfl) rfl rfl rfl (gj_nil ?_)))
      refine ej_th (cj_ret (ej_then_ret ?_))
      refine ej_ret2 rfl Try.results20 rfl rfl (fun w' hp => ⟨?_, hp.below⟩)
      rw [NextV, NextE, hyes, if_neg (fun h => hn h.2), if_pos rfl, if_neg hn]
    · have h25b := h25
      try simp only [sxb] at h25
      have hn := rnext_yes hok h25b
      have hnb := next_nx hok hn.1 hn.2
      have hby := byR_bd hok.lad (p := n) (by omega)
      have hnp : nx lad n = n + byR lad n := rfl
      refine cj_skip (ej_th (cj_seq ?_))
      refine cj_regionG ?_
      refine gj_step (y_loadN Try.isAgg24 Try.sizeOf24 rfl) rfl rfl rfl (gj_step (y_move rfl) rfl rfl rfl (?_))
      refine gj_step (y_call Try.call51 rfl (fun w hp => k_rbehind st rv lad Al cl n w hp.rd hok.lad (by omega))) rfl rfl rfl ?_
      refine gj_step (y_assign rfl) rfl rfl rfl (?_)
      refine gj_nil ?_
      refine ej_th (cj_seq (cj_seq ?_))
      refine cj_regionG (gj_step (y_move rfl) rfl rfl rfl (gj_step (y_gtr rfl rfl) rfl rfl rfl (gj_nil ?_)))
      refine ej_th ?_
      refine cj_cond rfl (fun h30 => ?_) (fun h30 => ?_)
      · have h30b := h30
        try simp only [sxb] at h30
        refine cj_seq ?_
        refine cj_regionG (gj_step (y_assign rfl) rfl rfl rfl (gj_step (y_assign rfl) rfl rfl rfl (gj_nil ?_)))
        refine ej_th (cj_ret (ej_then_ret ?_))
        refine ej_ret2 rfl Try.results20 rfl rfl (fun w' hp => ⟨?_, hp.below⟩)
        rw [NextV, NextE, hyes, if_pos ⟨rfl, hn⟩, if_pos rfl, if_pos hn, hnb, if_neg (by omega)]; rfl
      · have h30b := h30
        try simp only [sxb] at h30
        refine cj_skip (ej_th (cj_seq ?_))
        refine cj_regionG (gj_step (y_move rfl) rfl rfl rfl (gj_step (y_assign rfl) rfl rfl rfl (gj_step (y_assign rfl) rfl rfl rfl (gj_nil ?_))))
        refine ej_th (cj_ret ?_)
        refine ej_ret2 rfl Try.results20 rfl rfl (fun w' hp => ⟨?_, hp.below⟩)
        rw [NextV, NextE, hyes, if_pos ⟨rfl, hn⟩, if_pos rfl, if_pos hn, hnb, if_pos (by omega), if_pos (by omega)]

end Go.Proofs.Ytehmifpofpifkaa
namespace Go.Proofs.Ytehmifpofpifkaa
open Go.Sx Go.RowKit
set_option maxRecDepth 20000
theorem el90 : ElemIs Try.prog 90 93 3 24 := ⟨⟨_, (.agg #[.int .i64 0, .int .i64 0, .int .i64 0]), Try.underlying90, Try.type93, by kernel_rfl, by kernel_rfl, by kernel_rfl, by kernel_rfl, by decide⟩⟩
theorem fa53_0 : FieldIs Try.prog 53 0 0 1 false := ⟨⟨_, _, Try.underlying53, rfl, rfl, Try.sizeOf3, Try.isAgg3, by decide⟩⟩
theorem fa53_1 : FieldIs Try.prog 53 1 1 1 false := ⟨⟨_, _, Try.underlying53, rfl, rfl, Try.sizeOf3, Try.isAgg3, by decide⟩⟩
theorem fa53_2 : FieldIs Try.prog 53 2 2 1 false := ⟨⟨_, _, Try.underlying53, rfl, rfl, Try.sizeOf3, Try.isAgg3, by decide⟩⟩
theorem fa93_0 : FieldIs Try.prog 93 0 0 3 true := ⟨⟨_, _, Try.underlying93, rfl, rfl, Try.sizeOf53, Try.isAgg53, by decide⟩⟩
theorem st93 : StructIs Try.prog 93 [(0, 3)] [.int .i64 0, .int .i64 0, .int .i64 0] := ⟨⟨_, Try.underlying93, fun w => by simp [Try.sizeOf53], Try.zeroValue93⟩⟩
end Go.Proofs.Ytehmifpofpifkaa
namespace Go.Proofs.Ytehmifpofpifkaa
open Go.Sx Go.RowKit
set_option maxRecDepth 20000
theorem st34 : StructIs Try.prog 34 [(0, 1), (1, 1)] [.int .i64 0, .int .i64 0] := ⟨⟨_, Try.underlying34, fun w => by simp [Try.sizeOf3], Try.zeroValue34⟩⟩
end Go.Proofs.Ytehmifpofpifkaa
namespace Go.Proofs.Ytehmifpofpifkaa
open Go.Sx Go.RowKit
set_option maxRecDepth 20000
theorem fa95_0 : FieldIs Try.prog 95 0 0 1 false := ⟨⟨_, _, Try.underlying95, rfl, rfl, Try.sizeOf3, Try.isAgg3, by decide⟩⟩
theorem fa95_1 : FieldIs Try.prog 95 1 1 1 false := ⟨⟨_, _, Try.underlying95, rfl, rfl, Try.sizeOf3, Try.isAgg3, by decide⟩⟩
theorem fa95_2 : FieldIs Try.prog 95 2 2 1 false := ⟨⟨_, _, Try.underlying95, rfl, rfl, Try.sizeOf3, Try.isAgg3, by decide⟩⟩
theorem st95 : StructIs Try.prog 95 [(0, 1), (1, 1), (2, 1)] [.int .i64 0, .int .i64 0, .int .i64 0] := ⟨⟨_, Try.underlying95, fun w => by simp [Try.sizeOf3], Try.zeroValue95⟩⟩
end Go.Proofs.Ytehmifpofpifkaa
namespace Go.Proofs.Ytehmifpofpifkaa
open Go.Sx Go.RowKit
set_option maxRecDepth 20000
theorem fa102_0 : FieldIs Try.prog 102 0 0 3 true := ⟨⟨_, _, Try.underlying102, rfl, rfl, Try.sizeOf85, Try.isAgg85, by decide⟩⟩
theorem fa102_1 : FieldIs Try.prog 102 1 3 5 true := ⟨⟨_, _, Try.underlying102, rfl, rfl, Try.sizeOf41, Try.isAgg41, by decide⟩⟩
theorem fa41_0 : FieldIs Try.prog 41 0 0 1 false := ⟨⟨_, _, Try.underlying41, rfl, rfl, Try.sizeOf3, Try.isAgg3, by decide⟩⟩
theorem fa41_1 : FieldIs Try.prog 41 1 1 1 false := ⟨⟨_, _, Try.underlying41, rfl, rfl, Try.sizeOf3, Try.isAgg3, by decide⟩⟩
theorem fa41_2 : FieldIs Try.prog 41 2 2 1 false := ⟨⟨_, _, Try.underlying41, rfl, rfl, Try.sizeOf3, Try.isAgg3, by decide⟩⟩
theorem fa41_3 : FieldIs Try.prog 41 3 3 1 false := ⟨⟨_, _, Try.underlying41, rfl, rfl, Try.sizeOf3, Try.isAgg3, by decide⟩⟩
theorem fa41_4 : FieldIs Try.prog 41 4 4 1 false := ⟨⟨_, _, Try.underlying41, rfl, rfl, Try.sizeOf3, Try.isAgg3, by decide⟩⟩
theorem st41 : StructIs Try.prog 41 [(0, 1), (1, 1), (2, 1), (3, 1), (4, 1)] [.int .i64 0, .int .i64 0, .int .i64 0, .int .i64 0, .int .i64 0] := ⟨⟨_, Try.underlying41, fun w => by simp [Try.sizeOf3], Try.zeroValue41⟩⟩
theorem st53 : StructIs Try.prog 53 [(0, 1), (1, 1), (2, 1)] [.int .i64 0, .int .i64 0, .int .i64 0] := ⟨⟨_, Try.underlying53, fun w => by simp [Try.sizeOf3], Try.zeroValue53⟩⟩
end Go.Proofs.Ytehmifpofpifkaa
namespace Go.Proofs.Ytehmifpofpifkaa
open Go.Sx Go.RowKit
set_option maxRecDepth 20000
theorem el37 : ElemIs Try.prog 37 41 5 40 := ⟨⟨_, (.agg #[.int .i64 0, .int .i64 0, .int .i64 0, .int .i64 0, .int .i64 0]), Try.underlying37, Try.type41, by kernel_rfl, by kernel_rfl, by kernel_rfl, by kernel_rfl, by decide⟩⟩
theorem st102 : StructIs Try.prog 102 [(0, 3), (3, 5)] [.int .i64 0, .int .i64 0, .slice none 0 0, .int .i64 0, .int .i64 0, .int .i64 0, .int .i64 0, .int .i64 0] := ⟨⟨_, Try.underlying102, fun w => by simp [Try.sizeOf41, Try.sizeOf85], Try.zeroValue102⟩⟩
end Go.Proofs.Ytehmifpofpifkaa
namespace Go.Proofs.Ytehmifpofpifkaa
open Go.Sx Go.RowKit
set_option maxRecDepth 20000
theorem fa117_0 : FieldIs Try.prog 117 0 0 2 true := ⟨⟨_, _, Try.underlying117, rfl, rfl, Try.sizeOf60, Try.isAgg60, by decide⟩⟩
theorem fa60_0 : FieldIs Try.prog 60 0 0 1 false := ⟨⟨_, _, Try.underlying60, rfl, rfl, Try.sizeOf43, Try.isAgg43, by decide⟩⟩
theorem fa60_1 : FieldIs Try.prog 60 1 1 1 false := ⟨⟨_, _, Try.underlying60, rfl, rfl, Try.sizeOf58, Try.isAgg58, by decide⟩⟩
theorem st117 : StructIs Try.prog 117 [(0, 2)] [.slice none 0 0, .slice none 0 0] := ⟨⟨_, Try.underlying117, fun w => by simp [Try.sizeOf60], Try.zeroValue117⟩⟩
end Go.Proofs.Ytehmifpofpifkaa
namespace Go.Proofs.Ytehmifpofpifkaa
open Go.Sx Go.RowKit
set_option maxRecDepth 20000
theorem el43 : ElemIs Try.prog 43 3 1 8 := ⟨⟨_, (.int .i64 0), Try.underlying43, Try.type3, by kernel_rfl, by kernel_rfl, by kernel_rfl, by kernel_rfl, by decide⟩⟩
end Go.Proofs.Ytehmifpofpifkaa
namespace Go.Proofs.Ytehmifpofpifkaa
open Go.Sx Go.RowKit
set_option maxRecDepth 20000

end Go.Proofs.Ytehmifpofpifkaa
namespace Go.Proofs.Ytehmifpofpifkaa
open Go.Sx Go.RowKit
set_option maxRecDepth 20000
theorem el58 : ElemIs Try.prog 58 43 1 24 := ⟨⟨_, (.slice none 0 0), Try.underlying58, Try.type43, by kernel_rfl, by kernel_rfl, by kernel_rfl, by kernel_rfl, by decide⟩⟩
theorem st60 : StructIs Try.prog 60 [(0, 1), (1, 1)] [.slice none 0 0, .slice none 0 0] := ⟨⟨_, Try.underlying60, fun w => by simp [Try.sizeOf43, Try.sizeOf58], Try.zeroValue60⟩⟩
end Go.Proofs.Ytehmifpofpifkaa
namespace Go.Proofs.Ytehmifpofpifkaa
open Go.Sx Go.RowKit
set_option maxRecDepth 20000
theorem fa62_1 : FieldIs Try.prog 62 1 1 1 false := ⟨⟨_, _, Try.underlying62, rfl, rfl, Try.sizeOf43, Try.isAgg43, by decide⟩⟩
theorem st62 : StructIs Try.prog 62 [(0, 1), (1, 1)] [.slice none 0 0, .slice none 0 0] := ⟨⟨_, Try.underlying62, fun w => by simp [Try.sizeOf43], Try.zeroValue62⟩⟩
end Go.Proofs.Ytehmifpofpifkaa
namespace Go.Proofs.Ytehmifpofpifkaa
open Go.Sx Go.RowKit
set_option maxRecDepth 20000

end Go.Proofs.Ytehmifpofpifkaa
namespace Go.Proofs.Ytehmifpofpifkaa
open Go.Sx Go.RowKit
set_option maxRecDepth 20000

end Go.Proofs.Ytehmifpofpifkaa
namespace Go.Proofs.Ytehmifpofpifkaa
open Go.Sx Go.RowKit
set_option maxRecDepth 20000

end Go.Proofs.Ytehmifpofpifkaa
namespace Go.Proofs.Ytehmifpofpifkaa
open Go.Sx Go.RowKit
set_option maxRecDepth 20000

end Go.Proofs.Ytehmifpofpifkaa
namespace Go.Proofs.Ytehmifpofpifkaa
open Go.Sx Go.RowKit
set_option maxRecDepth 20000
theorem fa62_0 : FieldIs Try.prog 62 0 0 1 false := ⟨⟨_, _, Try.underlying62, rfl, rfl, Try.sizeOf43, Try.isAgg43, by decide⟩⟩
end Go.Proofs.Ytehmifpofpifkaa
namespace Go.Proofs.Ytehmifpofpifkaa
open Go.Sx Go.RowKit
set_option maxRecDepth 20000

end Go.Proofs.Ytehmifpofpifkaa
namespace Go.Proofs.Ytehmifpofpifkaa
open Go.Sx Go.RowKit
set_option maxRecDepth 20000

end Go.Proofs.Ytehmifpofpifkaa
namespace Go.Proofs.Ytehmifpofpifkaa
open Go.Sx Go.RowKit
set_option maxRecDepth 20000

end Go.Proofs.Ytehmifpofpifkaa
namespace Go.Proofs.Ytehmifpofpifkaa
open Go.Sx Go.RowKit
set_option maxRecDepth 20000

end Go.Proofs.Ytehmifpofpifkaa
namespace Go.Proofs.Ytehmifpofpifkaa
open Go.Sx Go.RowKit
set_option maxRecDepth 20000
theorem eq41 (a0 b0 : Int) (a1 b1 : Int) (a2 b2 : Int) (a3 b3 : Int) (a4 b4 : Int) (x y : Operand) (w : World) : (do eqGuard .eql 41 x y (.agg #[.int .i64 a0, .int .i64 a1, .int .i64 a2, .int .i64 a3, .int .i64 a4]) (.agg #[.int .i64 b0, .int .i64 b1, .int .i64 b2, .int .i64 b3, .int .i64 b4]); binOp .eql 41 (.agg #[.int .i64 a0, .int .i64 a1, .int .i64 a2, .int .i64 a3, .int .i64 a4]) (.agg #[.int .i64 b0, .int .i64 b1, .int .i64 b2, .int .i64 b3, .int .i64 b4]) : Sem Value).run Try.prog w = .ok (.bool ((a0 == b0) && (a1 == b1) && (a2 == b2) && (a3 == b3) && (a4 == b4))) w := by
  simp [go_sem, Try.eqGuardType41, Try.stoodInHeld41, Try.underlying41, Try.underlying3]
  try ((repeat' split) <;> simp_all)
theorem ne34 (a0 b0 : Int) (a1 b1 : Int) (x y : Operand) (w : World) : (do eqGuard .neq 34 x y (.agg #[.int .i64 a0, .int .i64 a1]) (.agg #[.int .i64 b0, .int .i64 b1]); binOp .neq 34 (.agg #[.int .i64 a0, .int .i64 a1]) (.agg #[.int .i64 b0, .int .i64 b1]) : Sem Value).run Try.prog w = .ok (.bool (!((a0 == b0) && (a1 == b1)))) w := by
  simp [go_sem, Try.eqGuardType34, Try.stoodInHeld34, Try.underlying34, Try.underlying3]
  try ((repeat' split) <;> simp_all)
theorem st24 : StructIs Try.prog 24 [(0, 1), (1, 1), (2, 1)] [.int .i64 0, .int .i64 0, .slice none 0 0] := ⟨⟨_, Try.underlying24, fun w => by simp [Try.sizeOf22, Try.sizeOf3], Try.zeroValue24⟩⟩
theorem st81 : StructIs Try.prog 81 [(0, 1), (1, 1)] [.int .i64 0, .int .i64 0] := ⟨⟨_, Try.underlying81, fun w => by simp [Try.sizeOf3], Try.zeroValue81⟩⟩
end Go.Proofs.Ytehmifpofpifkaa
