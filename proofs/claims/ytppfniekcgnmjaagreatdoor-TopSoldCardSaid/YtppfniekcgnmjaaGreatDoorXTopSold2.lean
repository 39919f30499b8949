/- Texts of ours, joined: 21 of them. Conditions: none. -/
import Derived.Test.YtppfniekcgnmjaaGreatDoorXTopSold1
import Derived.Test.YtppfniekcgnmjaaGreatDoorProg
import Derived.Laws.StructEq
import Derived.Shelf.SlSortCmp.NoneTotal
import Derived.WalkKit
import Derived.Shelf.SlGeneric
import Derived.Shelf.SlLaysF
namespace Go.Proofs.YtppfniekcgnmjaaGreatDoor.Au
open Go.Sx Go.RowKit Am
set_option maxRecDepth 20000
theorem k_within (n lo hi : Int) (w : World)  : Calls Tryz.prog 63 #[.int .i64 n, .int .i64 lo, .int .i64 hi] w (fun e w' => e = .returned (.bool (decide (lo ≤ n) && decide (n ≤ hi))) ∧ Grow w w') := by
  refine enter_pure (args := [.int .i64 n, .int .i64 lo, .int .i64 hi]) [] Tryz.func63 rfl (by rw [Tryz.ntmps63]; simp) (by simp) ?_
  refine cj_seq ?_
  refine cj_regionG (gj_step (y_assign rfl) rfl rfl rfl (gj_nil ?_))
  refine ej_th (cj_seq ?_)
  refine cj_regionG (gj_step (y_move rfl) rfl rfl rfl (gj_step (y_move rfl) rfl rfl rfl (gj_step (y_geq rfl rfl) rfl rfl rfl (gj_step (y_move rfl) rfl rfl rfl (gj_g 3 10 13 rfl rfl rfl rfl (fun hg10 => gj_yes rfl rfl rfl (y_move rfl) rfl rfl (gj_yes rfl rfl rfl (y_move rfl) rfl rfl (gj_yes rfl rfl rfl (y_leq rfl rfl) rfl rfl (gj_nil rfl)))) (gj_step (y_and rfl rfl rfl) rfl rfl rfl (gj_step (y_assign rfl) rfl rfl rfl (gj_nil ?_))))))))
  refine ej_th (cj_ret ?_)
  exact ej_ret1 rfl Tryz.results63 rfl (fun w' hp => ⟨rfl, hp.below⟩)

theorem k_From (lo n hi : Int) (w : World)  : Calls Tryz.prog 8 #[.int .i64 lo, .int .i64 n, .int .i64 hi] w (fun e w' => e = .returned (.bool (decide (lo ≤ n) && decide (n ≤ hi))) ∧ Grow w w') := by
  refine enter_pure (args := [.int .i64 lo, .int .i64 n, .int .i64 hi]) [] Tryz.func8 rfl (by rw [Tryz.ntmps8]; simp) (by simp) ?_
  refine cj_seq ?_
  refine cj_regionG (gj_step (y_assign rfl) rfl rfl rfl (gj_nil ?_))
  refine ej_th (cj_seq ?_)
  refine cj_regionG (gj_step (y_move rfl) rfl rfl rfl (gj_step (y_move rfl) rfl rfl rfl (gj_step (y_leq rfl rfl) rfl rfl rfl (gj_step (y_move rfl) rfl rfl rfl (gj_g 3 10 13 rfl rfl rfl rfl (fun hg10 => gj_yes rfl rfl rfl (y_move rfl) rfl rfl (gj_yes rfl rfl rfl (y_move rfl) rfl rfl (gj_yes rfl rfl rfl (y_leq rfl rfl) rfl rfl (gj_nil rfl)))) (gj_step (y_and rfl rfl rfl) rfl rfl rfl (gj_step (y_assign rfl) rfl rfl rfl (gj_nil ?_))))))))
  refine ej_th (cj_ret ?_)
  exact ej_ret1 rfl Tryz.results8 rfl (fun w' hp => ⟨rfl, hp.below⟩)

theorem k_Check (st rv : Int) (lad : List RiseV) (Al : Option Addr) (cl : Nat) (w : World) (hlad : Rd w 2 encRi Al lad) : Calls Tryz.prog 29 #[.agg #[.int .i64 st, .int .i64 rv, .slice Al lad.length cl]] w (fun e w' => e = .returned (.int .i64 (lotE st rv lad)) ∧ Grow w w') := by
  have hlen := hlad.len
  refine enter_pure (args := [.agg #[.int .i64 st, .int .i64 rv, .slice Al lad.length cl]]) [sl (fun b => b < w.heap.size) 2 encRi Al lad] Tryz.func29 rfl (by rw [Tryz.ntmps29]; simp) (fun g hg => by simp at hg; subst hg; exact ⟨hlad, fun _ h => h⟩) ?_
  refine cj_seq (cj_region ?_)
  refine oj_box rfl rfl rfl (fun b1 => ?_)
  refine oj_step (y_assign rfl) rfl rfl rfl ?_
  refine oj_nil ?_
  refine ej_th (cj_seq (cj_seq ?_))
  refine cj_regionG ?_
  refine gj_step (y_fa0 fa67_0 rfl) rfl rfl rfl (gj_step (y_load1 Tryz.isAgg3 rfl rfl) rfl rfl rfl (?_))
  refine gj_step (y_call Tryz.call63 rfl (fun w hp => k_within _ _ _ w)) rfl rfl rfl ?_
  refine gj_step (y_not rfl) rfl rfl rfl (gj_step (y_move rfl) rfl rfl rfl (?_))
  refine gj_g 4 9 13 rfl rfl rfl rfl (fun hg9 => gj_yes rfl rfl rfl (y_fa fa67_1 rfl) rfl rfl (gj_yes rfl rfl rfl (y_load1 Tryz.isAgg3 rfl rfl) rfl rfl (gj_yes rfl rfl rfl (y_call Tryz.call63 rfl (fun w hp => k_within _ _ _ w)) rfl rfl (gj_yes rfl rfl rfl (y_not rfl) rfl rfl (gj_nil rfl))))) ?_
  refine gj_step (y_or rfl rfl rfl) rfl rfl rfl (gj_step (y_move rfl) rfl rfl rfl (?_))
  refine gj_g 5 15 20 rfl rfl rfl rfl (fun hg15 => gj_yes rfl rfl rfl (y_fa fa67_2 rfl) rfl rfl (gj_yes rfl rfl rfl (y_load1 Tryz.isAgg54 rfl rfl) rfl rfl (gj_yes rfl rfl rfl (y_lenA Tryz.underlying54 rfl) rfl rfl (gj_yes rfl rfl rfl (y_call Tryz.call63 rfl (fun w hp => k_within _ _ _ w)) rfl rfl (gj_yes rfl rfl rfl (y_not rfl) rfl rfl (gj_nil rfl)))))) ?_
  refine gj_step (y_or rfl rfl rfl) rfl rfl rfl (gj_step (y_move rfl) rfl rfl rfl (?_))
  refine gj_g 6 22 28 rfl rfl rfl rfl (fun hg22 => gj_yes rfl rfl rfl (y_fa fa67_2 rfl) rfl rfl (gj_yes rfl rfl rfl (y_load1 Tryz.isAgg54 rfl rfl) rfl rfl (gj_yes rfl rfl rfl (y_ixR (reads_sl) Tryz.underlying54 Tryz.sizeOf109 rfl rfl (⟨by omega, by have := hg22; simp only [sxb] at this; omega⟩)) rfl rfl (gj_yes rfl rfl rfl (y_faE fa109_0 rfl) rfl rfl (gj_yes rfl rfl rfl (y_ld1 (reads_sl) Tryz.isAgg3 rfl (geq default (by have := hg22; simp only [sxb] at this; omega)) rfl) rfl rfl (gj_yes rfl rfl rfl (y_neq rfl rfl) rfl rfl (gj_nil rfl))))))) ?_
  refine gj_step (y_or rfl rfl rfl) rfl rfl rfl (?_)
  refine gj_nil ?_
  refine ej_th ?_
  refine cj_cond rfl (fun h29 => ?_) (fun h29 => ?_)
  · have h29b := h29
    try simp only [sxb] at h29
    rw [lotH_V] at h29b
    have hno := not_t h29b
    refine cj_seq ?_
    refine cj_regionG (gj_step (y_assign rfl) rfl rfl rfl (gj_nil ?_))
    refine ej_th (cj_ret (ej_then_ret ?_))
    refine ej_ret1 rfl Tryz.results29 rfl (fun w' hp => ⟨?_, hp.below⟩)
    rw [lotE, lotB_H, hno]; rfl
  · have h29b := h29
    try simp only [sxb] at h29
    rw [lotH_V] at h29b
    have hyes := not_f h29b
    have hz : (lad.getD 0 default).fr = 0 := (lotH_z hyes).2
    refine cj_skip (ej_th (cj_seq (cj_seq ?_)))
    refine cj_regionG (gj_step (y_fa fa67_2 rfl) rfl rfl rfl (gj_step (y_load1 Tryz.isAgg54 rfl rfl) rfl rfl rfl (gj_step (y_lenA Tryz.underlying54 rfl) rfl rfl rfl (gj_step (y_move rfl) rfl rfl rfl (gj_nil ?_)))))
    refine ej_th (cj_block ?_)
    refine cj_lpic (X := Nat) [(1, _), (31, _), (32, _)] (fun k => k ≤ lad.length ∧ (∀ j, j < k → 0 ≤ (lad.getD j default).fr ∧ (lad.getD j default).fr ≤ 100000) ∧ ladG (prevAt lad k) (lad.drop k) = ladG none lad) (fun k => [(33, .int .i64 k)]) (fun k => lad.length - k) 0 (⟨Nat.zero_le _, fun j h => absurd h (Nat.not_lt_zero _), rfl⟩) ⟨rfl, rfl, rfl, rfl, trivial⟩ ?_
    rintro k ⟨hk, hpv, hsk⟩
    dsimp only [List.cons_append, List.nil_append]
    refine cj_seq ?_
    refine cj_regionG (gj_step (y_lss rfl rfl) rfl rfl rfl (gj_nil ?_))
    refine ej_th (cj_seq ?_)
    refine cj_cond rfl (fun h34 => ?_) (fun h34 => ?_)
    · have h34b := h34
      try simp only [sxb] at h34
      obtain ⟨r, hx⟩ : ∃ r, lad[k]? = some r := ⟨_, List.getElem?_eq_getElem (by omega)⟩
      rw [ladG_drop lad k r hx] at hsk
      have hgr : lad.getD k default = r := by rw [List.getD_eq_getElem?_getD, hx]; rfl
      have hV := step_V lad k r hk
      refine cj_skip (ej_th (cj_seq (cj_block (cj_seq (cj_region ?_)))))
      refine oj_step (y_move rfl) rfl rfl rfl ?_
      refine oj_step (y_ixR (reads_sl) Tryz.underlying54 Tryz.sizeOf109 rfl rfl (⟨by omega, by omega⟩)) rfl rfl rfl ?_
      refine oj_step (y_ldW (reads_sl) Tryz.isAgg109 Tryz.sizeOf109 rfl (hx) (fun _ => rfl)) rfl rfl rfl ?_
      refine oj_alloc Tryz.zeroValue109 rfl rfl (fun b4 => ?_)
      refine oj_step (y_assign rfl) rfl rfl rfl ?_
      refine oj_store rfl rfl rfl rfl Tryz.sizeOf109 rfl ?_
      refine oj_nil ?_
      refine ej_th (cj_seq ?_)
      refine cj_draw (by kernel_rfl) (by kernel_rfl) ?_
      refine gj_step (y_fa fa109_1 rfl) rfl rfl rfl (gj_step (y_load1 Tryz.isAgg3 rfl rfl) rfl rfl rfl (?_))
      refine gj_step (y_call Tryz.call63 rfl (fun w hp => k_within _ _ _ w)) rfl rfl rfl ?_
      refine gj_step (y_not rfl) rfl rfl rfl (gj_step (y_move rfl) rfl rfl rfl (?_))
      refine gj_g 16 42 58 rfl rfl rfl rfl (fun hg42 => gj_yes rfl rfl rfl (y_move rfl) rfl rfl (gj_yes rfl rfl rfl (y_gtr rfl rfl) rfl rfl (gj_yes rfl rfl rfl (y_move rfl) rfl rfl (gj_g 12 45 57 rfl rfl rfl rfl (fun hg45 => gj_yes rfl rfl rfl (y_fa0 fa109_0 rfl) rfl rfl (gj_yes rfl rfl rfl (y_load1 Tryz.isAgg3 rfl rfl) rfl rfl (gj_yes rfl rfl rfl (y_fa fa67_2 rfl) rfl rfl (gj_yes rfl rfl rfl (y_load1 Tryz.isAgg54 rfl rfl) rfl rfl (gj_yes rfl rfl rfl (y_move rfl) rfl rfl (gj_yes rfl rfl rfl (y_sub rfl rfl (by omega)) rfl rfl (gj_yes rfl rfl rfl (y_ixR (reads_sl) Tryz.underlying54 Tryz.sizeOf109 rfl rfl (⟨by have := hg45; simp only [sxb] at this; omega, by have := hg45; simp only [sxb] at this; omega⟩)) rfl rfl (gj_yes rfl rfl rfl (y_faE fa109_0 rfl) rfl rfl (gj_yes rfl rfl rfl (y_ld1 (reads_sl) Tryz.isAgg3 rfl (geq default (by have := hg45; simp only [sxb] at this; omega)) rfl) rfl rfl (gj_yes rfl rfl rfl (y_add rfl rfl (by have := hpv ((k : Int) - 1).toNat (by have := hg45; simp only [sxb] at this; omega); omega)) rfl rfl (gj_yes rfl rfl rfl (y_call Tryz.call63 rfl (fun w hp => k_within _ _ _ w)) rfl rfl (gj_yes rfl rfl rfl (y_not rfl) rfl rfl (gj_nil rfl))))))))))))) (gj_yes rfl rfl rfl (y_and rfl rfl rfl) rfl rfl (gj_nil rfl)))))) ?_
      refine gj_step (y_or rfl rfl rfl) rfl rfl rfl (?_)
      refine gj_nil ?_
      refine ej_th ?_
      refine cj_cond rfl (fun h59 => ?_) (fun h59 => ?_)
      · have h59b := h59
        try simp only [sxb] at h59
        rw [hV] at h59b
        refine cj_seq ?_
        refine cj_regionG (gj_step (y_assign rfl) rfl rfl rfl (gj_nil ?_))
        refine ej_th (cj_ret (ej_blk_ret (ej_then_ret (ej_then_ret (ej_blk_ret (ej_then_ret ?_))))))
        refine ej_ret1 rfl Tryz.results29 rfl (fun w' hp => ⟨?_, hp.below⟩)
        rw [lotE, lotB_H, hyes, ← hsk, not_t h59b]; rfl
      · have h59b := h59
        try simp only [sxb] at h59
        rw [hV] at h59b
        have hstep := not_f h59b
        have hfr : 0 ≤ r.fr ∧ r.fr ≤ 100000 := step_fr hx hstep hpv hz
        refine cj_skip (ej_blk (ej_th ?_))
        refine cj_regionG (gj_step (y_add rfl rfl (by omega)) rfl rfl rfl (gj_step (y_move rfl) rfl rfl rfl (gj_nil ?_)))
        refine ej_nx (k + 1) (by omega) ⟨by omega, fun j hj => ?_, by rw [← hsk, hstep, Bool.true_and]⟩ ⟨rfl, rfl, rfl, rfl, trivial⟩
        by_cases e : j = k
        · rw [e, hgr]; exact hfr
        · exact hpv j (by omega)
    · have h34b := h34
      try simp only [sxb] at h34
      refine cj_exit (ej_then_exit (ej_then_exit (ej_blk_hit (ej_th (cj_seq ?_)))))
      refine cj_regionG (gj_step (y_assign rfl) rfl rfl rfl (gj_nil ?_))
      refine ej_th (cj_ret ?_)
      refine ej_ret1 rfl Tryz.results29 rfl (fun w' hp => ⟨?_, hp.below⟩)
      rw [lotE, lotB_H, hyes, ← hsk, List.drop_of_length_le (by omega)]; rfl

theorem k_rungs1 (st rv : Int) (lad : List RiseV) (Al : Option Addr) (cl : Nat) (bx : Nat) (fp : Nat → Prop) (hok : LotOk st rv lad) : IterX Tryz.prog 109 #[.pointer (some ⟨bx, 0, none⟩)] (fun p : Int => [.int .i64 p]) (rgL lad st) [ownB bx (cellsB 116 [.int .i64 st, .int .i64 rv, .slice Al lad.length cl]), sl fp 2 encRi Al lad] := by
  intro l J Jx w hgr hadd hdrop hfacts hgrx hdrx hfx hround hJ0
  have hst := hok.st
  have hl8 := hok.len
  have hll := hok.lad
  have hl1 := hll.ne
  have hlz := hll.zero
  refine enter_pure (args := [.func (.yield l) #[] #[], .pointer (some ⟨bx, 0, none⟩)]) [ownB bx (cellsB 116 [.int .i64 st, .int .i64 rv, .slice Al lad.length cl]), sl fp 2 encRi Al lad] Tryz.func109 rfl (by rw [Tryz.ntmps109]; simp) (fun g hg => hfacts [] 0 w hJ0 g (List.mem_append_left _ hg)) ?_
  refine cj_seq ?_
  refine cj_regionG (gj_step (y_assign rfl) rfl rfl rfl (gj_nil ?_))
  refine ej_th (cj_seq ?_)
  refine cj_regionG (gj_step (y_fa0 fa116_0 rfl) rfl rfl rfl (gj_step (y_fa0 fa67_0 rfl) rfl rfl rfl (gj_step (y_loadS1 Tryz.isAgg3 rfl rfl) rfl rfl rfl (gj_step (y_assign rfl) rfl rfl rfl (gj_nil ?_)))))
  refine ej_th (cj_block ?_)
  refine cj_loopB (X := Nat × Nat × Int) (fun ⟨k, a, p⟩ => k ≤ (rgL lad st).length ∧ (a < lad.length ∧ (lad.getD a default).fr ≤ p) ∧ (1 ≤ p ∧ p ≤ 200000) ∧ (rgL lad st).drop k = rgL lad p) (fun ⟨k, a, p⟩ => [(0, .func (.yield l) #[] #[]), (1, .pointer (some ⟨bx, 0, none⟩)), (3, .int .i64 (a : Nat)), (4, .int .i64 p)]) (fun ⟨k, a, p⟩ => fun W => J [] k W) [ownB bx (cellsB 116 [.int .i64 st, .int .i64 rv, .slice Al lad.length cl]), sl fp 2 encRi Al lad] (fun ⟨k, a, p⟩ => (200001 - p).toNat) (0, 0, st) (⟨Nat.zero_le _, ⟨by omega, by omega⟩, by omega, rfl⟩) ⟨rfl, rfl, rfl, rfl, trivial⟩ (fun w1 hp => hgr _ _ _ _ hJ0 hp.below) (fun x W h g hg => hfacts [] _ W h g (List.mem_append_left _ hg)) ?_
  rintro ⟨k, a, p⟩ W ⟨hk, ⟨hal, haf⟩, hpb, hsk⟩ hJW
  refine cj_seq (cj_seq ?_)
  refine cj_regionG (gj_step (y_move rfl) rfl rfl rfl (gj_step (y_leq rfl rfl) rfl rfl rfl (gj_nil ?_)))
  refine ej_th ?_
  refine cj_cond rfl (fun h9 => ?_) (fun h9 => ?_)
  · have h9b := h9
    try simp only [sxb] at h9
    obtain ⟨hget, hdn⟩ := rg_get hll (by omega) (by omega) hsk
    refine cj_skip (ej_th (cj_seq (cj_block (cj_seq (cj_seq (cj_region ?_))))))
    refine oj_step (y_move rfl) rfl rfl rfl ?_
    refine oj_step (y_move rfl) rfl rfl rfl ?_
    refine oj_yieldB (T := TB J Jx (k + 1)) [ownB bx (cellsB 116 [.int .i64 st, .int .i64 rv, .slice Al lad.length cl]), sl fp 2 encRi Al lad] rfl rfl rfl (fun w1 hp => hround [] k p w1 hget (hgr _ _ _ _ hJW hp.below)) rfl (fun b W h g hg => ?_) (fun b21 W21 hT21 => ?_)
    · cases b with
      | true => exact hfacts [] _ W h g (List.mem_append_left _ hg)
      | false => exact hfx [] _ W h g (List.mem_append_left _ hg)
    rotate_left
    refine oj_step (y_not rfl) rfl rfl rfl ?_
    refine oj_nil ?_
    refine ej_th ?_
    refine cj_cond rfl (fun h22 => ?_) (fun h22 => ?_)
    · have h22b := h22
      try simp only [sxb] at h22
      have hb21 : b21 = false := not_t h22b
      subst hb21
      refine cj_ret (ej_then_ret (ej_blk_ret (ej_then_ret (ej_then_ret (ej_blk_ret ?_)))))
      exact ej_ret0 rfl Tryz.results109 (fun w' hp => ⟨⟨_, rfl⟩, .inr ⟨k + 1, hgrx _ _ _ _ hT21 hp.below⟩⟩)
    · have h22b := h22
      try simp only [sxb] at h22
      have hb21 : b21 = true := not_f h22b
      subst hb21
      have hJ2 : J [] (k + 1) W21 := hT21
      have hkl := (List.getElem?_eq_some_iff.1 hget).1
      refine cj_skip (ej_th (cj_block ?_))
      refine cj_loopB (X := Nat) (fun b => b < lad.length ∧ (lad.getD b default).fr ≤ p) (fun b => [(0, .func (.yield l) #[] #[]), (1, .pointer (some ⟨bx, 0, none⟩)), (3, .int .i64 (b : Nat)), (4, .int .i64 p)]) (fun b => fun W => J [] (k + 1) W) [ownB bx (cellsB 116 [.int .i64 st, .int .i64 rv, .slice Al lad.length cl]), sl fp 2 encRi Al lad] (fun b => lad.length - b) a (⟨hal, haf⟩) ⟨rfl, rfl, rfl, rfl, trivial⟩ (fun w1 hp => hgr _ _ _ _ hJ2 hp.below) (fun x W h g hg => hfacts [] _ W h g (List.mem_append_left _ hg)) ?_
      rintro b W2 ⟨hbl, hbf⟩ hJW2
      refine cj_seq (cj_seq ?_)
      refine cj_regionG (gj_step (y_move rfl) rfl rfl rfl (gj_step (y_add rfl rfl (by omega)) rfl rfl rfl (gj_step (y_fa0 fa116_0 rfl) rfl rfl rfl (gj_step (y_fa fa67_2 rfl) rfl rfl rfl (gj_step (y_loadS1 Tryz.isAgg54 rfl rfl) rfl rfl rfl (gj_step (y_lenA Tryz.underlying54 rfl) rfl rfl rfl (gj_step (y_lss rfl rfl) rfl rfl rfl (gj_step (y_move rfl) rfl rfl rfl (gj_g 10 30 40 rfl rfl rfl rfl (fun hg30 => gj_yes rfl rfl rfl (y_fa0 fa116_0 rfl) rfl rfl (gj_yes rfl rfl rfl (y_fa fa67_2 rfl) rfl rfl (gj_yes rfl rfl rfl (y_loadS1 Tryz.isAgg54 rfl rfl) rfl rfl (gj_yes rfl rfl rfl (y_move rfl) rfl rfl (gj_yes rfl rfl rfl (y_add rfl rfl (by omega)) rfl rfl (gj_yes rfl rfl rfl (y_ixR (reads_sl) Tryz.underlying54 Tryz.sizeOf109 rfl rfl (⟨by have := hg30; simp only [sxb] at this; omega, by have := hg30; simp only [sxb] at this; omega⟩)) rfl rfl (gj_yes rfl rfl rfl (y_faE fa109_0 rfl) rfl rfl (gj_yes rfl rfl rfl (y_ld1 (reads_sl) Tryz.isAgg3 rfl (geq default (by have := hg30; simp only [sxb] at this; omega)) rfl) rfl rfl (gj_yes rfl rfl rfl (y_move rfl) rfl rfl (gj_yes rfl rfl rfl (y_leq rfl rfl) rfl rfl (gj_nil rfl))))))))))) (gj_step (y_and rfl rfl rfl) rfl rfl rfl (gj_nil ?_)))))))))))
      refine ej_th ?_
      refine cj_cond rfl (fun h41 => ?_) (fun h41 => ?_)
      · have h41b := h41
        try simp only [sxb] at h41
        rw [show (((b : Nat) : Int) + 1).toNat = b + 1 by omega] at h41b
        simp only [sxb] at h41b
        refine cj_skip (ej_th (cj_block ?_))
        refine cj_regionG (gj_step (y_move rfl) rfl rfl rfl (gj_step (y_add rfl rfl (by omega)) rfl rfl rfl (gj_step (y_assign rfl) rfl rfl rfl (gj_nil ?_))))
        refine ej_blk ?_
        rw [show ((b : Nat) : Int) + 1 = ((b + 1 : Nat) : Int) by omega]
        exact ej_nxB (b + 1) (by omega) ⟨by omega, by omega⟩ ⟨rfl, rfl, rfl, rfl, trivial⟩ (fun w1 hg => hgr _ _ _ _ hJW2 hg)
      · have h41b := h41
        try simp only [sxb] at h41
        rw [show (((b : Nat) : Int) + 1).toNat = b + 1 by omega] at h41b
        simp only [sxb] at h41b
        refine cj_exit (ej_then_exit (ej_then_exit (ej_blk_hit (ej_blk (ej_th ?_)))))
        refine cj_regionG (gj_step (y_move rfl) rfl rfl rfl (gj_step (y_fa0 fa116_0 rfl) rfl rfl rfl (gj_step (y_fa fa67_2 rfl) rfl rfl rfl (gj_step (y_loadS1 Tryz.isAgg54 rfl rfl) rfl rfl rfl (gj_step (y_move rfl) rfl rfl rfl (gj_step (y_ixR (reads_sl) Tryz.underlying54 Tryz.sizeOf109 rfl rfl (⟨by omega, by omega⟩)) rfl rfl rfl (gj_step (y_faE fa109_1 rfl) rfl rfl rfl (gj_step (y_ld1 (reads_sl) Tryz.isAgg3 rfl (geq default (by omega)) rfl) rfl rfl rfl (gj_step (y_add rfl rfl (by have := (hll.by1 _ (getD_mem (d := default) (by omega : b < lad.length))); rw [show ((b : Nat) : Int).toNat = b by omega]; omega)) rfl rfl rfl (gj_step (y_assign rfl) rfl rfl rfl (gj_nil ?_)))))))))))
        have hnx := at_next hll hbl hbf (fun h => by omega)
        have hby := byR_bd hll (p := p) (by omega)
        have hnp : nx lad p = p + byR lad p := rfl
        rw [show ((b : Nat) : Int).toNat = b by omega, hnx]
        exact ej_nxB (k + 1, b, nx lad p) (by first | omega | (simp only; omega)) ⟨by first | omega | (simp only; omega), ⟨hbl, by first | omega | (simp only; omega)⟩, by first | omega | (simp only; omega), hdn⟩ ⟨rfl, rfl, rfl, rfl, trivial⟩ (fun w1 hg => hgr _ _ _ _ hJW2 hg)
  · have h9b := h9
    try simp only [sxb] at h9
    have hke := rg_end hll (by omega) (by omega) hk hsk
    subst hke
    refine cj_exit (ej_then_exit (ej_then_exit (ej_blk_hit ?_)))
    exact ej_end0 rfl Tryz.results109 (fun w' hp => ⟨⟨_, rfl⟩, .inl (hgr _ _ _ _ hJW hp.below)⟩)

theorem k_rungs (st rv : Int) (lad : List RiseV) (Al : Option Addr) (cl : Nat) (w : World)  : Calls Tryz.prog 70 #[.agg #[.int .i64 st, .int .i64 rv, .slice Al lad.length cl]] w (fun e w' => ∃ x : Nat, e = .returned (.func (.func 109) #[] #[.pointer (some ⟨x, 0, none⟩)]) ∧ Grow w w' ∧ (∀ g ∈ ([] : List Fact), g.P w' ∧ ∀ b, g.fp b → w.heap.size ≤ b ∧ b < w'.heap.size) ∧ ([] : List Fact).Pairwise (fun f g => ∀ b, f.fp b → ¬ g.fp b) ∧ (∀ g ∈ [ownB x (cellsB 116 [.int .i64 st, .int .i64 rv, .slice Al lad.length cl])], g.P w' ∧ ∀ b, g.fp b → w.heap.size ≤ b ∧ b < w'.heap.size ∧ ∀ o ∈ ([] : List Fact), ¬ o.fp b)) := by
  refine enter_pure (args := [.agg #[.int .i64 st, .int .i64 rv, .slice Al lad.length cl]]) [] Tryz.func70 rfl (by rw [Tryz.ntmps70]; simp) (by simp) ?_
  refine cj_seq (cj_region ?_)
  refine oj_box rfl rfl rfl (fun b1 => ?_)
  refine oj_step (y_assign rfl) rfl rfl rfl ?_
  refine oj_nil ?_
  refine ej_th (cj_seq ?_)
  refine cj_regionG (gj_step (y_makeFunc rfl rfl) rfl rfl rfl (gj_step (y_assign rfl) rfl rfl rfl (gj_nil ?_)))
  refine ej_th (cj_ret ?_)
  exact ej_ret1 rfl Tryz.results70 rfl (fun w' hp => ⟨b1, rfl, hp.below, by simp, List.Pairwise.nil, fun g hg => ⟨(hp.own g hg).1, fun b hb => ⟨Nat.le_of_not_lt ((hp.own g hg).2 b hb).2, ((hp.own g hg).2 b hb).1, by simp⟩⟩⟩)

theorem k_rung (st rv : Int) (lad : List RiseV) (Al : Option Addr) (cl : Nat) (n : Int) (w : World) (hlad : Rd w 2 encRi Al lad) (hok : LotOk st rv lad) : Calls Tryz.prog 106 #[.agg #[.int .i64 st, .int .i64 rv, .slice Al lad.length cl], .int .i64 n] w (fun e w' => e = .returned (.int .i64 (rungR st lad n)) ∧ Grow w w') := by
  refine enter_pureM (args := [.agg #[.int .i64 st, .int .i64 rv, .slice Al lad.length cl], .int .i64 n]) [sl (fun b => b < w.heap.size) 2 encRi Al lad] Tryz.func106 rfl (by rw [Tryz.ntmps106]; simp) (fun g hg => by simp at hg; subst hg; exact ⟨hlad, fun _ h => h⟩) ?_
  refine cj_seq (cj_region ?_)
  refine oj_box rfl rfl rfl (fun b2 => ?_)
  refine oj_box rfl rfl rfl (fun b3 => ?_)
  refine oj_step (y_assign rfl) rfl rfl rfl ?_
  refine oj_nil ?_
  refine ej_th (cj_seq (cj_region ?_))
  refine oj_alloc Tryz.zeroValue3 rfl rfl (fun b5 => ?_)
  refine oj_store rfl rfl rfl rfl Tryz.sizeOf3 rfl ?_
  refine oj_nil ?_
  refine ej_th (cj_seq (cj_seq (cj_region ?_)))
  refine oj_step (y_loadN Tryz.isAgg116 Tryz.sizeOf116 rfl) rfl rfl rfl ?_
  refine oj_call (X := Nat) (fun z => .func (.func 109) #[] #[.pointer (some ⟨z, 0, none⟩)]) (fun _ => []) (fun z => [ownB z (cellsB 116 [.int .i64 st, .int .i64 rv, .slice Al lad.length cl])]) Tryz.call70 rfl (fun w hp => k_rungs st rv lad Al cl w) rfl (fun bx => ?_)
  dsimp only [List.nil_append, List.cons_append]
  refine oj_nil ?_
  refine ej_th (cj_block ?_)
  refine cj_rangeX (k_rungs1 st rv lad Al cl bx (fun b => b < w.heap.size) hok) (Y := Int) (Z := Unit) (fun k y => rungF n ((rgL lad st).drop k) y = rungF n (rgL lad st) 0) (fun _ y => [ownB b5 (cellsB 3 [.int .i64 y]), ownB b3 (cellsB 3 [.int .i64 n]), ownB b2 (cellsB 116 [.int .i64 st, .int .i64 rv, .slice Al lad.length cl])]) (fun _ => .exit 0) (fun _ => [ownB b5 (cellsB 3 [.int .i64 (rungF n (rgL lad st) 0)]), ownB b3 (cellsB 3 [.int .i64 n]), ownB b2 (cellsB 116 [.int .i64 st, .int .i64 rv, .slice Al lad.length cl])]) (0 : Int) rfl rfl Tryz.call109 (fun _ => rfl) rfl ?_ ?_ ?_
  · rintro Xs lo Db r0 r1 k p y hp9 hy
    rw [rungF_drop n y _ k p hp9] at hy
    dsimp only [List.cons_append, List.nil_append]
    refine cj_regionG (gj_step (y_assign rfl) rfl rfl rfl (gj_nil ?_))
    refine ej_beg (cj_block (cj_seq (cj_seq ?_)))
    refine cj_regionG (gj_step (y_move rfl) rfl rfl rfl (gj_step (y_load1 Tryz.isAgg3 rfl rfl) rfl rfl rfl (gj_step (y_gtr rfl rfl) rfl rfl rfl (gj_nil ?_))))
    refine ej_th ?_
    refine cj_cond rfl (fun h12 => ?_) (fun h12 => ?_)
    · have h12b := h12
      try simp only [sxb] at h12
      refine cj_exit (ej_then_exit (ej_blk_pass rfl ?_))
      rw [if_pos (by omega)] at hy
      subst hy
      exact ej_rdx () rfl
    · have h12b := h12
      try simp only [sxb] at h12
      refine cj_skip (ej_th (cj_region ?_))
      refine oj_step (y_move rfl) rfl rfl rfl ?_
      refine oj_store rfl rfl rfl rfl Tryz.sizeOf3 rfl ?_
      refine oj_nil ?_
      refine ej_blk ?_
      rw [if_neg (by omega)] at hy
      exact ej_rd p hy
  · rintro Db y hy
    rw [List.drop_of_length_le (Nat.le_refl _)] at hy
    have hy2 : y = rungF n (rgL lad st) 0 := hy
    subst hy2
    refine ej_blk (ej_th (cj_seq ?_))
    refine cj_regionG (gj_step (y_load1 Tryz.isAgg3 rfl rfl) rfl rfl rfl (gj_step (y_assign rfl) rfl rfl rfl (gj_nil ?_)))
    refine ej_th (cj_ret ?_)
    exact ej_retM1 rfl Tryz.results106 rfl (fun w' hp => ⟨rfl, hp.below⟩)
  · rintro Db -
    refine cj_exit (ej_blk_hit (ej_th (cj_seq ?_)))
    refine cj_regionG (gj_step (y_load1 Tryz.isAgg3 rfl rfl) rfl rfl rfl (gj_step (y_assign rfl) rfl rfl rfl (gj_nil ?_)))
    refine ej_th (cj_ret ?_)
    exact ej_retM1 rfl Tryz.results106 rfl (fun w' hp => ⟨rfl, hp.below⟩)

theorem k_behind (st rv : Int) (lad : List RiseV) (Al : Option Addr) (cl : Nat) (n : Int) (w : World) (hlad : Rd w 2 encRi Al lad) (hok : LotOk st rv lad) : Calls Tryz.prog 32 #[.agg #[.int .i64 st, .int .i64 rv, .slice Al lad.length cl], .int .i64 n] w (fun e w' => e = .returned (.int .i64 (behF n (rgL lad st))) ∧ Grow w w') := by
  refine enter_pureM (args := [.agg #[.int .i64 st, .int .i64 rv, .slice Al lad.length cl], .int .i64 n]) [sl (fun b => b < w.heap.size) 2 encRi Al lad] Tryz.func32 rfl (by rw [Tryz.ntmps32]; simp) (fun g hg => by simp at hg; subst hg; exact ⟨hlad, fun _ h => h⟩) ?_
  refine cj_seq (cj_region ?_)
  refine oj_box rfl rfl rfl (fun b2 => ?_)
  refine oj_box rfl rfl rfl (fun b3 => ?_)
  refine oj_alloc Tryz.zeroValue3 rfl rfl (fun b4 => ?_)
  refine oj_nil ?_
  refine ej_th (cj_seq (cj_seq (cj_region ?_)))
  refine oj_step (y_loadN Tryz.isAgg116 Tryz.sizeOf116 rfl) rfl rfl rfl ?_
  refine oj_call (X := Nat) (fun z => .func (.func 109) #[] #[.pointer (some ⟨z, 0, none⟩)]) (fun _ => []) (fun z => [ownB z (cellsB 116 [.int .i64 st, .int .i64 rv, .slice Al lad.length cl])]) Tryz.call70 rfl (fun w hp => k_rungs st rv lad Al cl w) rfl (fun bx => ?_)
  dsimp only [List.nil_append, List.cons_append]
  refine oj_nil ?_
  refine ej_th (cj_block ?_)
  refine cj_rangeX (k_rungs1 st rv lad Al cl bx (fun b => b < w.heap.size) hok) (Y := Unit) (Z := Unit) (fun k _ => behF n ((rgL lad st).drop k) = behF n (rgL lad st)) (fun _ _ => [ownB b4 (cellsB 3 [.int .i64 0]), ownB b3 (cellsB 3 [.int .i64 n]), ownB b2 (cellsB 116 [.int .i64 st, .int .i64 rv, .slice Al lad.length cl])]) (fun _ => .ret) (fun _ => [ownB b4 (cellsB 3 [.int .i64 (behF n (rgL lad st))]), ownB b3 (cellsB 3 [.int .i64 n]), ownB b2 (cellsB 116 [.int .i64 st, .int .i64 rv, .slice Al lad.length cl])]) () rfl rfl Tryz.call109 (fun _ => rfl) rfl ?_ ?_ ?_
  · rintro Xs lo Db r0 r1 k p - hp9 hy
    rw [behF_drop n _ k p hp9] at hy
    dsimp only [List.cons_append, List.nil_append]
    refine cj_regionG (gj_step (y_assign rfl) rfl rfl rfl (gj_nil ?_))
    refine ej_beg (cj_block (cj_seq ?_))
    refine cj_regionG (gj_step (y_move rfl) rfl rfl rfl (gj_step (y_load1 Tryz.isAgg3 rfl rfl) rfl rfl rfl (gj_step (y_gtr rfl rfl) rfl rfl rfl (gj_nil ?_))))
    refine ej_th ?_
    refine cj_cond rfl (fun h11 => ?_) (fun h11 => ?_)
    · have h11b := h11
      try simp only [sxb] at h11
      refine cj_seq (cj_region ?_)
      refine oj_step (y_move rfl) rfl rfl rfl ?_
      refine oj_store rfl rfl rfl rfl Tryz.sizeOf3 rfl ?_
      refine oj_nil ?_
      refine ej_th (cj_ret (ej_blk_ret ?_))
      rw [if_pos (by omega)] at hy
      subst hy
      exact ej_rdr () rfl
    · have h11b := h11
      try simp only [sxb] at h11
      refine cj_skip (ej_blk ?_)
      rw [if_neg (by omega)] at hy
      exact ej_rd () hy
  · rintro Db - hy
    rw [List.drop_of_length_le (Nat.le_refl _)] at hy
    have hy2 : behF n (rgL lad st) = 0 := hy.symm
    refine ej_blk (ej_th (cj_seq (cj_region ?_)))
    refine oj_store rfl rfl rfl rfl Tryz.sizeOf3 rfl ?_
    refine oj_nil ?_
    refine ej_th (cj_ret ?_)
    exact ej_retMc1 rfl Tryz.results32 rfl (y_load1 Tryz.isAgg3 rfl rfl) (fun w' hp => ⟨by rw [hy2], hp.below⟩)
  · rintro Db -
    refine cj_ret (ej_blk_ret (ej_then_ret ?_))
    exact ej_retMc1 rfl Tryz.results32 rfl (y_load1 Tryz.isAgg3 rfl rfl) (fun w' hp => ⟨rfl, hp.below⟩)

end Go.Proofs.YtppfniekcgnmjaaGreatDoor.Au
namespace Go.Proofs.YtppfniekcgnmjaaGreatDoor.Au
open Go.Sx Go.RowKit
set_option maxRecDepth 20000

end Go.Proofs.YtppfniekcgnmjaaGreatDoor.Au
namespace Go.Proofs.YtppfniekcgnmjaaGreatDoor.Au
open Go.Sx Go.RowKit Am
set_option maxRecDepth 20000
end Go.Proofs.YtppfniekcgnmjaaGreatDoor.Au
namespace Go.Sx
open Go.RowKit Go.Proofs Go.Sort Go.Shelf
variable {α : Type} [Inhabited α]
theorem flat_at (enc : α → List Value) (k : Nat) (hk : ∀ x, (enc x).length = k) (hk0 : 0 < k) (xs : List α) (t : Nat) (h : t < xs.length * k) : (xs.flatMap enc)[t]? = some ((flatK enc k xs.toArray)[t]!) := by
  have hq : t / k < xs.length := Nat.div_lt_of_lt_mul (by rw [Nat.mul_comm]; exact h)
  have hm : t % k < k := Nat.mod_lt _ hk0
  have he : t / k * k + t % k = t := by rw [Nat.mul_comm]; exact Nat.div_add_mod t k
  have hx : xs[t / k]? = some (xs[t / k]'hq) := List.getElem?_eq_getElem hq
  have h1 := flatMap_get enc k hk xs (t / k) _ (t % k) hx hm
  rw [he] at h1
  rw [h1, get_flatK enc k xs.toArray t (by simpa using h)]
  have h2 : xs.toArray[t / k]! = xs[t / k]'hq := by simp [getElem!_pos, hq]
  rw [h2, getElem!_pos _ _ (by rw [hk]; exact hm), List.getElem?_eq_getElem (by rw [hk]; exact hm)]
theorem calls_sortK {P : Program} {ρ : Ren} (L : SlLaysF0.n6 P ρ) (k : Nat) (hk0 : 0 < k) (aE : ∀ w, (isAgg (ρ.t 24)).run P w = .ok true w) (zE : ∀ w, (Go.sizeOf (ρ.t 24)).run P w = .ok k w) (enc : α → List Value) (hk : ∀ x, (enc x).length = k) (h1 : ∀ x, ∀ v ∈ enc x, v.oneCell' = true)
    (cf : α → α → Int) (hO : SWO (ltOf cf)) (hT : ∀ x y, (ltOf cf) x y = false → (ltOf cf) y x = false → x = y) (g : Nat) (eg : ∀ args w, (callFunc g args).run P w = .ok (.enter g args) w)
    (hcmp : ∀ (x y : α) (W : World), Calls P g #[.agg (enc x).toArray, .agg (enc y).toArray] W (fun e w' => e = .returned (.int .i64 (cf x y)) ∧ ∃ q os', w' = grow (W.drewN q) os'))
    (e c : Nat) (A : Option Addr) (xs : List α) (w : World) (hl : xs.length < 4611686018427387904) (ho : (ow e k enc A c xs).P w) :
    Calls P (ρ.f 6) #[.slice A xs.length c, .func (.func g) #[] #[]] w (fun en w' => en = .returned (.tuple #[]) ∧ Mut (ow e k enc A c xs) w w' ∧ (ow e k enc A c (xs.mergeSort fun x y => !(ltOf cf) y x)).P w') := by
  have ho' : w.ownsRow 0 e k (.slice A xs.length c) xs.length (xs.flatMap enc) := ho
  rcases ho'.2 with ⟨h2, h3⟩ | ⟨b, cap, cur, hv, _, hb, hn, hm, hs, ht⟩
  · have hx0 : xs = [] := List.eq_nil_of_length_eq_zero h3
    subst hx0
    have hS := AnyF.slices_SortFunc_none (P := P) (ρ := ρ) { L with } A c (.func (.func g) #[] #[]) w
    refine hS.mono fun en w' hh => ?_
    obtain ⟨he, hw⟩ := hh
    rw [hw]
    have e0 : (([] : List α).mergeSort fun x y => !(ltOf cf) y x) = [] := by simp
    rw [e0]
    exact ⟨he, ⟨rfl, rfl, rfl, Nat.le_refl _, fun _ _ _ => rfl⟩, ho⟩
  · injection hv with hA _ hc
    subst hA; subst hc
    have hblk : b < w.heap.size := (Array.getElem?_eq_some_iff.1 hb).1
    have hH : HoldsK enc k w b 0 xs.toArray := by
      intro j hj
      rw [size_flatK] at hj
      have hj' : j < xs.length * k := by simpa using hj
      refine ⟨?_, by simp [World.frozen?, hb]⟩
      have e1 : (cur.toList.take (xs.length * k))[j]? = (xs.flatMap enc)[j]? := by rw [ht]
      rw [List.getElem?_take, if_pos hj', Array.getElem?_toList, flat_at enc k hk hk0 xs j hj'] at e1
      simp only [World.cell?, hb, Nat.zero_add]
      simp only [Option.isSome_none, Bool.false_eq_true, if_false]
      exact e1
    have hS := AnyQ.slices_SortFunc_total L k aE zE enc hk h1 cf hO g #[] b 0 c xs.toArray w eg (fun _ _ _ _ x y => hcmp x y _) hH hblk (by simpa using hl) hT
    rw [show xs.toArray.size = xs.length by simp] at hS
    refine hS.mono fun en w' hh => ?_
    obtain ⟨he, q, os, hw⟩ := hh
    refine ⟨he, ?_⟩
    obtain ⟨ys, hys⟩ : ∃ ys, ys = xs.mergeSort fun x y => !(ltOf cf) y x := ⟨_, rfl⟩
    have hyl : ys.length = xs.length := by rw [hys]; exact List.length_mergeSort ..
    have hw2 : w' = grow (putRowK enc k (Sort.ahead w q) b 0 ys.toArray) os := by rw [hw, hys]; rfl
    have hsz : (putRowK enc k (Sort.ahead w q) b 0 ys.toArray).heap.size = w.heap.size := by simp [putRowK, putRow, mapBlock, Sort.ahead]
    rw [← hys, hw2]
    constructor
    · refine ⟨rfl, rfl, rfl, by rw [size_grow, hsz]; omega, fun j hj hne => ?_⟩
      rw [heap_grow_old _ _ (by rw [hsz]; exact hj)]
      have hbk : b ≠ j := fun h => hne (by rw [← h]; rfl)
      simp [putRowK, putRow, mapBlock, Sort.ahead, Array.getElem?_modify, hbk]
    · refine (ow e k enc (some ⟨b, 0, none⟩) c ys).stab (w := putRowK enc k (Sort.ahead w q) b 0 ys.toArray) (fun j hj => ?_) ?_
      · have hbk : b = j := by
          have : (Value.slice (some ⟨b, 0, none⟩) ys.length c).ownBlock = some j := hj
          injection this
        rw [heap_grow_old _ _ (by rw [hsz]; omega)]
      · show World.ownsRow _ 0 e k (.slice (some ⟨b, 0, none⟩) ys.length c) ys.length (ys.flatMap enc)
        refine ⟨by rw [flatMap_len enc k hk], .inr ⟨b, c, putCells id 0 (flatK enc k ys.toArray) cur, rfl, Nat.zero_le _, ?_, by omega, hm, by simpa [putCells] using hs, ?_⟩⟩
        · simp [putRowK, putRow, mapBlock, Sort.ahead, Array.getElem?_modify, hb, onCells]
        · apply List.ext_getElem?
          intro j
          by_cases hj : j < ys.length * k
          · rw [List.getElem?_take, if_pos hj, flat_at enc k hk hk0 ys j hj, Array.getElem?_toList]
            have hjc : j < cur.size := by
              have := Nat.mul_le_mul_right k (show ys.length ≤ c by omega)
              omega
            simp only [putCells, Array.getElem?_mapIdx, Array.getElem?_eq_getElem hjc, Option.map_some]
            rw [if_pos ⟨Nat.zero_le _, by rw [size_flatK]; simpa using hj⟩]
            simp
          · rw [List.getElem?_take, if_neg hj, List.getElem?_eq_none (by rw [flatMap_len enc k hk]; omega)]
end Go.Sx
namespace Go.Proofs.YtppfniekcgnmjaaGreatDoor.Au
open Go.Sx Go.RowKit Am Go.Sort Go.Shelf
set_option maxRecDepth 20000
theorem wa0 (W : World) (a b : Obj) : (W.alloc a).alloc b = grow (W.drewN 0) (#[a] ++ #[b]) := by rw [alloc_eq_grow, alloc_eq_grow, grow_grow]; rfl
theorem wa1 (W : World) (a b : Obj) (q : Nat) (os : Array Obj) : grow (((W.alloc a).alloc b).drewN q) os = grow (W.drewN q) ((#[a] ++ #[b]) ++ os) := by
  rw [alloc_eq_grow, alloc_eq_grow, grow_grow]
  show grow (grow (W.drewN q) (#[a] ++ #[b])) os = _
  rw [grow_grow]
set_option maxHeartbeats 1000000 in
theorem k_beatsG (a b : BidV) (W : World) : Calls Tryz.prog 67 #[.agg (encBi a).toArray, .agg (encBi b).toArray] W (fun e w' => e = .returned (.bool (beats a b)) ∧ ∃ q os', w' = grow (W.drewN q) os') := by
  obtain ⟨a0, a1, a2⟩ := a
  obtain ⟨b0, b1, b2⟩ := b
  show Calls Tryz.prog 67 #[.agg #[.int .i64 a0, .int .i64 a1, .int .i64 a2], .agg #[.int .i64 b0, .int .i64 b1, .int .i64 b2]] W _
  go_enter Tryz.func67, Tryz.ntmps67
  go_wp2
  · go_ret
    rename_i h
    refine ⟨?_, 0, _, by rw [alloc_eq_grow, alloc_eq_grow, grow_grow]; rfl⟩
    have h2 : a2 ≠ b2 := by simpa using h
    unfold beats; rw [if_neg h2]; rfl
  · go_ret
    rename_i h
    refine ⟨?_, 0, _, by rw [alloc_eq_grow, alloc_eq_grow, grow_grow]; rfl⟩
    have h2 : a2 = b2 := by
      have : (a2 != b2) = false := by assumption
      simpa using this
    have h3 : a1 ≠ b1 := by simpa using h
    unfold beats; rw [if_pos h2, if_neg h3]; rfl
  · go_ret
    rename_i h1 h
    refine ⟨?_, 0, _, by rw [alloc_eq_grow, alloc_eq_grow, grow_grow]; rfl⟩
    have h2 : a2 = b2 := by simpa using h1
    have h3 : a1 = b1 := by simpa using h
    unfold beats; rw [if_pos h2, if_pos h3]; rfl
def cmpO (a b : BidV) : Int := if a = b then 0 else if beats a b then -1 else 1
theorem eq93' (a0 a1 a2 b0 b1 b2 : Int) (x y : Operand) (w : World) : (do eqGuard .eql 120 x y (.agg #[.int .i64 a0, .int .i64 a1, .int .i64 a2]) (.agg #[.int .i64 b0, .int .i64 b1, .int .i64 b2]); binOp .eql 120 (.agg #[.int .i64 a0, .int .i64 a1, .int .i64 a2]) (.agg #[.int .i64 b0, .int .i64 b1, .int .i64 b2]) : Sem Value).run Tryz.prog w = .ok (.bool ((a0 == b0) && (a1 == b1) && (a2 == b2))) w := by
  simp [go_sem, Tryz.eqGuardType120, Tryz.stoodInHeld120, Tryz.stoodInHeld111, Tryz.underlying120, Tryz.underlying111, Tryz.underlying3]
  try ((repeat' split) <;> simp_all)
theorem wl_eqO {ops : Array Oper} {rest : List Oper} {Q : Exit → Act → World → Prop} {a : Act} {w : World} {dst : Option Tmp} {ty ty' : TypeId} {pos : String} {aft : Array Edge} {x y : Operand} {a0 a1 a2 b0 b1 b2 : Int}
    (hx : a.eval x = .agg #[.int .i64 a0, .int .i64 a1, .int .i64 a2]) (hy : a.eval y = .agg #[.int .i64 b0, .int .i64 b1, .int .i64 b2])
    (k : wpList Tryz.prog ops Q rest (a.put dst (.bool ((a0 == b0) && (a1 == b1) && (a2 == b2)))) w) : wpList Tryz.prog ops Q (⟨dst, .binOp .eql 120 x y ty', ty, pos, aft, none⟩ :: rest) a w := by
  refine wpList_plain rfl fun K' hK' => ?_
  have h := eq93' a0 a1 a2 b0 b1 b2 x y w
  have hrun : (execOp a.eval ⟨dst, .binOp .eql 120 x y ty', ty, pos, aft, none⟩).run Tryz.prog w = .ok (.value (.bool ((a0 == b0) && (a1 == b1) && (a2 == b2)))) w := by
    simp only [execOp, hx, hy]
    rw [Sem.run_bind, h]; rfl
  unfold Oper.wp
  rw [hrun]
  exact hK' _ _ k
set_option maxHeartbeats 1000000 in
theorem k_cmpO1 (a0 a1 a2 b0 b1 b2 : Int) (r : Bool) (W : World) (hcon : ∀ W, Calls Tryz.prog 67 #[.agg #[.int .i64 a0, .int .i64 a1, .int .i64 a2], .agg #[.int .i64 b0, .int .i64 b1, .int .i64 b2]] W (fun e w' => e = .returned (.bool r) ∧ ∃ q os', w' = grow (W.drewN q) os')) :
    Calls Tryz.prog 69 #[.agg #[.int .i64 a0, .int .i64 a1, .int .i64 a2], .agg #[.int .i64 b0, .int .i64 b1, .int .i64 b2]] W (fun e w' => e = .returned (.int .i64 (if (a0 == b0 && a1 == b1 && a2 == b2) = true then 0 else if r = true then -1 else 1)) ∧ ∃ q os', w' = grow (W.drewN q) os') := by
  go_enter Tryz.func69, Tryz.ntmps69
  generalize hb : ((a0 == b0) && (a1 == b1) && (a2 == b2)) = eb
  go_wp2_with (first | (refine wl_eqO rfl rfl ?_; rw [hb]) | (go_at_call 67; refine (hcon _).mono ?_; rintro e w' ⟨rfl, q, os, rfl⟩))
  all_goals (go_ret; first | exact ⟨rfl, 0, _, wa0 _ _ _⟩ | exact ⟨rfl, _, _, wa1 _ _ _ _ _⟩)
theorem k_cmpO (a b : BidV) (W : World) : Calls Tryz.prog 69 #[.agg (encBi a).toArray, .agg (encBi b).toArray] W (fun e w' => e = .returned (.int .i64 (cmpO a b)) ∧ ∃ q os', w' = grow (W.drewN q) os') := by
  have hcon := fun W' => k_beatsG a b W'
  have hv : cmpO a b = if (a.who == b.who && a.way == b.way && a.most == b.most) = true then 0 else if beats a b = true then -1 else 1 := by
    unfold cmpO
    by_cases h : a = b
    · subst h; simp
    · have hne : ¬ (a.who == b.who && a.way == b.way && a.most == b.most) = true := by
        simp only [Bool.and_eq_true, beq_iff_eq]
        rintro ⟨⟨h1, h2⟩, h3⟩
        exact h (bid_ext h1 h2 h3)
      rw [if_neg h, if_neg hne]
  rw [hv]
  exact k_cmpO1 a.who a.way a.most b.who b.way b.most (beats a b) W hcon
theorem ltO (a b : BidV) : ltOf cmpO a b = beats a b := by
  unfold ltOf cmpO
  by_cases h : a = b
  · subst h
    rw [if_pos rfl]
    cases hb : beats a a with
    | false => rfl
    | true => rw [beats_iff] at hb; omega
  · rw [if_neg h]
    cases hb : beats a b <;> rfl
theorem swoO : SWO (ltOf cmpO) where
  irrefl x := by rw [ltO, beats_no]; omega
  trans x y z h1 h2 := by rw [ltO, beats_iff] at *; omega
  ntrans x y z h1 h2 := by rw [ltO, beats_no] at *; omega
theorem totO (x y : BidV) (h1 : ltOf cmpO x y = false) (h2 : ltOf cmpO y x = false) : x = y := by
  rw [ltO, beats_no] at *
  exact bid_ext (by omega) (by omega) (by omega)
end Go.Proofs.YtppfniekcgnmjaaGreatDoor.Au
namespace Go.Proofs.YtppfniekcgnmjaaGreatDoor.Au
open Go.Sx Go.RowKit Am

abbrev evB (b : BidV) : Value := .agg #[.int .i64 b.who, .int .i64 b.way, .int .i64 b.most]
def firstNo {α : Type} (p : α → Bool) : List α → Int → Int
  | [], _ => -1
  | x :: l, i => if p x = true then firstNo p l (i + 1) else i
theorem firstNo_drop {α : Type} (p : α → Bool) (l : List α) (k : Nat) (x : α) (h : l[k]? = some x) : firstNo p (l.drop k) k = if p x = true then firstNo p (l.drop (k + 1)) ((k + 1 : Nat) : Int) else (k : Int) := by
  obtain ⟨h1, h2⟩ := List.getElem?_eq_some_iff.1 h
  rw [List.drop_eq_getElem_cons h1, h2, firstNo]; rfl
theorem firstNo_ge {α : Type} (p : α → Bool) : ∀ (l : List α) (i : Int), 0 ≤ i → decide (0 ≤ firstNo p l i) = !(l.all p)
  | [], i, _ => by simp [firstNo]
  | x :: l, i, h => by
    rw [firstNo, List.all_cons]
    cases hp : p x with
    | true => rw [if_pos rfl, firstNo_ge p l (i + 1) (by omega), Bool.true_and]
    | false => rw [if_neg (by simp)]; simp [h]
theorem firstNo_all {α : Type} (p : α → Bool) (l : List α) : decide (0 ≤ firstNo p l 0) = !(l.all p) := firstNo_ge p l 0 (Int.le_refl _)
def bid1 (b : BidV) : Bool := btw 0 b.who 99 && btw 0 b.way 3 && btw 1 b.most 100000
def bidsB (bs : List BidV) : Bool := decide ((bs.length : Int) ≤ 32) && bs.all bid1
theorem bid1_V (b : BidV) : (((!(decide (0 ≤ b.who) && decide (b.who ≤ 99))) || !(decide (0 ≤ b.way) && decide (b.way ≤ 3))) || !(decide (1 ≤ b.most) && decide (b.most ≤ 100000))) = !(bid1 b) := by
  unfold bid1 btw
  rw [← Bool.not_and, ← Bool.not_and]
theorem bids_ok {bs : List BidV} (h : bidsB bs = true) : bs.length ≤ 32 ∧ ∀ b ∈ bs, (0 ≤ b.who ∧ b.who ≤ 99) ∧ (0 ≤ b.way ∧ b.way ≤ 3) ∧ (1 ≤ b.most ∧ b.most ≤ 100000) := by
  unfold bidsB at h
  rw [Bool.and_eq_true, decide_eq_true_eq] at h
  refine ⟨by omega, fun b hb => ?_⟩
  have := List.all_eq_true.1 h.2 b hb
  unfold bid1 at this
  simp only [Bool.and_eq_true, btw_t] at this
  exact ⟨this.1.1, this.1.2, this.2⟩
/-- sorted, the one that beats all others first -/
def srt (l : List BidV) : List BidV := l.mergeSort fun x y => !(ltOf cmpO) y x
theorem srt_perm (l : List BidV) : (srt l).Perm l := List.mergeSort_perm ..
theorem srt_pw (l : List BidV) : (srt l).Pairwise (fun a b => beats b a = false) := by
  have := List.pairwise_mergeSort (le := fun x y : BidV => !(ltOf cmpO) y x) (fun a b c h1 h2 => by simp only [ltO, Bool.not_eq_true', beats_no] at *; omega) (fun a b => by
    simp only [ltO, Bool.or_eq_true, Bool.not_eq_true', beats_no]; omega) l
  exact this.imp (fun h => by simpa [ltO] using h)
theorem srt_eq {l m : List BidV} (h : l.Perm m) : srt l = srt m :=
  List.Perm.eq_of_pairwise (fun a b _ _ h1 h2 => by rw [beats_no] at h1 h2; exact bid_ext (by omega) (by omega) (by omega)) (srt_pw l) (srt_pw m) ((srt_perm l).trans (h.trans (srt_perm m).symm))
def offL (rs : List Int) (bs : List BidV) : List BidV := srt ((ownF rs bs []).map (·.2))
theorem offL_len (rs : List Int) (bs : List BidV) : (offL rs bs).length ≤ bs.length := by
  have key : ∀ (l : List BidV) (m : List (Int × BidV)), (ownF rs l m).length ≤ m.length + l.length := by
    intro l
    induction l with
    | nil => intro m; exact Nat.le_refl _
    | cons b l ih =>
      intro m
      rw [ownF]
      have h1 := ih (if 0 < (offer1 rs b).most then ownS m (offer1 rs b) else m)
      have h2 : (if 0 < (offer1 rs b).most then ownS m (offer1 rs b) else m).length ≤ m.length + 1 := by
        have hp : ∀ (m : List (Int × BidV)) (k : Int) (v : BidV), (putL m k v).length ≤ m.length + 1 := by
          intro m k v
          have := congrArg List.length (putL_keys m k v)
          rw [List.length_map] at this
          rw [this]; split <;> simp
        split
        · unfold ownS
          by_cases hc : ownC m (offer1 rs b) = true
          · rw [if_pos hc]; exact hp _ _ _
          · rw [if_neg hc]; omega
        · omega
      rw [List.length_cons]; omega
  unfold offL
  rw [(srt_perm _).length_eq, List.length_map]
  have := key bs []
  simpa using this
theorem sell_off (rs : List Int) (st least : Int) (bs : List BidV) : sellP rs st least (offL rs bs) = knockF rs st least (offs rs bs) :=
  sell_eq (ownF_own rs bs) (srt_perm _) (srt_pw _) (fun _ h => offs_pos h)
/-- what the map's step asks -/
theorem own_V (own : List (Int × BidV)) (o : BidV) : (decide (0 < o.most) && ((!(getL own o.who).isSome) || beats o ((getL own o.who).getD default))) = true ↔ (0 < o.most ∧ ownC own o = true) := by
  rw [Bool.and_eq_true, decide_eq_true_eq]
  unfold ownC
  cases getL own o.who with
  | none => simp
  | some v => simp
theorem own_yes {own : List (Int × BidV)} {o : BidV} (h : (decide (0 < o.most) && ((!(getL own o.who).isSome) || beats o ((getL own o.who).getD default))) = true) : (if 0 < o.most then ownS own o else own) = putL own o.who o := by
  obtain ⟨h1, h2⟩ := (own_V own o).1 h
  rw [if_pos h1, ownS, if_pos h2]
theorem own_no {own : List (Int × BidV)} {o : BidV} (h : (decide (0 < o.most) && ((!(getL own o.who).isSome) || beats o ((getL own o.who).getD default))) = false) : (if 0 < o.most then ownS own o else own) = own := by
  by_cases h1 : 0 < o.most
  · rw [if_pos h1, ownS, if_neg]
    intro h2
    rw [(own_V own o).2 ⟨h1, h2⟩] at h; cases h
  · rw [if_neg h1]
theorem winR_bd {st rv : Int} {lad : List RiseV} (hok : LotOk st rv lad) {bs : List BidV} (hb : ∀ b ∈ bs, (0 ≤ b.who ∧ b.who ≤ 99) ∧ (0 ≤ b.way ∧ b.way ≤ 3) ∧ (1 ≤ b.most ∧ b.most ≤ 100000)) (n : Nat) : 0 ≤ (winR (rgL lad st) bs n).2 ∧ (winR (rgL lad st) bs n).2 ≤ 100000 := by
  rcases winR_spec (rgL lad st) bs (fun b h => (hb b h).2.1.2) (fun b h => (hb b h).1.1) n with ⟨_, e⟩ | ⟨⟨a, _, _⟩, b1, b2, _⟩
  · rw [e]; simp
  · have := (rgL_asc hok.lad hok.st.1).pos _ (offs_rung (rgL_asc hok.lad hok.st.1) a)
    omega
theorem winR_0 {rs : List Int} {bs : List BidV} {i : Nat} (h : (refOff rs bs i).most = 0) : winR rs bs (i + 1) = winR rs bs i := by rw [winR, if_pos h]
theorem winR_y {rs : List Int} {bs : List BidV} {i : Nat} (h : (refOff rs bs i).most ≠ 0) (hb : beats (refOff rs bs i) (winR rs bs i).1 = true) : winR rs bs (i + 1) = (refOff rs bs i, max (winR rs bs i).2 (winR rs bs i).1.most) := by rw [winR, if_neg h, if_pos hb]
theorem winR_n {rs : List Int} {bs : List BidV} {i : Nat} (h : (refOff rs bs i).most ≠ 0) (hb : beats (refOff rs bs i) (winR rs bs i).1 = false) : winR rs bs (i + 1) = ((winR rs bs i).1, max (winR rs bs i).2 (refOff rs bs i).most) := by rw [winR, if_neg h, if_neg (by rw [hb]; simp)]
theorem bids_comm (bs : List BidV) : (bs.all bid1 && decide ((bs.length : Int) ≤ 32)) = bidsB bs := Bool.and_comm ..
theorem knockR_no {lad : List RiseV} {start least : Int} {s : BidV × Int} (h : (((s.1.most == 0) || (least == 0)) || decide (s.1.most < least)) = true) : knockR lad start least s = ⟨-1, 0⟩ := by
  rw [knockR, if_pos]
  simp only [Bool.or_eq_true, beq_iff_eq, decide_eq_true_eq] at h
  omega
theorem knockR_yes {lad : List RiseV} {start least : Int} {s : BidV × Int} (h : (((s.1.most == 0) || (least == 0)) || decide (s.1.most < least)) = false) : knockR lad start least s = ⟨s.1.who, max least (priceR lad start s.1.most s.2)⟩ := by
  rw [knockR, if_neg]
  simp only [Bool.or_eq_false_iff, beq_eq_false_iff_ne, decide_eq_false_iff_not] at h
  omega
theorem rngO_bd {st rv : Int} {lad : List RiseV} (hok : LotOk st rv lad) (i : Int) (bs : List BidV) : 0 ≤ rngO i (rgL lad st) bs 0 ∧ rngO i (rgL lad st) bs 0 ≤ 100000 := by
  obtain ⟨h1, _, h3⟩ := rngO_spec i (rgL lad st) bs 0
  refine ⟨h1, ?_⟩
  rcases h3 with e | ⟨b, _, _, e⟩
  · omega
  · have := rung_bd hok b.most; unfold rungR at this; omega
theorem erase_perm : ∀ (left : List (Int × BidV)) (i : Nat) (p : Int × BidV), left[i]? = some p → ∀ outs : List BidV, ((outs ++ [p.2]) ++ (left.eraseIdx i).map (·.2)).Perm (outs ++ left.map (·.2)) := by
  intro left i p h outs
  have h1 : (p :: left.eraseIdx i).Perm left := by
    induction left generalizing i with
    | nil => simp at h
    | cons x l ih =>
      cases i with
      | zero => simp at h; subst h; exact .refl _
      | succ i =>
        simp at h
        exact (List.Perm.swap x p _).trans ((ih i h).cons x)
  rw [List.append_assoc]
  exact (h1.map (·.2)).append_left outs
theorem encBi_one (x : BidV) : ∀ v ∈ encBi x, v.oneCell' = true := fun v hv => by simp at hv; rcases hv with rfl | rfl | rfl <;> rfl
def SellV (st rv : Int) (lad : List RiseV) (bs : List BidV) : KnockV := if lotB st rv lad = true ∧ bidsB bs = true then knockF (rgL lad st) st (leastR st rv lad) (offs (rgL lad st) bs) else ⟨0, 0⟩
def SellE (st rv : Int) (lad : List RiseV) (bs : List BidV) : Int := if lotB st rv lad = true then (if bidsB bs = true then 0 else 61) else 60
theorem sell_no {st rv : Int} {lad : List RiseV} {bs : List BidV} (h : lotB st rv lad = false) : SellV st rv lad bs = ⟨0, 0⟩ ∧ SellE st rv lad bs = 60 := by unfold SellV SellE; rw [h]; simp
theorem sell_no2 {st rv : Int} {lad : List RiseV} {bs : List BidV} (h : lotB st rv lad = true) (h2 : bidsB bs = false) : SellV st rv lad bs = ⟨0, 0⟩ ∧ SellE st rv lad bs = 61 := by unfold SellV SellE; rw [h, h2]; simp
theorem sell_yes {st rv : Int} {lad : List RiseV} {bs : List BidV} (h : lotB st rv lad = true) (h2 : bidsB bs = true) : SellV st rv lad bs = sellP (rgL lad st) st (leastR st rv lad) (offL (rgL lad st) bs) ∧ SellE st rv lad bs = 0 := by unfold SellV SellE; rw [h, h2, sell_off]; simp
theorem rsell_yes {st rv : Int} {lad : List RiseV} {bs : List BidV} (h : lotB st rv lad = true) (h2 : bidsB bs = true) : SellV st rv lad bs = knockR lad st (leastR st rv lad) (winR (rgL lad st) bs 100) ∧ SellE st rv lad bs = 0 := by
  have hok := lot_ok h
  have hb := (bids_ok h2).2
  unfold SellV SellE
  rw [h, h2, sell_ref hok.lad hok.st.1 (fun b hb' => ⟨(hb b hb').1, (hb b hb').2.1.2⟩)]; simp
theorem sellP_no {rs : List Int} {st least : Int} {s : List BidV} (h : ((((s.length : Int) == 0) || (least == 0)) || decide ((s.getD (0 : Int).toNat default).most < least)) = true) : sellP rs st least s = ⟨-1, 0⟩ := by
  cases s with
  | nil => rfl
  | cons o t =>
    have h1 : (((o :: t).length : Int) == 0) = false := beq_eq_false_iff_ne.2 (by simp; omega)
    rw [h1] at h
    have h2 : least = 0 ∨ o.most < least := by simpa using h
    rw [sellP, if_pos h2]
theorem sellP_yes {rs : List Int} {st least : Int} {s : List BidV} (h : ((((s.length : Int) == 0) || (least == 0)) || decide ((s.getD (0 : Int).toNat default).most < least)) = false) : ∃ o t, s = o :: t ∧ sellP rs st least s = ⟨o.who, max least (priceF rs st o.most (secT t))⟩ := by
  cases s with
  | nil => simp at h
  | cons o t =>
    have h2 : ¬ (least = 0 ∨ o.most < least) := by
      simp only [Bool.or_eq_false_iff, beq_eq_false_iff_ne, decide_eq_false_iff_not] at h
      rintro (e | e)
      · exact h.1.2 e
      · exact h.2 e
    exact ⟨o, t, rfl, by rw [sellP, if_neg h2]⟩
theorem roomG_drop (rs : List Int) (st : Int) (bs : List BidV) (k : Nat) (b : BidV) (x : LeadV) (h : bs[k]? = some b) : roomG rs st x (bs.drop k) = roomS rs st x b :: roomG rs st (roomS rs st x b) (bs.drop (k + 1)) := by
  obtain ⟨h1, h2⟩ := List.getElem?_eq_some_iff.1 h
  rw [List.drop_eq_getElem_cons h1, h2, roomG]
theorem roomE_take (rs : List Int) (st : Int) (bs : List BidV) (k : Nat) (b : BidV) (h : bs[k]? = some b) : roomE rs st (bs.take (k + 1)) = roomS rs st (roomE rs st (bs.take k)) b := by
  unfold roomE
  rw [List.take_add_one, h, List.foldl_append]; rfl
def RoomL (st rv : Int) (lad : List RiseV) (bs : List BidV) : List LeadV := if lotB st rv lad = true ∧ bidsB bs = true then roomG (rgL lad st) st lead0 bs else []
theorem room_no {st rv : Int} {lad : List RiseV} {bs : List BidV} (h : lotB st rv lad = false) : RoomL st rv lad bs = [] ∧ SellE st rv lad bs = 60 := by unfold RoomL SellE; rw [h]; simp
theorem room_no2 {st rv : Int} {lad : List RiseV} {bs : List BidV} (h : lotB st rv lad = true) (h2 : bidsB bs = false) : RoomL st rv lad bs = [] ∧ SellE st rv lad bs = 61 := by unfold RoomL SellE; rw [h, h2]; simp
theorem room_yes {st rv : Int} {lad : List RiseV} {bs : List BidV} (h : lotB st rv lad = true) (h2 : bidsB bs = true) : RoomL st rv lad bs = roomG (rgL lad st) st lead0 bs ∧ SellE st rv lad bs = 0 := by unfold RoomL SellE; rw [h, h2]; simp
theorem encLe_one (x : LeadV) : ∀ v ∈ encLe x, v.oneCell' = true := fun v hv => by simp at hv; rcases hv with rfl | rfl | rfl | rfl | rfl <;> rfl
/-- the reference's bid -/
def roomRr (st : Int) (lad : List RiseV) (x : LeadV) (b : BidV) : LeadV := if rungR st lad b.most = 0 then x else stepR lad st x (offer1 (rgL lad st) b)
def stepB (lad : List RiseV) (st : Int) (x : LeadV) (who way r : Int) : LeadV :=
  let y : LeadV := if x.who = -1 then ⟨who, r, way, x.second, x.price⟩
    else if x.who = who then (if x.limit < r ∨ r = x.limit ∧ way < x.way then ⟨x.who, r, way, x.second, x.price⟩ else x)
    else if beats ⟨who, way, r⟩ ⟨x.who, x.way, x.limit⟩ then ⟨who, r, way, x.limit, x.price⟩
    else ⟨x.who, x.limit, x.way, max x.second r, x.price⟩
  ⟨y.who, y.limit, y.way, y.second, priceR lad st y.limit y.second⟩
theorem roomRr_B (st : Int) (lad : List RiseV) (x : LeadV) (b : BidV) : roomRr st lad x b = if rungR st lad b.most = 0 then x else stepB lad st x b.who b.way (rungR st lad b.most) := rfl
theorem lead_bd {st rv : Int} {lad : List RiseV} (hok : LotOk st rv lad) {bs : List BidV} (hb : ∀ b ∈ bs, 0 ≤ b.who ∧ b.who ≤ 99) {k : Nat} (hk : k ≤ bs.length) : (0 ≤ (roomE (rgL lad st) st (bs.take k)).limit ∧ (roomE (rgL lad st) st (bs.take k)).limit ≤ 100000) ∧ (0 ≤ (roomE (rgL lad st) st (bs.take k)).second ∧ (roomE (rgL lad st) st (bs.take k)).second ≤ 100000) := by
  rcases room_is (rs := rgL lad st) (start := st) bs hb k hk with ⟨_, e⟩ | ⟨W, hW, _, a2, _, _, a0, a5, _⟩
  · rw [e]; simp [lead0]
  · have := (rgL_asc hok.lad hok.st.1).pos _ (offs_rung (rgL_asc hok.lad hok.st.1) hW.mem)
    omega
theorem room_step {st rv : Int} {lad : List RiseV} (hok : LotOk st rv lad) {bs : List BidV} (hb : ∀ b ∈ bs, 0 ≤ b.who ∧ b.who ≤ 99) {k : Nat} {b : BidV} (hx : bs[k]? = some b) : roomRr st lad (roomE (rgL lad st) st (bs.take k)) b = roomS (rgL lad st) st (roomE (rgL lad st) st (bs.take k)) b := by
  have ha := rgL_asc hok.lad hok.st.1
  have hk := (List.getElem?_eq_some_iff.1 hx).1
  have hbd := rung_bd hok b.most
  unfold roomRr roomS
  by_cases h0 : rungR st lad b.most = 0
  · rw [if_pos h0, if_neg (by unfold offer1; simp only; unfold rungR at h0; omega)]
  · have h1 : 0 < (offer1 (rgL lad st) b).most := by unfold offer1; simp only; unfold rungR at h0 hbd; omega
    rw [if_neg h0, if_pos h1]
    refine step_eq hok.lad hok.st.1 (room_is bs hb k (by omega)) ?_ (hb b (List.mem_of_getElem? hx)).1 (fun q hq => offs_rung ha hq) (fun q hq => (offs_who (fun c hc => hb c (List.mem_of_mem_take hc)) hq).1)
    rcases rungF_spec (n := b.most) (rgL lad st) 0 ha with ⟨e, _⟩ | ⟨e, _⟩
    · exact absurd e h0
    · exact e
end Go.Proofs.YtppfniekcgnmjaaGreatDoor.Au
namespace Go.Proofs.YtppfniekcgnmjaaGreatDoor.Au
open Go.Sx Go.RowKit
set_option maxRecDepth 20000
theorem el114 : ElemIs Tryz.prog 114 120 3 24 := ⟨⟨_, (.agg #[.int .i64 0, .int .i64 0, .int .i64 0]), Tryz.underlying114, Tryz.type120, by kernel_rfl, by kernel_rfl, by kernel_rfl, by kernel_rfl, by decide⟩⟩
theorem fa111_0 : FieldIs Tryz.prog 111 0 0 1 false := ⟨⟨_, _, Tryz.underlying111, rfl, rfl, Tryz.sizeOf3, Tryz.isAgg3, by decide⟩⟩
theorem fa111_1 : FieldIs Tryz.prog 111 1 1 1 false := ⟨⟨_, _, Tryz.underlying111, rfl, rfl, Tryz.sizeOf3, Tryz.isAgg3, by decide⟩⟩
theorem fa111_2 : FieldIs Tryz.prog 111 2 2 1 false := ⟨⟨_, _, Tryz.underlying111, rfl, rfl, Tryz.sizeOf3, Tryz.isAgg3, by decide⟩⟩
theorem fa120_0 : FieldIs Tryz.prog 120 0 0 3 true := ⟨⟨_, _, Tryz.underlying120, rfl, rfl, Tryz.sizeOf111, Tryz.isAgg111, by decide⟩⟩
theorem st120 : StructIs Tryz.prog 120 [(0, 3)] [.int .i64 0, .int .i64 0, .int .i64 0] := ⟨⟨_, Tryz.underlying120, fun w => by simp [Tryz.sizeOf111], Tryz.zeroValue120⟩⟩
end Go.Proofs.YtppfniekcgnmjaaGreatDoor.Au
namespace Go.Proofs.YtppfniekcgnmjaaGreatDoor.Au
open Go.Sx Go.RowKit Am
set_option maxRecDepth 20000
theorem k_clB (b : BidV) (w : World)  : Calls Tryz.prog 65 #[evB b] w (fun e w' => e = .returned (.bool (!(bid1 b))) ∧ Grow w w') := by
  refine enter_pure (args := [evB b]) [] Tryz.func65 rfl (by rw [Tryz.ntmps65]; simp) (by simp) ?_
  refine cj_seq (cj_region ?_)
  refine oj_box rfl rfl rfl (fun b1 => ?_)
  refine oj_step (y_assign rfl) rfl rfl rfl ?_
  refine oj_nil ?_
  refine ej_th (cj_seq ?_)
  refine cj_regionG ?_
  refine gj_step (y_fa0 fa111_0 rfl) rfl rfl rfl (gj_step (y_load1 Tryz.isAgg3 rfl rfl) rfl rfl rfl (?_))
  refine gj_step (y_call Tryz.call63 rfl (fun w hp => k_within _ _ _ w)) rfl rfl rfl ?_
  refine gj_step (y_not rfl) rfl rfl rfl (gj_step (y_move rfl) rfl rfl rfl (?_))
  refine gj_g 4 7 11 rfl rfl rfl rfl (fun hg7 => gj_yes rfl rfl rfl (y_fa fa111_1 rfl) rfl rfl (gj_yes rfl rfl rfl (y_load1 Tryz.isAgg3 rfl rfl) rfl rfl (gj_yes rfl rfl rfl (y_call Tryz.call63 rfl (fun w hp => k_within _ _ _ w)) rfl rfl (gj_yes rfl rfl rfl (y_not rfl) rfl rfl (gj_nil rfl))))) ?_
  refine gj_step (y_or rfl rfl rfl) rfl rfl rfl (gj_step (y_move rfl) rfl rfl rfl (?_))
  refine gj_g 4 13 17 rfl rfl rfl rfl (fun hg13 => gj_yes rfl rfl rfl (y_fa fa111_2 rfl) rfl rfl (gj_yes rfl rfl rfl (y_load1 Tryz.isAgg3 rfl rfl) rfl rfl (gj_yes rfl rfl rfl (y_call Tryz.call63 rfl (fun w hp => k_within _ _ _ w)) rfl rfl (gj_yes rfl rfl rfl (y_not rfl) rfl rfl (gj_nil rfl))))) ?_
  refine gj_step (y_or rfl rfl rfl) rfl rfl rfl (gj_step (y_assign rfl) rfl rfl rfl (?_))
  refine gj_nil ?_
  refine ej_th (cj_ret ?_)
  refine ej_ret1 rfl Tryz.results65 rfl (fun w' hp => ⟨?_, hp.below⟩)
  rw [← bid1_V b]

theorem k_IndexB (l : List BidV) (A : Option Addr) (c : Nat) (w : World) (hl : Rd w 3 encBi A l) : Calls Tryz.prog 105 #[.slice A l.length c, .func (.func 65) #[] #[]] w (fun e w' => e = .returned (.int .i64 (firstNo bid1 l 0)) ∧ Grow w w') := by
  have hlen := hl.len
  refine enter_pure (args := [.slice A l.length c, .func (.func 65) #[] #[]]) [sl (fun b => b < w.heap.size) 3 encBi A l] Tryz.func105 rfl (by rw [Tryz.ntmps105]; simp) (fun g hg => by simp at hg; subst hg; exact ⟨hl, fun _ h => h⟩) ?_
  refine cj_seq ?_
  refine cj_regionG (gj_step (y_assign rfl) rfl rfl rfl (gj_nil ?_))
  refine ej_th (cj_seq (cj_seq ?_))
  refine cj_regionG (gj_step (y_move rfl) rfl rfl rfl (gj_step (y_lenA Tryz.underlying55 rfl) rfl rfl rfl (gj_step (y_move rfl) rfl rfl rfl (gj_nil ?_))))
  refine ej_th (cj_block ?_)
  refine cj_lpic (X := Nat) [(0, _), (1, _), (7, _)] (fun k => k ≤ l.length ∧ firstNo bid1 (l.drop k) k = firstNo bid1 l 0) (fun k => [(8, .int .i64 k)]) (fun k => l.length - k) 0 (⟨Nat.zero_le _, rfl⟩) ⟨rfl, rfl, rfl, rfl, trivial⟩ ?_
  rintro k ⟨hk, hsk⟩
  dsimp only [List.cons_append, List.nil_append]
  refine cj_seq ?_
  refine cj_regionG (gj_step (y_lss rfl rfl) rfl rfl rfl (gj_nil ?_))
  refine ej_th (cj_seq ?_)
  refine cj_cond rfl (fun h9 => ?_) (fun h9 => ?_)
  · have h9b := h9
    try simp only [sxb] at h9
    obtain ⟨x, hx⟩ : ∃ x, l[k]? = some x := ⟨_, List.getElem?_eq_getElem (by omega)⟩
    rw [firstNo_drop bid1 l k x hx] at hsk
    refine cj_skip (ej_th (cj_seq (cj_block (cj_seq ?_))))
    refine cj_regionG (gj_step (y_move rfl) rfl rfl rfl (gj_step (y_assign rfl) rfl rfl rfl (gj_nil ?_)))
    refine ej_th (cj_seq ?_)
    refine cj_regionG ?_
    refine gj_step (y_move rfl) rfl rfl rfl (gj_step (y_move rfl) rfl rfl rfl (gj_step (y_move rfl) rfl rfl rfl (gj_step (y_ixR (reads_sl) Tryz.underlying55 Tryz.sizeOf111 rfl rfl (⟨by omega, by omega⟩)) rfl rfl rfl (gj_step (y_ldW (reads_sl) Tryz.isAgg111 Tryz.sizeOf111 rfl (hx) (fun _ => rfl)) rfl rfl rfl (?_)))))
    refine gj_step (y_callV Tryz.call65 rfl rfl (fun w hp => k_clB x w)) rfl rfl rfl ?_
    refine gj_nil ?_
    refine ej_th ?_
    refine cj_cond rfl (fun h16 => ?_) (fun h16 => ?_)
    · have h16b := h16
      try simp only [sxb] at h16
      refine cj_seq ?_
      refine cj_regionG (gj_step (y_move rfl) rfl rfl rfl (gj_step (y_assign rfl) rfl rfl rfl (gj_nil ?_)))
      refine ej_th (cj_ret (ej_blk_ret (ej_then_ret (ej_then_ret (ej_blk_ret (ej_then_ret ?_))))))
      refine ej_ret1 rfl Tryz.results105 rfl (fun w' hp => ⟨?_, hp.below⟩)
      rw [← hsk, if_neg (by rw [not_t h16b]; simp)]
    · have h16b := h16
      try simp only [sxb] at h16
      refine cj_skip (ej_blk (ej_th ?_))
      refine cj_regionG (gj_step (y_add rfl rfl (by omega)) rfl rfl rfl (gj_step (y_move rfl) rfl rfl rfl (gj_nil ?_)))
      exact ej_nx (k + 1) (by omega) ⟨by omega, by rw [← hsk, if_pos (not_f h16b)]⟩ ⟨rfl, rfl, rfl, rfl, trivial⟩
  · have h9b := h9
    try simp only [sxb] at h9
    refine cj_exit (ej_then_exit (ej_then_exit (ej_blk_hit (ej_th (cj_seq ?_)))))
    refine cj_regionG (gj_step (y_assign rfl) rfl rfl rfl (gj_nil ?_))
    refine ej_th (cj_ret ?_)
    refine ej_ret1 rfl Tryz.results105 rfl (fun w' hp => ⟨?_, hp.below⟩)
    rw [← hsk, List.drop_of_length_le (by omega)]; rfl

theorem k_ContB (l : List BidV) (A : Option Addr) (c : Nat) (w : World) (hl : Rd w 3 encBi A l) : Calls Tryz.prog 64 #[.slice A l.length c, .func (.func 65) #[] #[]] w (fun e w' => e = .returned (.bool (!(l.all bid1))) ∧ Grow w w') := by
  refine enter_pure (args := [.slice A l.length c, .func (.func 65) #[] #[]]) [sl (fun b => b < w.heap.size) 3 encBi A l] Tryz.func64 rfl (by rw [Tryz.ntmps64]; simp) (fun g hg => by simp at hg; subst hg; exact ⟨hl, fun _ h => h⟩) ?_
  refine cj_seq ?_
  refine cj_regionG (gj_step (y_assign rfl) rfl rfl rfl (gj_nil ?_))
  refine ej_th (cj_seq ?_)
  refine cj_regionG ?_
  refine gj_step (y_move rfl) rfl rfl rfl (gj_step (y_move rfl) rfl rfl rfl (?_))
  refine gj_step (y_call Tryz.call105 rfl (fun w hp => k_IndexB l A c w hp.rd)) rfl rfl rfl ?_
  refine gj_step (y_geq rfl rfl) rfl rfl rfl (gj_step (y_assign rfl) rfl rfl rfl (?_))
  refine gj_nil ?_
  refine ej_th (cj_ret ?_)
  refine ej_ret1 rfl Tryz.results64 rfl (fun w' hp => ⟨?_, hp.below⟩)
  rw [firstNo_all bid1 l]

theorem k_bids (bs : List BidV) (Ab : Option Addr) (cb : Nat) (w : World) (hbs : Rd w 3 encBi Ab bs) : Calls Tryz.prog 30 #[.slice Ab bs.length cb] w (fun e w' => e = .returned (.bool (bidsB bs)) ∧ Grow w w') := by
  refine enter_pure (args := [.slice Ab bs.length cb]) [sl (fun b => b < w.heap.size) 3 encBi Ab bs] Tryz.func30 rfl (by rw [Tryz.ntmps30]; simp) (fun g hg => by simp at hg; subst hg; exact ⟨hbs, fun _ h => h⟩) ?_
  refine cj_seq ?_
  refine cj_regionG (gj_step (y_assign rfl) rfl rfl rfl (gj_nil ?_))
  refine ej_th (cj_seq ?_)
  refine cj_regionG ?_
  refine gj_step (y_move rfl) rfl rfl rfl (gj_step (y_lenA Tryz.underlying55 rfl) rfl rfl rfl (gj_step (y_leq rfl rfl) rfl rfl rfl (gj_step (y_move rfl) rfl rfl rfl (?_))))
  refine gj_g 3 6 9 rfl rfl rfl rfl (fun hg6 => gj_yes rfl rfl rfl (y_move rfl) rfl rfl (gj_yes rfl rfl rfl (y_call Tryz.call64 rfl (fun w hp => k_ContB bs Ab cb w hp.rd)) rfl rfl (gj_yes rfl rfl rfl (y_not rfl) rfl rfl (gj_nil rfl)))) ?_
  refine gj_step (y_and rfl rfl rfl) rfl rfl rfl (gj_step (y_assign rfl) rfl rfl rfl (?_))
  refine gj_nil ?_
  refine ej_th (cj_ret ?_)
  refine ej_ret1 rfl Tryz.results30 rfl (fun w' hp => ⟨?_, hp.below⟩)
  rw [Bool.not_not]; rfl

theorem k_beats (a b : BidV) (w : World)  : Calls Tryz.prog 67 #[evB a, evB b] w (fun e w' => e = .returned (.bool (beats a b)) ∧ Grow w w') := by
  refine enter_pure (args := [evB a, evB b]) [] Tryz.func67 rfl (by rw [Tryz.ntmps67]; simp) (by simp) ?_
  refine cj_seq (cj_region ?_)
  refine oj_box rfl rfl rfl (fun b2 => ?_)
  refine oj_box rfl rfl rfl (fun b3 => ?_)
  refine oj_step (y_assign rfl) rfl rfl rfl ?_
  refine oj_nil ?_
  refine ej_th (cj_seq (cj_seq ?_))
  refine cj_regionG (gj_step (y_fa0 fa120_0 rfl) rfl rfl rfl (gj_step (y_fa fa111_2 rfl) rfl rfl rfl (gj_step (y_load1 Tryz.isAgg3 rfl rfl) rfl rfl rfl (gj_step (y_fa0 fa120_0 rfl) rfl rfl rfl (gj_step (y_fa fa111_2 rfl) rfl rfl rfl (gj_step (y_load1 Tryz.isAgg3 rfl rfl) rfl rfl rfl (gj_step (y_neq rfl rfl) rfl rfl rfl (gj_nil ?_))))))))
  refine ej_th ?_
  refine cj_cond rfl (fun h11 => ?_) (fun h11 => ?_)
  · have h11b := h11
    try simp only [sxb] at h11
    refine cj_seq ?_
    refine cj_regionG (gj_step (y_fa0 fa120_0 rfl) rfl rfl rfl (gj_step (y_fa fa111_2 rfl) rfl rfl rfl (gj_step (y_load1 Tryz.isAgg3 rfl rfl) rfl rfl rfl (gj_step (y_fa0 fa120_0 rfl) rfl rfl rfl (gj_step (y_fa fa111_2 rfl) rfl rfl rfl (gj_step (y_load1 Tryz.isAgg3 rfl rfl) rfl rfl rfl (gj_step (y_gtr rfl rfl) rfl rfl rfl (gj_step (y_assign rfl) rfl rfl rfl (gj_nil ?_)))))))))
    refine ej_th (cj_ret (ej_then_ret ?_))
    refine ej_ret1 rfl Tryz.results67 rfl (fun w' hp => ⟨?_, hp.below⟩)
    unfold beats; rw [if_neg (by simpa using h11b)]
  · have h11b := h11
    try simp only [sxb] at h11
    refine cj_skip (ej_th (cj_seq (cj_seq ?_)))
    refine cj_regionG (gj_step (y_fa0 fa120_0 rfl) rfl rfl rfl (gj_step (y_fa fa111_1 rfl) rfl rfl rfl (gj_step (y_load1 Tryz.isAgg3 rfl rfl) rfl rfl rfl (gj_step (y_fa0 fa120_0 rfl) rfl rfl rfl (gj_step (y_fa fa111_1 rfl) rfl rfl rfl (gj_step (y_load1 Tryz.isAgg3 rfl rfl) rfl rfl rfl (gj_step (y_neq rfl rfl) rfl rfl rfl (gj_nil ?_))))))))
    refine ej_th ?_
    refine cj_cond rfl (fun h25 => ?_) (fun h25 => ?_)
    · have h25b := h25
      try simp only [sxb] at h25
      refine cj_seq ?_
      refine cj_regionG (gj_step (y_fa0 fa120_0 rfl) rfl rfl rfl (gj_step (y_fa fa111_1 rfl) rfl rfl rfl (gj_step (y_load1 Tryz.isAgg3 rfl rfl) rfl rfl rfl (gj_step (y_fa0 fa120_0 rfl) rfl rfl rfl (gj_step (y_fa fa111_1 rfl) rfl rfl rfl (gj_step (y_load1 Tryz.isAgg3 rfl rfl) rfl rfl rfl (gj_step (y_lss rfl rfl) rfl rfl rfl (gj_step (y_assign rfl) rfl rfl rfl (gj_nil ?_)))))))))
      refine ej_th (cj_ret (ej_then_ret ?_))
      refine ej_ret1 rfl Tryz.results67 rfl (fun w' hp => ⟨?_, hp.below⟩)
      unfold beats; rw [if_pos (by simpa using h11b), if_neg (by simpa using h25b)]
    · have h25b := h25
      try simp only [sxb] at h25
      refine cj_skip (ej_th (cj_seq ?_))
      refine cj_regionG (gj_step (y_fa0 fa120_0 rfl) rfl rfl rfl (gj_step (y_fa0 fa111_0 rfl) rfl rfl rfl (gj_step (y_load1 Tryz.isAgg3 rfl rfl) rfl rfl rfl (gj_step (y_fa0 fa120_0 rfl) rfl rfl rfl (gj_step (y_fa0 fa111_0 rfl) rfl rfl rfl (gj_step (y_load1 Tryz.isAgg3 rfl rfl) rfl rfl rfl (gj_step (y_lss rfl rfl) rfl rfl rfl (gj_step (y_assign rfl) rfl rfl rfl (gj_nil ?_)))))))))
      refine ej_th (cj_ret ?_)
      refine ej_ret1 rfl Tryz.results67 rfl (fun w' hp => ⟨?_, hp.below⟩)
      unfold beats; rw [if_pos (by simpa using h11b), if_pos (by simpa using h25b)]

theorem k_largest (a b : Int) (w : World)  : Calls Tryz.prog 33 #[.int .i64 a, .int .i64 b] w (fun e w' => e = .returned (.int .i64 (max a b)) ∧ Grow w w') := by
  refine enter_pure (args := [.int .i64 a, .int .i64 b]) [] Tryz.func33 rfl (by rw [Tryz.ntmps33]; simp) (by simp) ?_
  refine cj_seq ?_
  refine cj_regionG (gj_step (y_assign rfl) rfl rfl rfl (gj_nil ?_))
  refine ej_th (cj_seq (cj_seq ?_))
  refine cj_regionG (gj_step (y_move rfl) rfl rfl rfl (gj_step (y_move rfl) rfl rfl rfl (gj_step (y_gtr rfl rfl) rfl rfl rfl (gj_nil ?_))))
  refine ej_th ?_
  refine cj_cond rfl (fun h7 => ?_) (fun h7 => ?_)
  · have h7b := h7
    try simp only [sxb] at h7
    refine cj_seq ?_
    refine cj_regionG (gj_step (y_move rfl) rfl rfl rfl (gj_step (y_assign rfl) rfl rfl rfl (gj_nil ?_)))
    refine ej_th (cj_ret (ej_then_ret ?_))
    refine ej_ret1 rfl Tryz.results33 rfl (fun w' hp => ⟨?_, hp.below⟩)
    rw [show max a b = b by omega]
  · have h7b := h7
    try simp only [sxb] at h7
    refine cj_skip (ej_th (cj_seq ?_))
    refine cj_regionG (gj_step (y_move rfl) rfl rfl rfl (gj_step (y_assign rfl) rfl rfl rfl (gj_nil ?_)))
    refine ej_th (cj_ret ?_)
    refine ej_ret1 rfl Tryz.results33 rfl (fun w' hp => ⟨?_, hp.below⟩)
    rw [show max a b = a by omega]

theorem k_price (st rv : Int) (lad : List RiseV) (Al : Option Addr) (cl : Nat) (limit second : Int) (w : World) (hlad : Rd w 2 encRi Al lad) (hok : LotOk st rv lad) : Calls Tryz.prog 34 #[.agg #[.int .i64 st, .int .i64 rv, .slice Al lad.length cl], .int .i64 limit, .int .i64 second] w (fun e w' => e = .returned (.int .i64 (priceF (rgL lad st) st limit second)) ∧ Grow w w') := by
  refine enter_pure (args := [.agg #[.int .i64 st, .int .i64 rv, .slice Al lad.length cl], .int .i64 limit, .int .i64 second]) [sl (fun b => b < w.heap.size) 2 encRi Al lad] Tryz.func34 rfl (by rw [Tryz.ntmps34]; simp) (fun g hg => by simp at hg; subst hg; exact ⟨hlad, fun _ h => h⟩) ?_
  refine cj_seq (cj_region ?_)
  refine oj_box rfl rfl rfl (fun b3 => ?_)
  refine oj_step (y_assign rfl) rfl rfl rfl ?_
  refine oj_nil ?_
  refine ej_th (cj_seq (cj_seq ?_))
  refine cj_regionG (gj_step (y_move rfl) rfl rfl rfl (gj_nil ?_))
  refine ej_th (cj_block (cj_seq ?_))
  refine cj_regionG (gj_step (y_move rfl) rfl rfl rfl (gj_step (y_eql rfl rfl) rfl rfl rfl (gj_step (y_assign rfl) rfl rfl rfl (gj_nil ?_))))
  refine ej_th ?_
  refine cj_cond rfl (fun h8 => ?_) (fun h8 => ?_)
  · have h8b := h8
    try simp only [sxb] at h8
    refine cj_seq ?_
    refine cj_regionG (gj_step (y_move rfl) rfl rfl rfl (gj_step (y_assign rfl) rfl rfl rfl (gj_nil ?_)))
    refine ej_th (cj_ret (ej_blk_ret (ej_then_ret ?_)))
    refine ej_ret1 rfl Tryz.results34 rfl (fun w' hp => ⟨?_, hp.below⟩)
    rw [priceF, if_pos (by simpa using h8b)]
  · have h8b := h8
    try simp only [sxb] at h8
    refine cj_seq ?_
    refine cj_regionG (gj_step (y_eql rfl rfl) rfl rfl rfl (gj_step (y_assign rfl) rfl rfl rfl (gj_nil ?_)))
    refine ej_th ?_
    refine cj_cond rfl (fun h12 => ?_) (fun h12 => ?_)
    · have h12b := h12
      try simp only [sxb] at h12
      refine cj_seq ?_
      refine cj_regionG (gj_step (y_fa0 fa116_0 rfl) rfl rfl rfl (gj_step (y_fa0 fa67_0 rfl) rfl rfl rfl (gj_step (y_load1 Tryz.isAgg3 rfl rfl) rfl rfl rfl (gj_step (y_assign rfl) rfl rfl rfl (gj_nil ?_)))))
      refine ej_th (cj_ret (ej_blk_ret (ej_then_ret ?_)))
      refine ej_ret1 rfl Tryz.results34 rfl (fun w' hp => ⟨?_, hp.below⟩)
      rw [priceF, if_neg (by simpa using h8b), if_pos (by simpa using h12b)]
    · have h12b := h12
      try simp only [sxb] at h12
      refine cj_skip (ej_blk (ej_th (cj_seq ?_)))
      refine cj_regionG ?_
      refine gj_step (y_loadN Tryz.isAgg116 Tryz.sizeOf116 rfl) rfl rfl rfl (gj_step (y_move rfl) rfl rfl rfl (?_))
      refine gj_step (y_call Tryz.call32 rfl (fun w hp => k_behind st rv lad Al cl second w hp.rd hok)) rfl rfl rfl ?_
      refine gj_step (y_assign rfl) rfl rfl rfl (?_)
      refine gj_nil ?_
      refine ej_th (cj_ret ?_)
      refine ej_ret1 rfl Tryz.results34 rfl (fun w' hp => ⟨?_, hp.below⟩)
      rw [priceF, if_neg (by simpa using h8b), if_neg (by simpa using h12b)]

theorem k_offer (st rv : Int) (lad : List RiseV) (Al : Option Addr) (cl : Nat) (b : BidV) (w : World) (hlad : Rd w 2 encRi Al lad) (hok : LotOk st rv lad) : Calls Tryz.prog 66 #[.agg #[.int .i64 st, .int .i64 rv, .slice Al lad.length cl], evB b] w (fun e w' => e = .returned (.tuple #[evB (offer1 (rgL lad st) b), .bool (decide (0 < (offer1 (rgL lad st) b).most))]) ∧ Grow w w') := by
  refine enter_pure (args := [.agg #[.int .i64 st, .int .i64 rv, .slice Al lad.length cl], evB b]) [sl (fun b => b < w.heap.size) 2 encRi Al lad] Tryz.func66 rfl (by rw [Tryz.ntmps66]; simp) (fun g hg => by simp at hg; subst hg; exact ⟨hlad, fun _ h => h⟩) ?_
  refine cj_seq (cj_region ?_)
  refine oj_box rfl rfl rfl (fun b2 => ?_)
  refine oj_box rfl rfl rfl (fun b3 => ?_)
  refine oj_alloc Tryz.zeroValue120 rfl rfl (fun b4 => ?_)
  refine oj_step (y_assign rfl) rfl rfl rfl ?_
  refine oj_nil ?_
  refine ej_th (cj_seq (cj_region ?_))
  refine oj_step (y_loadN Tryz.isAgg116 Tryz.sizeOf116 rfl) rfl rfl rfl ?_
  refine oj_step (y_fa fa111_2 rfl) rfl rfl rfl ?_
  refine oj_step (y_load1 Tryz.isAgg3 rfl rfl) rfl rfl rfl ?_
  refine oj_step (y_call Tryz.call106 rfl (fun w hp => k_rung st rv lad Al cl b.most w hp.rd hok)) rfl rfl rfl ?_
  refine oj_step (y_fa fa111_2 rfl) rfl rfl rfl ?_
  refine oj_store rfl rfl rfl rfl Tryz.sizeOf3 rfl ?_
  refine oj_nil ?_
  refine ej_th (cj_seq ?_)
  refine cj_plan 7 (by kernel_rfl) (by kernel_rfl) ?_
  refine pl_y 0 rfl (y_loadN Tryz.isAgg111 Tryz.sizeOf111 rfl) rfl rfl rfl rfl (by kernel_rfl) ?_
  refine pl_y 1 rfl (y_build (cs := [.int .i64 b.who, .int .i64 b.way, .int .i64 (rungR st lad b.most)]) st120 rfl (by kernel_rfl)) rfl rfl rfl rfl (by kernel_rfl) ?_
  refine pl_y 2 rfl (y_fa fa111_2 rfl) rfl rfl rfl rfl (by kernel_rfl) ?_
  refine pl_y 3 rfl (y_load1 Tryz.isAgg3 rfl rfl) rfl rfl rfl rfl (by kernel_rfl) ?_
  refine pl_y 4 rfl (y_gtr rfl rfl) rfl rfl rfl rfl (by kernel_rfl) ?_
  refine pl_w1 5 (by kernel_rfl) rfl rfl (pl_fire rfl rfl rfl (by kernel_rfl) ?_)
  refine oj_store rfl rfl rfl rfl Tryz.sizeOf120 rfl ?_
  refine oj_nil ?_
  refine ej_pl (lt_y (y_gtr rfl rfl) rfl (lt_y (y_load1 Tryz.isAgg3 rfl rfl) rfl (lt_y (y_fa fa111_2 rfl) rfl (lt_w (by kernel_rfl) (lt_w (by kernel_rfl) (lt_nil)))))) ?_
  refine pl_y 6 rfl (y_assign rfl) rfl rfl rfl rfl (by kernel_rfl) ?_
  refine pl_end (by kernel_rfl) ?_
  refine ej_th (cj_ret ?_)
  exact ej_retC2 rfl Tryz.results66 rfl (y_loadN Tryz.isAgg120 Tryz.sizeOf120 rfl) rfl (fun w' hp => ⟨rfl, hp.below⟩)

def sortO_laid_ren : Go.Shelf.Ren := ⟨fun | 6 => 68 | 15 => 108 | 14 => 107 | 28 => 141 | 29 => 142 | 20 => 133 | 21 => 134 | 22 => 135 | 23 => 136 | 24 => 137 | 25 => 138 | 26 => 139 | 27 => 140 | 46 => 162 | 47 => 163 | 48 => 164 | 49 => 165 | 50 => 166 | 57 => 189 | n => n, fun | 22 => 114 | 24 => 120 | 25 => 170 | 3 => 3 | 39 => 236 | 0 => 0 | 53 => 279 | 55 => 281 | 4 => 4 | 46 => 273 | 45 => 272 | 50 => 191 | 5 => 5 | 9 => 9 | 66 => 296 | 70 => 300 | 76 => 322 | 77 => 323 | n => n, fun n => n⟩
theorem sortO_laid : Go.Proofs.SlLaysF0.n6 Tryz.prog sortO_laid_ren where
  mixed := by kernel_rfl
  f6 := ⟨Tryz.f68.name, by kernel_rfl, Tryz.func68.trans (congrArg some (by kernel_rfl))⟩
  f14 := ⟨Tryz.f107.name, by kernel_rfl, Tryz.func107.trans (congrArg some (by kernel_rfl))⟩
  f15 := Tryz.func108.trans (congrArg some (by kernel_rfl))
  f20 := ⟨Tryz.f133.name, by kernel_rfl, Tryz.func133.trans (congrArg some (by kernel_rfl))⟩
  f21 := ⟨Tryz.f134.name, by kernel_rfl, Tryz.func134.trans (congrArg some (by kernel_rfl))⟩
  f22 := ⟨Tryz.f135.name, by kernel_rfl, Tryz.func135.trans (congrArg some (by kernel_rfl))⟩
  f23 := ⟨Tryz.f136.name, by kernel_rfl, Tryz.func136.trans (congrArg some (by kernel_rfl))⟩
  f24 := ⟨Tryz.f137.name, by kernel_rfl, Tryz.func137.trans (congrArg some (by kernel_rfl))⟩
  f25 := ⟨Tryz.f138.name, by kernel_rfl, Tryz.func138.trans (congrArg some (by kernel_rfl))⟩
  f26 := ⟨Tryz.f139.name, by kernel_rfl, Tryz.func139.trans (congrArg some (by kernel_rfl))⟩
  f27 := ⟨Tryz.f140.name, by kernel_rfl, Tryz.func140.trans (congrArg some (by kernel_rfl))⟩
  f28 := Tryz.func141.trans (congrArg some (by kernel_rfl))
  f29 := Tryz.func142.trans (congrArg some (by kernel_rfl))
  f46 := ⟨Tryz.f162.name, by kernel_rfl, Tryz.func162.trans (congrArg some (by kernel_rfl))⟩
  f47 := Tryz.func163.trans (congrArg some (by kernel_rfl))
  f48 := Tryz.func164.trans (congrArg some (by kernel_rfl))
  f49 := ⟨Tryz.f165.name, by kernel_rfl, Tryz.func165.trans (congrArg some (by kernel_rfl))⟩
  f50 := ⟨Tryz.f166.name, by kernel_rfl, Tryz.func166.trans (congrArg some (by kernel_rfl))⟩
  f57 := ⟨Tryz.f189.name, by kernel_rfl, Tryz.func189.trans (congrArg some (by kernel_rfl))⟩
  t0 := Tryz.underlying0
  a0 := Tryz.isAgg0
  z0 := Tryz.sizeOf0
  v0 := Tryz.zeroValue0
  t3 := Tryz.underlying3
  a3 := Tryz.isAgg3
  z3 := Tryz.sizeOf3
  v3 := Tryz.zeroValue3
  t4 := Tryz.underlying4
  a4 := Tryz.isAgg4
  z4 := Tryz.sizeOf4
  v4 := Tryz.zeroValue4
  t5 := Tryz.underlying5
  a5 := Tryz.isAgg5
  z5 := Tryz.sizeOf5
  v5 := Tryz.zeroValue5
  t9 := Tryz.underlying9
  a9 := Tryz.isAgg9
  z9 := Tryz.sizeOf9
  v9 := Tryz.zeroValue9
  t22 := Tryz.underlying114
  a22 := Tryz.isAgg114
  z22 := Tryz.sizeOf114
  v22 := Tryz.zeroValue114
  t25 := Tryz.underlying170
  a25 := Tryz.isAgg170
  z25 := Tryz.sizeOf170
  v25 := Tryz.zeroValue170
  t39 := Tryz.underlying236
  a39 := Tryz.isAgg236
  z39 := Tryz.sizeOf236
  v39 := Tryz.zeroValue236
  t45 := Tryz.underlying272
  a45 := Tryz.isAgg272
  z45 := Tryz.sizeOf272
  v45 := Tryz.zeroValue272
  t46 := Tryz.underlying273
  a46 := Tryz.isAgg273
  z46 := Tryz.sizeOf273
  v46 := Tryz.zeroValue273
  t50 := Tryz.underlying191
  a50 := Tryz.isAgg191
  z50 := Tryz.sizeOf191
  v50 := Tryz.zeroValue191
  t53 := Tryz.underlying279
  a53 := Tryz.isAgg279
  z53 := Tryz.sizeOf279
  v53 := Tryz.zeroValue279
  t55 := Tryz.underlying281
  a55 := Tryz.isAgg281
  z55 := Tryz.sizeOf281
  v55 := Tryz.zeroValue281
  t66 := Tryz.underlying296
  a66 := Tryz.isAgg296
  z66 := Tryz.sizeOf296
  v66 := Tryz.zeroValue296
  t70 := Tryz.underlying300
  a70 := Tryz.isAgg300
  z70 := Tryz.sizeOf300
  v70 := Tryz.zeroValue300
  t76 := Tryz.underlying322
  a76 := Tryz.isAgg322
  z76 := Tryz.sizeOf322
  v76 := Tryz.zeroValue322
  t77 := Tryz.underlying323
  a77 := Tryz.isAgg323
  z77 := Tryz.sizeOf323
  v77 := Tryz.zeroValue323
theorem k_sortO (A : Option Addr) (c : Nat) (xs : List BidV) (w : World) (hl : xs.length < 4611686018427387904) (ho : (ow 120 3 encBi A c xs).P w) :
    Calls Tryz.prog 68 #[.slice A xs.length c, .func (.func 69) #[] #[]] w (fun en w' => en = .returned (.tuple #[]) ∧ Mut (ow 120 3 encBi A c xs) w w' ∧ (ow 120 3 encBi A c (srt xs)).P w') :=
  calls_sortK sortO_laid 3 (by omega) Tryz.isAgg120 Tryz.sizeOf120 encBi (fun _ => rfl) (fun x v hv => by simp at hv; rcases hv with rfl | rfl | rfl <;> rfl) cmpO swoO totO 69 (enters_of Tryz.func69 (by kernel_rfl) rfl) k_cmpO 120 c A xs w hl ho

theorem k_offers (st rv : Int) (lad : List RiseV) (Al : Option Addr) (cl : Nat) (bs : List BidV) (Ab : Option Addr) (cb : Nat) (w : World) (hlad : Rd w 2 encRi Al lad) (hbs : Rd w 3 encBi Ab bs) (hok : LotOk st rv lad) (hb32 : bs.length ≤ 32) : Calls Tryz.prog 31 #[.agg #[.int .i64 st, .int .i64 rv, .slice Al lad.length cl], .slice Ab bs.length cb] w (fun e w' => ∃ A c, e = .returned (.slice A (offL (rgL lad st) bs).length c) ∧ Grow w w' ∧ Res w w' 3 encBi A (offL (rgL lad st) bs)) := by
  have hlen := hbs.len
  have hol := offL_len (rgL lad st) bs
  refine enter_pure (args := [.agg #[.int .i64 st, .int .i64 rv, .slice Al lad.length cl], .slice Ab bs.length cb]) [sl (fun b => b < w.heap.size) 2 encRi Al lad, sl (fun b => b < w.heap.size) 3 encBi Ab bs] Tryz.func31 rfl (by rw [Tryz.ntmps31]; simp) (fun g hg => by simp at hg; rcases hg with rfl | rfl; exact ⟨hlad, fun _ h => h⟩; exact ⟨hbs, fun _ h => h⟩) ?_
  refine cj_seq (cj_region ?_)
  refine oj_box rfl rfl rfl (fun b2 => ?_)
  refine oj_step (y_assign rfl) rfl rfl rfl ?_
  refine oj_nil ?_
  refine ej_th (cj_seq (cj_region ?_))
  refine oj_makeMapZ ekI evB rfl (fun m15 => ?_)
  refine oj_step (y_assign rfl) rfl rfl rfl ?_
  refine oj_nil ?_
  refine ej_th (cj_seq (cj_seq ?_))
  refine cj_regionG (gj_step (y_move rfl) rfl rfl rfl (gj_step (y_lenA Tryz.underlying55 rfl) rfl rfl rfl (gj_step (y_move rfl) rfl rfl rfl (gj_nil ?_))))
  refine ej_th (cj_block ?_)
  refine cj_lpi (X := Nat × List (Int × BidV)) [(2, _), (4, _), (5, _), (16, _), (17, _)] (fun ⟨k, own⟩ => k ≤ bs.length ∧ ownF (rgL lad st) (bs.drop k) own = ownF (rgL lad st) bs []) (fun ⟨k, own⟩ => [(18, .int .i64 k)]) (fun ⟨k, own⟩ => [mz ekI evB m15 own, ownB b2 (cellsB 116 [.int .i64 st, .int .i64 rv, .slice Al lad.length cl])]) (fun ⟨k, own⟩ => [sl (fun b => b < w.heap.size) 2 encRi Al lad, sl (fun b => b < w.heap.size) 3 encBi Ab bs]) (fun ⟨k, own⟩ => bs.length - k) (0, []) (⟨Nat.zero_le _, rfl⟩) ⟨rfl, rfl, rfl, rfl, rfl, rfl, trivial⟩ ?_
  rintro ⟨k, own⟩ ⟨hk, hsk⟩
  dsimp only [List.cons_append, List.nil_append]
  refine cj_seq ?_
  refine cj_regionG (gj_step (y_lss rfl rfl) rfl rfl rfl (gj_nil ?_))
  refine ej_th (cj_seq ?_)
  refine cj_cond rfl (fun h19 => ?_) (fun h19 => ?_)
  · have h19b := h19
    try simp only [sxb] at h19
    obtain ⟨b, hx⟩ : ∃ b, bs[k]? = some b := ⟨_, List.getElem?_eq_getElem (by omega)⟩
    rw [ownF_drop (rgL lad st) bs k b own hx] at hsk
    refine cj_skip (ej_th (cj_seq (cj_block (cj_seq (cj_region ?_)))))
    refine oj_step (y_ixR (reads_sl) Tryz.underlying55 Tryz.sizeOf111 rfl rfl (⟨by omega, by omega⟩)) rfl rfl rfl ?_
    refine oj_step (y_ldW (reads_sl) Tryz.isAgg111 Tryz.sizeOf111 rfl (hx) (fun _ => rfl)) rfl rfl rfl ?_
    refine oj_alloc Tryz.zeroValue111 rfl rfl (fun b7 => ?_)
    refine oj_store rfl rfl rfl rfl Tryz.sizeOf111 rfl ?_
    refine oj_nil ?_
    refine ej_th (cj_seq (cj_region ?_))
    refine oj_step (y_loadN Tryz.isAgg116 Tryz.sizeOf116 rfl) rfl rfl rfl ?_
    refine oj_step (y_loadN Tryz.isAgg111 Tryz.sizeOf111 rfl) rfl rfl rfl ?_
    refine oj_step (y_call Tryz.call66 rfl (fun w hp => k_offer st rv lad Al cl b w hp.rd hok)) rfl rfl rfl ?_
    refine oj_step (y_move rfl) rfl rfl rfl ?_
    refine oj_step (y_extract rfl rfl) rfl rfl rfl ?_
    refine oj_step (y_extract rfl rfl) rfl rfl rfl ?_
    refine oj_alloc Tryz.zeroValue120 rfl rfl (fun b8 => ?_)
    refine oj_store rfl rfl rfl rfl Tryz.sizeOf120 rfl ?_
    refine oj_step (y_assign rfl) rfl rfl rfl ?_
    refine oj_nil ?_
    refine ej_th (cj_seq (cj_region ?_))
    refine oj_step (y_move rfl) rfl rfl rfl ?_
    refine oj_step (y_fa0 fa111_0 rfl) rfl rfl rfl ?_
    refine oj_step (y_load1 Tryz.isAgg3 rfl rfl) rfl rfl rfl ?_
    refine oj_step (y_lookupZ (ek := ekI) (ev := evB) (kk := b.who) default Tryz.underlying165 Tryz.underlying3 Tryz.zeroValue120 rfl rfl) rfl rfl rfl ?_
    refine oj_step (y_move rfl) rfl rfl rfl ?_
    refine oj_step (y_extract rfl rfl) rfl rfl rfl ?_
    refine oj_step (y_extract rfl rfl) rfl rfl rfl ?_
    refine oj_alloc Tryz.zeroValue120 rfl rfl (fun b10 => ?_)
    refine oj_store rfl rfl rfl rfl Tryz.sizeOf120 rfl ?_
    refine oj_step (y_assign rfl) rfl rfl rfl ?_
    refine oj_nil ?_
    refine ej_th (cj_seq ?_)
    refine cj_regionG ?_
    refine gj_step (y_move rfl) rfl rfl rfl (gj_step (y_move rfl) rfl rfl rfl (?_))
    refine gj_g 7 36 43 rfl rfl rfl rfl (fun hg36 => gj_yes rfl rfl rfl (y_move rfl) rfl rfl (gj_yes rfl rfl rfl (y_not rfl) rfl rfl (gj_yes rfl rfl rfl (y_move rfl) rfl rfl (gj_g 3 39 42 rfl rfl rfl rfl (fun hg39 => gj_yes rfl rfl rfl (y_loadN Tryz.isAgg120 Tryz.sizeOf120 rfl) rfl rfl (gj_yes rfl rfl rfl (y_loadN Tryz.isAgg120 Tryz.sizeOf120 rfl) rfl rfl (gj_yes rfl rfl rfl (y_call Tryz.call67 rfl (fun w hp => k_beats _ _ w)) rfl rfl (gj_nil rfl)))) (gj_yes rfl rfl rfl (y_or rfl rfl rfl) rfl rfl (gj_nil rfl)))))) ?_
    refine gj_step (y_and rfl rfl rfl) rfl rfl rfl (?_)
    refine gj_nil ?_
    refine ej_th ?_
    refine cj_cond rfl (fun h44 => ?_) (fun h44 => ?_)
    · have h44b := h44
      try simp only [sxb] at h44
      rw [own_yes h44b] at hsk
      refine cj_region ?_
      refine oj_step (y_move rfl) rfl rfl rfl ?_
      refine oj_step (y_fa0 fa111_0 rfl) rfl rfl rfl ?_
      refine oj_step (y_load1 Tryz.isAgg3 rfl rfl) rfl rfl rfl ?_
      refine oj_step (y_loadN Tryz.isAgg120 Tryz.sizeOf120 rfl) rfl rfl rfl ?_
      refine oj_mapUpdateZ (ek := ekI) (ev := evB) (kk := b.who) (v := offer1 (rgL lad st) b) Tryz.underlying165 Tryz.underlying3 rfl rfl rfl ?_
      refine oj_nil ?_
      refine ej_blk (ej_th ?_)
      refine cj_regionG (gj_step (y_add rfl rfl (by omega)) rfl rfl rfl (gj_step (y_move rfl) rfl rfl rfl (gj_nil ?_)))
      exact ej_nx (k + 1, putL own b.who (offer1 (rgL lad st) b)) (by simp only; omega) ⟨by first | omega | (simp only; omega), hsk⟩ ⟨rfl, rfl, rfl, rfl, rfl, rfl, trivial⟩
    · have h44b := h44
      try simp only [sxb] at h44
      rw [own_no h44b] at hsk
      refine cj_skip (ej_blk (ej_th ?_))
      refine cj_regionG (gj_step (y_add rfl rfl (by omega)) rfl rfl rfl (gj_step (y_move rfl) rfl rfl rfl (gj_nil ?_)))
      exact ej_nx (k + 1, own) (by simp only; omega) ⟨by first | omega | (simp only; omega), hsk⟩ ⟨rfl, rfl, rfl, rfl, rfl, rfl, trivial⟩
  · have h19b := h19
    try simp only [sxb] at h19
    rw [List.drop_of_length_le (by omega)] at hsk
    have hown : own = ownF (rgL lad st) bs [] := hsk
    subst hown
    refine cj_exit (ej_then_exit (ej_then_exit (ej_blk_hit (ej_th (cj_seq ?_)))))
    refine cj_regionG (gj_step (y_assign rfl) rfl rfl rfl (gj_nil ?_))
    refine ej_th (cj_seq (cj_seq ?_))
    refine cj_ownNil 120 3 encBi ?_
    refine cj_swapO ?_
    refine cj_region ?_
    refine oj_step (y_move rfl) rfl rfl rfl ?_
    refine oj_rangeZ (ek := ekI) (ev := evB) Tryz.underlying165 rfl rfl (fun r51 => ?_)
    refine oj_nil ?_
    refine ej_th (cj_block ?_)
    refine cj_lpi (X := List (Int × BidV) × Option (Int × BidV) × Option Addr × Nat × List BidV) [(4, _), (51, _)] (fun ⟨left, cur, A1, c1, outs⟩ => outs.length + left.length ≤ 32 ∧ (outs ++ left.map (·.2)).Perm ((ownF (rgL lad st) bs []).map (·.2))) (fun ⟨left, cur, A1, c1, outs⟩ => [(12, .slice A1 outs.length c1)]) (fun ⟨left, cur, A1, c1, outs⟩ => [mit ekI evB m15 r51 left cur, ow 120 3 encBi A1 c1 outs, ownB b2 (cellsB 116 [.int .i64 st, .int .i64 rv, .slice Al lad.length cl])]) (fun ⟨left, cur, A1, c1, outs⟩ => [sl (fun b => b < w.heap.size) 2 encRi Al lad, sl (fun b => b < w.heap.size) 3 encBi Ab bs]) (fun ⟨left, cur, A1, c1, outs⟩ => left.length) (ownF (rgL lad st) bs [], none, none, 0, []) (⟨by have := hol; unfold offL at this; rw [(srt_perm _).length_eq, List.length_map] at this; simp only [List.length_nil]; omega, by simp⟩) ⟨rfl, rfl, rfl, trivial⟩ ?_
    rintro ⟨left, cur, A1, c1, outs⟩ ⟨hll, hpm⟩
    dsimp only [List.cons_append, List.nil_append]
    refine cj_seq (cj_region ?_)
    refine oj_nextZ (ek := ekI) (ev := evB) rfl rfl (fun p hpn => ?_)
    refine oj_step (y_extractNx rfl) rfl rfl rfl ?_
    refine oj_nil ?_
    refine ej_th (cj_seq ?_)
    refine cj_cond rfl (fun h53 => ?_) (fun h53 => ?_)
    · have h53b := h53
      try simp only [sxb] at h53
      obtain ⟨⟨i, p⟩, rfl⟩ := nx_some h53b
      have hpi : left[i]? = some p := hpn
      dsimp only [nxL, nxC]
      refine cj_skip (ej_th (cj_block (cj_seq (cj_region ?_))))
      refine oj_step (y_entryZ (ek := ekI) (ev := evB) (p := p) rfl rfl) rfl rfl rfl ?_
      refine oj_step (y_extract rfl rfl) rfl rfl rfl ?_
      refine oj_alloc Tryz.zeroValue120 rfl rfl (fun b14 => ?_)
      refine oj_store rfl rfl rfl rfl Tryz.sizeOf120 rfl ?_
      refine oj_nil ?_
      refine ej_th (cj_region ?_)
      refine oj_step (y_move rfl) rfl rfl rfl ?_
      refine oj_step (y_loadN Tryz.isAgg120 Tryz.sizeOf120 rfl) rfl rfl rfl ?_
      refine oj_buildSlice (cs := [.int .i64 p.2.who, .int .i64 p.2.way, .int .i64 p.2.most]) [.int .i64 0, .int .i64 0, .int .i64 0] Tryz.underlying114 Tryz.sizeOf120 Tryz.zeroValue120 rfl rfl (by kernel_rfl) (by kernel_rfl) rfl (fun b58 => ?_)
      refine oj_append (ys := [p.2]) el114 (fun _ => rfl) encBi_one rfl rfl rfl (reads_lit [p.2] (fun _ => rfl) rfl) (by unfold maxLen; simp only [List.length_cons, List.length_nil]; omega) (by simp only [List.length_cons, List.length_nil]; omega) rfl (fun A59 c59 => ?_)
      refine oj_step (y_assign rfl) rfl rfl rfl ?_
      refine oj_nil ?_
      refine ej_blk ?_
      have hil := (List.getElem?_eq_some_iff.1 hpi).1
      have hel : (left.eraseIdx i).length = left.length - 1 := List.length_eraseIdx_of_lt hil
      exact ej_nx (left.eraseIdx i, some p, A59, c59, outs ++ [p.2]) (by simp only; omega) ⟨by simp only [List.length_append, List.length_cons, List.length_nil]; omega, (erase_perm left i p hpi outs).trans hpm⟩ ⟨rfl, rfl, rfl, trivial⟩
    · have h53b := h53
      try simp only [sxb] at h53
      have hpn2 := nx_none h53b
      subst hpn2
      have hle : left = [] := hpn
      subst hle
      have hperm : outs.Perm ((ownF (rgL lad st) bs []).map (·.2)) := by simpa using hpm
      have hse : srt outs = offL (rgL lad st) bs := srt_eq hperm
      refine cj_exit (ej_then_exit (ej_then_exit (ej_blk_hit (ej_th (cj_seq (cj_region ?_))))))
      refine oj_step (y_move rfl) rfl rfl rfl ?_
      refine oj_mutOw (us := outs) (srt outs) Tryz.call68 rfl (fun w hp ho => k_sortO _ _ _ w (by omega) ho) rfl ?_
      refine oj_nil ?_
      refine ej_th (cj_seq ?_)
      refine cj_regionG (gj_step (y_move rfl) rfl rfl rfl (gj_step (y_assign rfl) rfl rfl rfl (gj_nil ?_)))
      refine ej_th (cj_ret ?_)
      have hsl : (srt outs).length = outs.length := (srt_perm outs).length_eq
      exact ej_ret1 rfl Tryz.results31 rfl (fun w' hp => ⟨A1, c1, by rw [← hse, hsl], hp.below, by rw [← hse]; exact hp.res (fun _ => rfl) (by rw [hsl]; unfold maxLen; omega)⟩)

end Go.Proofs.YtppfniekcgnmjaaGreatDoor.Au
namespace Go.Proofs.YtppfniekcgnmjaaGreatDoor.Au
open Go.Sx Go.RowKit
set_option maxRecDepth 20000
theorem st116 : StructIs Tryz.prog 116 [(0, 3)] [.int .i64 0, .int .i64 0, .slice none 0 0] := ⟨⟨_, Tryz.underlying116, fun w => by simp [Tryz.sizeOf67], Tryz.zeroValue116⟩⟩
theorem st63 : StructIs Tryz.prog 63 [(0, 1), (1, 1)] [.int .i64 0, .int .i64 0] := ⟨⟨_, Tryz.underlying63, fun w => by simp [Tryz.sizeOf3], Tryz.zeroValue63⟩⟩
end Go.Proofs.YtppfniekcgnmjaaGreatDoor.Au
namespace Go.Proofs.YtppfniekcgnmjaaGreatDoor.Au
open Go.Sx Go.RowKit Am
set_option maxRecDepth 20000
theorem k_Sell (st rv : Int) (lad : List RiseV) (Al : Option Addr) (cl : Nat) (bs : List BidV) (Ab : Option Addr) (cb : Nat) (w : World) (hlad : Rd w 2 encRi Al lad) (hbs : Rd w 3 encBi Ab bs) : Calls Tryz.prog 14 #[.agg #[.int .i64 st, .int .i64 rv, .slice Al lad.length cl], .slice Ab bs.length cb] w (fun e w' => e = .returned (.tuple #[.agg #[.int .i64 ((SellV st rv lad bs)).winner, .int .i64 ((SellV st rv lad bs)).price], .int .i64 (SellE st rv lad bs)]) ∧ Grow w w') := by
  have hlen := hbs.len
  refine enter_pure (args := [.agg #[.int .i64 st, .int .i64 rv, .slice Al lad.length cl], .slice Ab bs.length cb]) [sl (fun b => b < w.heap.size) 2 encRi Al lad, sl (fun b => b < w.heap.size) 3 encBi Ab bs] Tryz.func14 rfl (by rw [Tryz.ntmps14]; simp) (fun g hg => by simp at hg; rcases hg with rfl | rfl; exact ⟨hlad, fun _ h => h⟩; exact ⟨hbs, fun _ h => h⟩) ?_
  refine cj_seq (cj_region ?_)
  refine oj_box rfl rfl rfl (fun b2 => ?_)
  refine oj_alloc Tryz.zeroValue63 rfl rfl (fun b4 => ?_)
  refine oj_step (y_assign rfl) rfl rfl rfl ?_
  refine oj_nil ?_
  refine ej_th (cj_seq (cj_seq ?_))
  refine cj_regionG ?_
  refine gj_step (y_loadN Tryz.isAgg67 Tryz.sizeOf67 rfl) rfl rfl rfl (?_)
  refine gj_step (y_call Tryz.call29 rfl (fun w hp => k_Check st rv lad Al cl w hp.rd)) rfl rfl rfl ?_
  refine gj_step (y_assign rfl) rfl rfl rfl (?_)
  refine gj_nil ?_
  refine ej_th (cj_seq ?_)
  refine cj_regionG (gj_step (y_move rfl) rfl rfl rfl (gj_step (y_neq rfl rfl) rfl rfl rfl (gj_nil ?_)))
  refine ej_th ?_
  refine cj_cond rfl (fun h14 => ?_) (fun h14 => ?_)
  · have h14b := h14
    try simp only [sxb] at h14
    obtain ⟨e1, e2⟩ := sell_no (bs := bs) (lotE_no h14b)
    have hno := lotE_no h14b
    refine cj_seq (cj_region ?_)
    refine oj_step (y_build st63 rfl rfl) rfl rfl rfl ?_
    refine oj_step (y_move rfl) rfl rfl rfl ?_
    refine oj_store rfl rfl rfl rfl Tryz.sizeOf63 rfl ?_
    refine oj_step (y_assign rfl) rfl rfl rfl ?_
    refine oj_nil ?_
    refine ej_th (cj_ret (ej_then_ret ?_))
    refine ej_retC2 rfl Tryz.results14 rfl (y_loadN Tryz.isAgg63 Tryz.sizeOf63 rfl) rfl (fun w' hp => ⟨?_, hp.below⟩)
    rw [e1, e2, lotE, hno]; rfl
  · have h14b := h14
    try simp only [sxb] at h14
    have hyes := lotE_0 h14b
    have hok := lot_ok hyes
    refine cj_skip (ej_th (cj_seq (cj_seq ?_)))
    refine cj_regionG ?_
    refine gj_step (y_move rfl) rfl rfl rfl (?_)
    refine gj_step (y_call Tryz.call30 rfl (fun w hp => k_bids bs Ab cb w hp.rd)) rfl rfl rfl ?_
    refine gj_step (y_not rfl) rfl rfl rfl (?_)
    refine gj_nil ?_
    refine ej_th ?_
    refine cj_cond rfl (fun h19 => ?_) (fun h19 => ?_)
    · have h19b := h19
      try simp only [sxb] at h19
      obtain ⟨e1, e2⟩ := sell_no2 hyes (not_t h19b)
      refine cj_seq (cj_region ?_)
      refine oj_step (y_build st63 rfl rfl) rfl rfl rfl ?_
      refine oj_store rfl rfl rfl rfl Tryz.sizeOf63 rfl ?_
      refine oj_step (y_assign rfl) rfl rfl rfl ?_
      refine oj_nil ?_
      refine ej_th (cj_ret (ej_then_ret ?_))
      refine ej_retC2 rfl Tryz.results14 rfl (y_loadN Tryz.isAgg63 Tryz.sizeOf63 rfl) rfl (fun w' hp => ⟨?_, hp.below⟩)
      rw [e1, e2]
    · have h19b := h19
      try simp only [sxb] at h19
      have hby := not_f h19b
      have hbo := bids_ok hby
      obtain ⟨e1, e2⟩ := sell_yes hyes hby
      have hol := offL_len (rgL lad st) bs
      refine cj_skip (ej_th (cj_seq (cj_region ?_)))
      refine oj_step (y_build (cs := [.int .i64 (-1), .int .i64 0]) st63 rfl (by kernel_rfl)) rfl rfl rfl ?_
      refine oj_alloc Tryz.zeroValue63 rfl rfl (fun b7 => ?_)
      refine oj_store rfl rfl rfl rfl Tryz.sizeOf63 rfl ?_
      refine oj_nil ?_
      refine ej_th (cj_seq (cj_region ?_))
      refine oj_step (y_loadN Tryz.isAgg67 Tryz.sizeOf67 rfl) rfl rfl rfl ?_
      refine oj_step (y_build (cs := [.int .i64 st, .int .i64 rv, .slice Al lad.length cl]) st116 rfl (by kernel_rfl)) rfl rfl rfl ?_
      refine oj_step (y_move rfl) rfl rfl rfl ?_
      refine oj_callS (fun A c => .slice A (offL (rgL lad st) bs).length c) 3 encBi (offL (rgL lad st) bs) Tryz.call31 rfl (fun w hp => k_offers st rv lad Al cl bs Ab cb w hp.rd hp.rd hok hbo.1) rfl (fun A25 c25 fp25 hfp25 => ?_)
      refine oj_step (y_assign rfl) rfl rfl rfl ?_
      refine oj_nil ?_
      refine ej_th (cj_seq ?_)
      have hl0 : behF (rv - 1) (rgL lad st) = leastR st rv lad := rfl
      generalize hSS : offL (rgL lad st) bs = SS at *
      refine cj_regionG ?_
      refine gj_step (y_loadN Tryz.isAgg67 Tryz.sizeOf67 rfl) rfl rfl rfl (gj_step (y_build (cs := [.int .i64 st, .int .i64 rv, .slice Al lad.length cl]) st116 rfl (by kernel_rfl)) rfl rfl rfl (gj_step (y_fa fa67_1 rfl) rfl rfl rfl (gj_step (y_load1 Tryz.isAgg3 rfl rfl) rfl rfl rfl (gj_step (y_sub rfl rfl (by have := hok.rv; omega)) rfl rfl rfl (?_)))))
      refine gj_step (y_call Tryz.call32 rfl (fun w hp => k_behind st rv lad Al cl (rv - 1) w hp.rd hok)) rfl rfl rfl ?_
      refine gj_step (y_assign rfl) rfl rfl rfl (?_)
      refine gj_nil ?_
      refine ej_th (cj_seq (cj_seq ?_))
      refine cj_regionG (gj_step (y_move rfl) rfl rfl rfl (gj_step (y_lenA Tryz.underlying114 rfl) rfl rfl rfl (gj_step (y_eql rfl rfl) rfl rfl rfl (gj_step (y_move rfl) rfl rfl rfl (gj_g 2 35 37 rfl rfl rfl rfl (fun hg35 => gj_yes rfl rfl rfl (y_move rfl) rfl rfl (gj_yes rfl rfl rfl (y_eql rfl rfl) rfl rfl (gj_nil rfl))) (gj_step (y_or rfl rfl rfl) rfl rfl rfl (gj_step (y_move rfl) rfl rfl rfl (gj_g 7 39 46 rfl rfl rfl rfl (fun hg39 => gj_yes rfl rfl rfl (y_move rfl) rfl rfl (gj_yes rfl rfl rfl (y_ixR (reads_sl) Tryz.underlying114 Tryz.sizeOf120 rfl rfl (⟨by omega, by have := hg39; simp only [sxb] at this; omega⟩)) rfl rfl (gj_yes rfl rfl rfl (y_faE fa120_0 rfl) rfl rfl (gj_yes rfl rfl rfl (y_faE fa111_2 rfl) rfl rfl (gj_yes rfl rfl rfl (y_ld1 (reads_sl) Tryz.isAgg3 rfl (geq default (by have := hg39; simp only [sxb] at this; omega)) rfl) rfl rfl (gj_yes rfl rfl rfl (y_move rfl) rfl rfl (gj_yes rfl rfl rfl (y_lss rfl rfl) rfl rfl (gj_nil rfl)))))))) (gj_step (y_or rfl rfl rfl) rfl rfl rfl (gj_nil ?_))))))))))
      refine ej_th ?_
      refine cj_cond rfl (fun h47 => ?_) (fun h47 => ?_)
      · have h47b := h47
        try simp only [sxb] at h47
        rw [hl0] at h47b
        have hs := sellP_no (rs := rgL lad st) (st := st) h47b
        rw [hs] at e1
        refine cj_seq (cj_region ?_)
        refine oj_step (y_loadN Tryz.isAgg63 Tryz.sizeOf63 rfl) rfl rfl rfl ?_
        refine oj_store rfl rfl rfl rfl Tryz.sizeOf63 rfl ?_
        refine oj_step (y_assign rfl) rfl rfl rfl ?_
        refine oj_nil ?_
        refine ej_th (cj_ret (ej_then_ret ?_))
        refine ej_retC2 rfl Tryz.results14 rfl (y_loadN Tryz.isAgg63 Tryz.sizeOf63 rfl) rfl (fun w' hp => ⟨?_, hp.below⟩)
        rw [e1, e2]
      · have h47b := h47
        try simp only [sxb] at h47
        rw [hl0] at h47b
        obtain ⟨o, t, hSo, hs⟩ := sellP_yes (rs := rgL lad st) (st := st) h47b
        rw [hs] at e1
        subst hSo
        have ho : (o :: t)[(0 : Int).toNat]? = some o := rfl
        refine cj_skip (ej_th (cj_seq ?_))
        refine cj_regionG (gj_step (y_assign rfl) rfl rfl rfl (gj_nil ?_))
        refine ej_th ?_
        refine cj_cutic (X := Int) [(2, _), (4, _), (5, _), (8, _), (9, _)] ⟨rfl, rfl, rfl, rfl, rfl, trivial⟩ (fun s => s = secT t) (fun s => [(10, .int .i64 s)]) ?_ ?_
        · refine cj_seq ?_
          refine cj_regionG (gj_step (y_move rfl) rfl rfl rfl (gj_step (y_lenA Tryz.underlying114 rfl) rfl rfl rfl (gj_step (y_gtr rfl rfl) rfl rfl rfl (gj_nil ?_))))
          refine ej_th ?_
          refine cj_cond rfl (fun h51 => ?_) (fun h51 => ?_)
          · have h51b := h51
            try simp only [sxb] at h51
            have hs1 : ((o :: t).getD (1 : Int).toNat default).most = secT t := by
              cases t with
              | nil => simp only [List.length_cons, List.length_nil] at h51; omega
              | cons q t2 => rfl
            refine cj_regionG (gj_step (y_move rfl) rfl rfl rfl (gj_step (y_ixR (reads_sl) Tryz.underlying114 Tryz.sizeOf120 rfl rfl (⟨by omega, by omega⟩)) rfl rfl rfl (gj_step (y_faE fa120_0 rfl) rfl rfl rfl (gj_step (y_faE fa111_2 rfl) rfl rfl rfl (gj_step (y_ld1 (reads_sl) Tryz.isAgg3 rfl (geq default (by omega)) rfl) rfl rfl rfl (gj_step (y_assign rfl) rfl rfl rfl (gj_nil ?_)))))))
            exact ej_ct _ hs1 ⟨rfl, rfl, rfl, rfl, rfl, rfl, trivial⟩
          · have h51b := h51
            try simp only [sxb] at h51
            have hs0 : (0 : Int) = secT t := by
              cases t with
              | nil => rfl
              | cons q t2 => simp only [List.length_cons] at h51; omega
            refine cj_skip ?_
            exact ej_ct 0 hs0 ⟨rfl, rfl, rfl, rfl, rfl, rfl, trivial⟩
        · rintro _ rfl
          dsimp only [List.cons_append, List.nil_append]
          refine cj_seq ?_
          refine cj_plan 19 (by kernel_rfl) (by kernel_rfl) ?_
          refine pl_y 0 rfl (y_move rfl) rfl rfl rfl rfl (by kernel_rfl) ?_
          refine pl_y 1 rfl (y_ixR (reads_sl) Tryz.underlying114 Tryz.sizeOf120 rfl rfl (⟨by omega, by simp only [List.length_cons]; omega⟩)) rfl rfl rfl rfl (by kernel_rfl) ?_
          refine pl_y 2 rfl (y_faE fa120_0 rfl) rfl rfl rfl rfl (by kernel_rfl) ?_
          refine pl_y 3 rfl (y_faE fa111_0 rfl) rfl rfl rfl rfl (by kernel_rfl) ?_
          refine pl_y 4 rfl (y_ld1 (reads_sl) Tryz.isAgg3 rfl (ho) rfl) rfl rfl rfl rfl (by kernel_rfl) ?_
          refine pl_y 5 rfl (y_move rfl) rfl rfl rfl rfl (by kernel_rfl) ?_
          refine pl_y 6 rfl (y_loadN Tryz.isAgg67 Tryz.sizeOf67 rfl) rfl rfl rfl rfl (by kernel_rfl) ?_
          refine pl_y 7 rfl (y_build (cs := [.int .i64 st, .int .i64 rv, .slice Al lad.length cl]) st116 rfl (by kernel_rfl)) rfl rfl rfl rfl (by kernel_rfl) ?_
          refine pl_y 8 rfl (y_move rfl) rfl rfl rfl rfl (by kernel_rfl) ?_
          refine pl_y 9 rfl (y_ixR (reads_sl) Tryz.underlying114 Tryz.sizeOf120 rfl rfl (⟨by omega, by simp only [List.length_cons]; omega⟩)) rfl rfl rfl rfl (by kernel_rfl) ?_
          refine pl_y 10 rfl (y_faE fa120_0 rfl) rfl rfl rfl rfl (by kernel_rfl) ?_
          refine pl_y 11 rfl (y_faE fa111_2 rfl) rfl rfl rfl rfl (by kernel_rfl) ?_
          refine pl_y 12 rfl (y_ld1 (reads_sl) Tryz.isAgg3 rfl (ho) rfl) rfl rfl rfl rfl (by kernel_rfl) ?_
          refine pl_y 13 rfl (y_move rfl) rfl rfl rfl rfl (by kernel_rfl) ?_
          refine pl_y 14 rfl (y_call Tryz.call34 rfl (fun w hp => k_price st rv lad Al cl _ _ w hp.rd hok)) rfl rfl rfl rfl (by kernel_rfl) ?_
          refine pl_y 15 rfl (y_call Tryz.call33 rfl (fun w hp => k_largest _ _ w)) rfl rfl rfl rfl (by kernel_rfl) ?_
          refine pl_y 16 rfl (y_build (cs := [.int .i64 o.who, .int .i64 (max (leastR st rv lad) (priceF (rgL lad st) st o.most (secT t)))]) st63 rfl (by kernel_rfl)) rfl rfl rfl rfl (by kernel_rfl) ?_
          refine pl_w1 17 (by kernel_rfl) rfl rfl (pl_fire rfl rfl rfl (by kernel_rfl) ?_)
          refine oj_store rfl rfl rfl rfl Tryz.sizeOf63 rfl ?_
          refine oj_nil ?_
          refine ej_pl (lt_w (by kernel_rfl) (lt_w (by kernel_rfl) (lt_w (by kernel_rfl) (lt_w (by kernel_rfl) (lt_w (by kernel_rfl) (lt_w (by kernel_rfl) (lt_w (by kernel_rfl) (lt_w (by kernel_rfl) (lt_w (by kernel_rfl) (lt_w (by kernel_rfl) (lt_w (by kernel_rfl) (lt_w (by kernel_rfl) (lt_w (by kernel_rfl) (lt_w (by kernel_rfl) (lt_w (by kernel_rfl) (lt_w (by kernel_rfl) (lt_w (by kernel_rfl) (lt_nil)))))))))))))))))) ?_
          refine pl_y 18 rfl (y_assign rfl) rfl rfl rfl rfl (by kernel_rfl) ?_
          refine pl_end (by kernel_rfl) ?_
          refine ej_th (cj_ret ?_)
          refine ej_retC2 rfl Tryz.results14 rfl (y_loadN Tryz.isAgg63 Tryz.sizeOf63 rfl) rfl (fun w' hp => ⟨?_, hp.below⟩)
          rw [e1, e2]

end Go.Proofs.YtppfniekcgnmjaaGreatDoor.Au
namespace Go.Proofs.YtppfniekcgnmjaaGreatDoor.Pu
open Go Go.Sx Go.RowKit Um
abbrev encDu (d : DueV) : List Value := [.int .i64 d.rank, .int .i64 d.amount]
structure PartV where
  name : ByteArray
  value : Int
  A : Option Addr
  c : Nat
  dues : List DueV
abbrev encPa (p : PartV) : List Value := [.string p.name, .int .i64 p.value, .slice p.A p.dues.length p.c]
structure PorV where
  price : Int
  A : Option Addr
  c : Nat
  paid : List Int
  left : Int
abbrev encPo (p : PorV) : List Value := [.int .i64 p.price, .slice p.A p.paid.length p.c, .int .i64 p.left]
def amtB (n : Int) : Bool := btw 0 n 67108864
def weiB (l : List Int) : Bool := btw 1 l.length 24 && l.all amtB && decide (0 < sumI l)
def dueB (d : DueV) : Bool := btw 0 d.rank 9 && amtB d.amount
def duesB (l : List DueV) : Bool := decide (l.length ≤ 24) && l.all dueB
theorem wei_t {l : List Int} (h : weiB l = true) : 1 ≤ l.length ∧ l.length ≤ 24 ∧ (∀ x ∈ l, 0 ≤ x ∧ x ≤ 67108864) ∧ 0 < sumI l ∧ sumI l ≤ 1610612736 := by
  unfold weiB at h
  rw [Bool.and_eq_true, Bool.and_eq_true, decide_eq_true_eq] at h
  obtain ⟨⟨h1, h2⟩, h3⟩ := h
  have h4 := btw_t h1
  have h5 : ∀ x ∈ l, 0 ≤ x ∧ x ≤ 67108864 := fun x hx => btw_t (all_mem h2 hx)
  refine ⟨by omega, by omega, h5, h3, ?_⟩
  have := sumI_le_mul (m := 67108864) (fun x hx => (h5 x hx).2)
  omega
theorem dues_t {l : List DueV} (h : duesB l = true) : l.length ≤ 24 ∧ (∀ d ∈ l, (0 ≤ d.rank ∧ d.rank ≤ 9) ∧ 0 ≤ d.amount ∧ d.amount ≤ 67108864) := by
  unfold duesB at h
  rw [Bool.and_eq_true, decide_eq_true_eq] at h
  exact ⟨h.1, fun d hd => by have := all_mem h.2 hd; unfold dueB at this; rw [Bool.and_eq_true] at this; exact ⟨btw_t this.1, btw_t this.2⟩⟩
theorem dues_ok {l : List DueV} (h : duesB l = true) : DuesOk l := fun d hd => ((dues_t h).2 d hd).2.1
theorem sumI_take_le {l : List Int} (h : ∀ x ∈ l, 0 ≤ x) (k : Nat) : 0 ≤ sumI (l.take k) ∧ sumI (l.take k) ≤ sumI l := by
  have h1 := sumI_nonneg (l := l.take k) fun x hx => h x (List.mem_of_mem_take hx)
  have h2 := sumI_nonneg (l := l.drop k) fun x hx => h x (List.mem_of_mem_drop hx)
  have h3 : sumI l = sumI (l.take k) + sumI (l.drop k) := by rw [← sumI_append, List.take_append_drop]
  omega
theorem mul_bd {a b m n : Int} (ha : 0 ≤ a ∧ a ≤ m) (hb : 0 ≤ b ∧ b ≤ n) : 0 ≤ a * b ∧ a * b ≤ m * n :=
  ⟨Int.mul_nonneg ha.1 hb.1, Int.mul_le_mul ha.2 hb.2 hb.1 (by omega)⟩
def natsI (l : List Nat) : List Int := l.map fun n : Nat => (n : Int)
theorem nats_len (l : List Nat) : (natsI l).length = l.length := List.length_map ..
theorem nats_get {l : List Nat} {k i : Nat} (h : l[k]? = some i) : (natsI l)[k]? = some (i : Int) := by simp [natsI, h]
def ShrL (l : List Int) (all : Int) : List Int := if weiB l && btw 0 all 34359738368 then shareL l all else []
def ShrE (l : List Int) (all : Int) : Int := if weiB l then (if btw 0 all 34359738368 then 0 else 7) else 70
structure PorP where
  price : Int
  paid : List Int
  left : Int
abbrev PorV.p (x : PorV) : PorP := ⟨x.price, x.paid, x.left⟩
def por1 (p : PartV) (n : Int) : PorP := ⟨n, (spreadL p.dues n).1, (spreadL p.dues n).2⟩
def valsL (ps : List PartV) : List Int := ps.map fun p => p.value
def portsL (price : Int) (ps : List PartV) : List PorP := List.zipWith por1 ps (shareL (valsL ps) price)
def namB (isW : ByteArray → Bool) (ps : List PartV) : Nat → Bool
  | 0 => true
  | k + 1 => namB isW ps k && (match ps[k]? with | none => true | some p => isW p.name && !((ps.take k).any fun o => o.name == p.name))
theorem namB_no {isW : ByteArray → Bool} {ps : List PartV} {k : Nat} (h : namB isW ps k = false) : ∀ n, namB isW ps (k + n) = false
  | 0 => h
  | n + 1 => by rw [← Nat.add_assoc, namB, namB_no h n]; rfl
def porE (isW : ByteArray → Bool) (price : Int) (ps : List PartV) : Int :=
  if !(btw 0 price 67108864) then 7 else if !(btw 1 ps.length 8) then 72 else if !(namB isW ps ps.length) then 72 else if !(weiB (valsL ps)) then 72 else if !(ps.all fun p => duesB p.dues) then 71 else 0
def porL (isW : ByteArray → Bool) (price : Int) (ps : List PartV) : List PorP := if porE isW price ps = 0 then portsL price ps else []
theorem porL_no {isW : ByteArray → Bool} {price : Int} {ps : List PartV} (h : porE isW price ps ≠ 0) : porL isW price ps = [] := if_neg h
theorem encPo_one (x : PorV) : ∀ v ∈ encPo x, v.oneCell' = true := by simp [encPo, Value.oneCell']
/-- what is paid lies where the portions say -/
def rowsP (fp : Nat → Prop) (l : List PorV) : Fact where
  fp := fp
  P := fun w => ∀ r ∈ l, (sl fp 1 enInt r.A r.paid).P w
  stab := fun h k r hr => (sl fp 1 enInt r.A r.paid).stab h (k r hr)
theorem rowsP_snoc {F : Nat → Prop} {w0 w : World} {O S : List Fact} (hp : Hp F w0 O S w) {fp fq : Nat → Prop} {l : List PorV} {A : Option Addr} {c : Nat} {xs : List Int} {n m : Int} (h : rowsP fp l ∈ S) (h2 : sl fq 1 enInt A xs ∈ S) :
    (rowsP (fun i => fp i ∨ fq i) (l ++ [⟨n, A, c, xs, m⟩])).P w ∧ ∀ b, fp b ∨ fq b → b < w.heap.size ∧ ∀ g ∈ O, ¬ g.fp b := by
  refine ⟨fun r hr => ?_, fun b hb => ?_⟩
  · rcases List.mem_append.1 hr with hr | hr
    · exact sl_fp ((hp.shared _ h).1 r hr) (fun b hb => .inl hb)
    · rw [List.mem_singleton.1 hr]; exact sl_fp (hp.shared _ h2).1 (fun b hb => .inr hb)
  · rcases hb with hb | hb
    · exact ⟨(hp.shared _ h).2.1 b hb, fun g hg => (hp.shared _ h).2.2 g hg b hb⟩
    · exact ⟨(hp.shared _ h2).2.1 b hb, fun g hg => (hp.shared _ h2).2.2 g hg b hb⟩
theorem ports_take {price : Int} {ps : List PartV} {k : Nat} {p : PartV} {n : Int} (h : ps[k]? = some p) (h2 : (shareL (valsL ps) price)[k]? = some n) : (portsL price ps).take (k + 1) = (portsL price ps).take k ++ [por1 p n] := by
  rw [List.take_add_one]
  congr 1
  unfold portsL
  rw [List.getElem?_zipWith, h, h2]; rfl
theorem Rd.takeL {α : Type} {w : World} {sz : Nat} {enc : α → List Value} {A : Option Addr} {xs : List α} (h : Rd w sz enc A xs) (n : Nat) : Rd w sz enc A (xs.take n) := by
  refine ⟨Nat.le_trans (by rw [List.length_take]; omega) h.1, fun hne => ?_⟩
  obtain ⟨a, ha, hf, hc⟩ := h.2 (fun e => hne (by rw [e, List.take_nil]))
  refine ⟨a, ha, hf, fun i x j u hx hu => hc i x j u ?_ hu⟩
  rw [List.getElem?_take] at hx
  split at hx
  · exact hx
  · cases hx
/-- what a part's memory is -/
structure GoodP (w : World) (p : PartV) : Prop where
  rd : Rd w 2 encDu p.A p.dues
  nm : p.name.size ≤ 9223372036854775807
theorem GoodP.mono {w w' : World} {p : PartV} (h : GoodP w p) (hg : Grow w w') : GoodP w' p := ⟨h.rd.mono hg, h.nm⟩
end Go.Proofs.YtppfniekcgnmjaaGreatDoor.Pu
namespace Go.Proofs.YtppfniekcgnmjaaGreatDoor.Pu
open Go Go.Sx Go.RowKit
theorem eq_drop {α : Type} [DecidableEq α] (a b : List α) (k : Nat) (x y : α) (hx : a[k]? = some x) (hy : b[k]? = some y) : decide (a.drop k = b.drop k) = (decide (x = y) && decide (a.drop (k + 1) = b.drop (k + 1))) := by
  obtain ⟨h1, h2⟩ := List.getElem?_eq_some_iff.1 hx
  obtain ⟨h3, h4⟩ := List.getElem?_eq_some_iff.1 hy
  rw [List.drop_eq_getElem_cons h1, h2, List.drop_eq_getElem_cons h3, h4]
  by_cases h : x = y <;> by_cases h5 : a.drop (k + 1) = b.drop (k + 1) <;> simp [h, h5]
theorem eq_len {α : Type} [DecidableEq α] {a b : List α} (h : ¬ (a.length : Int) = b.length) : decide (a = b) = false := decide_eq_false (fun e => h (by rw [e]))
theorem len_of {a b : List Int} (h : ((a.length : Int) == (b.length : Int)) = true) : a.length = b.length := by
  have h2 : (a.length : Int) = b.length := by simpa using h
  omega
theorem same_start (a b : List Int) : (((a.length : Int) == (b.length : Int)) && decide (a.drop 0 = b.drop 0)) = decide (a = b) := by
  rw [List.drop_zero, List.drop_zero]
  by_cases h : (a.length : Int) = b.length
  · rw [show ((a.length : Int) == (b.length : Int)) = true by simpa using h]; rfl
  · rw [show ((a.length : Int) == (b.length : Int)) = false by simpa using h, eq_len h]; rfl
theorem beq_dec {x y : Int} {c : Bool} : ((x == y) && c) = (decide (x = y) && c) := by
  by_cases h : x = y <;> simp [h]
theorem Res.of_lit {α : Type} {w w' : World} {b sz : Nat} {enc : α → List Value} {xs : List α} (h : (litS b sz enc xs).P w' ∧ ∀ i, (litS b sz enc xs).fp i → w.heap.size ≤ i ∧ i < w'.heap.size ∧ ∀ o ∈ ([] : List Fact), ¬ o.fp i) : (sl (fun i => w.heap.size ≤ i ∧ i < w'.heap.size) sz enc (some ⟨b, 0, none⟩) xs).P w' :=
  sl_fp h.1 (fun i hi => ⟨(h.2 i hi).1, (h.2 i hi).2.1⟩)
def ringI (n m : Int) : Int := if m ≤ 0 then 0 else ((n.tmod m) + m).tmod m
theorem ringI_bd (n m : Int) (hm : 1 ≤ m) : 0 ≤ ringI n m ∧ ringI n m < m := by
  unfold ringI
  rw [if_neg (by omega)]
  have h1 : -m < n.tmod m ∧ n.tmod m < m := by
    rcases Int.lt_or_le n 0 with h | h
    · have h2 := Int.tmod_lt_of_pos (-n) (show (0 : Int) < m by omega)
      have h3 := Int.tmod_nonneg m (show 0 ≤ -n by omega)
      rw [Int.neg_tmod] at h2 h3
      omega
    · have h2 := Int.tmod_lt_of_pos n (show (0 : Int) < m by omega)
      have h3 := Int.tmod_nonneg m h
      omega
  exact ⟨Int.tmod_nonneg m (by omega), Int.tmod_lt_of_pos _ (by omega)⟩
def pickI (l : List Int) (i : Int) : Int := if l.length = 0 then 0 else l.getD (ringI i l.length).toNat default
theorem gd_of {α : Type} {l : List α} {i : Nat} {x : α} (d : α) (h : l[i]? = some x) : l.getD i d = x := by rw [List.getD_eq_getElem?_getD, h]; rfl
end Go.Proofs.YtppfniekcgnmjaaGreatDoor.Pu
namespace Go.Proofs.YtppfniekcgnmjaaGreatDoor.Pu
open Go.Sx Go.RowKit
set_option maxRecDepth 20000

end Go.Proofs.YtppfniekcgnmjaaGreatDoor.Pu
namespace Go.Proofs.YtppfniekcgnmjaaGreatDoor.Pu
open Go.Sx Go.RowKit Um
set_option maxRecDepth 20000
theorem k_within (n lo hi : Int) (w : World)  : Calls Tryz.prog 35 #[.int .i64 n, .int .i64 lo, .int .i64 hi] w (fun e w' => e = .returned (.bool (btw lo n hi)) ∧ Grow w w') := by
  refine enter_pure (args := [.int .i64 n, .int .i64 lo, .int .i64 hi]) [] Tryz.func35 rfl (by rw [Tryz.ntmps35]; simp) (by simp) ?_
  refine cj_seq ?_
  refine cj_regionG (gj_step (y_assign rfl) rfl rfl rfl (gj_nil ?_))
  refine ej_th (cj_seq ?_)
  refine cj_regionG (gj_step (y_move rfl) rfl rfl rfl (gj_step (y_move rfl) rfl rfl rfl (gj_step (y_geq rfl rfl) rfl rfl rfl (gj_step (y_move rfl) rfl rfl rfl (gj_g 3 10 13 rfl rfl rfl rfl (fun hg10 => gj_yes rfl rfl rfl (y_move rfl) rfl rfl (gj_yes rfl rfl rfl (y_move rfl) rfl rfl (gj_yes rfl rfl rfl (y_leq rfl rfl) rfl rfl (gj_nil rfl)))) (gj_step (y_and rfl rfl rfl) rfl rfl rfl (gj_step (y_assign rfl) rfl rfl rfl (gj_nil ?_))))))))
  refine ej_th (cj_ret ?_)
  exact ej_ret1 rfl Tryz.results35 rfl (fun w' hp => ⟨rfl, hp.below⟩)

theorem k_sum (l : List Int) (A : Option Addr) (c : Nat) (w : World) (hl : Rd w 1 enInt A l) (hn : ∀ x ∈ l, 0 ≤ x) (hs : sumI l ≤ 4611686018427387904) : Calls Tryz.prog 73 #[.slice A l.length c] w (fun e w' => e = .returned (.int .i64 (sumI l)) ∧ Grow w w') := by
  have hlen := hl.len
  refine enter_pure (args := [.slice A l.length c]) [sl (fun b => b < w.heap.size) 1 enInt A l] Tryz.func73 rfl (by rw [Tryz.ntmps73]; simp) (fun g hg => by simp at hg; subst hg; exact ⟨hl, fun _ h => h⟩) ?_
  refine cj_seq ?_
  refine cj_regionG (gj_step (y_assign rfl) rfl rfl rfl (gj_nil ?_))
  refine ej_th (cj_seq ?_)
  refine cj_regionG (gj_step (y_assign rfl) rfl rfl rfl (gj_nil ?_))
  refine ej_th (cj_seq (cj_seq ?_))
  refine cj_regionG (gj_step (y_move rfl) rfl rfl rfl (gj_step (y_lenA Tryz.underlying26 rfl) rfl rfl rfl (gj_step (y_move rfl) rfl rfl rfl (gj_nil ?_))))
  refine ej_th (cj_block ?_)
  refine cj_lpic (X := Nat) [(2, _), (6, _), (7, _)] (fun k => k ≤ l.length) (fun k => [(3, .int .i64 (sumI (l.take k))), (8, .int .i64 (k : Nat))]) (fun k => l.length - k) 0 (Nat.zero_le _) ⟨rfl, rfl, rfl, rfl, rfl, trivial⟩ ?_
  rintro k hk
  dsimp only [List.cons_append, List.nil_append]
  refine cj_seq ?_
  refine cj_regionG (gj_step (y_lss rfl rfl) rfl rfl rfl (gj_nil ?_))
  refine ej_th (cj_seq ?_)
  refine cj_cond rfl (fun h9 => ?_) (fun h9 => ?_)
  · have h9b := h9
    try simp only [sxb] at h9
    obtain ⟨x, hx⟩ : ∃ x, l[k]? = some x := ⟨_, List.getElem?_eq_getElem (by omega)⟩
    have hx0 := hn x (List.mem_of_getElem? hx)
    have hsk := sumI_take_le hn (k + 1)
    rw [sumI_take_get hx] at hsk
    have hsk0 := sumI_take_le hn k
    refine cj_skip (ej_th (cj_seq (cj_block (cj_seq ?_))))
    refine cj_regionG (gj_step (y_ixR (reads_sl) Tryz.underlying26 Tryz.sizeOf3 rfl rfl (⟨by omega, by omega⟩)) rfl rfl rfl (gj_step (y_ld0 (reads_sl) Tryz.isAgg3 rfl (hx) rfl) rfl rfl rfl (gj_step (y_assign rfl) rfl rfl rfl (gj_nil ?_))))
    refine ej_th ?_
    refine cj_regionG (gj_step (y_move rfl) rfl rfl rfl (gj_step (y_move rfl) rfl rfl rfl (gj_step (y_add rfl rfl (by omega)) rfl rfl rfl (gj_step (y_assign rfl) rfl rfl rfl (gj_nil ?_)))))
    refine ej_blk (ej_th ?_)
    refine cj_regionG (gj_step (y_add rfl rfl (by omega)) rfl rfl rfl (gj_step (y_move rfl) rfl rfl rfl (gj_nil ?_)))
    rw [← sumI_take_get hx]
    exact ej_nx (k + 1) (by omega) (by omega) ⟨rfl, rfl, rfl, rfl, rfl, trivial⟩
  · have h9b := h9
    try simp only [sxb] at h9
    refine cj_exit (ej_then_exit (ej_then_exit (ej_blk_hit (ej_th (cj_seq ?_)))))
    refine cj_regionG (gj_step (y_move rfl) rfl rfl rfl (gj_step (y_assign rfl) rfl rfl rfl (gj_nil ?_)))
    refine ej_th (cj_ret ?_)
    refine ej_ret1 rfl Tryz.results73 rfl (fun w' hp => ⟨?_, hp.below⟩)
    rw [List.take_of_length_le (by omega)]

theorem k_IndexI (l : List Int) (A : Option Addr) (c : Nat) (f : Nat) (fi ca : Array Value) (q : Int → Bool) (w : World) (hl : Rd w 1 enInt A l) (hen : ∀ args w, (callFunc f args).run Tryz.prog w = .ok (.enter f args) w) (hpp : ∀ x ∈ l, ∀ w1, Grow w w1 → Calls Tryz.prog f (fi ++ [.int .i64 x].toArray ++ ca) w1 (fun e w2 => e = .returned (.bool (q x)) ∧ Grow w1 w2)) : Calls Tryz.prog 143 #[.slice A l.length c, .func (.func f) fi ca] w (fun e w' => e = .returned (.int .i64 (fidx q l 0)) ∧ Grow w w') := by
  have hlen := hl.len
  refine enter_pure (args := [.slice A l.length c, .func (.func f) fi ca]) [sl (fun b => b < w.heap.size) 1 enInt A l] Tryz.func143 rfl (by rw [Tryz.ntmps143]; simp) (fun g hg => by simp at hg; subst hg; exact ⟨hl, fun _ h => h⟩) ?_
  refine cj_seq ?_
  refine cj_regionG (gj_step (y_assign rfl) rfl rfl rfl (gj_nil ?_))
  refine ej_th (cj_seq (cj_seq ?_))
  refine cj_regionG (gj_step (y_move rfl) rfl rfl rfl (gj_step (y_lenA Tryz.underlying26 rfl) rfl rfl rfl (gj_step (y_move rfl) rfl rfl rfl (gj_nil ?_))))
  refine ej_th (cj_block ?_)
  refine cj_lpic (X := Nat) [(0, _), (1, _), (7, _)] (fun k => k ≤ l.length ∧ fidx q (l.drop k) k = fidx q l 0) (fun k => [(8, .int .i64 (k : Nat))]) (fun k => l.length - k) 0 (⟨Nat.zero_le _, rfl⟩) ⟨rfl, rfl, rfl, rfl, trivial⟩ ?_
  rintro k ⟨hk, hsk⟩
  dsimp only [List.cons_append, List.nil_append]
  refine cj_seq ?_
  refine cj_regionG (gj_step (y_lss rfl rfl) rfl rfl rfl (gj_nil ?_))
  refine ej_th (cj_seq ?_)
  refine cj_cond rfl (fun h9 => ?_) (fun h9 => ?_)
  · have h9b := h9
    try simp only [sxb] at h9
    obtain ⟨x, hx⟩ : ∃ x, l[k]? = some x := ⟨_, List.getElem?_eq_getElem (by omega)⟩
    rw [fidx_drop q l k x hx] at hsk
    refine cj_skip (ej_th (cj_seq (cj_block (cj_seq ?_))))
    refine cj_regionG (gj_step (y_move rfl) rfl rfl rfl (gj_step (y_assign rfl) rfl rfl rfl (gj_nil ?_)))
    refine ej_th (cj_seq ?_)
    refine cj_regionG ?_
    refine gj_step (y_move rfl) rfl rfl rfl (gj_step (y_move rfl) rfl rfl rfl (gj_step (y_move rfl) rfl rfl rfl (gj_step (y_ixR (reads_sl) Tryz.underlying26 Tryz.sizeOf3 rfl rfl (⟨by omega, by omega⟩)) rfl rfl rfl (gj_step (y_ld0 (reads_sl) Tryz.isAgg3 rfl (hx) rfl) rfl rfl rfl (?_)))))
    refine gj_step (y_callV hen rfl rfl (fun w1 hp => hpp x (List.mem_of_getElem? hx) w1 hp.below)) rfl rfl rfl ?_
    refine gj_nil ?_
    refine ej_th ?_
    refine cj_cond rfl (fun h16 => ?_) (fun h16 => ?_)
    · have h16b := h16
      try simp only [sxb] at h16
      refine cj_seq ?_
      refine cj_regionG (gj_step (y_move rfl) rfl rfl rfl (gj_step (y_assign rfl) rfl rfl rfl (gj_nil ?_)))
      refine ej_th (cj_ret (ej_blk_ret (ej_then_ret (ej_then_ret (ej_blk_ret (ej_then_ret ?_))))))
      refine ej_ret1 rfl Tryz.results143 rfl (fun w' hp => ⟨?_, hp.below⟩)
      rw [← hsk, if_pos h16b]
    · have h16b := h16
      try simp only [sxb] at h16
      refine cj_skip (ej_blk (ej_th ?_))
      refine cj_regionG (gj_step (y_add rfl rfl (by omega)) rfl rfl rfl (gj_step (y_move rfl) rfl rfl rfl (gj_nil ?_)))
      exact ej_nx (k + 1) (by omega) ⟨by omega, by rw [← hsk, if_neg (by rw [h16b]; simp)]⟩ ⟨rfl, rfl, rfl, rfl, trivial⟩
  · have h9b := h9
    try simp only [sxb] at h9
    refine cj_exit (ej_then_exit (ej_then_exit (ej_blk_hit (ej_th (cj_seq ?_)))))
    refine cj_regionG (gj_step (y_assign rfl) rfl rfl rfl (gj_nil ?_))
    refine ej_th (cj_ret ?_)
    refine ej_ret1 rfl Tryz.results143 rfl (fun w' hp => ⟨?_, hp.below⟩)
    rw [← hsk, List.drop_of_length_le (by omega)]; rfl

theorem k_ContI (l : List Int) (A : Option Addr) (c : Nat) (f : Nat) (fi ca : Array Value) (q : Int → Bool) (w : World) (hl : Rd w 1 enInt A l) (hen : ∀ args w, (callFunc f args).run Tryz.prog w = .ok (.enter f args) w) (hpp : ∀ x ∈ l, ∀ w1, Grow w w1 → Calls Tryz.prog f (fi ++ [.int .i64 x].toArray ++ ca) w1 (fun e w2 => e = .returned (.bool (q x)) ∧ Grow w1 w2)) : Calls Tryz.prog 110 #[.slice A l.length c, .func (.func f) fi ca] w (fun e w' => e = .returned (.bool (l.any q)) ∧ Grow w w') := by
  refine enter_pure (args := [.slice A l.length c, .func (.func f) fi ca]) [sl (fun b => b < w.heap.size) 1 enInt A l] Tryz.func110 rfl (by rw [Tryz.ntmps110]; simp) (fun g hg => by simp at hg; subst hg; exact ⟨hl, fun _ h => h⟩) ?_
  refine cj_seq ?_
  refine cj_regionG (gj_step (y_assign rfl) rfl rfl rfl (gj_nil ?_))
  refine ej_th (cj_seq ?_)
  refine cj_regionG ?_
  refine gj_step (y_move rfl) rfl rfl rfl (gj_step (y_move rfl) rfl rfl rfl (?_))
  refine gj_step (y_call Tryz.call143 rfl (fun w hp => k_IndexI l A c f fi ca q w hp.rd hen (fun x hx w1 hg => hpp x hx w1 (grow_trans hp.below hg)))) rfl rfl rfl ?_
  refine gj_step (y_geq rfl rfl) rfl rfl rfl (gj_step (y_assign rfl) rfl rfl rfl (?_))
  refine gj_nil ?_
  refine ej_th (cj_ret ?_)
  refine ej_ret1 rfl Tryz.results110 rfl (fun w' hp => ⟨?_, hp.below⟩)
  rw [fidx_any q l]

theorem k_am1 (n : Int) (w : World)  : Calls Tryz.prog 111 #[.int .i64 n] w (fun e w' => e = .returned (.bool (!(amtB n))) ∧ Grow w w') := by
  refine enter_pure (args := [.int .i64 n]) [] Tryz.func111 rfl (by rw [Tryz.ntmps111]; simp) (by simp) ?_
  refine cj_seq ?_
  refine cj_regionG (gj_step (y_assign rfl) rfl rfl rfl (gj_nil ?_))
  refine ej_th (cj_seq ?_)
  refine cj_regionG ?_
  refine gj_step (y_move rfl) rfl rfl rfl (?_)
  refine gj_step (y_call Tryz.call35 rfl (fun w hp => k_within _ _ _ w)) rfl rfl rfl ?_
  refine gj_step (y_not rfl) rfl rfl rfl (gj_step (y_assign rfl) rfl rfl rfl (?_))
  refine gj_nil ?_
  refine ej_th (cj_ret ?_)
  exact ej_ret1 rfl Tryz.results111 rfl (fun w' hp => ⟨rfl, hp.below⟩)

theorem k_amounts (l : List Int) (A : Option Addr) (c : Nat) (w : World) (hl : Rd w 1 enInt A l) : Calls Tryz.prog 72 #[.slice A l.length c] w (fun e w' => e = .returned (.bool (l.all amtB)) ∧ Grow w w') := by
  refine enter_pure (args := [.slice A l.length c]) [sl (fun b => b < w.heap.size) 1 enInt A l] Tryz.func72 rfl (by rw [Tryz.ntmps72]; simp) (fun g hg => by simp at hg; subst hg; exact ⟨hl, fun _ h => h⟩) ?_
  refine cj_seq ?_
  refine cj_regionG (gj_step (y_assign rfl) rfl rfl rfl (gj_nil ?_))
  refine ej_th (cj_seq ?_)
  refine cj_regionG ?_
  refine gj_step (y_move rfl) rfl rfl rfl (?_)
  refine gj_step (y_call Tryz.call110 rfl (fun w hp => k_ContI l A c 111 #[] #[] (fun x => !(amtB x)) w hp.rd Tryz.call111 (fun x hx w1 hg => k_am1 x w1))) rfl rfl rfl ?_
  refine gj_step (y_not rfl) rfl rfl rfl (gj_step (y_assign rfl) rfl rfl rfl (?_))
  refine gj_nil ?_
  refine ej_th (cj_ret ?_)
  refine ej_ret1 rfl Tryz.results72 rfl (fun w' hp => ⟨?_, hp.below⟩)
  rw [any_not, Bool.not_not]

theorem k_weights (l : List Int) (A : Option Addr) (c : Nat) (w : World) (hl : Rd w 1 enInt A l) : Calls Tryz.prog 39 #[.slice A l.length c] w (fun e w' => e = .returned (.bool (weiB l)) ∧ Grow w w') := by
  have hlen := hl.len
  refine enter_pure (args := [.slice A l.length c]) [sl (fun b => b < w.heap.size) 1 enInt A l] Tryz.func39 rfl (by rw [Tryz.ntmps39]; simp) (fun g hg => by simp at hg; subst hg; exact ⟨hl, fun _ h => h⟩) ?_
  refine cj_seq ?_
  refine cj_regionG (gj_step (y_assign rfl) rfl rfl rfl (gj_nil ?_))
  refine ej_th (cj_seq ?_)
  refine cj_regionG ?_
  refine gj_step (y_move rfl) rfl rfl rfl (gj_step (y_lenA Tryz.underlying26 rfl) rfl rfl rfl (?_))
  refine gj_step (y_call Tryz.call35 rfl (fun w hp => k_within _ _ _ w)) rfl rfl rfl ?_
  refine gj_step (y_move rfl) rfl rfl rfl (?_)
  refine gj_g 2 6 8 rfl rfl rfl rfl (fun hg6 => gj_yes rfl rfl rfl (y_move rfl) rfl rfl (gj_yes rfl rfl rfl (y_call Tryz.call72 rfl (fun w hp => k_amounts l A c w hp.rd)) rfl rfl (gj_nil rfl))) ?_
  refine gj_step (y_and rfl rfl rfl) rfl rfl rfl (gj_step (y_move rfl) rfl rfl rfl (?_))
  refine gj_g 3 10 13 rfl rfl rfl rfl (fun hg10 => gj_yes rfl rfl rfl (y_move rfl) rfl rfl (gj_yes rfl rfl rfl (y_call Tryz.call73 rfl (fun w hp => by
    have hg7b := hg10
    rw [Bool.and_eq_true] at hg7b
    have h5 : ∀ x ∈ l, 0 ≤ x ∧ x ≤ 67108864 := fun x hx => btw_t (all_mem hg7b.2 hx)
    have h6 := sumI_le_mul (m := 67108864) (fun x hx => (h5 x hx).2)
    have h7 := btw_t hg7b.1
    exact k_sum l A c w hp.rd (fun x hx => (h5 x hx).1) (by omega))) rfl rfl (gj_yes rfl rfl rfl (y_gtr rfl rfl) rfl rfl (gj_nil rfl)))) ?_
  refine gj_step (y_and rfl rfl rfl) rfl rfl rfl (gj_step (y_assign rfl) rfl rfl rfl (?_))
  refine gj_nil ?_
  refine ej_th (cj_ret ?_)
  refine ej_ret1 rfl Tryz.results39 rfl (fun w' hp => ⟨?_, hp.below⟩)
  rfl

theorem k_next (l out : List Int) (Al Ao : Option Addr) (cl co b0 b1 : Nat) (w : World) (h0 : (ownB b0 (cellsB 26 [.slice Al l.length cl])).P w) (h1 : (ownB b1 (cellsB 26 [.slice Ao out.length co])).P w) (hl : Rd w 1 enInt Al l) (ho : Rd w 1 enInt Ao out) (hlo : out.length = l.length) (hlb : ∀ x ∈ l, 0 ≤ x ∧ x ≤ 67108864) (hob : ∀ x ∈ out, 0 ≤ x ∧ x ≤ 34359738368) (hne : 0 < l.length) : Calls Tryz.prog 76 #[.pointer (some ⟨b0, 0, none⟩), .pointer (some ⟨b1, 0, none⟩)] w (fun e w' => e = .returned (.int .i64 (nxtI l out : Nat)) ∧ Grow w w') := by
  have hlen := hl.len
  have hol := ho.len
  refine enter_pure (args := [.pointer (some ⟨b0, 0, none⟩), .pointer (some ⟨b1, 0, none⟩)]) [ownB b0 (cellsB 26 [.slice Al l.length cl]), ownB b1 (cellsB 26 [.slice Ao out.length co]), sl (fun b => b < w.heap.size) 1 enInt Al l, sl (fun b => b < w.heap.size) 1 enInt Ao out] Tryz.func76 rfl (by rw [Tryz.ntmps76]; simp) (fun g hg => by
    simp only [List.mem_cons, List.mem_nil_iff, or_false] at hg
    rcases hg with rfl | rfl | rfl | rfl
    · exact ⟨h0, fun i hi => by have hi : i = b0 := hi; subst hi; exact (Array.getElem?_eq_some_iff.1 h0).1⟩
    · exact ⟨h1, fun i hi => by have hi : i = b1 := hi; subst hi; exact (Array.getElem?_eq_some_iff.1 h1).1⟩
    · exact ⟨hl, fun _ h => h⟩
    · exact ⟨ho, fun _ h => h⟩) ?_
  refine cj_seq ?_
  refine cj_regionG (gj_step (y_assign rfl) rfl rfl rfl (gj_nil ?_))
  refine ej_th (cj_seq ?_)
  refine cj_regionG (gj_step (y_assign rfl) rfl rfl rfl (gj_nil ?_))
  refine ej_th (cj_seq (cj_seq ?_))
  refine cj_regionG (gj_step (y_loadS1 Tryz.isAgg26 rfl rfl) rfl rfl rfl (gj_step (y_lenA Tryz.underlying26 rfl) rfl rfl rfl (gj_step (y_move rfl) rfl rfl rfl (gj_nil ?_))))
  refine ej_th (cj_block ?_)
  refine cj_lpic (X := Nat × Nat) [(0, _), (1, _), (2, _), (6, _), (7, _)] (fun ⟨k, b⟩ => k ≤ l.length ∧ (b < k ∨ (k = 0 ∧ b = 0)) ∧ bstF l out (l.length - k) k b = nxtI l out) (fun ⟨k, b⟩ => [(3, .int .i64 (b : Nat)), (8, .int .i64 (k : Nat))]) (fun ⟨k, b⟩ => l.length - k) (0, 0) (⟨Nat.zero_le _, .inr ⟨rfl, rfl⟩, by rw [Nat.sub_zero]; rfl⟩) ⟨rfl, rfl, rfl, rfl, rfl, rfl, rfl, trivial⟩ ?_
  rintro ⟨k, b⟩ ⟨hk, hbk, hsk⟩
  dsimp only [List.cons_append, List.nil_append]
  refine cj_seq ?_
  refine cj_regionG (gj_step (y_lss rfl rfl) rfl rfl rfl (gj_nil ?_))
  refine ej_th (cj_seq ?_)
  refine cj_cond rfl (fun h9 => ?_) (fun h9 => ?_)
  · have h9b := h9
    try simp only [sxb] at h9
    obtain ⟨x, hx⟩ : ∃ x, l[k]? = some x := ⟨_, List.getElem?_eq_getElem (by omega)⟩
    obtain ⟨y, hok⟩ : ∃ y, out[k]? = some y := ⟨_, List.getElem?_eq_getElem (by omega)⟩
    obtain ⟨u, hlb1⟩ : ∃ u, l[b]? = some u := ⟨_, List.getElem?_eq_getElem (by omega)⟩
    obtain ⟨v, hob1⟩ : ∃ v, out[b]? = some v := ⟨_, List.getElem?_eq_getElem (by omega)⟩
    have q1 := hlb x (List.mem_of_getElem? hx)
    have q2 := hob y (List.mem_of_getElem? hok)
    have q3 := hlb u (List.mem_of_getElem? hlb1)
    have q4 := hob v (List.mem_of_getElem? hob1)
    have m1 := mul_bd q1 (show 0 ≤ v + 1 ∧ v + 1 ≤ 34359738369 by omega)
    have m2 := mul_bd q3 (show 0 ≤ y + 1 ∧ y + 1 ≤ 34359738369 by omega)
    rw [show l.length - k = (l.length - (k + 1)) + 1 by omega, bstF, gd_of 0 hx, gd_of 0 hok, gd_of 0 hlb1, gd_of 0 hob1] at hsk
    refine cj_skip (ej_th (cj_seq (cj_block (cj_seq ?_))))
    refine cj_regionG (gj_step (y_move rfl) rfl rfl rfl (gj_step (y_ixR (reads_sl) Tryz.underlying26 Tryz.sizeOf3 rfl rfl (⟨by omega, by omega⟩)) rfl rfl rfl (gj_step (y_ld0 (reads_sl) Tryz.isAgg3 rfl (hx) rfl) rfl rfl rfl (gj_step (y_assign rfl) rfl rfl rfl (gj_step (y_assign rfl) rfl rfl rfl (gj_nil ?_))))))
    refine ej_th (cj_seq ?_)
    refine cj_draw (by kernel_rfl) (by kernel_rfl) (gj_step (y_move rfl) rfl rfl rfl (gj_step (y_loadS1 Tryz.isAgg26 rfl rfl) rfl rfl rfl (gj_step (y_move rfl) rfl rfl rfl (gj_step (y_ixR (reads_sl) Tryz.underlying26 Tryz.sizeOf3 rfl rfl (⟨by omega, by omega⟩)) rfl rfl rfl (gj_step (y_ld0 (reads_sl) Tryz.isAgg3 rfl (hob1) rfl) rfl rfl rfl (gj_step (y_add rfl rfl (by omega)) rfl rfl rfl (gj_step (y_mul rfl rfl (by omega)) rfl rfl rfl (gj_step (y_loadS1 Tryz.isAgg26 rfl rfl) rfl rfl rfl (gj_step (y_move rfl) rfl rfl rfl (gj_step (y_ixR (reads_sl) Tryz.underlying26 Tryz.sizeOf3 rfl rfl (⟨by omega, by omega⟩)) rfl rfl rfl (gj_step (y_ld0 (reads_sl) Tryz.isAgg3 rfl (hlb1) rfl) rfl rfl rfl (gj_step (y_loadS1 Tryz.isAgg26 rfl rfl) rfl rfl rfl (gj_step (y_move rfl) rfl rfl rfl (gj_step (y_ixR (reads_sl) Tryz.underlying26 Tryz.sizeOf3 rfl rfl (⟨by omega, by omega⟩)) rfl rfl rfl (gj_step (y_ld0 (reads_sl) Tryz.isAgg3 rfl (hok) rfl) rfl rfl rfl (gj_step (y_add rfl rfl (by omega)) rfl rfl rfl (gj_step (y_mul rfl rfl (by omega)) rfl rfl rfl (gj_step (y_gtr rfl rfl) rfl rfl rfl (gj_nil ?_)))))))))))))))))))
    refine ej_th ?_
    refine cj_cond rfl (fun h30 => ?_) (fun h30 => ?_)
    · have h30b := h30
      try simp only [sxb] at h30
      rw [if_pos (by omega)] at hsk
      refine cj_regionG (gj_step (y_move rfl) rfl rfl rfl (gj_step (y_assign rfl) rfl rfl rfl (gj_nil ?_)))
      refine ej_blk (ej_th ?_)
      refine cj_regionG (gj_step (y_add rfl rfl (by omega)) rfl rfl rfl (gj_step (y_move rfl) rfl rfl rfl (gj_nil ?_)))
      exact ej_nx (k + 1, k) (by first | omega | (simp only; omega)) ⟨by first | omega | (simp only; omega), .inl (by show k < k + 1; omega), hsk⟩ ⟨rfl, rfl, rfl, rfl, rfl, rfl, rfl, trivial⟩
    · have h30b := h30
      try simp only [sxb] at h30
      rw [if_neg (by omega)] at hsk
      refine cj_skip (ej_blk (ej_th ?_))
      refine cj_regionG (gj_step (y_add rfl rfl (by omega)) rfl rfl rfl (gj_step (y_move rfl) rfl rfl rfl (gj_nil ?_)))
      exact ej_nx (k + 1, b) (by first | omega | (simp only; omega)) ⟨by first | omega | (simp only; omega), .inl (by show b < k + 1; omega), hsk⟩ ⟨rfl, rfl, rfl, rfl, rfl, rfl, rfl, trivial⟩
  · have h9b := h9
    try simp only [sxb] at h9
    refine cj_exit (ej_then_exit (ej_then_exit (ej_blk_hit (ej_th (cj_seq ?_)))))
    refine cj_regionG (gj_step (y_move rfl) rfl rfl rfl (gj_step (y_assign rfl) rfl rfl rfl (gj_nil ?_)))
    refine ej_th (cj_ret ?_)
    refine ej_ret1 rfl Tryz.results76 rfl (fun w' hp => ⟨?_, hp.below⟩)
    rw [← hsk, show l.length - k = 0 by omega, bstF]

end Go.Proofs.YtppfniekcgnmjaaGreatDoor.Pu
namespace Go.Proofs.YtppfniekcgnmjaaGreatDoor.Pu
open Go.Sx Go.RowKit
set_option maxRecDepth 20000

end Go.Proofs.YtppfniekcgnmjaaGreatDoor.Pu
namespace Go.Proofs.YtppfniekcgnmjaaGreatDoor.Pu
open Go.Sx Go.RowKit Um
set_option maxRecDepth 20000
theorem k_share (l : List Int) (A : Option Addr) (c : Nat) (all : Int) (w : World) (hl : Rd w 1 enInt A l) (h24 : l.length ≤ 24) (hlb : ∀ x ∈ l, 0 ≤ x ∧ x ≤ 67108864) (hw : 0 < sumI l) (hall : 0 ≤ all ∧ all ≤ 34359738368) : Calls Tryz.prog 42 #[.slice A l.length c, .int .i64 all] w (fun e w' => ∃ A c, e = .returned (.slice A (shareL l all).length c) ∧ Grow w w' ∧ Res w w' 1 enInt A (shareL l all)) := by
  have hlen := hl.len
  have hne : 0 < l.length := by cases l with | nil => simp [sumI] at hw | cons _ _ => simp
  have hl0 : ∀ x ∈ l, 0 ≤ x := fun x hx => (hlb x hx).1
  have hsm : sumI l ≤ 1610612736 := by have := sumI_le_mul (m := 67108864) (fun x hx => (hlb x hx).2); omega
  refine enter_pure (args := [.slice A l.length c, .int .i64 all]) [sl (fun b => b < w.heap.size) 1 enInt A l] Tryz.func42 rfl (by rw [Tryz.ntmps42]; simp) (fun g hg => by simp at hg; subst hg; exact ⟨hl, fun _ h => h⟩) ?_
  refine cj_seq (cj_region ?_)
  refine oj_box rfl rfl rfl (fun b2 => ?_)
  refine oj_step (y_assign rfl) rfl rfl rfl ?_
  refine oj_nil ?_
  refine ej_th (cj_seq (cj_region ?_))
  refine oj_step (y_load1 Tryz.isAgg26 rfl rfl) rfl rfl rfl ?_
  refine oj_step (y_lenA Tryz.underlying26 rfl) rfl rfl rfl ?_
  refine oj_makeSlice1 (n := l.length) Tryz.underlying26 Tryz.type3 rfl rfl rfl rfl rfl (by show 8 * _ ≤ _; omega) (by omega) rfl (fun b13 => ?_)
  refine oj_litOw (b := b13) (e := 3) (c := l.length) (sz := 1) (enc := enInt) (List.replicate (l.length) (0 : Int)) (by simp) (replicate_enInt _) (by simp) (by unfold maxLen; omega) ?_
  refine oj_alloc Tryz.zeroValue26 rfl rfl (fun b5 => ?_)
  refine oj_store rfl rfl rfl rfl Tryz.sizeOf26 rfl ?_
  refine oj_nil ?_
  refine ej_th (cj_seq ?_)
  refine cj_regionG ?_
  refine gj_step (y_load1 Tryz.isAgg26 rfl rfl) rfl rfl rfl (?_)
  refine gj_step (y_call Tryz.call73 rfl (fun w hp => k_sum l A c w hp.rd hl0 (by omega))) rfl rfl rfl ?_
  refine gj_step (y_assign rfl) rfl rfl rfl (?_)
  refine gj_nil ?_
  refine ej_th (cj_seq (cj_seq ?_))
  refine cj_regionG (gj_step (y_load1 Tryz.isAgg26 rfl rfl) rfl rfl rfl (gj_step (y_lenA Tryz.underlying26 rfl) rfl rfl rfl (gj_step (y_move rfl) rfl rfl rfl (gj_nil ?_))))
  refine ej_th (cj_block ?_)
  rw [← fill_0 (fun w => all * w / sumI l) l]
  refine cj_lpi (X := Nat) [(1, _), (2, _), (4, _), (5, _), (6, _), (16, _), (17, _)] (fun k => k ≤ l.length) (fun k => [(18, .int .i64 (k : Nat))]) (fun k => [ownB b5 (cellsB 26 [.slice (some ⟨b13, 0, none⟩) l.length l.length]), ow 3 1 enInt (some ⟨b13, 0, none⟩) l.length (fillF (fun w => all * w / sumI l) l k), ownB b2 (cellsB 26 [.slice A l.length c])]) (fun k => [sl (fun b => b < w.heap.size) 1 enInt A l]) (fun k => l.length - k) 0 (Nat.zero_le _) ⟨rfl, rfl, rfl, rfl, rfl, rfl, rfl, rfl, trivial⟩ ?_
  rintro k hk
  dsimp only [List.cons_append, List.nil_append]
  refine cj_seq ?_
  refine cj_regionG (gj_step (y_lss rfl rfl) rfl rfl rfl (gj_nil ?_))
  refine ej_th (cj_seq ?_)
  refine cj_cond rfl (fun h19 => ?_) (fun h19 => ?_)
  · have h19b := h19
    try simp only [sxb] at h19
    obtain ⟨x, hx⟩ : ∃ x, l[k]? = some x := ⟨_, List.getElem?_eq_getElem (by omega)⟩
    have q1 := hlb x (List.mem_of_getElem? hx)
    have m1 := mul_bd hall q1
    refine cj_skip (ej_th (cj_seq (cj_block (cj_seq ?_))))
    refine cj_regionG (gj_step (y_move rfl) rfl rfl rfl (gj_step (y_ixR (reads_sl) Tryz.underlying26 Tryz.sizeOf3 rfl rfl (⟨by omega, by omega⟩)) rfl rfl rfl (gj_step (y_ld0 (reads_sl) Tryz.isAgg3 rfl (hx) rfl) rfl rfl rfl (gj_step (y_assign rfl) rfl rfl rfl (gj_step (y_assign rfl) rfl rfl rfl (gj_nil ?_))))))
    refine ej_th ?_
    refine cj_plan 9 (by kernel_rfl) (by kernel_rfl) ?_
    refine pl_y 0 rfl (y_load1 Tryz.isAgg26 rfl rfl) rfl rfl rfl rfl (by kernel_rfl) ?_
    refine pl_y 1 rfl (y_move rfl) rfl rfl rfl rfl (by kernel_rfl) ?_
    refine pl_y 2 rfl (y_move rfl) rfl rfl rfl rfl (by kernel_rfl) ?_
    refine pl_y 3 rfl (y_move rfl) rfl rfl rfl rfl (by kernel_rfl) ?_
    refine pl_y 4 rfl (y_mul rfl rfl (by omega)) rfl rfl rfl rfl (by kernel_rfl) ?_
    refine pl_y 5 rfl (y_move rfl) rfl rfl rfl rfl (by kernel_rfl) ?_
    refine pl_y 6 rfl (y_quo rfl rfl (⟨by omega, by omega, by omega⟩)) rfl rfl rfl rfl (by kernel_rfl) ?_
    refine pl_y 7 rfl (y_ixRm (m := l.length) (xs := fillF (fun w => all * w / sumI l) l k) (fill_len _ _ _ (by omega)).symm (reads_ow enInt_len) Tryz.underlying26 Tryz.sizeOf3 rfl rfl ⟨by omega, by omega⟩) rfl rfl rfl rfl (by kernel_rfl) ?_
    refine pl_w1 8 (by kernel_rfl) rfl rfl (pl_fire rfl rfl rfl (by kernel_rfl) ?_)
    refine oj_storeE (i := k) (u := all * x / sumI l) rfl rfl rfl rfl Tryz.sizeOf3 (fun _ => rfl) (by rw [fill_len _ _ _ (by omega)]; omega) ?_
    refine oj_nil ?_
    refine ej_pl (lt_w (by kernel_rfl) (lt_w (by kernel_rfl) (lt_w (by kernel_rfl) (lt_w (by kernel_rfl) (lt_w (by kernel_rfl) (lt_w (by kernel_rfl) (lt_w (by kernel_rfl) (lt_w (by kernel_rfl) (lt_nil))))))))) ?_
    refine pl_end (by kernel_rfl) ?_
    refine ej_blk (ej_th ?_)
    refine cj_regionG (gj_step (y_add rfl rfl (by omega)) rfl rfl rfl (gj_step (y_move rfl) rfl rfl rfl (gj_nil ?_)))
    rw [fill_set (fun w => all * w / sumI l) hx]
    exact ej_nx (k + 1) (by omega) (by omega) ⟨rfl, rfl, rfl, rfl, rfl, rfl, rfl, rfl, trivial⟩
  · have h19b := h19
    try simp only [sxb] at h19
    refine cj_exit (ej_then_exit (ej_then_exit (ej_blk_hit (ej_th (cj_seq ?_)))))
    have hkl : k = l.length := by omega
    subst hkl
    rw [show fillF (fun w => all * w / sumI l) l l.length = flo l all (sumI l) from fill_all _ _]
    have hfs := flo_le (l := l) (all := all) hw
    have hfn : ∀ x ∈ flo l all (sumI l), 0 ≤ x := fun x hx => by
      obtain ⟨u, hu, rfl⟩ := List.mem_map.1 hx
      exact Int.ediv_nonneg (Int.mul_nonneg hall.1 (hl0 u hu)) (by omega)
    have hf0 := sumI_nonneg hfn
    have hfl := flo_len l all (sumI l)
    refine cj_regionG (gj_step (y_makeFunc rfl rfl) rfl rfl rfl (gj_step (y_assign rfl) rfl rfl rfl (gj_nil ?_)))
    refine ej_th (cj_seq (cj_seq ?_))
    refine cj_regionG ?_
    refine gj_step (y_move rfl) rfl rfl rfl (gj_step (y_load1 Tryz.isAgg26 rfl rfl) rfl rfl rfl (?_))
    refine gj_step (y_call Tryz.call73 rfl (fun w hp => by
      have h := k_sum (flo l all (sumI l)) (some ⟨b13, 0, none⟩) l.length w (hp.rdO enInt_len (by unfold maxLen; omega)) hfn (by omega)
      rw [hfl] at h
      exact h)) rfl rfl rfl ?_
    refine gj_step (y_sub rfl rfl (by omega)) rfl rfl rfl (gj_step (y_assign rfl) rfl rfl rfl (?_))
    refine gj_nil ?_
    refine ej_th (cj_block ?_)
    rw [show all - sumI (flo l all (sumI l)) = ((all - sumI (flo l all (sumI l))).toNat : Int) from (Int.toNat_of_nonneg (by omega)).symm]
    refine cj_lpi (X := Nat × List Int) [(4, _), (5, _), (9, _)] (fun ⟨m, out⟩ => out.length = l.length ∧ (∀ x ∈ out, 0 ≤ x) ∧ sumI out + m = all ∧ shareF l m out = shareL l all) (fun ⟨m, out⟩ => [(10, .int .i64 (m : Nat))]) (fun ⟨m, out⟩ => [ownB b5 (cellsB 26 [.slice (some ⟨b13, 0, none⟩) l.length l.length]), ow 3 1 enInt (some ⟨b13, 0, none⟩) l.length (out), ownB b2 (cellsB 26 [.slice A l.length c])]) (fun ⟨m, out⟩ => [sl (fun b => b < w.heap.size) 1 enInt A l]) (fun ⟨m, out⟩ => m) ((all - sumI (flo l all (sumI l))).toNat, flo l all (sumI l)) (⟨flo_len _ _ _, hfn, by have := Int.toNat_of_nonneg (show 0 ≤ all - sumI (flo l all (sumI l)) by omega); omega, rfl⟩) ⟨rfl, rfl, rfl, rfl, trivial⟩ ?_
    rintro ⟨m, out⟩ ⟨hol, hon, hos, hof⟩
    dsimp only [List.cons_append, List.nil_append]
    refine cj_seq (cj_seq ?_)
    refine cj_regionG (gj_step (y_move rfl) rfl rfl rfl (gj_step (y_gtr rfl rfl) rfl rfl rfl (gj_nil ?_)))
    refine ej_th ?_
    refine cj_cond rfl (fun h38 => ?_) (fun h38 => ?_)
    · have h38b := h38
      try simp only [sxb] at h38
      have hob : ∀ x ∈ out, 0 ≤ x ∧ x ≤ 34359738368 := fun x hx => ⟨hon x hx, by have := sumI_mem_le hon x hx; omega⟩
      have hnx : nxtI l out < out.length := by rw [hol]; exact nxt_lt (getD_nn hl0) (getD_nn hon) hne
      have hg0 := getD_nn hon (nxtI l out)
      have hg1 := sumI_mem_le hon _ (List.mem_of_getElem? (geq 0 hnx))
      refine cj_skip (ej_th (cj_seq (cj_block ?_)))
      refine cj_plan 8 (by kernel_rfl) (by kernel_rfl) ?_
      refine pl_y 0 rfl (y_load1 Tryz.isAgg26 rfl rfl) rfl rfl rfl rfl (by kernel_rfl) ?_
      refine pl_y 1 rfl (y_move rfl) rfl rfl rfl rfl (by kernel_rfl) ?_
      refine pl_y 2 rfl (y_callV Tryz.call76 rfl rfl (fun w hp => by
        have h1 : (ownB b5 (cellsB 26 [.slice (some ⟨b13, 0, none⟩) out.length l.length])).P w := by rw [hol]; exact hp.own1
        exact k_next l out A (some ⟨b13, 0, none⟩) c l.length b2 b5 w hp.own1 h1 hp.rd (hp.rdO enInt_len (by unfold maxLen; omega)) hol hlb hob hne)) rfl rfl rfl rfl (by kernel_rfl) ?_
      refine pl_y 3 rfl (y_ixRm (m := l.length) (xs := out) hol.symm (reads_ow enInt_len) Tryz.underlying26 Tryz.sizeOf3 rfl rfl ⟨by omega, by omega⟩) rfl rfl rfl rfl (by kernel_rfl) ?_
      refine pl_y 4 rfl (y_ld0 (reads_ow (xs := out) enInt_len) Tryz.isAgg3 rfl (show out[nxtI l out]? = some (out.getD (nxtI l out) 0) from geq 0 hnx) rfl) rfl rfl rfl rfl (by kernel_rfl) ?_
      refine pl_y 5 rfl (y_add rfl rfl (by omega)) rfl rfl rfl rfl (by kernel_rfl) ?_
      refine pl_y 6 rfl (y_ixRm (m := l.length) (xs := out) hol.symm (reads_ow enInt_len) Tryz.underlying26 Tryz.sizeOf3 rfl rfl ⟨by omega, by omega⟩) rfl rfl rfl rfl (by kernel_rfl) ?_
      refine pl_w1 7 (by kernel_rfl) rfl rfl (pl_fire rfl rfl rfl (by kernel_rfl) ?_)
      refine oj_storeE (i := nxtI l out) (u := out.getD (nxtI l out) 0 + 1) rfl rfl rfl rfl Tryz.sizeOf3 (fun _ => rfl) (by first | omega | (simp only [List.length_set]; omega) | (simp; omega)) ?_
      refine oj_nil ?_
      refine ej_pl (lt_w (by kernel_rfl) (lt_w (by kernel_rfl) (lt_w (by kernel_rfl) (lt_w (by kernel_rfl) (lt_w (by kernel_rfl) (lt_w (by kernel_rfl) (lt_w (by kernel_rfl) (lt_nil)))))))) ?_
      refine pl_end (by kernel_rfl) ?_
      refine ej_blk (ej_th ?_)
      refine cj_regionG (gj_step (y_move rfl) rfl rfl rfl (gj_step (y_sub rfl rfl (by omega)) rfl rfl rfl (gj_step (y_assign rfl) rfl rfl rfl (gj_nil ?_))))
      rw [show (m : Int) - 1 = ((m - 1 : Nat) : Int) by omega, show out.set (nxtI l out) (out.getD (nxtI l out) 0 + 1) = bump out (nxtI l out) from rfl]
      exact ej_nx (m - 1, bump out (nxtI l out)) (by first | omega | (simp only; omega)) ⟨by rw [bump_len]; exact hol, bump_nn hon, by rw [bump, sumI_set _ _ _ hnx]; simp only; omega, by rw [← hof, show m = (m - 1) + 1 by omega, shareF]; rfl⟩ ⟨rfl, rfl, rfl, rfl, trivial⟩
    · have h38b := h38
      try simp only [sxb] at h38
      refine cj_exit (ej_then_exit (ej_then_exit (ej_blk_hit (ej_th (cj_seq ?_)))))
      refine cj_regionG (gj_step (y_load1 Tryz.isAgg26 rfl rfl) rfl rfl rfl (gj_step (y_assign rfl) rfl rfl rfl (gj_nil ?_)))
      refine ej_th (cj_ret ?_)
      have hm0 : m = 0 := by omega
      subst hm0
      rw [shareF] at hof
      subst hof
      rw [← hol]
      exact ej_ret1 rfl Tryz.results42 rfl (fun w' hp => ⟨_, _, rfl, hp.below, hp.res enInt_len (by unfold maxLen; omega)⟩)

theorem k_Share (l : List Int) (A : Option Addr) (c : Nat) (all : Int) (w : World) (hl : Rd w 1 enInt A l) : Calls Tryz.prog 19 #[.slice A l.length c, .int .i64 all] w (fun e w' => ∃ A c, e = .returned (.tuple #[.slice A (ShrL l all).length c, .int .i64 (ShrE l all)]) ∧ Grow w w' ∧ Res w w' 1 enInt A (ShrL l all)) := by
  have hlen := hl.len
  refine enter_pure (args := [.slice A l.length c, .int .i64 all]) [sl (fun b => b < w.heap.size) 1 enInt A l] Tryz.func19 rfl (by rw [Tryz.ntmps19]; simp) (fun g hg => by simp at hg; subst hg; exact ⟨hl, fun _ h => h⟩) ?_
  refine cj_seq ?_
  refine cj_regionG (gj_step (y_assign rfl) rfl rfl rfl (gj_step (y_assign rfl) rfl rfl rfl (gj_nil ?_)))
  refine ej_th (cj_seq (cj_seq ?_))
  refine cj_regionG ?_
  refine gj_step (y_move rfl) rfl rfl rfl (?_)
  refine gj_step (y_call Tryz.call39 rfl (fun w hp => k_weights l A c w hp.rd)) rfl rfl rfl ?_
  refine gj_step (y_not rfl) rfl rfl rfl (?_)
  refine gj_nil ?_
  refine ej_th ?_
  refine cj_cond rfl (fun h8 => ?_) (fun h8 => ?_)
  · have h8b := h8
    try simp only [sxb] at h8
    refine cj_seq ?_
    refine cj_regionG (gj_step (y_assign rfl) rfl rfl rfl (gj_step (y_assign rfl) rfl rfl rfl (gj_nil ?_)))
    refine ej_th (cj_ret (ej_then_ret ?_))
    rw [show ShrL l all = [] by rw [ShrL, not_t h8b]; rfl, show ShrE l all = 70 by rw [ShrE, not_t h8b]; rfl]
    exact ej_ret2 rfl Tryz.results19 rfl rfl (fun w' hp => ⟨none, 0, rfl, hp.below, Res.nil⟩)
  · have h8b := h8
    try simp only [sxb] at h8
    have hwt := wei_t (not_f h8b)
    refine cj_skip (ej_th (cj_seq (cj_seq ?_)))
    refine cj_regionG ?_
    refine gj_step (y_move rfl) rfl rfl rfl (?_)
    refine gj_step (y_call Tryz.call35 rfl (fun w hp => k_within _ _ _ w)) rfl rfl rfl ?_
    refine gj_step (y_not rfl) rfl rfl rfl (?_)
    refine gj_nil ?_
    refine ej_th ?_
    refine cj_cond rfl (fun h11 => ?_) (fun h11 => ?_)
    · have h11b := h11
      try simp only [sxb] at h11
      refine cj_seq ?_
      refine cj_regionG (gj_step (y_assign rfl) rfl rfl rfl (gj_step (y_assign rfl) rfl rfl rfl (gj_nil ?_)))
      refine ej_th (cj_ret (ej_then_ret ?_))
      rw [show ShrL l all = [] by rw [ShrL, not_f h8b, not_t h11b]; rfl, show ShrE l all = 7 by rw [ShrE, not_f h8b, not_t h11b]; rfl]
      exact ej_ret2 rfl Tryz.results19 rfl rfl (fun w' hp => ⟨none, 0, rfl, hp.below, Res.nil⟩)
    · have h11b := h11
      try simp only [sxb] at h11
      have hab := btw_t (not_f h11b)
      refine cj_skip (ej_th (cj_seq (cj_region ?_)))
      refine oj_step (y_move rfl) rfl rfl rfl ?_
      refine oj_step (y_move rfl) rfl rfl rfl ?_
      refine oj_callS (fun A c => .slice A (shareL l all).length c) 1 enInt (shareL l all) Tryz.call42 rfl (fun w hp => k_share l A c all w hp.rd hwt.2.1 hwt.2.2.1 hwt.2.2.2.1 hab) rfl (fun A14 c14 fp14 hfp14 => ?_)
      refine oj_step (y_assign rfl) rfl rfl rfl ?_
      refine oj_step (y_assign rfl) rfl rfl rfl ?_
      refine oj_nil ?_
      refine ej_th (cj_ret ?_)
      rw [show ShrL l all = shareL l all by rw [ShrL, not_f h8b, not_f h11b]; rfl, show ShrE l all = 0 by rw [ShrE, not_f h8b, not_f h11b]; rfl]
      exact ej_ret2 rfl Tryz.results19 rfl rfl (fun w' hp => ⟨A14, c14, rfl, hp.below, hp.resS hfp14⟩)

end Go.Proofs.YtppfniekcgnmjaaGreatDoor.Pu
namespace Go.Proofs.YtppfniekcgnmjaaGreatDoor.To
open Go.Sx Go.RowKit
set_option maxRecDepth 20000
theorem eq63 (a0 b0 : Int) (a1 b1 : Int) (x y : Operand) (w : World) : (do eqGuard .eql 63 x y (.agg #[.int .i64 a0, .int .i64 a1]) (.agg #[.int .i64 b0, .int .i64 b1]); binOp .eql 63 (.agg #[.int .i64 a0, .int .i64 a1]) (.agg #[.int .i64 b0, .int .i64 b1]) : Sem Value).run Tryz.prog w = .ok (.bool ((a0 == b0) && (a1 == b1))) w := by
  simp [go_sem, Tryz.eqGuardType63, Tryz.stoodInHeld63, Tryz.underlying63, Tryz.underlying3]
  try ((repeat' split) <;> simp_all)
theorem st109 : StructIs Tryz.prog 109 [(0, 1), (1, 1)] [.int .i64 0, .int .i64 0] := ⟨⟨_, Tryz.underlying109, fun w => by simp [Tryz.sizeOf3], Tryz.zeroValue109⟩⟩
theorem st111 : StructIs Tryz.prog 111 [(0, 1), (1, 1), (2, 1)] [.int .i64 0, .int .i64 0, .int .i64 0] := ⟨⟨_, Tryz.underlying111, fun w => by simp [Tryz.sizeOf3], Tryz.zeroValue111⟩⟩
theorem st144 : StructIs Tryz.prog 144 [(0, 1), (1, 1), (2, 1)] [.string ⟨#[]⟩, .slice none 0 0, .bool false] := ⟨⟨_, Tryz.underlying144, fun w => by simp [Tryz.sizeOf142, Tryz.sizeOf4, Tryz.sizeOf9], Tryz.zeroValue144⟩⟩
theorem st147 : StructIs Tryz.prog 147 [(0, 1), (1, 1), (2, 1), (3, 1)] [.string ⟨#[]⟩, .slice none 0 0, .slice none 0 0, .int .i64 0] := ⟨⟨_, Tryz.underlying147, fun w => by simp [Tryz.sizeOf142, Tryz.sizeOf145, Tryz.sizeOf3, Tryz.sizeOf9], Tryz.zeroValue147⟩⟩
theorem st153 : StructIs Tryz.prog 153 [(0, 1), (1, 1), (2, 1)] [.string ⟨#[]⟩, .slice none 0 0, .slice none 0 0] := ⟨⟨_, Tryz.underlying153, fun w => by simp [Tryz.sizeOf142, Tryz.sizeOf151, Tryz.sizeOf9], Tryz.zeroValue153⟩⟩
theorem st159 : StructIs Tryz.prog 159 [(0, 1), (1, 1), (2, 1)] [.int .i64 0, .int .i64 0, .int .i64 0] := ⟨⟨_, Tryz.underlying159, fun w => by simp [Tryz.sizeOf3], Tryz.zeroValue159⟩⟩
theorem st161 : StructIs Tryz.prog 161 [(0, 1), (1, 1)] [.int .i64 0, .int .i64 0] := ⟨⟨_, Tryz.underlying161, fun w => by simp [Tryz.sizeOf3], Tryz.zeroValue161⟩⟩
theorem st63 : StructIs Tryz.prog 63 [(0, 1), (1, 1)] [.int .i64 0, .int .i64 0] := ⟨⟨_, Tryz.underlying63, fun w => by simp [Tryz.sizeOf3], Tryz.zeroValue63⟩⟩
theorem st67 : StructIs Tryz.prog 67 [(0, 1), (1, 1), (2, 1)] [.int .i64 0, .int .i64 0, .slice none 0 0] := ⟨⟨_, Tryz.underlying67, fun w => by simp [Tryz.sizeOf3, Tryz.sizeOf54], Tryz.zeroValue67⟩⟩
end Go.Proofs.YtppfniekcgnmjaaGreatDoor.To
namespace Go.Proofs.YtppfniekcgnmjaaGreatDoor.To
open Go.Sx Go.RowKit Um
set_option maxRecDepth 20000
abbrev at0 (b : Nat) : Option Addr := some ⟨b, 0, none⟩
theorem c_prn (p q r : Nat) : Pl.PrnT [Pl.ClassV.mk ⟨#[99, 111, 97, 116]⟩ (at0 p) 1 [Pl.TraitV.mk ⟨#[102, 117, 114]⟩ (at0 q) 1 [⟨#[102, 111, 120]⟩] false] none 0 [] 0] (Pl.ItemV.mk ⟨#[99, 111, 97, 116]⟩ (at0 r) 1 [⟨#[102, 111, 120]⟩] none 0 []) = ⟨#[99, 111, 97, 116, 32, 102, 117, 114, 61, 102, 111, 120]⟩ := by kernel_rfl
theorem c_prnE (p q r : Nat) : Pl.askIE [Pl.ClassV.mk ⟨#[99, 111, 97, 116]⟩ (at0 p) 1 [Pl.TraitV.mk ⟨#[102, 117, 114]⟩ (at0 q) 1 [⟨#[102, 111, 120]⟩] false] none 0 [] 0] [(Pl.ItemV.mk ⟨#[99, 111, 97, 116]⟩ (at0 r) 1 [⟨#[102, 111, 120]⟩] none 0 [])] = 0 := by kernel_rfl
theorem c_cod : Tk.CodS 2 = ⟨#[48, 48, 48, 48, 48, 48, 48, 50, 57, 50]⟩ := by kernel_rfl
theorem c_most : Le.MostN 32 0 9 8 9 = 4 := by decide
theorem c_mostE : Le.MostE 32 0 9 8 9 = 0 := by decide

theorem c_sell : Au.SellV 5 0 [⟨0, 5⟩] [⟨3, 0, 20⟩] = ⟨3, 5⟩ := by kernel_rfl
theorem c_sellE : Au.SellE 5 0 [⟨0, 5⟩] [⟨3, 0, 20⟩] = 0 := by kernel_rfl
theorem c_shr : Pu.ShrL [1, 3] 4 = [1, 3] := by kernel_rfl
theorem c_shrE : Pu.ShrE [1, 3] 4 = 0 := by kernel_rfl

theorem k_first05  (w : World)  : Calls Tryz.prog 28 #[] w (fun e w' => e = .returned (.bool true) ∧ Grow w w') := by
  refine enter_pure (args := []) [] Tryz.func28 rfl (by rw [Tryz.ntmps28]; simp) (by simp) ?_
  refine cj_seq ?_
  refine cj_regionG (gj_step (y_assign rfl) rfl rfl rfl (gj_nil ?_))
  refine ej_th (cj_seq (cj_region ?_))
  refine oj_buildSlice (cs := [.string ⟨#[102, 111, 120]⟩]) [.string ⟨#[]⟩] Tryz.underlying142 Tryz.sizeOf9 Tryz.zeroValue9 rfl rfl (by kernel_rfl) (by kernel_rfl) rfl (fun b10 => ?_)
  refine oj_step (y_build (cs := [.string ⟨#[102, 117, 114]⟩, .slice (some ⟨b10, 0, none⟩) 1 1, .bool false]) st144 rfl (by kernel_rfl)) rfl rfl rfl ?_
  refine oj_buildSlice (cs := [.string ⟨#[102, 117, 114]⟩, .slice (some ⟨b10, 0, none⟩) 1 1, .bool false]) [.string ⟨#[]⟩, .slice none 0 0, .bool false] Tryz.underlying145 Tryz.sizeOf144 Tryz.zeroValue144 rfl rfl (by kernel_rfl) (by kernel_rfl) rfl (fun b12 => ?_)
  refine oj_step (y_build (cs := [.string ⟨#[99, 111, 97, 116]⟩, .slice (some ⟨b12, 0, none⟩) 1 1, .slice none 0 0, .int .i64 0]) st147 rfl (by kernel_rfl)) rfl rfl rfl ?_
  refine oj_buildSlice (cs := [.string ⟨#[99, 111, 97, 116]⟩, .slice (some ⟨b12, 0, none⟩) 1 1, .slice none 0 0, .int .i64 0]) [.string ⟨#[]⟩, .slice none 0 0, .slice none 0 0, .int .i64 0] Tryz.underlying148 Tryz.sizeOf147 Tryz.zeroValue147 rfl rfl (by kernel_rfl) (by kernel_rfl) rfl (fun b14 => ?_)
  refine oj_step (y_assign rfl) rfl rfl rfl ?_
  refine oj_nil ?_
  refine ej_th (cj_seq (cj_region ?_))
  refine oj_step (y_move rfl) rfl rfl rfl ?_
  refine oj_buildSlice (cs := [.string ⟨#[102, 111, 120]⟩]) [.string ⟨#[]⟩] Tryz.underlying142 Tryz.sizeOf9 Tryz.zeroValue9 rfl rfl (by kernel_rfl) (by kernel_rfl) rfl (fun b17 => ?_)
  refine oj_step (y_build (cs := [.string ⟨#[99, 111, 97, 116]⟩, .slice (some ⟨b17, 0, none⟩) 1 1, .slice none 0 0]) st153 rfl (by kernel_rfl)) rfl rfl rfl ?_
  refine oj_step (y_call Tryz.call58 rfl (fun w hp => by
    have h := Pl.k_Print [Pl.ClassV.mk ⟨#[99, 111, 97, 116]⟩ (at0 b12) 1 [Pl.TraitV.mk ⟨#[102, 117, 114]⟩ (at0 b10) 1 [⟨#[102, 111, 120]⟩] false] none 0 [] 0] (at0 b14) 1 (Pl.ItemV.mk ⟨#[99, 111, 97, 116]⟩ (at0 b17) 1 [⟨#[102, 111, 120]⟩] none 0 []) w (hp.rdLit (b := b14) (sz := 4) (enc := Pl.encCl) [Pl.ClassV.mk ⟨#[99, 111, 97, 116]⟩ (at0 b12) 1 [Pl.TraitV.mk ⟨#[102, 117, 114]⟩ (at0 b10) 1 [⟨#[102, 111, 120]⟩] false] none 0 [] 0] (fun _ => rfl) rfl (by unfold maxLen; simp)) (fun q hq => by
      rw [List.mem_singleton.1 hq]
      exact ⟨(hp.rdLit (b := b12) (sz := 3) (enc := Pl.encTr) [Pl.TraitV.mk ⟨#[102, 117, 114]⟩ (at0 b10) 1 [⟨#[102, 111, 120]⟩] false] (fun _ => rfl) rfl (by unfold maxLen; simp)), fun t ht => by
        rw [List.mem_singleton.1 ht]
        exact ⟨(hp.rdLit (b := b10) (sz := 1) (enc := enStr) [⟨#[102, 111, 120]⟩] (fun _ => rfl) rfl (by unfold maxLen; simp)), (fun s hs => by rw [List.mem_singleton.1 hs]; decide), show ByteArray.size ⟨#[102, 117, 114]⟩ ≤ 9223372036854775807 by decide⟩, Rd.nil, (fun s hs => by cases hs), show ByteArray.size ⟨#[99, 111, 97, 116]⟩ ≤ 9223372036854775807 by decide⟩) (.mk (hp.rdLit (b := b17) (sz := 1) (enc := enStr) [⟨#[102, 111, 120]⟩] (fun _ => rfl) rfl (by unfold maxLen; simp)) Rd.nil (show ByteArray.size ⟨#[99, 111, 97, 116]⟩ ≤ 9223372036854775807 by decide) (fun s hs => by rw [List.mem_singleton.1 hs]; decide) (fun p hp => by cases hp))
    rw [c_prn, c_prnE] at h
    exact h)) rfl rfl rfl ?_
  refine oj_step (y_move rfl) rfl rfl rfl ?_
  refine oj_step (y_extract rfl rfl) rfl rfl rfl ?_
  refine oj_step (y_extract rfl rfl) rfl rfl rfl ?_
  refine oj_step (y_assign rfl) rfl rfl rfl ?_
  refine oj_step (y_assign rfl) rfl rfl rfl ?_
  refine oj_nil ?_
  refine ej_th (cj_seq (cj_region ?_))
  refine oj_callS (fun A c => .tuple #[.slice A ([⟨#[102, 111, 120]⟩] : List ByteArray).length c, .int .i64 0]) 1 enStr ([⟨#[102, 111, 120]⟩] : List ByteArray) Tryz.call59 rfl (fun w hp => Wa.k_Means1 ⟨#[102, 111, 120]⟩ w) rfl (fun A23 c23 fp23 hfp23 => ?_)
  refine oj_step (y_move rfl) rfl rfl rfl ?_
  refine oj_step (y_extract rfl rfl) rfl rfl rfl ?_
  refine oj_step (y_extract rfl rfl) rfl rfl rfl ?_
  refine oj_step (y_assign rfl) rfl rfl rfl ?_
  refine oj_step (y_assign rfl) rfl rfl rfl ?_
  refine oj_nil ?_
  refine ej_th (cj_seq ?_)
  refine cj_regionG ?_
  refine gj_step (y_call Tryz.call60 rfl (fun w hp => by
    have h := Tk.k_Code 2 w
    rw [c_cod] at h
    exact h)) rfl rfl rfl ?_
  refine gj_step (y_move rfl) rfl rfl rfl (gj_step (y_extract rfl rfl) rfl rfl rfl (gj_step (y_extract rfl rfl) rfl rfl rfl (gj_step (y_assign rfl) rfl rfl rfl (gj_step (y_assign rfl) rfl rfl rfl (?_)))))
  refine gj_nil ?_
  refine ej_th (cj_seq ?_)
  refine cj_regionG ?_
  refine gj_step (y_build (cs := [.int .i64 32, .int .i64 0, .int .i64 9]) st159 rfl (by kernel_rfl)) rfl rfl rfl (gj_step (y_build (cs := [.int .i64 8, .int .i64 9]) st161 rfl (by kernel_rfl)) rfl rfl rfl (?_))
  refine gj_step (y_call Tryz.call61 rfl (fun w hp => by
    have h := Le.k_Most 32 0 9 8 9 w
    rw [c_most, c_mostE] at h
    exact h)) rfl rfl rfl ?_
  refine gj_step (y_move rfl) rfl rfl rfl (gj_step (y_extract rfl rfl) rfl rfl rfl (gj_step (y_extract rfl rfl) rfl rfl rfl (gj_step (y_assign rfl) rfl rfl rfl (gj_step (y_assign rfl) rfl rfl rfl (?_)))))
  refine gj_nil ?_
  refine ej_th (cj_seq (cj_region ?_))
  refine oj_step (y_move rfl) rfl rfl rfl ?_
  refine oj_step (y_eql rfl rfl) rfl rfl rfl ?_
  refine oj_step (y_move rfl) rfl rfl rfl ?_
  refine oj_yes rfl rfl rfl ?_
  refine oj_step (y_move rfl) rfl rfl rfl ?_
  refine oj_yes rfl rfl rfl ?_
  refine oj_step (y_eql rfl rfl) rfl rfl rfl ?_
  refine oj_step (y_pick rfl rfl rfl) rfl rfl rfl ?_
  refine oj_step (y_move rfl) rfl rfl rfl ?_
  refine oj_yes rfl rfl rfl ?_
  refine oj_step (y_move rfl) rfl rfl rfl ?_
  refine oj_yes rfl rfl rfl ?_
  refine oj_step (y_eql rfl rfl) rfl rfl rfl ?_
  refine oj_step (y_pick rfl rfl rfl) rfl rfl rfl ?_
  refine oj_step (y_move rfl) rfl rfl rfl ?_
  refine oj_yes rfl rfl rfl ?_
  refine oj_step (y_move rfl) rfl rfl rfl ?_
  refine oj_yes rfl rfl rfl ?_
  refine oj_step (y_eql rfl rfl) rfl rfl rfl ?_
  refine oj_step (y_pick rfl rfl rfl) rfl rfl rfl ?_
  refine oj_step (y_move rfl) rfl rfl rfl ?_
  refine oj_yes rfl rfl rfl ?_
  refine oj_step (y_move rfl) rfl rfl rfl ?_
  refine oj_yes rfl rfl rfl ?_
  refine oj_step (y_eqlS rfl rfl) rfl rfl rfl ?_
  refine oj_step (y_pick rfl rfl rfl) rfl rfl rfl ?_
  refine oj_step (y_move rfl) rfl rfl rfl ?_
  refine oj_yes rfl rfl rfl ?_
  refine oj_step (y_move rfl) rfl rfl rfl ?_
  refine oj_yes rfl rfl rfl ?_
  refine oj_buildSlice (cs := [.string ⟨#[102, 111, 120]⟩]) [.string ⟨#[]⟩] Tryz.underlying142 Tryz.sizeOf9 Tryz.zeroValue9 rfl rfl (by kernel_rfl) (by kernel_rfl) rfl (fun b56 => ?_)
  refine oj_yes rfl rfl rfl ?_
  refine oj_step (y_call Tryz.call62 rfl (fun w hp => k_SameTexts [⟨#[102, 111, 120]⟩] [⟨#[102, 111, 120]⟩] A23 (some ⟨b56, 0, none⟩) c23 1 w hp.rd (hp.rdLit (b := b56) (sz := 1) (enc := enStr) [⟨#[102, 111, 120]⟩] (fun _ => rfl) rfl (by unfold maxLen; simp)))) rfl rfl rfl ?_
  refine oj_step (y_pick rfl rfl rfl) rfl rfl rfl ?_
  refine oj_step (y_move rfl) rfl rfl rfl ?_
  refine oj_yes rfl rfl rfl ?_
  refine oj_step (y_move rfl) rfl rfl rfl ?_
  refine oj_yes rfl rfl rfl ?_
  refine oj_step (y_eqlS rfl rfl) rfl rfl rfl ?_
  refine oj_step (y_pick rfl rfl rfl) rfl rfl rfl ?_
  refine oj_step (y_move rfl) rfl rfl rfl ?_
  refine oj_yes rfl rfl rfl ?_
  refine oj_step (y_move rfl) rfl rfl rfl ?_
  refine oj_yes rfl rfl rfl ?_
  refine oj_step (y_eql rfl rfl) rfl rfl rfl ?_
  refine oj_step (y_pick rfl rfl rfl) rfl rfl rfl ?_
  refine oj_step (y_assign rfl) rfl rfl rfl ?_
  refine oj_nil ?_
  refine ej_th (cj_ret ?_)
  exact ej_ret1 rfl Tryz.results28 rfl (fun w' hp => ⟨rfl, hp.below⟩)

theorem k_sold07  (w : World)  : Calls Tryz.prog 13 #[] w (fun e w' => e = .returned (.bool true) ∧ Grow w w') := by
  refine enter_pure (args := []) [] Tryz.func13 rfl (by rw [Tryz.ntmps13]; simp) (by simp) ?_
  refine cj_seq ?_
  refine cj_regionG (gj_step (y_assign rfl) rfl rfl rfl (gj_nil ?_))
  refine ej_th (cj_seq (cj_region ?_))
  refine oj_step (y_build (cs := [.int .i64 0, .int .i64 5]) st109 rfl (by kernel_rfl)) rfl rfl rfl ?_
  refine oj_buildSlice (cs := [.int .i64 0, .int .i64 5]) [.int .i64 0, .int .i64 0] Tryz.underlying54 Tryz.sizeOf109 Tryz.zeroValue109 rfl rfl (by kernel_rfl) (by kernel_rfl) rfl (fun b7 => ?_)
  refine oj_step (y_build (cs := [.int .i64 5, .int .i64 0, .slice (some ⟨b7, 0, none⟩) 1 1]) st67 rfl (by kernel_rfl)) rfl rfl rfl ?_
  refine oj_step (y_build (cs := [.int .i64 3, .int .i64 0, .int .i64 20]) st111 rfl (by kernel_rfl)) rfl rfl rfl ?_
  refine oj_buildSlice (cs := [.int .i64 3, .int .i64 0, .int .i64 20]) [.int .i64 0, .int .i64 0, .int .i64 0] Tryz.underlying55 Tryz.sizeOf111 Tryz.zeroValue111 rfl rfl (by kernel_rfl) (by kernel_rfl) rfl (fun b10 => ?_)
  refine oj_step (y_call Tryz.call14 rfl (fun w hp => by
    have h := Au.k_Sell 5 0 [⟨0, 5⟩] (some ⟨b7, 0, none⟩) 1 [⟨3, 0, 20⟩] (some ⟨b10, 0, none⟩) 1 w (hp.rdLit (b := b7) (sz := 2) (enc := Au.encRi) [⟨0, 5⟩] (fun _ => rfl) rfl (by unfold maxLen; simp)) (hp.rdLit (b := b10) (sz := 3) (enc := Au.encBi) [⟨3, 0, 20⟩] (fun _ => rfl) rfl (by unfold maxLen; simp))
    rw [c_sell, c_sellE] at h
    exact h)) rfl rfl rfl ?_
  refine oj_step (y_move rfl) rfl rfl rfl ?_
  refine oj_step (y_extract rfl rfl) rfl rfl rfl ?_
  refine oj_step (y_extract rfl rfl) rfl rfl rfl ?_
  refine oj_alloc Tryz.zeroValue63 rfl rfl (fun b1 => ?_)
  refine oj_store rfl rfl rfl rfl Tryz.sizeOf63 rfl ?_
  refine oj_step (y_assign rfl) rfl rfl rfl ?_
  refine oj_nil ?_
  refine ej_th (cj_seq (cj_region ?_))
  refine oj_buildSlice (cs := [.int .i64 1, .int .i64 3]) [.int .i64 0, .int .i64 0] Tryz.underlying26 Tryz.sizeOf3 Tryz.zeroValue3 rfl rfl (by kernel_rfl) (by kernel_rfl) rfl (fun b15 => ?_)
  refine oj_callS (fun A c => .tuple #[.slice A ([1, 3] : List Int).length c, .int .i64 0]) 1 enInt ([1, 3] : List Int) Tryz.call19 rfl (fun w hp => by
    have h := Pu.k_Share [1, 3] (some ⟨b15, 0, none⟩) 2 4 w (hp.rdLit (b := b15) (sz := 1) (enc := enInt) [1, 3] (fun _ => rfl) rfl (by unfold maxLen; simp))
    rw [c_shr, c_shrE] at h
    exact h) rfl (fun A16 c16 fp16 hfp16 => ?_)
  refine oj_step (y_move rfl) rfl rfl rfl ?_
  refine oj_step (y_extract rfl rfl) rfl rfl rfl ?_
  refine oj_step (y_extract rfl rfl) rfl rfl rfl ?_
  refine oj_step (y_assign rfl) rfl rfl rfl ?_
  refine oj_step (y_assign rfl) rfl rfl rfl ?_
  refine oj_nil ?_
  refine ej_th (cj_seq (cj_region ?_))
  refine oj_step (y_move rfl) rfl rfl rfl ?_
  refine oj_step (y_eql rfl rfl) rfl rfl rfl ?_
  refine oj_step (y_move rfl) rfl rfl rfl ?_
  refine oj_yes rfl rfl rfl ?_
  refine oj_step (y_move rfl) rfl rfl rfl ?_
  refine oj_yes rfl rfl rfl ?_
  refine oj_step (y_eql rfl rfl) rfl rfl rfl ?_
  refine oj_step (y_pick rfl rfl rfl) rfl rfl rfl ?_
  refine oj_step (y_move rfl) rfl rfl rfl ?_
  refine oj_yes rfl rfl rfl ?_
  refine oj_step (y_loadN Tryz.isAgg63 Tryz.sizeOf63 rfl) rfl rfl rfl ?_
  refine oj_yes rfl rfl rfl ?_
  refine oj_step (y_build (cs := [.int .i64 3, .int .i64 5]) st63 rfl (by kernel_rfl)) rfl rfl rfl ?_
  refine oj_yes rfl rfl rfl ?_
  refine oj_step (y_bin rfl rfl (fun x y w => eq63 _ _ _ _ x y w)) rfl rfl rfl ?_
  refine oj_step (y_pick rfl rfl rfl) rfl rfl rfl ?_
  refine oj_step (y_move rfl) rfl rfl rfl ?_
  refine oj_yes rfl rfl rfl ?_
  refine oj_step (y_move rfl) rfl rfl rfl ?_
  refine oj_yes rfl rfl rfl ?_
  refine oj_buildSlice (cs := [.int .i64 1, .int .i64 3]) [.int .i64 0, .int .i64 0] Tryz.underlying26 Tryz.sizeOf3 Tryz.zeroValue3 rfl rfl (by kernel_rfl) (by kernel_rfl) rfl (fun b32 => ?_)
  refine oj_yes rfl rfl rfl ?_
  refine oj_step (y_call Tryz.call16 rfl (fun w hp => k_Same [1, 3] [1, 3] A16 (some ⟨b32, 0, none⟩) c16 2 w hp.rd (hp.rdLit (b := b32) (sz := 1) (enc := enInt) [1, 3] (fun _ => rfl) rfl (by unfold maxLen; simp)))) rfl rfl rfl ?_
  refine oj_step (y_pick rfl rfl rfl) rfl rfl rfl ?_
  refine oj_step (y_move rfl) rfl rfl rfl ?_
  refine oj_yes rfl rfl rfl ?_
  refine oj_step (y_call Tryz.call28 rfl (fun w hp => k_first05 w)) rfl rfl rfl ?_
  refine oj_step (y_pick rfl rfl rfl) rfl rfl rfl ?_
  refine oj_step (y_assign rfl) rfl rfl rfl ?_
  refine oj_nil ?_
  refine ej_th (cj_ret ?_)
  exact ej_ret1 rfl Tryz.results13 rfl (fun w' hp => ⟨rfl, hp.below⟩)

end Go.Proofs.YtppfniekcgnmjaaGreatDoor.To
namespace Go.Proofs.YtppfniekcgnmjaaGreatDoor.Ln
open Go.Sx Go.RowKit

abbrev zeroLn : List Value := [.int .i64 0, .int .i64 0, .int .i64 0, .int .i64 0, .bool false, .int .i64 0, .int .i64 0, .int .i64 0, .int .i64 0, .int .i64 0, .int .i64 0, .int .i64 0, .int .i64 0, .int .i64 0, .int .i64 0, .int .i64 0, .slice none 0 0, .int .i64 0, .int .i64 0, .int .i64 0, .int .i64 0]
def askOk (d : Deal) (l : List Act1) : Bool := !(badDeal d) && actsOk d l
def askE (d : Deal) (l : List Act1) : Int := if badDeal d then 23 else if actsOk d l then 0 else 24
def onOk (d : Deal) (l : List Act1) (n : Int) : Bool := askOk d l && (runL d l).e == 0 && btw (runL d l).x.day n 36500
def onE (d : Deal) (l : List Act1) (n : Int) : Int := if askOk d l then (if (runL d l).e = 0 then (if btw (runL d l).x.day n 36500 then 0 else 7) else (runL d l).e) else askE d l
theorem askOk_parts {d : Deal} {l : List Act1} (h : askOk d l = true) : badDeal d = false ∧ actsOk d l = true := by
  rw [askOk, Bool.and_eq_true] at h
  exact ⟨not_t h.1, h.2⟩
theorem askOk_not {d : Deal} {l : List Act1} (h : askOk d l = false) : badDeal d = true ∨ (badDeal d = false ∧ actsOk d l = false) := by
  cases hb : badDeal d
  · rw [askOk, hb] at h; exact .inr ⟨rfl, by simpa using h⟩
  · exact .inl rfl
theorem askE_ne {d : Deal} {l : List Act1} (h : askOk d l = false) : askE d l ≠ 0 := by
  rcases askOk_not h with h | ⟨h1, h2⟩
  · simp [askE, h]
  · simp [askE, h1, h2]
theorem onOk_parts {d : Deal} {l : List Act1} {n : Int} (h : onOk d l n = true) : askOk d l = true ∧ (runL d l).e = 0 ∧ btw (runL d l).x.day n 36500 = true := by
  simp only [onOk, Bool.and_eq_true, beq_iff_eq] at h
  exact ⟨h.1.1, h.1.2, h.2⟩
theorem onE_yes {d : Deal} {l : List Act1} {n : Int} (h : onOk d l n = true) : onE d l n = 0 := by
  obtain ⟨h1, h2, h3⟩ := onOk_parts h
  rw [onE, if_pos h1, if_pos h2, if_pos h3]
theorem onE_ne {d : Deal} {l : List Act1} {n : Int} (h : onOk d l n = false) : onE d l n ≠ 0 := by
  unfold onE
  cases h1 : askOk d l
  · simpa using askE_ne h1
  · rw [if_pos rfl]
    by_cases h2 : (runL d l).e = 0
    · rw [if_pos h2]
      cases h3 : btw (runL d l).x.day n 36500
      · simp
      · rw [onOk, h1, h3, h2] at h; simp at h
    · rw [if_neg h2]; exact h2
theorem runF_ok {d : Deal} (hd : DealOk d) : ∀ (l : List Act1) (i : Int) (x : Ln) (out : List Acc) (at_ e : Int), LOk x → x.fees + 10000 * l.length ≤ 999990000 → (∀ a ∈ l, okKind a.kind a.n = true ∧ a.day ≤ 36500) → LOk (runF d i x out at_ e l).x
  | [], _, _, _, _, _, h, _, _ => h
  | a :: l, i, x, out, at_, e, h, hf, ha => by
    have h1 := ha a (List.mem_cons_self ..)
    have h2 := toL_ok hd h h1.2
    have h3 := toL_fees d x a.day
    simp only [List.length_cons] at hf
    have h4 : LOk (actL d (toL d x a.day) a) := actL_ok hd h2 h1.1 (by omega)
    have h5 : (actL d (toL d x a.day) a).fees ≤ (toL d x a.day).fees + 10000 := actL_fees hd
    rw [runF]
    split
    · exact h2
    · split
      · exact runF_ok hd l _ _ _ _ _ h4 (by omega) (fun b hb => ha b (List.mem_cons_of_mem _ hb))
      · exact h4
theorem runL_ok {d : Deal} {l : List Act1} (h : askOk d l = true) : LOk (runL d l).x := by
  obtain ⟨h1, h2⟩ := askOk_parts h
  have hd := badDeal_no h1
  obtain ⟨h3, h4⟩ := actsOk_mem h2
  exact runF_ok hd l _ _ _ _ _ (openL_ok hd) (by simp only [openL]; omega) h3
def OweA (d : Deal) (l : List Act1) (n : Int) : Acc := if onOk d l n then (toL d (runL d l).x n).acc else ⟨0, 0, 0, 0, false⟩
def LegalN (d : Deal) (l : List Act1) (n : Int) : Int := if onOk d l n then limitOf d (toL d (runL d l).x n) else 0
end Go.Proofs.YtppfniekcgnmjaaGreatDoor.Ln
namespace Go.Proofs.YtppfniekcgnmjaaGreatDoor.Ln
open Go.Sx Go.RowKit

def keepMu (until_ : Int) (x : Ln) : Nat := 2 * (until_ - x.day).toNat + (if x.ag = 0 then 0 else 1)
def keepF (d : Deal) (until_ : Int) : Nat → Ln → List Int → List Int
  | 0, _, out => out
  | n + 1, x, out => if until_ ≤ x.day then out else if overB d (toL d x (x.day + 1)) then keepF d until_ n (renewL d x) (out ++ [x.day]) else keepF d until_ n (toL d x (x.day + 1)) out
theorem keepF_end (d : Deal) (until_ : Int) (n : Nat) (x : Ln) (out : List Int) (h : until_ ≤ x.day) : keepF d until_ n x out = out := by
  cases n with
  | zero => rfl
  | succ n => rw [keepF, if_pos h]
def keepL (d : Deal) (until_ : Int) : List Int := keepF d until_ (keepMu until_ (openL d)) (openL d) []
theorem toL_one (d : Deal) (x : Ln) : (toL d x (x.day + 1)).day = x.day + 1 := by rw [toL_day]; omega
theorem goN_one (d : Deal) (x : Ln) : goN d (x.day + 1 - x.day).toNat x = stepDay d x := by
  rw [show (x.day + 1 - x.day).toNat = 1 by omega]; rfl
theorem toL_one_ag (d : Deal) (x : Ln) : (toL d x (x.day + 1)).ag ≤ x.ag + 1 ∧ x.ag ≤ (toL d x (x.day + 1)).ag := by
  unfold toL
  rw [goN_one]
  unfold stepDay counted
  repeat' split
  all_goals simp only
  all_goals omega
theorem toL_one_fees (d : Deal) (x : Ln) : (toL d x (x.day + 1)).fees = x.fees := by
  unfold toL
  rw [goN_one]
  unfold stepDay counted
  repeat' split
  all_goals rfl
def KeepN (d : Deal) (until_ : Int) : List Int := if badDeal d then [] else if btw d.start until_ 36500 then (if 32 < (keepL d until_).length then [] else keepL d until_) else []
def KeepE (d : Deal) (until_ : Int) : Int := if badDeal d then 23 else if btw d.start until_ 36500 then (if 32 < (keepL d until_).length then 3 else 0) else 7
end Go.Proofs.YtppfniekcgnmjaaGreatDoor.Ln
namespace Go.Proofs.YtppfniekcgnmjaaGreatDoor.Ln
open Go.Sx Go.RowKit

theorem seek_mem : ∀ (l : List Int) (n i : Int), 0 ≤ i → (0 ≤ seek l n i ↔ n ∈ l)
  | [], n, i, h => by simp [seek]
  | x :: l, n, i, h => by
    rw [seek]
    by_cases hx : x = n
    · rw [if_pos hx]; subst hx; simp [h]
    · rw [if_neg hx, seek_mem l n (i + 1) (by omega)]
      simp [Ne.symm hx]
theorem seek0 (l : List Int) (n : Int) : 0 ≤ seek l n 0 ↔ n ∈ l := seek_mem l n 0 (Int.le_refl _)
theorem seek_ge (l : List Int) (n : Int) : ∀ i : Int, 0 ≤ i → -1 ≤ seek l n i ∧ seek l n i ≤ i + l.length := by
  induction l with
  | nil => intro i h; simp [seek]; omega
  | cons x l ih =>
    intro i h
    rw [seek]
    split
    · simp only [List.length_cons]; omega
    · have := ih (i + 1) (by omega); simp only [List.length_cons]; omega

def rkF (d : Deal) : Nat → Int → Int → List Int → List Int
  | 0, _, _, out => out
  | n + 1, day, age, out => if 0 ≤ seek d.closed day 0 then rkF d n (day + 1) age out
      else if d.tt + d.tg < age + 1 then rkF d n (day + 1) 1 (out ++ [day - 1]) else rkF d n (day + 1) (age + 1) out
def rkL (d : Deal) (u : Int) : List Int := rkF d (u - d.start).toNat (d.start + 1) 0 []

theorem toL_parts (d : Deal) (x : Ln) (day : Int) : (toL d x day).pr = (goN d (day - x.day).toNat x).pr ∧ (toL d x day).pd = (goN d (day - x.day).toNat x).pd ∧ (toL d x day).ag = (goN d (day - x.day).toNat x).ag ∧ (toL d x day).op = (goN d (day - x.day).toNat x).op ∧
    (toL d x day).all = (goN d (day - x.day).toNat x).all ∧ (toL d x day).dear = (goN d (day - x.day).toNat x).dear ∧ (toL d x day).days = (goN d (day - x.day).toNat x).days ∧ (toL d x day).fees = (goN d (day - x.day).toNat x).fees ∧ (toL d x day).day = (goN d (day - x.day).toNat x).day ∧ (toL d x day).held = (goN d (day - x.day).toNat x).held := by
  unfold toL
  split <;> exact ⟨rfl, rfl, rfl, rfl, rfl, rfl, rfl, rfl, rfl, rfl⟩
theorem toL_one_parts (d : Deal) (x : Ln) : (toL d x (x.day + 1)).op = x.op ∧ (toL d x (x.day + 1)).held = x.held ∧ (toL d x (x.day + 1)).ag = (if countsB d x (x.day + 1) then x.ag + 1 else x.ag) := by
  obtain ⟨_, _, h1, h2, _, _, _, _, _, h3⟩ := toL_parts d x (x.day + 1)
  rw [h1, h2, h3, goN_one]
  unfold stepDay
  cases countsB d x (x.day + 1) <;> exact ⟨rfl, rfl, rfl⟩
theorem counts_open {d : Deal} {x : Ln} {day : Int} (ho : x.op = true) (hh : x.held < day) : countsB d x day = !(decide (0 ≤ seek d.closed day 0)) := by
  simp [countsB, ho, hh]

theorem keepF_rk {d : Deal} (hd : DealOk d) (u : Int) : ∀ (n : Nat) (x : Ln) (out : List Int), x.op = true → x.held ≤ x.day → 0 ≤ x.ag → x.ag ≤ d.tt + d.tg → keepMu u x ≤ n →
    keepF d u n x out = rkF d (u - x.day).toNat (x.day + 1) x.ag out
  | 0, x, out, _, _, _, _, hm => by
    unfold keepMu at hm
    rw [show (u - x.day).toNat = 0 by omega]; rfl
  | n + 1, x, out, ho, hh, h0, ha, hm => by
    rw [keepF]
    by_cases hu : u ≤ x.day
    · rw [if_pos hu, show (u - x.day).toNat = 0 by omega]; rfl
    rw [if_neg hu]
    obtain ⟨m, hmm⟩ : ∃ m, (u - x.day).toNat = m + 1 := ⟨(u - x.day).toNat - 1, by omega⟩
    rw [hmm, rkF]
    obtain ⟨y1, y2, y3⟩ := toL_one_parts d x
    have y4 := toL_one d x
    rw [counts_open ho (by omega)] at y3
    have htt := hd.tt; have htg := hd.tg
    unfold keepMu at hm
    by_cases hc : 0 ≤ seek d.closed (x.day + 1) 0
    · rw [if_pos hc]
      have y5 : (toL d x (x.day + 1)).ag = x.ag := by rw [y3]; simp [hc]
      have hov : overB d (toL d x (x.day + 1)) = false := by unfold overB; rw [y5]; exact decide_eq_false (by omega)
      rw [hov, if_neg (by simp)]
      rw [keepF_rk hd u n _ out (by rw [y1, ho]) (by omega) (by omega) (by omega) (by unfold keepMu; rw [y4, y5]; split <;> split at hm <;> omega), y4, y5, show (u - (x.day + 1)).toNat = m by omega]
    · rw [if_neg hc]
      have y5 : (toL d x (x.day + 1)).ag = x.ag + 1 := by rw [y3]; simp [hc]
      by_cases hT : d.tt + d.tg < x.ag + 1
      · rw [if_pos hT]
        have hov : overB d (toL d x (x.day + 1)) = true := by unfold overB; rw [y5]; exact decide_eq_true hT
        rw [hov, if_pos rfl]
        have e1 : (renewL d x).day = x.day := rfl
        have e2 : (renewL d x).ag = 0 := rfl
        rw [keepF_rk hd u n (renewL d x) _ ho hh (Int.le_refl _) (by rw [e2]; omega) (by unfold keepMu; rw [e1, e2, if_pos rfl]; rw [if_neg (by omega)] at hm; omega), e1, e2, hmm, rkF, if_neg hc, if_neg (by omega)]
        rw [show x.day + 1 - 1 = x.day by omega]; rfl
      · rw [if_neg hT]
        have hov : overB d (toL d x (x.day + 1)) = false := by unfold overB; rw [y5]; exact decide_eq_false hT
        rw [hov, if_neg (by simp)]
        rw [keepF_rk hd u n _ out (by rw [y1, ho]) (by omega) (by omega) (by omega) (by unfold keepMu; rw [y4, y5]; split <;> split at hm <;> omega), y4, y5, show (u - (x.day + 1)).toNat = m by omega]
theorem keepL_rk {d : Deal} (hd : DealOk d) (u : Int) : keepL d u = rkL d u := by
  have h1 := hd.tt; have h2 := hd.tg
  exact keepF_rk hd u _ (openL d) [] rfl (Int.le_refl _) (Int.le_refl _) (by simp only [openL]; omega) (Nat.le_refl _)

theorem rkF_app (d : Deal) : ∀ (n : Nat) (day age : Int) (out : List Int), rkF d n day age out = out ++ rkF d n day age []
  | 0, _, _, out => by simp [rkF]
  | n + 1, day, age, out => by
    rw [rkF, rkF]
    split
    · exact rkF_app d n _ _ _
    · split
      · rw [rkF_app d n _ _ (out ++ [day - 1]), rkF_app d n _ _ ([] ++ [day - 1])]; simp
      · exact rkF_app d n _ _ _
theorem rkF_ge (d : Deal) : ∀ (n : Nat) (day age : Int), ∀ t ∈ rkF d n day age [], day - 1 ≤ t ∧ t ≤ day + n - 2
  | 0, _, _, t, h => by simp [rkF] at h
  | n + 1, day, age, t, h => by
    rw [rkF] at h
    split at h
    · have := rkF_ge d n _ _ t h; omega
    · split at h
      · rw [rkF_app] at h
        rcases List.mem_append.1 h with h | h
        · simp at h; omega
        · have := rkF_ge d n _ _ t h; omega
      · have := rkF_ge d n _ _ t h; omega
theorem rkF_asc (d : Deal) : ∀ (n : Nat) (day age : Int), (rkF d n day age []).Pairwise (· < ·)
  | 0, _, _ => by simp [rkF]
  | n + 1, day, age => by
    rw [rkF]
    split
    · exact rkF_asc d n _ _
    · split
      · rw [rkF_app]
        refine List.pairwise_append.2 ⟨by simp, rkF_asc d n _ _, fun a ha b hb => ?_⟩
        have := rkF_ge d n _ _ b hb
        simp at ha; omega
      · exact rkF_asc d n _ _

/-- the age on a day -/
def agd (d : Deal) (t age : Int) : Int := if decide (d.start < t) && decide (seek d.closed t 0 < 0) then age + 1 else age
theorem agd_no {d : Deal} {t : Int} (h : 0 ≤ seek d.closed t 0) (age : Int) : agd d t age = age := by
  unfold agd; rw [if_neg]; rw [decide_eq_false (by omega : ¬ seek d.closed t 0 < 0)]; simp
theorem agd_first (d : Deal) (age : Int) : agd d d.start age = age := by
  unfold agd; rw [if_neg]; simp
theorem agd_yes {d : Deal} {t : Int} (h : ¬ 0 ≤ seek d.closed t 0) (hs : d.start < t) (age : Int) : agd d t age = age + 1 := by
  unfold agd; rw [if_pos]; rw [decide_eq_true hs, decide_eq_true (by omega : seek d.closed t 0 < 0)]; rfl
/-- late, with renewals on some days -/
def tdF (d : Deal) (l : List Int) : Nat → Int → Int → Bool
  | 0, _, _ => false
  | n + 1, t, age => if d.tt + d.tg < agd d t age then true else tdF d l n (t + 1) (if 0 ≤ seek l t 0 then 0 else agd d t age)
def tardyB (d : Deal) (u : Int) (l : List Int) : Bool := tdF d l (u + 1 - d.start).toNat d.start 0

theorem tdF_rk {d : Deal} (hd : DealOk d) : ∀ (n : Nat) (day age r : Int) (out L : List Int), d.start < day → L = out ++ rkF d n day age [] → (∀ t ∈ out, t < day - 1) → 0 ≤ age → age ≤ d.tt + d.tg → (r = if day - 1 ∈ L then 0 else age) → tdF d L n day r = false
  | 0, _, _, _, _, _, _, _, _, _, _, _ => rfl
  | n + 1, day, age, r, out, L, hs, hL, hout, h0, ha, hr => by
    have htt := hd.tt; have htg := hd.tg
    rw [tdF]
    rw [rkF] at hL
    have hno : day - 1 ∉ out := fun h => by have := hout _ h; omega
    have hrest : ∀ a, day - 1 ∉ rkF d n (day + 1) a [] := fun a h => by have := rkF_ge d n _ _ _ h; omega
    by_cases hc : 0 ≤ seek d.closed day 0
    · rw [if_pos hc] at hL
      have hm : day - 1 ∉ L := by rw [hL]; simp [hno, hrest]
      rw [if_neg hm] at hr
      subst hr
      have e := agd_no hc
      rw [e, if_neg (by omega)]
      refine tdF_rk hd n (day + 1) r _ out L (by omega) hL (fun t ht => by have := hout t ht; omega) h0 ha ?_
      rw [show day + 1 - 1 = day by omega]
      by_cases hin : day ∈ L
      · rw [if_pos ((seek0 L day).2 hin), if_pos hin]
      · rw [if_neg (fun h => hin ((seek0 L day).1 h)), if_neg hin]
    · rw [if_neg hc] at hL
      have e := agd_yes hc hs
      rw [e]
      by_cases hT : d.tt + d.tg < age + 1
      · rw [if_pos hT, rkF_app] at hL
        have hm : day - 1 ∈ L := by rw [hL]; simp
        rw [if_pos hm] at hr
        subst hr
        rw [if_neg (by omega)]
        refine tdF_rk hd n (day + 1) 1 _ (out ++ [day - 1]) L (by omega) (by rw [hL]; simp) (fun t ht => ?_) (by omega) (by omega) ?_
        · rcases List.mem_append.1 ht with h | h
          · have := hout t h; omega
          · simp at h; omega
        · rw [show day + 1 - 1 = day by omega]
          by_cases hin : day ∈ L
          · rw [if_pos ((seek0 L day).2 hin), if_pos hin]
          · rw [if_neg (fun h => hin ((seek0 L day).1 h)), if_neg hin]; rfl
      · rw [if_neg hT] at hL
        have hm : day - 1 ∉ L := by rw [hL]; simp [hno, hrest]
        rw [if_neg hm] at hr
        subst hr
        rw [if_neg (by omega)]
        refine tdF_rk hd n (day + 1) (r + 1) _ out L (by omega) hL (fun t ht => by have := hout t ht; omega) (by omega) (by omega) ?_
        rw [show day + 1 - 1 = day by omega]
        by_cases hin : day ∈ L
        · rw [if_pos ((seek0 L day).2 hin), if_pos hin]
        · rw [if_neg (fun h => hin ((seek0 L day).1 h)), if_neg hin]
theorem tardy_keep {d : Deal} (hd : DealOk d) (u : Int) (hu : d.start ≤ u) : tardyB d u (rkL d u) = false := by
  have htt := hd.tt; have htg := hd.tg
  unfold tardyB
  rw [show (u + 1 - d.start).toNat = (u - d.start).toNat + 1 by omega, tdF]
  rw [agd_first, if_neg (by omega)]
  refine tdF_rk hd _ (d.start + 1) 0 _ [] (rkL d u) (by omega) rfl (by simp) (by omega) (by omega) ?_
  simp

/-- how many days of a time are in a list -/
def cntI (o : List Int) : Nat → Int → Nat
  | 0, _ => 0
  | n + 1, day => (if 0 ≤ seek o day 0 then 1 else 0) + cntI o n (day + 1)
theorem countP_day (o : List Int) (day : Int) : o.countP (fun t => decide (day ≤ t)) = o.countP (fun t => decide (day + 1 ≤ t)) + o.countP (fun t => decide (t = day)) := by
  induction o with
  | nil => rfl
  | cons x o ih =>
    simp only [List.countP_cons, ih]
    by_cases h1 : day + 1 ≤ x
    · rw [decide_eq_true h1, decide_eq_true (by omega : day ≤ x), decide_eq_false (by omega : ¬ x = day)]; simp; omega
    · by_cases h2 : x = day
      · rw [decide_eq_false h1, decide_eq_true (by omega : day ≤ x), decide_eq_true h2]; simp; omega
      · rw [decide_eq_false h1, decide_eq_false (by omega : ¬ day ≤ x), decide_eq_false h2]; simp
theorem cntI_le (o : List Int) : ∀ (n : Nat) (day : Int), cntI o n day ≤ o.countP (fun t => decide (day ≤ t))
  | 0, _ => Nat.zero_le _
  | n + 1, day => by
    rw [cntI, countP_day]
    have h1 := cntI_le o n (day + 1)
    by_cases h : 0 ≤ seek o day 0
    · have h2 : 0 < o.countP (fun t => decide (t = day)) := List.countP_pos_iff.2 ⟨day, (seek0 o day).1 h, by simp⟩
      rw [if_pos h]; omega
    · rw [if_neg h]; omega
theorem rk_fewest {d : Deal} (o : List Int) : ∀ (n : Nat) (day a b : Int), d.start < day → 0 ≤ b → tdF d o n day b = false → (rkF d n day a []).length ≤ cntI o n day + (if a ≤ b then 0 else 1)
  | 0, _, _, _, _, _, _ => by simp [rkF]
  | n + 1, day, a, b, hs, hb, ht => by
    rw [tdF] at ht
    rw [rkF, cntI]
    by_cases hc : 0 ≤ seek d.closed day 0
    · have e := agd_no hc
      rw [e] at ht
      rw [if_pos hc]
      split at ht
      · cases ht
      by_cases hin : 0 ≤ seek o day 0
      · rw [if_pos hin] at ht ⊢
        have := rk_fewest o n (day + 1) a 0 (by omega) (by omega) ht
        split at this <;> split <;> omega
      · rw [if_neg hin] at ht ⊢
        have := rk_fewest o n (day + 1) a b (by omega) hb ht
        omega
    · have e := agd_yes hc hs
      rw [e] at ht
      rw [if_neg hc]
      split at ht
      · cases ht
      rename_i hbT
      by_cases hT : d.tt + d.tg < a + 1
      · rw [if_pos hT, rkF_app]
        simp only [List.nil_append, List.length_append, List.length_singleton]
        rw [if_neg (by omega : ¬ a ≤ b)]
        by_cases hin : 0 ≤ seek o day 0
        · rw [if_pos hin] at ht ⊢
          have := rk_fewest o n (day + 1) 1 0 (by omega) (by omega) ht
          split at this <;> omega
        · rw [if_neg hin] at ht ⊢
          have := rk_fewest o n (day + 1) 1 (b + 1) (by omega) (by omega) ht
          rw [if_pos (by omega)] at this; omega
      · rw [if_neg hT]
        by_cases hin : 0 ≤ seek o day 0
        · rw [if_pos hin] at ht ⊢
          have := rk_fewest o n (day + 1) (a + 1) 0 (by omega) (by omega) ht
          split at this <;> split <;> omega
        · rw [if_neg hin] at ht ⊢
          have := rk_fewest o n (day + 1) (a + 1) (b + 1) (by omega) (by omega) ht
          by_cases hab : a ≤ b
          · rw [if_pos (by omega)] at this; rw [if_pos hab]; omega
          · rw [if_neg (by omega)] at this; rw [if_neg hab]; omega
theorem fewest {d : Deal} (hd : DealOk d) (u : Int) (hu : d.start ≤ u) (o : List Int) (h : tardyB d u o = false) : (rkL d u).length ≤ o.length := by
  have htt := hd.tt; have htg := hd.tg
  unfold tardyB at h
  rw [show (u + 1 - d.start).toNat = (u - d.start).toNat + 1 by omega, tdF] at h
  rw [agd_first, if_neg (by omega)] at h
  have h1 := rk_fewest (d := d) o _ (d.start + 1) 0 0 (by omega) (by omega) (by simpa using h)
  rw [if_pos (by omega)] at h1
  have h2 := cntI_le o (u - d.start).toNat (d.start + 1)
  have h3 := List.countP_le_length (p := fun t => decide (d.start + 1 ≤ t)) (l := o)
  unfold rkL
  omega

theorem encAct_one (a : Act1) : ∀ v ∈ encAct a, v.oneCell' = true := by simp [encAct, Value.oneCell']
/-- a renewal on a day -/
def rnOf (t : Int) : Act1 := ⟨t, 2, 0⟩
theorem goN_add (d : Deal) : ∀ (a b : Nat) (x : Ln), goN d (a + b) x = goN d b (goN d a x)
  | 0, b, x => by rw [Nat.zero_add]; rfl
  | a + 1, b, x => by rw [show a + 1 + b = (a + b) + 1 by omega, goN, goN, goN_add d a b]
theorem goN_op (d : Deal) : ∀ (k : Nat) (x : Ln), (goN d k x).op = x.op
  | 0, _ => rfl
  | k + 1, x => by
    rw [goN, goN_op d k]
    unfold stepDay counted
    split <;> rfl
theorem goN_held (d : Deal) : ∀ (k : Nat) (x : Ln), (goN d k x).held = x.held
  | 0, _ => rfl
  | k + 1, x => by
    rw [goN, goN_held d k]
    unfold stepDay counted
    split <;> rfl
theorem goN_succ (d : Deal) (k : Nat) (x : Ln) : goN d (k + 1) x = stepDay d (goN d k x) := by rw [goN_add d k 1]; rfl
theorem stepDay_ag (d : Deal) (x : Ln) : (stepDay d x).ag = if countsB d x (x.day + 1) then x.ag + 1 else x.ag := by
  unfold stepDay counted
  split <;> rfl
theorem rk_run {d : Deal} (hd : DealOk d) : ∀ (n : Nat) (day age : Int) (i : Int) (x : Ln) (out : List Acc) (at0 : Int), x.op = true → x.held ≤ x.day → x.day ≤ day - 1 → (goN d (day - 1 - x.day).toNat x).ag = age → age ≤ d.tt + d.tg →
    (runF d i x out at0 0 ((rkF d n day age []).map rnOf)).e = 0 ∧ (runF d i x out at0 0 ((rkF d n day age []).map rnOf)).x.day ≤ day + n - 1 ∧ (toL d (runF d i x out at0 0 ((rkF d n day age []).map rnOf)).x (day + n - 1)).ag ≤ d.tt + d.tg
  | 0, day, age, i, x, out, at0, ho, hh, hx, hg, ha => by
    refine ⟨rfl, by simp [rkF, runF]; omega, ?_⟩
    obtain ⟨_, _, h1, _⟩ := toL_parts d x (day + (0 : Nat) - 1)
    simp only [rkF, List.map_nil, runF]
    rw [h1, show (day + ((0 : Nat) : Int) - 1 - x.day).toNat = (day - 1 - x.day).toNat by omega, hg]
    exact ha
  | n + 1, day, age, i, x, out, at0, ho, hh, hx, hg, ha => by
    have htt := hd.tt; have htg := hd.tg
    have hstep : (goN d (day + 1 - 1 - x.day).toNat x).ag = if 0 ≤ seek d.closed day 0 then age else age + 1 := by
      rw [show (day + 1 - 1 - x.day).toNat = (day - 1 - x.day).toNat + 1 by omega, goN_succ, stepDay_ag, goN_day, hg]
      have e : x.day + ((day - 1 - x.day).toNat : Int) + 1 = day := by omega
      rw [e, counts_open (by rw [goN_op, ho]) (by rw [goN_held]; omega)]
      by_cases hc : 0 ≤ seek d.closed day 0 <;> simp [hc]
    rw [rkF]
    by_cases hc : 0 ≤ seek d.closed day 0
    · rw [if_pos hc] at hstep
      rw [if_pos hc]
      have := rk_run hd n (day + 1) age i x out at0 ho hh (by omega) hstep ha
      rw [show day + 1 + (n : Int) - 1 = day + ((n + 1 : Nat) : Int) - 1 by omega] at this
      exact this
    · rw [if_neg hc] at hstep
      rw [if_neg hc]
      by_cases hT : d.tt + d.tg < age + 1
      · rw [if_pos hT, rkF_app]
        simp only [List.nil_append, List.map_cons, List.cons_append, runF]
        obtain ⟨_, _, h1, h2, _, _, _, _, h3, h4⟩ := toL_parts d x (rnOf (day - 1)).day
        have hov : overB d (toL d x (rnOf (day - 1)).day) = false := by
          unfold overB; rw [h1, show ((rnOf (day - 1)).day - x.day).toNat = (day - 1 - x.day).toNat from rfl, hg]; exact decide_eq_false (by omega)
        have hE : ∀ y, actE d y (rnOf (day - 1)) = 0 := fun y => rfl
        have hA : ∀ y, actL d y (rnOf (day - 1)) = renewL d y := fun y => rfl
        rw [hov, if_neg (by simp), hE, if_pos rfl, hA]
        have hday : (toL d x (rnOf (day - 1)).day).day = day - 1 := by rw [toL_day]; simp only [rnOf]; omega
        have e1 : (renewL d (toL d x (rnOf (day - 1)).day)).day = day - 1 := hday
        have e2 : (renewL d (toL d x (rnOf (day - 1)).day)).op = true := by show (toL d x (rnOf (day - 1)).day).op = true; rw [h2, goN_op, ho]
        have e3 : (renewL d (toL d x (rnOf (day - 1)).day)).held = x.held := by show (toL d x (rnOf (day - 1)).day).held = x.held; rw [h4, goN_held]
        have e4 : (renewL d (toL d x (rnOf (day - 1)).day)).ag = 0 := rfl
        have := rk_run hd n (day + 1) 1 (i + 1) (renewL d (toL d x (rnOf (day - 1)).day)) (out ++ [(renewL d (toL d x (rnOf (day - 1)).day)).acc]) (i + 1) e2 (by rw [e3, e1]; omega) (by rw [e1]; omega)
          (by
            have hcb : countsB d (renewL d (toL d x (rnOf (day - 1)).day)) ((renewL d (toL d x (rnOf (day - 1)).day)).day + 1) = true := by
              rw [counts_open e2 (by rw [e3, e1]; omega), e1, show day - 1 + 1 = day by omega]; simp [hc]
            rw [e1, show (day + 1 - 1 - (day - 1)).toNat = 0 + 1 by omega, goN_succ, stepDay_ag]
            show (if countsB d (renewL d (toL d x (rnOf (day - 1)).day)) ((renewL d (toL d x (rnOf (day - 1)).day)).day + 1) then (renewL d (toL d x (rnOf (day - 1)).day)).ag + 1 else (renewL d (toL d x (rnOf (day - 1)).day)).ag) = 1
            rw [if_pos hcb, e4]; rfl) (by omega)
        rw [show day + 1 + (n : Int) - 1 = day + ((n + 1 : Nat) : Int) - 1 by omega] at this
        exact this
      · rw [if_neg hT]
        have := rk_run hd n (day + 1) (age + 1) i x out at0 ho hh (by omega) hstep (by omega)
        rw [show day + 1 + (n : Int) - 1 = day + ((n + 1 : Nat) : Int) - 1 by omega] at this
        exact this
theorem acts_rn (u : Int) (hu : u ≤ 36500) : ∀ (l : List Int) (last pk : Int), pk ≠ 4 → l.Pairwise (· < ·) → (∀ t ∈ l, last ≤ t ∧ t ≤ u) → actsF last pk (l.map rnOf) = true
  | [], _, _, _, _, _ => rfl
  | t :: l, last, pk, hpk, hp, hb => by
    have h1 := hb t (List.mem_cons_self ..)
    have h2 := List.pairwise_cons.1 hp
    have e : okAct last pk (rnOf t) = true := by
      have e1 : okKind (rnOf t).kind (rnOf t).n = true := rfl
      have e2 : btw last (rnOf t).day 36500 = true := by
        show (decide (last ≤ t) && decide (t ≤ 36500)) = true
        rw [Bool.and_eq_true]
        exact ⟨decide_eq_true (by omega), decide_eq_true (by omega)⟩
      unfold okAct
      rw [e1, e2]
      simpa using hpk
    rw [List.map_cons, actsF, e, Bool.true_and]
    exact acts_rn u hu l t 2 (by decide) h2.2 (fun s hs => by have := h2.1 s hs; have := hb s (List.mem_cons_of_mem _ hs); omega)
/-- WITH THE DAYS OF Keep A LOAN IS NEVER LATE. -/
theorem keep_owe {d : Deal} (hd : DealOk d) (hb : badDeal d = false) (u : Int) (hu : d.start ≤ u ∧ u ≤ 36500) (hl : (rkL d u).length ≤ 32) : onE d ((rkL d u).map rnOf) u = 0 ∧ (OweA d ((rkL d u).map rnOf) u).ag ≤ d.tt + d.tg := by
  have htt := hd.tt; have htg := hd.tg
  have hacts : actsOk d ((rkL d u).map rnOf) = true := by
    unfold actsOk rkL
    rw [acts_rn u hu.2 _ _ _ (by decide) (rkF_asc d _ _ _) (fun t ht => by have := rkF_ge d _ _ _ t ht; omega)]
    rw [Bool.true_and]
    refine decide_eq_true ?_
    rw [List.length_map]
    unfold rkL at hl
    omega
  have hask : askOk d ((rkL d u).map rnOf) = true := by rw [askOk, hb, hacts]; rfl
  obtain ⟨h1, h2, h3⟩ := rk_run hd (u - d.start).toNat (d.start + 1) 0 0 (openL d) [] 0 rfl (Int.le_refl _) (by simp only [openL]; omega) (by simp only [openL]; rw [show (d.start + 1 - 1 - d.start).toNat = 0 by omega]; rfl) (by omega)
  have e : d.start + 1 + ((u - d.start).toNat : Int) - 1 = u := by omega
  rw [e] at h2 h3
  have hon : onOk d ((rkL d u).map rnOf) u = true := by
    have hday : btw (runL d ((rkL d u).map rnOf)).x.day u 36500 = true := by
      simp only [btw, Bool.and_eq_true, decide_eq_true_eq]; exact ⟨h2, hu.2⟩
    have he : (runL d ((rkL d u).map rnOf)).e = 0 := h1
    rw [onOk, hask, hday, he]; rfl
  refine ⟨onE_yes hon, ?_⟩
  rw [OweA, if_pos hon]
  exact h3
theorem keepE_ok {d : Deal} {u : Int} (h : KeepE d u = 0 ∨ KeepE d u = 3) : badDeal d = false ∧ (d.start ≤ u ∧ u ≤ 36500) ∧ ((KeepE d u = 0 ∧ KeepN d u = rkL d u ∧ (rkL d u).length ≤ 32) ∨ (KeepE d u = 3 ∧ KeepN d u = [] ∧ 32 < (rkL d u).length)) := by
  cases hb : badDeal d
  · have hd := badDeal_no hb
    have hk := keepL_rk hd u
    cases ht : btw d.start u 36500
    · simp [KeepE, hb, ht] at h
    · refine ⟨rfl, by simpa [btw] using ht, ?_⟩
      rw [← hk]
      by_cases hl : 32 < (keepL d u).length
      · right; exact ⟨by simp [KeepE, hb, ht, hl], by simp [KeepN, hb, ht, hl], hl⟩
      · left; exact ⟨by simp [KeepE, hb, ht, hl], by simp [KeepN, hb, ht, hl], by omega⟩
  · simp [KeepE, hb] at h
theorem keepE_no {d : Deal} {u : Int} (h : KeepE d u ≠ 0) : KeepN d u = [] := by
  unfold KeepE at h
  unfold KeepN
  split
  · rfl
  · rename_i h1; rw [if_neg h1] at h
    split
    · rename_i h2; rw [if_pos h2] at h
      split
      · rfl
      · rename_i h3; rw [if_neg h3] at h; exact absurd rfl h
    · rfl

/-! the reference's check of a deal -/
def okD (d : Deal) : Bool := (btw 0 d.lr 10000 && btw 0 d.lc 64 && btw 0 d.tr 10000 && btw 0 d.tf 31 && btw 0 d.te 10000 && btw 1 d.tt 366 && btw 0 d.tg 60) && decide ((d.closed.length : Int) ≤ 64) && btw 0 d.start 36500 && btw 1 d.sum 1073741824
theorem ref_deal (d : Deal) : (okD d && ascOk (-1) d.closed) = !(badDeal d) := by
  have h2 : decide (64 < (d.closed.length : Int)) = !(decide ((d.closed.length : Int) ≤ 64)) := by
    by_cases h : (d.closed.length : Int) ≤ 64
    · simp [h]
    · simp [h]; omega
  unfold badDeal badDeal1 badDeal2 okD
  rw [h2]
  simp only [Bool.not_or, Bool.not_not]
  cases ascOk (-1) d.closed <;> simp [Bool.and_assoc]
theorem asc_R (l : List Int) (k : Nat) (x : Int) (ok : Bool) : ((ok && btw 0 x 36500) && (((k : Int) == 0) || decide (l.getD ((k : Int) - 1).toNat 0 < x))) = (ok && (btw 0 x 36500 && decide (prevOf l k < x))) := by
  cases ok
  · rfl
  cases hb : btw 0 x 36500
  · rfl
  have h1 : 0 ≤ x := by simp only [btw, Bool.and_eq_true, decide_eq_true_eq] at hb; omega
  by_cases h0 : k = 0
  · subst h0
    have h2 : (-1 : Int) < x := by omega
    simp [prevOf, h2]
  · have h2 : ((k : Int) == 0) = false := by simp [h0]
    have h3 : ((k : Int) - 1).toNat = k - 1 := by omega
    rw [h2, h3, prevOf, if_neg h0]; rfl
end Go.Proofs.YtppfniekcgnmjaaGreatDoor.Ln
