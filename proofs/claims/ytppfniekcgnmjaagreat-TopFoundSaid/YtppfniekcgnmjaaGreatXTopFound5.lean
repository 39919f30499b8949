/- Texts of ours, joined: 16 of them. Conditions: none. -/
import Derived.Test.YtppfniekcgnmjaaGreatXTopFound4
import Derived.Test.YtppfniekcgnmjaaGreatProg
import Derived.Laws.StructEq
namespace Go.Proofs.YtppfniekcgnmjaaGreat.Ce
open Go.Sx Go.RowKit Um
set_option maxRecDepth 20000
theorem k_miss (st co lo : Int) (As Ac : Option Addr) (cs cc : Nat) (sa ls : Int) (Aa Al : Option Addr) (ca cl : Nat) (w : World) (hs : Rd w 1 enInt As ([st] : List Int)) (hst : 1 ≤ st ∧ st ≤ 8) (ha : Rd w 1 enInt Aa ([sa] : List Int)) (hl : Rd w 1 enInt Al ([ls] : List Int)) (hsa : 0 ≤ sa ∧ sa ≤ st) (hls : 0 ≤ ls ∧ ls ≤ st) : Calls Tryz.prog 44 #[.agg (([.slice As ([st] : List Int).length cs, .slice Ac ([co] : List Int).length cc, .int .i64 lo, .int .i64 0] : List Value) ++ ivs chL).toArray, .slice Aa ([sa] : List Int).length ca, .slice Al ([ls] : List Int).length cl] w (fun e w' => e = .returned (.tuple #[.int .i64 (chN (st - ls).toNat sa.toNat), .int .i64 (chN st.toNat sa.toNat)]) ∧ Grow w w') := by
  have hb1 := chL_bd (st - ls).toNat sa.toNat
  have hb2 := chL_bd st.toNat sa.toNat
  refine enter_pure (args := [.agg (([.slice As ([st] : List Int).length cs, .slice Ac ([co] : List Int).length cc, .int .i64 lo, .int .i64 0] : List Value) ++ ivs chL).toArray, .slice Aa ([sa] : List Int).length ca, .slice Al ([ls] : List Int).length cl]) [sl (fun b => b < w.heap.size) 1 enInt As ([st] : List Int), sl (fun b => b < w.heap.size) 1 enInt Aa ([sa] : List Int), sl (fun b => b < w.heap.size) 1 enInt Al ([ls] : List Int)] Tryz.func44 rfl (by rw [Tryz.ntmps44]; simp) (fun g hg => by simp at hg; rcases hg with rfl | rfl | rfl; exact ⟨hs, fun _ h => h⟩; exact ⟨ha, fun _ h => h⟩; exact ⟨hl, fun _ h => h⟩) ?_
  refine cj_seq (cj_region ?_)
  refine oj_box rfl rfl rfl (fun b3 => ?_)
  refine oj_step (y_assign rfl) rfl rfl rfl ?_
  refine oj_step (y_assign rfl) rfl rfl rfl ?_
  refine oj_nil ?_
  refine ej_th (cj_seq ?_)
  refine cj_regionG (gj_step (y_assign rfl) rfl rfl rfl (gj_step (y_assign rfl) rfl rfl rfl (gj_nil ?_)))
  refine ej_th (cj_seq (cj_seq ?_))
  refine cj_regionG (gj_step (y_fa0 fa99_0 rfl) rfl rfl rfl (gj_step (y_fa0 fa49_0 rfl) rfl rfl rfl (gj_step (y_load1 Tryz.isAgg23 rfl rfl) rfl rfl rfl (gj_step (y_lenA Tryz.underlying23 rfl) rfl rfl rfl (gj_step (y_move rfl) rfl rfl rfl (gj_nil ?_))))))
  refine ej_th (cj_block ?_)
  refine cj_lpic (X := Nat × Int × Int) [(1, _), (2, _), (3, _), (12, _), (13, _)] (fun ⟨k, u, v⟩ => (k = 0 ∧ u = 1 ∧ v = 1) ∨ (k = 1 ∧ u = (chN (st - ls).toNat sa.toNat) ∧ v = (chN st.toNat sa.toNat))) (fun ⟨k, u, v⟩ => [(14, .int .i64 (k : Nat)), (6, .int .i64 u), (7, .int .i64 v)]) (fun ⟨k, u, v⟩ => 1 - k) (0, 1, 1) (.inl ⟨rfl, rfl, rfl⟩) ⟨rfl, rfl, rfl, rfl, rfl, rfl, rfl, rfl, trivial⟩ ?_
  rintro ⟨k, u, v⟩ hku
  dsimp only [List.cons_append, List.nil_append]
  have huv : k = 0 → u = 1 ∧ v = 1 := fun h => by rcases hku with h2 | h2; exact h2.2; omega
  refine cj_seq ?_
  refine cj_regionG (gj_step (y_lss rfl rfl) rfl rfl rfl (gj_nil ?_))
  refine ej_th (cj_seq ?_)
  refine cj_cond rfl (fun h15 => ?_) (fun h15 => ?_)
  · have h15b := h15
    try simp only [sxb] at h15
    obtain ⟨x, hx⟩ : ∃ x, ([st] : List Int)[k]? = some x := ⟨_, List.getElem?_eq_getElem (by omega)⟩
    obtain ⟨hk0, hxe⟩ : k = 0 ∧ x = st := by
      have h9 := (List.getElem?_eq_some_iff.1 hx).1
      simp only [List.length_cons, List.length_nil] at h9
      have h8 : k = 0 := by omega
      subst h8
      simp only [List.getElem?_cons_zero, Option.some.injEq] at hx
      exact ⟨rfl, hx.symm⟩
    subst hk0
    have hxe2 := hxe.symm
    subst hxe2
    obtain ⟨rfl, rfl⟩ := huv rfl
    have ha0 : ([sa] : List Int)[((0 : Nat) : Int).toNat]? = some sa := rfl
    have hl0 : ([ls] : List Int)[((0 : Nat) : Int).toNat]? = some ls := rfl
    refine cj_skip (ej_th (cj_seq (cj_block (cj_seq ?_))))
    refine cj_regionG (gj_step (y_move rfl) rfl rfl rfl (gj_step (y_ixR (reads_sl) Tryz.underlying23 Tryz.sizeOf3 rfl rfl (⟨by omega, by omega⟩)) rfl rfl rfl (gj_step (y_ld0 (reads_sl) Tryz.isAgg3 rfl (hx) rfl) rfl rfl rfl (gj_step (y_assign rfl) rfl rfl rfl (gj_step (y_assign rfl) rfl rfl rfl (gj_nil ?_))))))
    refine ej_th (cj_seq ?_)
    refine cj_draw (by kernel_rfl) (by kernel_rfl) (gj_step (y_move rfl) rfl rfl rfl (gj_step (y_move rfl) rfl rfl rfl (gj_step (y_move rfl) rfl rfl rfl (gj_step (y_move rfl) rfl rfl rfl (gj_step (y_ixR (reads_sl) Tryz.underlying23 Tryz.sizeOf3 rfl rfl (⟨by omega, by omega⟩)) rfl rfl rfl (gj_step (y_ld0 (reads_sl) Tryz.isAgg3 rfl (hl0) rfl) rfl rfl rfl (gj_step (y_sub rfl rfl (by omega)) rfl rfl rfl (gj_step (y_move rfl) rfl rfl rfl (gj_step (y_move rfl) rfl rfl rfl (gj_step (y_ixR (reads_sl) Tryz.underlying23 Tryz.sizeOf3 rfl rfl (⟨by omega, by omega⟩)) rfl rfl rfl (gj_step (y_ld0 (reads_sl) Tryz.isAgg3 rfl (ha0) rfl) rfl rfl rfl (gj_step (y_fa fa99_1 rfl) rfl rfl rfl (gj_step (y_ixArr Tryz.underlying97 Tryz.sizeOf95 rfl rfl (⟨by omega, by omega⟩)) rfl rfl rfl (gj_step (y_ixArr Tryz.underlying95 Tryz.sizeOf3 rfl rfl (⟨by omega, by omega⟩)) rfl rfl rfl (gj_step (y_load1 Tryz.isAgg3 rfl (ch_at _ _ _ _ (st - ls) sa (p := (st - ls).toNat) (q := sa.toNat) (by omega) (by omega) (by omega) (by omega))) rfl rfl rfl (gj_step (y_mul rfl rfl (by omega)) rfl rfl rfl (gj_step (y_assign rfl) rfl rfl rfl (gj_nil ?_))))))))))))))))))
    refine ej_th ?_
    refine cj_draw (by kernel_rfl) (by kernel_rfl) (gj_step (y_move rfl) rfl rfl rfl (gj_step (y_move rfl) rfl rfl rfl (gj_step (y_move rfl) rfl rfl rfl (gj_step (y_move rfl) rfl rfl rfl (gj_step (y_ixR (reads_sl) Tryz.underlying23 Tryz.sizeOf3 rfl rfl (⟨by omega, by omega⟩)) rfl rfl rfl (gj_step (y_ld0 (reads_sl) Tryz.isAgg3 rfl (ha0) rfl) rfl rfl rfl (gj_step (y_fa fa99_1 rfl) rfl rfl rfl (gj_step (y_ixArr Tryz.underlying97 Tryz.sizeOf95 rfl rfl (⟨by omega, by omega⟩)) rfl rfl rfl (gj_step (y_ixArr Tryz.underlying95 Tryz.sizeOf3 rfl rfl (⟨by omega, by omega⟩)) rfl rfl rfl (gj_step (y_load1 Tryz.isAgg3 rfl (ch_at _ _ _ _ st sa (p := st.toNat) (q := sa.toNat) (by omega) (by omega) (by omega) (by omega))) rfl rfl rfl (gj_step (y_mul rfl rfl (by omega)) rfl rfl rfl (gj_step (y_assign rfl) rfl rfl rfl (gj_nil ?_)))))))))))))
    refine ej_blk (ej_th ?_)
    refine cj_regionG (gj_step (y_add rfl rfl (by omega)) rfl rfl rfl (gj_step (y_move rfl) rfl rfl rfl (gj_nil ?_)))
    exact ej_nx (1, _, _) (by simp only; omega) (.inr ⟨rfl, by simp only; omega, by simp only; omega⟩) ⟨rfl, rfl, rfl, rfl, rfl, rfl, rfl, rfl, trivial⟩
  · have h15b := h15
    try simp only [sxb] at h15
    refine cj_exit (ej_then_exit (ej_then_exit (ej_blk_hit (ej_th (cj_seq ?_)))))
    refine cj_regionG (gj_step (y_move rfl) rfl rfl rfl (gj_step (y_move rfl) rfl rfl rfl (gj_step (y_assign rfl) rfl rfl rfl (gj_step (y_assign rfl) rfl rfl rfl (gj_nil ?_)))))
    refine ej_th (cj_ret ?_)
    refine ej_ret2 rfl Tryz.results44 rfl rfl (fun w' hp => ⟨?_, hp.below⟩)
    obtain ⟨e1, e2⟩ : u = (chN (st - ls).toNat sa.toNat) ∧ v = (chN st.toNat sa.toNat) := by
      simp only [List.length_cons, List.length_nil] at *
      omega
    rw [e1, e2]

theorem k_Miss (st co lo : Int) (As Ac : Option Addr) (cs cc : Nat) (sa ls : Int) (Aa Al : Option Addr) (ca cl : Nat) (w : World) (hs : Rd w 1 enInt As ([st] : List Int)) (hc : Rd w 1 enInt Ac ([co] : List Int)) (hst : 1 ≤ st ∧ st ≤ 8) (hco : 0 ≤ co ∧ co ≤ 1000) (hlo : 1 ≤ lo ∧ lo ≤ st) (ha : Rd w 1 enInt Aa ([sa] : List Int)) (hl : Rd w 1 enInt Al ([ls] : List Int)) (hsa : 0 ≤ sa ∧ sa ≤ st) (hls : 0 ≤ ls ∧ ls ≤ st) : Calls Tryz.prog 14 #[.agg #[.slice As ([st] : List Int).length cs, .slice Ac ([co] : List Int).length cc, .int .i64 lo, .int .i64 0], .slice Aa ([sa] : List Int).length ca, .slice Al ([ls] : List Int).length cl] w (fun e w' => e = .returned (.tuple #[.int .i64 (chN (st - ls).toNat sa.toNat), .int .i64 (chN st.toNat sa.toNat), .int .i64 0]) ∧ Grow w w') := by
  haveI hT85 : Tk 85 0 (([.slice As ([st] : List Int).length cs, .slice Ac ([co] : List Int).length cc, .int .i64 lo, .int .i64 0] : List Value) ++ ivs chL) (([.slice As ([st] : List Int).length cs, .slice Ac ([co] : List Int).length cc, .int .i64 lo, .int .i64 0] : List Value) ++ ivs chL) := tk_all _ (by simp only [ivs, List.length_append, List.length_map, chL_len, List.length_cons, List.length_nil])
  haveI hS85 : SetC 0 (([.slice As ([st] : List Int).length cs, .slice Ac ([co] : List Int).length cc, .int .i64 lo, .int .i64 0] : List Value) ++ ivs chL) z85 (([.slice As ([st] : List Int).length cs, .slice Ac ([co] : List Int).length cc, .int .i64 lo, .int .i64 0] : List Value) ++ ivs chL) := setc_all _ _ (by simp only [ivs, List.length_append, List.length_map, chL_len, List.length_cons, List.length_nil])
  refine enter_pure (args := [.agg #[.slice As ([st] : List Int).length cs, .slice Ac ([co] : List Int).length cc, .int .i64 lo, .int .i64 0], .slice Aa ([sa] : List Int).length ca, .slice Al ([ls] : List Int).length cl]) [sl (fun b => b < w.heap.size) 1 enInt As ([st] : List Int), sl (fun b => b < w.heap.size) 1 enInt Ac ([co] : List Int), sl (fun b => b < w.heap.size) 1 enInt Aa ([sa] : List Int), sl (fun b => b < w.heap.size) 1 enInt Al ([ls] : List Int)] Tryz.func14 rfl (by rw [Tryz.ntmps14]; simp) (fun g hg => by simp at hg; rcases hg with rfl | rfl | rfl | rfl; exact ⟨hs, fun _ h => h⟩; exact ⟨hc, fun _ h => h⟩; exact ⟨ha, fun _ h => h⟩; exact ⟨hl, fun _ h => h⟩) ?_
  refine cj_seq (cj_region ?_)
  refine oj_box rfl rfl rfl (fun b3 => ?_)
  refine oj_step (y_assign rfl) rfl rfl rfl ?_
  refine oj_step (y_assign rfl) rfl rfl rfl ?_
  refine oj_step (y_assign rfl) rfl rfl rfl ?_
  refine oj_nil ?_
  refine ej_th (cj_seq (cj_region ?_))
  refine oj_step (y_loadN Tryz.isAgg49 Tryz.sizeOf49 rfl) rfl rfl rfl ?_
  refine oj_step (y_move rfl) rfl rfl rfl ?_
  refine oj_step (y_call Tryz.call42 rfl (fun w hp => k_asked st co lo As Ac cs cc sa Aa ca w hp.rd hp.rd hst hco hlo hp.rd hsa)) rfl rfl rfl ?_
  refine oj_step (y_move rfl) rfl rfl rfl ?_
  refine oj_step (y_extract rfl rfl) rfl rfl rfl ?_
  refine oj_step (y_extract rfl rfl) rfl rfl rfl ?_
  refine oj_alloc Tryz.zeroValue99 rfl rfl (fun b9 => ?_)
  refine oj_eqO (ownB b9 (cellsB 99 z85) :: _) rfl ?_
  refine oj_store rfl rfl rfl rfl Tryz.sizeOf99 rfl ?_
  refine oj_step (y_assign rfl) rfl rfl rfl ?_
  refine oj_nil ?_
  refine ej_th (cj_seq (cj_seq ?_))
  refine cj_regionG (gj_step (y_move rfl) rfl rfl rfl (gj_step (y_neq rfl rfl) rfl rfl rfl (gj_nil ?_)))
  refine ej_th ?_
  refine cj_cond rfl (fun h17 => ?_) (fun h17 => ?_)
  · exact absurd h17 (by decide)
  · have h17b := h17
    try simp only [sxb] at h17
    refine cj_skip (ej_th (cj_seq (cj_seq ?_)))
    refine cj_regionG ?_
    refine gj_step (y_loadN Tryz.isAgg99 Tryz.sizeOf99 rfl) rfl rfl rfl (gj_step (y_move rfl) rfl rfl rfl (?_))
    refine gj_step (y_call Tryz.call43 rfl (fun w hp => k_lists st co lo As Ac cs cc ls Al cl w hp.rd hp.rd hls)) rfl rfl rfl ?_
    refine gj_step (y_not rfl) rfl rfl rfl (?_)
    refine gj_nil ?_
    refine ej_th ?_
    refine cj_cond rfl (fun h22 => ?_) (fun h22 => ?_)
    · exact absurd h22 (by decide)
    · have h22b := h22
      try simp only [sxb] at h22
      refine cj_skip (ej_th (cj_seq ?_))
      refine cj_regionG ?_
      refine gj_step (y_loadN Tryz.isAgg99 Tryz.sizeOf99 rfl) rfl rfl rfl (gj_step (y_move rfl) rfl rfl rfl (gj_step (y_move rfl) rfl rfl rfl (?_)))
      refine gj_step (y_call Tryz.call44 rfl (fun w hp => k_miss st co lo As Ac cs cc sa ls Aa Al ca cl w hp.rd hst hp.rd hp.rd hsa hls)) rfl rfl rfl ?_
      refine gj_step (y_move rfl) rfl rfl rfl (gj_step (y_extract rfl rfl) rfl rfl rfl (gj_step (y_extract rfl rfl) rfl rfl rfl (gj_step (y_assign rfl) rfl rfl rfl (gj_step (y_assign rfl) rfl rfl rfl (?_)))))
      refine gj_nil ?_
      refine ej_th (cj_seq ?_)
      refine cj_regionG (gj_step (y_move rfl) rfl rfl rfl (gj_step (y_move rfl) rfl rfl rfl (gj_step (y_assign rfl) rfl rfl rfl (gj_step (y_assign rfl) rfl rfl rfl (gj_step (y_assign rfl) rfl rfl rfl (gj_nil ?_))))))
      refine ej_th (cj_ret ?_)
      refine ej_ret3 rfl Tryz.results14 rfl rfl rfl (fun w' hp => ⟨?_, hp.below⟩)
      rfl

end Go.Proofs.YtppfniekcgnmjaaGreat.Ce
namespace Go.Proofs.YtppfniekcgnmjaaGreat.Ce
open Go.Sx Go.RowKit Um
set_option maxRecDepth 20000
theorem bits5 (n : Nat) (a b c d e : Int) : Instr.sameBits (n + 1) (.agg #[.int .i64 a, .int .i64 b, .int .i64 c, .int .i64 d, .int .i64 e]) (.agg #[.int .i64 a, .int .i64 b, .int .i64 c, .int .i64 d, .int .i64 e]) = true := by simp [Instr.sameBits]
theorem check5 (q : Bool) (n : Nat) (a b c d e : Int) (w : World) : (Instr.checkKey q (n + 2) 146 (.agg #[.int .i64 a, .int .i64 b, .int .i64 c, .int .i64 d, .int .i64 e])).run Tryz.prog w = .ok () w := by
  simp [Instr.checkKey, go_sem, Tryz.underlying146, Tryz.underlying3, Tryz.sizeOf3, Tryz.isAgg3, show List.range' 0 5 = [0, 1, 2, 3, 4] from rfl]
set_option maxHeartbeats 2000000 in
theorem equal5 (n : Nat) (a b c d e a' b' c' d' e' : Int) (w : World) : (Op.equalIn (n + 2) 146 (.agg #[.int .i64 a, .int .i64 b, .int .i64 c, .int .i64 d, .int .i64 e]) (.agg #[.int .i64 a', .int .i64 b', .int .i64 c', .int .i64 d', .int .i64 e'])).run Tryz.prog w = .ok ((a == a') && (b == b') && (c == c') && (d == d') && (e == e')) w := by
  simp [Op.equalIn, go_sem, Tryz.underlying146, Tryz.underlying3, Tryz.sizeOf3, Tryz.isAgg3, show List.range' 0 5 = [0, 1, 2, 3, 4] from rfl]
  try ((repeat' split) <;> simp_all)
theorem v5_at (k : V5) : ∃ a b c d e : Int, k.1 = [a, b, c, d, e] := by
  obtain ⟨l, h⟩ := k
  match l, h with
  | [a, b, c, d, e], _ => exact ⟨a, b, c, d, e, rfl⟩
theorem kaV : KeyA Tryz.prog 146 (.array 5 3) ekV where
  und := Tryz.underlying146
  now := fun _ _ => rfl
  eq := fun x y w => by
    obtain ⟨a, b, c, d, e, hx⟩ := v5_at x
    obtain ⟨a', b', c', d', e', hy⟩ := v5_at y
    have h : decide (y = x) = ((a == a') && (b == b') && (c == c') && (d == d') && (e == e')) := by
      rw [Bool.eq_iff_iff, decide_eq_true_eq, Subtype.ext_iff, hx, hy]
      simp only [List.cons.injEq, and_true, Bool.and_eq_true, beq_iff_eq]
      constructor
      · rintro ⟨h1, h2, h3, h4, h5⟩; exact ⟨⟨⟨⟨h1.symm, h2.symm⟩, h3.symm⟩, h4.symm⟩, h5.symm⟩
      · rintro ⟨⟨⟨⟨h1, h2⟩, h3⟩, h4⟩, h5⟩; exact ⟨h1.symm, h2.symm, h3.symm, h4.symm, h5.symm⟩
    rw [h]
    show (Op.equalIn 10000 146 (.agg (ivs x.1).toArray) (.agg (ivs y.1).toArray)).run Tryz.prog w = _
    rw [hx, hy]
    exact equal5 9998 _ _ _ _ _ _ _ _ _ _ w
  bits := fun x => by
    obtain ⟨a, b, c, d, e, hx⟩ := v5_at x
    show Instr.sameBits 10000 (.agg (ivs x.1).toArray) (.agg (ivs x.1).toArray) = true
    rw [hx]; exact bits5 9999 _ _ _ _ _
  check := fun q w x => by
    obtain ⟨a, b, c, d, e, hx⟩ := v5_at x
    show (Instr.checkKey q 10000 146 (.agg (ivs x.1).toArray)).run Tryz.prog w = _
    rw [hx]; exact check5 q 9998 _ _ _ _ _ w

end Go.Proofs.YtppfniekcgnmjaaGreat.Ce
namespace Go.Proofs.YtppfniekcgnmjaaGreat.Ce
open Go.Sx Go.RowKit
set_option maxRecDepth 20000
theorem fa140_0 : FieldIs Tryz.prog 140 0 0 1 false := ⟨⟨_, _, Tryz.underlying140, rfl, rfl, Tryz.sizeOf23, Tryz.isAgg23, by decide⟩⟩
theorem st140 : StructIs Tryz.prog 140 [(0, 1)] [.slice none 0 0] := ⟨⟨_, Tryz.underlying140, fun w => by simp [Tryz.sizeOf23], Tryz.zeroValue140⟩⟩
end Go.Proofs.YtppfniekcgnmjaaGreat.Ce
namespace Go.Proofs.YtppfniekcgnmjaaGreat.Ce
open Go.Sx Go.RowKit Um
set_option maxRecDepth 20000
theorem k_to1 (n : Int) (w : World)  : Calls Tryz.prog 99 #[.int .i64 n] w (fun e w' => e = .returned (.bool (!(btw 1 n 8))) ∧ Grow w w') := by
  refine enter_pure (args := [.int .i64 n]) [] Tryz.func99 rfl (by rw [Tryz.ntmps99]; simp) (by simp) ?_
  refine cj_seq ?_
  refine cj_regionG (gj_step (y_assign rfl) rfl rfl rfl (gj_nil ?_))
  refine ej_th (cj_seq ?_)
  refine cj_regionG ?_
  refine gj_step (y_move rfl) rfl rfl rfl (?_)
  refine gj_step (y_call Tryz.call71 rfl (fun w hp => k_within _ _ _ w)) rfl rfl rfl ?_
  refine gj_step (y_not rfl) rfl rfl rfl (gj_step (y_assign rfl) rfl rfl rfl (?_))
  refine gj_nil ?_
  refine ej_th (cj_ret ?_)
  exact ej_ret1 rfl Tryz.results99 rfl (fun w' hp => ⟨rfl, hp.below⟩)

theorem k_turnerOf (ps : List Int) (A : Option Addr) (c : Nat) (w : World) (hl : Rd w 1 enInt A ps) (hok : turB ps = true) : Calls Tryz.prog 70 #[.slice A ps.length c] w (fun e w' => e = .returned (.tuple #[.agg #[.slice A ps.length c], .int .i64 0]) ∧ Grow w w') := by
  refine enter_pure (args := [.slice A ps.length c]) [sl (fun b => b < w.heap.size) 1 enInt A ps] Tryz.func70 rfl (by rw [Tryz.ntmps70]; simp) (fun g hg => by simp at hg; subst hg; exact ⟨hl, fun _ h => h⟩) ?_
  refine cj_seq (cj_region ?_)
  refine oj_alloc Tryz.zeroValue140 rfl rfl (fun b2 => ?_)
  refine oj_step (y_assign rfl) rfl rfl rfl ?_
  refine oj_nil ?_
  refine ej_th (cj_seq (cj_seq ?_))
  refine cj_regionG ?_
  refine gj_step (y_move rfl) rfl rfl rfl (gj_step (y_lenA Tryz.underlying23 rfl) rfl rfl rfl (?_))
  refine gj_step (y_call Tryz.call71 rfl (fun w hp => k_within _ _ _ w)) rfl rfl rfl ?_
  refine gj_step (y_not rfl) rfl rfl rfl (gj_step (y_move rfl) rfl rfl rfl (?_))
  refine gj_g 2 8 10 rfl rfl rfl rfl (fun hg8 => gj_yes rfl rfl rfl (y_move rfl) rfl rfl (gj_yes rfl rfl rfl (y_call Tryz.call76 rfl (fun w hp => Pu.k_ContI ps A c 99 #[] #[] (fun n => !(btw 1 n 8)) w hp.rd Tryz.call99 (fun x hx w1 hg => k_to1 x w1))) rfl rfl (gj_nil rfl))) ?_
  refine gj_step (y_or rfl rfl rfl) rfl rfl rfl (?_)
  refine gj_nil ?_
  refine ej_th ?_
  refine cj_cond rfl (fun h11 => ?_) (fun h11 => ?_)
  · exfalso
    unfold turB at hok
    rw [any_not] at h11
    revert h11 hok
    cases btw 1 ps.length 5 <;> cases (ps.all fun n => btw 1 n 8) <;> simp
  · have h11b := h11
    try simp only [sxb] at h11
    refine cj_skip (ej_th (cj_seq (cj_region ?_)))
    refine oj_step (y_move rfl) rfl rfl rfl ?_
    refine oj_step (y_build (cs := [.slice A ps.length c]) st140 rfl (by kernel_rfl)) rfl rfl rfl ?_
    refine oj_store rfl rfl rfl rfl Tryz.sizeOf140 rfl ?_
    refine oj_step (y_assign rfl) rfl rfl rfl ?_
    refine oj_nil ?_
    refine ej_th (cj_ret ?_)
    exact ej_retC2 rfl Tryz.results70 rfl (y_loadN Tryz.isAgg140 Tryz.sizeOf140 rfl) rfl (fun w' hp => ⟨rfl, hp.below⟩)

theorem k_after (ps : List Int) (A : Option Addr) (c : Nat) (a : V5) (r : Int) (w : World) (hl : Rd w 1 enInt A ps) (h5 : ps.length ≤ 5) (hab : ∀ i, 0 ≤ a.1.getD i 0 ∧ a.1.getD i 0 ≤ 1000) : Calls Tryz.prog 73 #[.agg #[.slice A ps.length c], .agg (ivs a.1).toArray, .int .i64 r] w (fun e w' => e = .returned (.tuple #[.agg (ivs (aftV ps a r).1).toArray, .bool (aftB ps a r)]) ∧ Grow w w') := by
  have ha5 := a.2
  refine enter_pure (args := [.agg #[.slice A ps.length c], .agg (ivs a.1).toArray, .int .i64 r]) [sl (fun b => b < w.heap.size) 1 enInt A ps] Tryz.func73 rfl (by rw [Tryz.ntmps73]; simp) (fun g hg => by simp at hg; subst hg; exact ⟨hl, fun _ h => h⟩) ?_
  refine cj_seq (cj_region ?_)
  refine oj_box rfl rfl rfl (fun b3 => ?_)
  refine oj_box rfl rfl rfl (fun b4 => ?_)
  refine oj_alloc Tryz.zeroValue146 rfl rfl (fun b6 => ?_)
  refine oj_step (y_assign rfl) rfl rfl rfl ?_
  refine oj_nil ?_
  refine ej_th (cj_seq (cj_seq ?_))
  refine cj_eqO [ownB b6 (cellsB 146 (ivs z5.1)), ownB b4 (cellsB 146 (ivs a.1)), ownB b3 (cellsB 140 [.slice A ps.length c])] rfl ?_
  refine cj_regionG (gj_step (y_fa0 fa140_0 rfl) rfl rfl rfl (gj_step (y_load1 Tryz.isAgg23 rfl rfl) rfl rfl rfl (gj_step (y_lenA Tryz.underlying23 rfl) rfl rfl rfl (gj_step (y_move rfl) rfl rfl rfl (gj_nil ?_)))))
  refine ej_th (cj_block ?_)
  refine cj_lpi (X := Nat × List Int) [(2, _), (4, _), (6, _), (11, _), (12, _)] (fun ⟨k, x⟩ => k ≤ ps.length ∧ x.length = 5 ∧ (∀ j, k ≤ j → x.getD j 0 = a.1.getD j 0) ∧ aftF r (ps.drop k) k x = aftF r ps 0 a.1) (fun ⟨k, x⟩ => [(13, .int .i64 (k : Nat))]) (fun ⟨k, x⟩ => [ownB b6 (cellsB 146 (ivs z5.1)), ownB b4 (cellsB 146 (ivs x)), ownB b3 (cellsB 140 [.slice A ps.length c])]) (fun ⟨k, x⟩ => [sl (fun b => b < w.heap.size) 1 enInt A ps]) (fun ⟨k, x⟩ => ps.length - k) (0, a.1) (⟨Nat.zero_le _, a.2, fun _ _ => rfl, rfl⟩) ⟨rfl, rfl, rfl, rfl, rfl, rfl, trivial⟩ ?_
  rintro ⟨k, x⟩ ⟨hk, hx5, hbe, hsk⟩
  dsimp only [List.cons_append, List.nil_append]
  refine cj_seq ?_
  refine cj_regionG (gj_step (y_lss rfl rfl) rfl rfl rfl (gj_nil ?_))
  refine ej_th (cj_seq ?_)
  refine cj_cond rfl (fun h14 => ?_) (fun h14 => ?_)
  · have h14b := h14
    try simp only [sxb] at h14
    obtain ⟨p, hx⟩ : ∃ p, ps[k]? = some p := ⟨_, List.getElem?_eq_getElem (by omega)⟩
    rw [aftF_drop x hx] at hsk
    have hxk := hbe k (Nat.le_refl k)
    have hak := hab k
    refine cj_skip (ej_th (cj_seq (cj_block (cj_seq ?_))))
    refine cj_regionG (gj_step (y_move rfl) rfl rfl rfl (gj_step (y_ixR (reads_sl) Tryz.underlying23 Tryz.sizeOf3 rfl rfl (⟨by omega, by omega⟩)) rfl rfl rfl (gj_step (y_ld0 (reads_sl) Tryz.isAgg3 rfl (hx) rfl) rfl rfl rfl (gj_step (y_assign rfl) rfl rfl rfl (gj_step (y_assign rfl) rfl rfl rfl (gj_nil ?_))))))
    refine ej_th (cj_seq (cj_region ?_))
    refine oj_step (y_move rfl) rfl rfl rfl ?_
    refine oj_step (y_ixArr Tryz.underlying146 Tryz.sizeOf3 rfl rfl (⟨by omega, by omega⟩)) rfl rfl rfl ?_
    refine oj_step (y_load1 Tryz.isAgg3 rfl (ivsA_get (by omega))) rfl rfl rfl ?_
    refine oj_step (y_add rfl rfl (by omega)) rfl rfl rfl ?_
    refine oj_step (y_ixArr Tryz.underlying146 Tryz.sizeOf3 rfl rfl (⟨by omega, by omega⟩)) rfl rfl rfl ?_
    refine oj_storeK rfl rfl rfl rfl Tryz.sizeOf3 (by simp only [ivs, List.length_map, List.length_set]; omega) ?_
    rw [ivsA_set]
    refine oj_nil ?_
    refine ej_th ?_
    refine cj_cuti (X := Unit) [(13, _), (2, _), (4, _), (6, _), (11, _), (12, _), (8, _), (9, _)] ⟨rfl, rfl, rfl, rfl, rfl, rfl, rfl, rfl, trivial⟩ (fun _ => True) (fun _ => []) (fun _ => [ownB b6 (cellsB 146 (ivs z5.1)), ownB b4 (cellsB 146 (ivs (agedL r k x))), ownB b3 (cellsB 140 [.slice A ps.length c])]) (fun _ => [sl (fun b => b < w.heap.size) 1 enInt A ps]) ?_ ?_
    · refine cj_seq ?_
      refine cj_regionG (gj_step (y_move rfl) rfl rfl rfl (gj_step (y_move rfl) rfl rfl rfl (gj_step (y_eql rfl rfl) rfl rfl rfl (gj_nil ?_))))
      refine ej_th ?_
      refine cj_cond rfl (fun h25 => ?_) (fun h25 => ?_)
      · have h25b := h25
        try simp only [sxb] at h25
        have hag : agedL r k x = (x.set k (x.getD k 0 + 1)).set k 0 := if_pos h25
        refine cj_region ?_
        refine oj_step (y_move rfl) rfl rfl rfl ?_
        refine oj_step (y_ixArr Tryz.underlying146 Tryz.sizeOf3 rfl rfl (⟨by omega, by omega⟩)) rfl rfl rfl ?_
        refine oj_storeK rfl rfl rfl rfl Tryz.sizeOf3 (by simp only [ivs, List.length_map, List.length_set]; omega) ?_
        rw [ivsA_set]
        refine oj_nil ?_
        rw [← hag]
        exact ej_ct () trivial ⟨rfl, rfl, rfl, rfl, rfl, rfl, rfl, rfl, trivial⟩
      · have h25b := h25
        try simp only [sxb] at h25
        have hag : agedL r k x = x.set k (x.getD k 0 + 1) := if_neg h25
        refine cj_skip ?_
        rw [← hag]
        exact ej_ct () trivial ⟨rfl, rfl, rfl, rfl, rfl, rfl, rfl, rfl, trivial⟩
    · rintro ⟨⟩ -
      dsimp only [List.cons_append, List.nil_append]
      have hl5 : (agedL r k x).length = 5 := by rw [agedL_len]; exact hx5
      refine cj_seq ?_
      refine cj_regionG (gj_step (y_move rfl) rfl rfl rfl (gj_step (y_ixArr Tryz.underlying146 Tryz.sizeOf3 rfl rfl (⟨by omega, by omega⟩)) rfl rfl rfl (gj_step (y_load1 Tryz.isAgg3 rfl (ivsA_get (x := agedL r k x) (by omega))) rfl rfl rfl (gj_step (y_move rfl) rfl rfl rfl (gj_step (y_geq rfl rfl) rfl rfl rfl (gj_nil ?_))))))
      refine ej_th ?_
      refine cj_cond rfl (fun h32 => ?_) (fun h32 => ?_)
      · have h32b := h32
        try simp only [sxb] at h32
        have hrr : aftF r ps 0 a.1 = (agedL r k x, false) := by rw [← hsk, if_pos (by omega)]
        obtain ⟨y5, hy5⟩ : ∃ y5 : V5, y5.1 = agedL r k x := ⟨⟨_, hl5⟩, rfl⟩
        rw [← hy5]
        refine cj_seq (cj_region ?_)
        refine oj_step (y_loadN Tryz.isAgg146 Tryz.sizeOf146 rfl) rfl rfl rfl ?_
        refine oj_store (n := 5) rfl rfl rfl (ivs_one _) Tryz.sizeOf146 (enV_len y5) ?_
        refine oj_step (y_assign rfl) rfl rfl rfl ?_
        refine oj_nil ?_
        refine ej_th (cj_ret (ej_blk_ret (ej_then_ret (ej_then_ret (ej_blk_ret (ej_then_ret ?_))))))
        refine ej_retC2 rfl Tryz.results73 rfl (y_loadN Tryz.isAgg146 Tryz.sizeOf146 rfl) rfl (fun w' hp => ⟨?_, hp.below⟩)
        unfold aftV aftB; simp only [hrr, hy5]
      · have h32b := h32
        try simp only [sxb] at h32
        refine cj_skip (ej_blk (ej_th ?_))
        refine cj_regionG (gj_step (y_add rfl rfl (by omega)) rfl rfl rfl (gj_step (y_move rfl) rfl rfl rfl (gj_nil ?_)))
        rw [if_neg (by omega)] at hsk
        exact ej_nx (k + 1, agedL r k x) (by first | omega | (simp only; omega)) ⟨by first | omega | (simp only; omega), hl5, fun j hj => by rw [agedL_out (by omega)]; exact hbe j (by omega), hsk⟩ ⟨rfl, rfl, rfl, rfl, rfl, rfl, trivial⟩
  · have h14b := h14
    try simp only [sxb] at h14
    refine cj_exit (ej_then_exit (ej_then_exit (ej_blk_hit (ej_th (cj_seq ?_)))))
    have hrr : aftF r ps 0 a.1 = (x, true) := by rw [← hsk, List.drop_of_length_le (by omega)]; rfl
    obtain ⟨y5, hy5⟩ : ∃ y5 : V5, y5.1 = x := ⟨⟨_, hx5⟩, rfl⟩
    rw [← hy5]
    refine cj_region ?_
    refine oj_step (y_loadN Tryz.isAgg146 Tryz.sizeOf146 rfl) rfl rfl rfl ?_
    refine oj_store (n := 5) rfl rfl rfl (ivs_one _) Tryz.sizeOf146 (enV_len y5) ?_
    refine oj_step (y_assign rfl) rfl rfl rfl ?_
    refine oj_nil ?_
    refine ej_th (cj_ret ?_)
    refine ej_retC2 rfl Tryz.results73 rfl (y_loadN Tryz.isAgg146 Tryz.sizeOf146 rfl) rfl (fun w' hp => ⟨?_, hp.below⟩)
    unfold aftV aftB; simp only [hrr, hy5]

end Go.Proofs.YtppfniekcgnmjaaGreat.Ce
namespace Go.Proofs.YtppfniekcgnmjaaGreat.Ce
open Go.Sx Go.RowKit
set_option maxRecDepth 20000
theorem el199 : ElemIs Tryz.prog 199 146 5 40 := ⟨⟨_, (.agg #[.int .i64 0, .int .i64 0, .int .i64 0, .int .i64 0, .int .i64 0]), Tryz.underlying199, Tryz.type146, by kernel_rfl, by kernel_rfl, by kernel_rfl, by kernel_rfl, by decide⟩⟩
end Go.Proofs.YtppfniekcgnmjaaGreat.Ce
namespace Go.Proofs.YtppfniekcgnmjaaGreat.Ce
open Go.Sx Go.RowKit Um
set_option maxRecDepth 20000
set_option maxHeartbeats 4000000 in
theorem k_ever (ps : List Int) (A : Option Addr) (c : Nat) (f0 : Nat) (FQ : List V5) (FM : MapA) (FK : List (V5 × Int)) (w : World) (hl : Rd w 1 enInt A ps) (h5 : ps.length ≤ 5) (hrun : runQ ps f0 0 [z5] [] = some (FQ, FM)) (hbd : ∀ a ∈ FQ, ∀ i, 0 ≤ a.1.getD i 0 ∧ a.1.getD i 0 ≤ 1000) (hQ : FQ.length ≤ 1000) (hT : TabOk ps FM FK) : Calls Tryz.prog 72 #[.agg #[.slice A ps.length c]] w (fun e w' => ∃ x : { x : Nat × List (V5 × Int) // EvOk FM FK x.2 }, e = .returned (.map (some x.1.1)) ∧ Grow w w' ∧ (∀ g ∈ [mz ekV evN x.1.1 x.1.2], g.P w' ∧ ∀ b, g.fp b → w.heap.size ≤ b ∧ b < w'.heap.size) ∧ [mz ekV evN x.1.1 x.1.2].Pairwise (fun f g => ∀ b, f.fp b → ¬ g.fp b) ∧ (∀ g ∈ ([] : List Fact), g.P w' ∧ ∀ b, g.fp b → w.heap.size ≤ b ∧ b < w'.heap.size ∧ ∀ o ∈ [mz ekV evN x.1.1 x.1.2], ¬ o.fp b)) := by
  refine enter_pure (args := [.agg #[.slice A ps.length c]]) [sl (fun b => b < w.heap.size) 1 enInt A ps] Tryz.func72 rfl (by rw [Tryz.ntmps72]; simp) (fun g hg => by simp at hg; subst hg; exact ⟨hl, fun _ h => h⟩) ?_
  refine cj_seq (cj_region ?_)
  refine oj_box rfl rfl rfl (fun b1 => ?_)
  refine oj_step (y_assign rfl) rfl rfl rfl ?_
  refine oj_nil ?_
  refine ej_th (cj_seq (cj_region ?_))
  refine oj_makeMapZ ekV evS rfl (fun b27 => ?_)
  refine oj_step (y_assign rfl) rfl rfl rfl ?_
  refine oj_nil ?_
  refine ej_th (cj_seq (cj_region ?_))
  refine oj_step (y_buildA0 (cs := [.int .i64 0, .int .i64 0, .int .i64 0, .int .i64 0, .int .i64 0]) Tryz.underlying146 Tryz.sizeOf3 Tryz.zeroValue146 rfl) rfl rfl rfl ?_
  refine oj_buildSlice (cs := [.int .i64 0, .int .i64 0, .int .i64 0, .int .i64 0, .int .i64 0]) [.int .i64 0, .int .i64 0, .int .i64 0, .int .i64 0, .int .i64 0] Tryz.underlying199 Tryz.sizeOf146 Tryz.zeroValue146 rfl rfl (by kernel_rfl) (by kernel_rfl) rfl (fun b29 => ?_)
  refine oj_litOw (b := b29) (e := 146) (c := 1) (sz := 5) (enc := enV) [z5] rfl rfl rfl (by unfold maxLen; simp) ?_
  refine oj_step (y_assign rfl) rfl rfl rfl ?_
  refine oj_nil ?_
  refine ej_th (cj_seq (cj_seq ?_))
  refine cj_addS (rowsM (fun _ => False) []) (fun w hp => ⟨fun p hp => (by cases hp), fun b hb => hb.elim⟩) ?_
  refine cj_takes [mz ekV evS b27 ([]), ow 146 5 enV (some ⟨b29, 0, none⟩) 1 ([z5]), ownB b1 (cellsB 140 [.slice A ps.length c])] ?_
  refine cj_regionG (gj_step (y_assign rfl) rfl rfl rfl (gj_nil ?_))
  refine ej_th (cj_block ?_)
  refine cj_lpi (X := Nat × Nat × List V5 × Option Addr × Nat × List (V5 × SlV) × (Nat → Prop)) [(1, _), (2, _), (3, _)] (fun ⟨f, i, q, Aq, cq, m, fp⟩ => i ≤ q.length ∧ runQ ps f i q (absM m) = some (FQ, FM)) (fun ⟨f, i, q, Aq, cq, m, fp⟩ => [(5, .int .i64 (i : Nat)), (4, .slice Aq q.length cq)]) (fun ⟨f, i, q, Aq, cq, m, fp⟩ => [mz ekV evS b27 (m), ow 146 5 enV Aq cq (q), ownB b1 (cellsB 140 [.slice A ps.length c])]) (fun ⟨f, i, q, Aq, cq, m, fp⟩ => [rowsM fp m, sl (fun b => b < w.heap.size) 1 enInt A ps]) (fun ⟨f, i, q, Aq, cq, m, fp⟩ => f) (f0, 0, [z5], some ⟨b29, 0, none⟩, 1, [], fun _ => False) (⟨Nat.zero_le _, hrun⟩) ⟨rfl, rfl, rfl, rfl, rfl, trivial⟩ ?_
  rintro ⟨f, i, q, Aq, cq, m, fp⟩ ⟨hi, hrq⟩
  dsimp only [List.cons_append, List.nil_append]
  refine cj_seq (cj_seq ?_)
  refine cj_regionG (gj_step (y_move rfl) rfl rfl rfl (gj_step (y_move rfl) rfl rfl rfl (gj_step (y_lenA Tryz.underlying199 rfl) rfl rfl rfl (gj_step (y_lss rfl rfl) rfl rfl rfl (gj_nil ?_)))))
  refine ej_th ?_
  refine cj_cond rfl (fun h33 => ?_) (fun h33 => ?_)
  · have h33b := h33
    try simp only [sxb] at h33
    obtain ⟨a, ha⟩ : ∃ a, q[i]? = some a := ⟨_, List.getElem?_eq_getElem (by omega)⟩
    obtain ⟨f1, rfl⟩ := runQ_pos hrq
    have hab := hbd a ((runQ_mem hrq).1 a (List.mem_of_getElem? ha))
    have hql := (runQ_mem hrq).2
    rw [runQ_at ha, getL_abs, Option.isSome_map] at hrq
    refine cj_skip (ej_th (cj_seq (cj_block (cj_seq (cj_region ?_)))))
    refine oj_step (y_move rfl) rfl rfl rfl ?_
    refine oj_step (y_move rfl) rfl rfl rfl ?_
    refine oj_step (y_ixR (reads_ow enV_len) Tryz.underlying199 Tryz.sizeOf146 rfl rfl (⟨by omega, by omega⟩)) rfl rfl rfl ?_
    refine oj_step (y_ldW (reads_ow enV_len) Tryz.isAgg146 Tryz.sizeOf146 rfl (ha) enV_len) rfl rfl rfl ?_
    refine oj_alloc Tryz.zeroValue146 rfl rfl (fun b6 => ?_)
    refine oj_store (n := 5) rfl rfl rfl (ivs_one _) Tryz.sizeOf146 (enV_len a) ?_
    refine oj_nil ?_
    refine ej_th (cj_seq (cj_seq ?_))
    refine cj_regionG (gj_step (y_move rfl) rfl rfl rfl (gj_step (y_loadN Tryz.isAgg146 Tryz.sizeOf146 rfl) rfl rfl rfl (gj_step (y_lookupZA (ek := ekV) (ev := evS) (kk := a) ⟨none, 0, []⟩ kaV Tryz.underlying198 Tryz.zeroValue199 rfl rfl) rfl rfl rfl (gj_step (y_move rfl) rfl rfl rfl (gj_step (y_extract rfl rfl) rfl rfl rfl (gj_step (y_extract rfl rfl) rfl rfl rfl (gj_step (y_assign rfl) rfl rfl rfl (gj_step (y_assign rfl) rfl rfl rfl (gj_nil ?_)))))))))
    refine ej_th (cj_seq ?_)
    refine cj_regionG (gj_step (y_move rfl) rfl rfl rfl (gj_nil ?_))
    refine ej_th ?_
    refine cj_cond rfl (fun h46 => ?_) (fun h46 => ?_)
    · have h46b := h46
      try simp only [sxb] at h46
      rw [if_pos h46] at hrq
      refine cj_exit (ej_then_exit (ej_blk_hit (ej_th ?_)))
      refine cj_regionG (gj_step (y_move rfl) rfl rfl rfl (gj_step (y_add rfl rfl (by omega)) rfl rfl rfl (gj_step (y_assign rfl) rfl rfl rfl (gj_nil ?_))))
      refine ej_takes [mz ekV evS b27 (m), ow 146 5 enV Aq cq (q), ownB b1 (cellsB 140 [.slice A ps.length c])] ?_
      exact ej_nx (f1, i + 1, q, Aq, cq, m, fp) (by first | omega | (simp only; omega)) ⟨by first | omega | (simp only; omega), hrq⟩ ⟨rfl, rfl, rfl, rfl, rfl, trivial⟩
    · have h46b := h46
      try simp only [sxb] at h46
      rw [if_neg (by rw [h46]; simp)] at hrq
      refine cj_skip (ej_th (cj_seq (cj_region ?_)))
      refine oj_step (y_move rfl) rfl rfl rfl ?_
      refine oj_step (y_loadN Tryz.isAgg146 Tryz.sizeOf146 rfl) rfl rfl rfl ?_
      refine oj_mapUpdateZA (ek := ekV) (ev := evS) (kk := a) (v := (⟨none, 0, []⟩ : SlV)) kaV Tryz.underlying198 rfl rfl rfl ?_
      refine oj_nil ?_
      refine ej_th (cj_seq ?_)
      refine cj_ownNil 146 5 enV ?_
      refine cj_takes [mz ekV evS b27 (Go.Sx.putL m a ⟨none, 0, []⟩), ow 146 5 enV none 0 ([]), ow 146 5 enV Aq cq (q), ownB b6 (cellsB 146 (ivs a.1)), ownB b1 (cellsB 140 [.slice A ps.length c])] ?_
      refine cj_eqO [mz ekV evS b27 (Go.Sx.putL m a ⟨none, 0, nxtK ps a 0⟩), ow 146 5 enV none 0 (nxtK ps a 0), ow 146 5 enV Aq cq (qN q ps a 0), ownB b6 (cellsB 146 (ivs a.1)), ownB b1 (cellsB 140 [.slice A ps.length c])] rfl ?_
      refine cj_regionG (gj_step (y_fa0 fa140_0 rfl) rfl rfl rfl (gj_step (y_load1 Tryz.isAgg23 rfl rfl) rfl rfl rfl (gj_step (y_lenA Tryz.underlying23 rfl) rfl rfl rfl (gj_step (y_move rfl) rfl rfl rfl (gj_nil ?_)))))
      refine ej_th (cj_block ?_)
      refine cj_lpi (X := Nat × Option Addr × Nat × Option Addr × Nat) [(5, _), (1, _), (2, _), (3, _), (6, _), (51, _)] (fun ⟨k, As, cs, A2, c2⟩ => k ≤ ps.length) (fun ⟨k, As, cs, A2, c2⟩ => [(52, .int .i64 (k : Nat)), (4, .slice A2 (qN q ps a k).length c2)]) (fun ⟨k, As, cs, A2, c2⟩ => [mz ekV evS b27 (Go.Sx.putL m a ⟨As, cs, nxtK ps a k⟩), ow 146 5 enV As cs (nxtK ps a k), ow 146 5 enV A2 c2 (qN q ps a k), ownB b6 (cellsB 146 (ivs a.1)), ownB b1 (cellsB 140 [.slice A ps.length c])]) (fun ⟨k, As, cs, A2, c2⟩ => [rowsM fp m, sl (fun b => b < w.heap.size) 1 enInt A ps]) (fun ⟨k, As, cs, A2, c2⟩ => ps.length - k) (0, none, 0, Aq, cq) (Nat.zero_le _) ⟨rfl, rfl, rfl, rfl, rfl, rfl, rfl, rfl, trivial⟩ ?_
      rintro ⟨k, As, cs, A2, c2⟩ hk
      dsimp only [List.cons_append, List.nil_append]
      refine cj_seq ?_
      refine cj_regionG (gj_step (y_lss rfl rfl) rfl rfl rfl (gj_nil ?_))
      refine ej_th (cj_seq ?_)
      refine cj_cond rfl (fun h53 => ?_) (fun h53 => ?_)
      · have h53b := h53
        try simp only [sxb] at h53
        have hnl := nxtK_len ps a k
        have hqn := qN_len q ps a k
        refine cj_skip (ej_th (cj_seq (cj_block (cj_seq ?_))))
        refine cj_regionG (gj_step (y_move rfl) rfl rfl rfl (gj_step (y_assign rfl) rfl rfl rfl (gj_nil ?_)))
        refine ej_th (cj_seq (cj_region ?_))
        refine oj_step (y_loadN Tryz.isAgg140 Tryz.sizeOf140 rfl) rfl rfl rfl ?_
        refine oj_step (y_loadN Tryz.isAgg146 Tryz.sizeOf146 rfl) rfl rfl rfl ?_
        refine oj_step (y_move rfl) rfl rfl rfl ?_
        refine oj_step (y_call Tryz.call73 rfl (fun w hp => k_after ps A c a (k : Nat) w hp.rd h5 hab)) rfl rfl rfl ?_
        refine oj_step (y_move rfl) rfl rfl rfl ?_
        refine oj_step (y_extract rfl rfl) rfl rfl rfl ?_
        refine oj_step (y_extract rfl rfl) rfl rfl rfl ?_
        refine oj_alloc Tryz.zeroValue146 rfl rfl (fun b10 => ?_)
        refine oj_store (n := 5) rfl rfl rfl (ivs_one _) Tryz.sizeOf146 (enV_len (aftV ps a (k : Nat))) ?_
        refine oj_step (y_assign rfl) rfl rfl rfl ?_
        refine oj_nil ?_
        refine ej_th (cj_seq ?_)
        refine cj_regionG (gj_step (y_move rfl) rfl rfl rfl (gj_nil ?_))
        refine ej_th ?_
        refine cj_cond rfl (fun h62 => ?_) (fun h62 => ?_)
        · have h62b := h62
          try simp only [sxb] at h62
          refine cj_seq (cj_region ?_)
          refine oj_step (y_move rfl) rfl rfl rfl ?_
          refine oj_step (y_loadN Tryz.isAgg146 Tryz.sizeOf146 rfl) rfl rfl rfl ?_
          refine oj_step (y_loadN Tryz.isAgg146 Tryz.sizeOf146 rfl) rfl rfl rfl ?_
          refine oj_buildSlice (cs := ivs (aftV ps a (k : Nat)).1) [.int .i64 0, .int .i64 0, .int .i64 0, .int .i64 0, .int .i64 0] Tryz.underlying199 Tryz.sizeOf146 Tryz.zeroValue146 rfl rfl (by kernel_rfl) (fill5 _) rfl (fun b67 => ?_)
          refine oj_mapEntryA (ek := ekV) (ev := evS) (l := Go.Sx.putL m a ⟨As, cs, nxtK ps a k⟩) (kk := a) (v := (⟨As, cs, nxtK ps a k⟩ : SlV)) kaV (getL_same _ _ _) Tryz.underlying198 rfl rfl rfl (fun n68 => ?_)
          refine oj_step (y_extract rfl rfl) rfl rfl rfl ?_
          refine oj_append el199 enV_len enV_one rfl rfl rfl (reads_lit [(aftV ps a (k : Nat))] enV_len (by simp)) (by unfold maxLen; simp only [List.length_cons, List.length_nil]; omega) (by simp only [List.length_cons, List.length_nil]; omega) rfl (fun A69 c69 => ?_)
          refine oj_step (y_extract rfl rfl) rfl rfl rfl ?_
          refine oj_entryStoreA (kk := a) (v := (⟨A69, c69, nxtK ps a k ++ [(aftV ps a (k : Nat))]⟩ : SlV)) rfl rfl rfl ?_
          refine oj_nil ?_
          refine ej_th (cj_region ?_)
          refine oj_step (y_move rfl) rfl rfl rfl ?_
          refine oj_step (y_loadN Tryz.isAgg146 Tryz.sizeOf146 rfl) rfl rfl rfl ?_
          refine oj_buildSlice (cs := ivs (aftV ps a (k : Nat)).1) [.int .i64 0, .int .i64 0, .int .i64 0, .int .i64 0, .int .i64 0] Tryz.underlying199 Tryz.sizeOf146 Tryz.zeroValue146 rfl rfl (by kernel_rfl) (fill5 _) rfl (fun b73 => ?_)
          refine oj_append el199 enV_len enV_one rfl rfl rfl (reads_lit [(aftV ps a (k : Nat))] enV_len (by simp)) (by unfold maxLen; simp only [List.length_cons, List.length_nil]; omega) (by simp only [List.length_cons, List.length_nil]; omega) rfl (fun A74 c74 => ?_)
          refine oj_step (y_assign rfl) rfl rfl rfl ?_
          refine oj_nil ?_
          refine ej_blk (ej_th ?_)
          refine cj_regionG (gj_step (y_add rfl rfl (by omega)) rfl rfl rfl (gj_step (y_move rfl) rfl rfl rfl (gj_nil ?_)))
          rw [putL_put, ← nxtK_yes h62b, show qN q ps a k ++ [(aftV ps a (k : Nat))] = qN q ps a (k + 1) by rw [qN, if_pos h62b]]
          refine ej_takes [mz ekV evS b27 (Go.Sx.putL m a ⟨A69, c69, nxtK ps a (k + 1)⟩), ow 146 5 enV A69 c69 (nxtK ps a (k + 1)), ow 146 5 enV A74 c74 (qN q ps a (k + 1)), ownB b6 (cellsB 146 (ivs a.1)), ownB b1 (cellsB 140 [.slice A ps.length c])] ?_
          exact ej_nx (k + 1, A69, c69, A74, c74) (by first | omega | (simp only; omega)) (by first | omega | (simp only; omega)) ⟨rfl, rfl, rfl, rfl, rfl, rfl, rfl, rfl, trivial⟩
        · have h62b := h62
          try simp only [sxb] at h62
          refine cj_skip (ej_blk (ej_th ?_))
          refine cj_regionG (gj_step (y_add rfl rfl (by omega)) rfl rfl rfl (gj_step (y_move rfl) rfl rfl rfl (gj_nil ?_)))
          rw [← nxtK_no h62b, show qN q ps a k = qN q ps a (k + 1) by rw [qN, if_neg (by rw [h62b]; simp)]]
          refine ej_takes [mz ekV evS b27 (Go.Sx.putL m a ⟨As, cs, nxtK ps a (k + 1)⟩), ow 146 5 enV As cs (nxtK ps a (k + 1)), ow 146 5 enV A2 c2 (qN q ps a (k + 1)), ownB b6 (cellsB 146 (ivs a.1)), ownB b1 (cellsB 140 [.slice A ps.length c])] ?_
          exact ej_nx (k + 1, As, cs, A2, c2) (by first | omega | (simp only; omega)) (by first | omega | (simp only; omega)) ⟨rfl, rfl, rfl, rfl, rfl, rfl, rfl, rfl, trivial⟩
      · have h53b := h53
        try simp only [sxb] at h53
        refine cj_exit (ej_then_exit (ej_then_exit (ej_blk_hit (ej_blk (ej_th ?_)))))
        refine cj_regionG (gj_step (y_move rfl) rfl rfl rfl (gj_step (y_add rfl rfl (by omega)) rfl rfl rfl (gj_step (y_assign rfl) rfl rfl rfl (gj_nil ?_))))
        have hkp : k = ps.length := by omega
        subst hkp
        refine ej_takes [ow 146 5 enV As cs (nxtK ps a ps.length), mz ekV evS b27 (Go.Sx.putL m a ⟨As, cs, nxtK ps a ps.length⟩), ow 146 5 enV A2 c2 (qN q ps a ps.length), ownB b1 (cellsB 140 [.slice A ps.length c])] ?_
        refine ej_frz (ow 146 5 enV As cs (nxtK ps a ps.length)) (rowsM (fun i => fp i ∨ (ow 146 5 enV As cs (nxtK ps a ps.length)).fp i) (Go.Sx.putL m a ⟨As, cs, nxtK ps a ps.length⟩)) (O' := [mz ekV evS b27 (Go.Sx.putL m a ⟨As, cs, nxtK ps a ps.length⟩), ow 146 5 enV A2 c2 (qN q ps a ps.length), ownB b1 (cellsB 140 [.slice A ps.length c])]) (fun w1 hp => rowsM_new hp (by have := nxtK_len ps a ps.length; unfold maxLen; omega) (.head _) (.head _)) (fun b hb => ?_) ?_
        · rcases hb with hb | hb
          · exact .inr ⟨rowsM fp m, .head _, hb⟩
          · exact .inl hb
        exact ej_nx (f1, i + 1, qN q ps a ps.length, A2, c2, Go.Sx.putL m a ⟨As, cs, nxtK ps a ps.length⟩, (fun i => fp i ∨ (ow 146 5 enV As cs (nxtK ps a ps.length)).fp i)) (by first | omega | (simp only; omega)) ⟨by simp only; rw [qN_eq, List.length_append]; omega, by simp only; rw [putL_abs, qN_eq]; exact hrq⟩ ⟨rfl, rfl, rfl, rfl, rfl, trivial⟩
  · have h33b := h33
    try simp only [sxb] at h33
    have hme := runQ_end (List.getElem?_eq_none (by omega)) hrq
    subst hme
    refine cj_exit (ej_then_exit (ej_then_exit (ej_blk_hit (ej_th (cj_seq (cj_region ?_))))))
    refine oj_makeMapZ ekV evN rfl (fun b76 => ?_)
    refine oj_step (y_assign rfl) rfl rfl rfl ?_
    refine oj_nil ?_
    refine ej_th (cj_seq (cj_seq ?_))
    refine cj_regionG (gj_step (y_assign rfl) rfl rfl rfl (gj_nil ?_))
    refine ej_th (cj_block ?_)
    refine cj_lpi (X := Bool × List (V5 × Int)) [(2, _), (3, _), (12, _)] (fun ⟨ch, kn⟩ => GoodK FK kn ∧ (ch = false → FixK (absM m) kn)) (fun ⟨ch, kn⟩ => [(13, .bool ch)]) (fun ⟨ch, kn⟩ => [mz ekV evN b76 (kn), mz ekV evS b27 (m), ownB b1 (cellsB 140 [.slice A ps.length c])]) (fun ⟨ch, kn⟩ => [rowsM fp m, sl (fun b => b < w.heap.size) 1 enInt A ps]) (fun ⟨ch, kn⟩ => if ch = true then cntK FK kn + 1 else 0) (true, []) (⟨good_nil FK, by intro h; cases h⟩) ⟨rfl, rfl, rfl, rfl, trivial⟩ ?_
    rintro ⟨ch, kn⟩ ⟨hgk, hfx⟩
    dsimp only [List.cons_append, List.nil_append]
    refine cj_seq (cj_seq ?_)
    refine cj_regionG (gj_step (y_move rfl) rfl rfl rfl (gj_nil ?_))
    refine ej_th ?_
    refine cj_cond rfl (fun h77 => ?_) (fun h77 => ?_)
    · have h77b := h77
      try simp only [sxb] at h77
      have hch : ch = true := h77b
      subst hch
      refine cj_skip (ej_th (cj_block (cj_seq ?_)))
      refine cj_regionG (gj_step (y_assign rfl) rfl rfl rfl (gj_nil ?_))
      refine ej_th (cj_seq ?_)
      refine cj_takes [mz ekV evS b27 (m), mz ekV evN b76 (kn), ownB b1 (cellsB 140 [.slice A ps.length c])] ?_
      refine cj_region ?_
      refine oj_step (y_move rfl) rfl rfl rfl ?_
      refine oj_rangeK (ek := ekV) (ev := evS) Tryz.underlying198 rfl rfl (fun r79 => ?_)
      refine oj_nil ?_
      refine ej_th (cj_block ?_)
      refine cj_lpi (X := Bool × List (V5 × Int) × List (V5 × SlV) × Option (V5 × SlV)) [(2, _), (3, _), (12, _), (79, _)] (fun ⟨ch, k2, left, cur⟩ => RdK FK kn m ch k2 left) (fun ⟨ch, k2, left, cur⟩ => [(13, .bool ch)]) (fun ⟨ch, k2, left, cur⟩ => [mitK ekV evS b27 r79 m left cur, mz ekV evN b76 (k2), ownB b1 (cellsB 140 [.slice A ps.length c])]) (fun ⟨ch, k2, left, cur⟩ => [rowsM fp m, sl (fun b => b < w.heap.size) 1 enInt A ps]) (fun ⟨ch, k2, left, cur⟩ => left.length) (false, kn, m, none) (rd_start m hgk) ⟨rfl, rfl, rfl, rfl, rfl, trivial⟩ ?_
      rintro ⟨ch, k2, left, cur⟩ hrd
      dsimp only [List.cons_append, List.nil_append]
      refine cj_seq (cj_region ?_)
      refine oj_nextK (ek := ekV) (ev := evS) rfl rfl (fun p hpn => ?_)
      refine oj_step (y_extractNx rfl) rfl rfl rfl ?_
      refine oj_nil ?_
      refine ej_th (cj_seq ?_)
      refine cj_cond rfl (fun h81 => ?_) (fun h81 => ?_)
      · have h81b := h81
        try simp only [sxb] at h81
        obtain ⟨⟨i, pa, ⟨sA, sc, sq⟩⟩, rfl⟩ := nx_some h81b
        have hpi : left[i]? = some (pa, ⟨sA, sc, sq⟩) := hpn
        have hil := (List.getElem?_eq_some_iff.1 hpi).1
        have hel : (left.eraseIdx i).length = left.length - 1 := List.length_eraseIdx_of_lt hil
        dsimp only [nxL, nxC]
        refine cj_skip (ej_th (cj_block (cj_seq (cj_region ?_))))
        refine oj_step (y_entryK (ek := ekV) (ev := evS) (p := (pa, ⟨sA, sc, sq⟩)) rfl rfl) rfl rfl rfl ?_
        refine oj_step (y_extract rfl rfl) rfl rfl rfl ?_
        refine oj_step (y_extract rfl rfl) rfl rfl rfl ?_
        refine oj_alloc Tryz.zeroValue146 rfl rfl (fun b14 => ?_)
        refine oj_store (n := 5) rfl rfl rfl (ivs_one _) Tryz.sizeOf146 (enV_len pa) ?_
        refine oj_step (y_assign rfl) rfl rfl rfl ?_
        refine oj_nil ?_
        refine ej_th (cj_seq (cj_seq ?_))
        refine cj_regionG (gj_step (y_move rfl) rfl rfl rfl (gj_step (y_loadN Tryz.isAgg146 Tryz.sizeOf146 rfl) rfl rfl rfl (gj_step (y_lookupZA (ek := ekV) (ev := evN) (kk := pa) (0 : Int) kaV Tryz.underlying143 Tryz.zeroValue3 rfl rfl) rfl rfl rfl (gj_step (y_move rfl) rfl rfl rfl (gj_step (y_extract rfl rfl) rfl rfl rfl (gj_step (y_extract rfl rfl) rfl rfl rfl (gj_step (y_assign rfl) rfl rfl rfl (gj_step (y_assign rfl) rfl rfl rfl (gj_nil ?_)))))))))
        refine ej_th (cj_seq ?_)
        refine cj_regionG (gj_step (y_move rfl) rfl rfl rfl (gj_nil ?_))
        refine ej_th ?_
        refine cj_cond rfl (fun h91 => ?_) (fun h91 => ?_)
        · have h91b := h91
          try simp only [sxb] at h91
          refine cj_exit (ej_then_exit (ej_blk_hit ?_))
          refine ej_takes [mitK ekV evS b27 r79 m (left.eraseIdx i) (some (pa, ⟨sA, sc, sq⟩)), mz ekV evN b76 (k2), ownB b1 (cellsB 140 [.slice A ps.length c])] ?_
          exact ej_nx (ch, k2, left.eraseIdx i, some (pa, ⟨sA, sc, sq⟩)) (by first | omega | (simp only; omega)) (rd_keep hrd hpi (fun _ => h91b)) ⟨rfl, rfl, rfl, rfl, rfl, trivial⟩
        · have h91b := h91
          try simp only [sxb] at h91
          refine cj_skip (ej_th (cj_seq ?_))
          refine cj_regionG (gj_step (y_assign rfl) rfl rfl rfl (gj_step (y_assign rfl) rfl rfl rfl (gj_nil ?_)))
          refine ej_th (cj_seq (cj_seq ?_))
          dsimp only
          refine cj_takes [mitK ekV evS b27 r79 m (left.eraseIdx i) (some (pa, ⟨sA, sc, sq⟩)), mz ekV evN b76 (k2), ownB b14 (cellsB 146 (ivs pa.1)), ownB b1 (cellsB 140 [.slice A ps.length c])] ?_
          have hsl0 := hrd.2.1 _ (List.mem_of_getElem? hpi)
          refine cj_addS (sl fp 5 enV sA sq) (fun w hp => ⟨(hp.shared _ (.head _)).1 _ hsl0, fun b hb => ⟨(hp.shared _ (.head _)).2.1 b hb, fun g hg => (hp.shared _ (.head _)).2.2 g hg b hb⟩⟩) ?_
          refine cj_pure (sq.length ≤ maxLen) (fun w hp => (hp.shared _ (.head _)).1.1) (fun hsq => ?_)
          unfold maxLen at hsq
          refine cj_regionG (gj_step (y_move rfl) rfl rfl rfl (gj_step (y_lenA Tryz.underlying199 rfl) rfl rfl rfl (gj_step (y_move rfl) rfl rfl rfl (gj_nil ?_))))
          refine ej_th (cj_block ?_)
          refine cj_lpi (X := Nat) [(13, _), (2, _), (3, _), (12, _), (79, _), (14, _), (92, _), (93, _)] (fun k => k ≤ sq.length) (fun k => [(94, .int .i64 (k : Nat)), (18, .int .i64 (maxK k2 (sq.take k) 0)), (19, .bool (allK k2 (sq.take k)))]) (fun k => [mitK ekV evS b27 r79 m (left.eraseIdx i) (some (pa, ⟨sA, sc, sq⟩)), mz ekV evN b76 (k2), ownB b14 (cellsB 146 (ivs pa.1)), ownB b1 (cellsB 140 [.slice A ps.length c])]) (fun k => [sl fp 5 enV sA sq, rowsM fp m, sl (fun b => b < w.heap.size) 1 enInt A ps]) (fun k => sq.length - k) 0 (Nat.zero_le _) ⟨rfl, rfl, rfl, rfl, rfl, rfl, rfl, rfl, rfl, rfl, rfl, trivial⟩ ?_
          rintro k hk
          dsimp only [List.cons_append, List.nil_append]
          refine cj_seq ?_
          refine cj_regionG (gj_step (y_lss rfl rfl) rfl rfl rfl (gj_nil ?_))
          refine ej_th (cj_seq ?_)
          refine cj_cond rfl (fun h95 => ?_) (fun h95 => ?_)
          · have h95b := h95
            try simp only [sxb] at h95
            obtain ⟨x, hx⟩ : ∃ x, sq[k]? = some x := ⟨_, List.getElem?_eq_getElem (by omega)⟩
            have hxb : 0 ≤ (getL k2 x).getD 0 ∧ (getL k2 x).getD 0 ≤ 1000 := by
              cases hg : getL k2 x with
              | none => exact ⟨Int.le_refl _, by decide⟩
              | some v => exact good_bd hT hrd.1 hg
            refine cj_skip (ej_th (cj_seq (cj_block (cj_seq (cj_region ?_)))))
            refine oj_step (y_ixR reads_sl Tryz.underlying199 Tryz.sizeOf146 rfl rfl (⟨by omega, by omega⟩)) rfl rfl rfl ?_
            refine oj_step (y_ldW reads_sl Tryz.isAgg146 Tryz.sizeOf146 rfl (hx) enV_len) rfl rfl rfl ?_
            refine oj_alloc Tryz.zeroValue146 rfl rfl (fun b21 => ?_)
            refine oj_store (n := 5) rfl rfl rfl (ivs_one _) Tryz.sizeOf146 (enV_len x) ?_
            refine oj_nil ?_
            refine ej_th (cj_seq ?_)
            refine cj_regionG (gj_step (y_move rfl) rfl rfl rfl (gj_step (y_loadN Tryz.isAgg146 Tryz.sizeOf146 rfl) rfl rfl rfl (gj_step (y_lookupZA (ek := ekV) (ev := evN) (kk := x) (0 : Int) kaV Tryz.underlying143 Tryz.zeroValue3 rfl rfl) rfl rfl rfl (gj_step (y_move rfl) rfl rfl rfl (gj_step (y_extract rfl rfl) rfl rfl rfl (gj_step (y_extract rfl rfl) rfl rfl rfl (gj_step (y_assign rfl) rfl rfl rfl (gj_step (y_assign rfl) rfl rfl rfl (gj_nil ?_)))))))))
            refine ej_th ?_
            refine cj_regionG (gj_step (y_move rfl) rfl rfl rfl (gj_step (y_move rfl) rfl rfl rfl (gj_step (y_add rfl rfl (by omega)) rfl rfl rfl (gj_step (y_max rfl rfl) rfl rfl rfl (gj_step (y_move rfl) rfl rfl rfl (gj_step (y_move rfl) rfl rfl rfl (gj_g 1 109 110 rfl rfl rfl rfl (fun hg109 => gj_yes rfl rfl rfl (y_move rfl) rfl rfl (gj_nil rfl)) (gj_step (y_and rfl rfl rfl) rfl rfl rfl (gj_step (y_assign rfl) rfl rfl rfl (gj_step (y_assign rfl) rfl rfl rfl (gj_nil ?_)))))))))))
            refine ej_blk (ej_th ?_)
            refine cj_regionG (gj_step (y_add rfl rfl (by omega)) rfl rfl rfl (gj_step (y_move rfl) rfl rfl rfl (gj_nil ?_)))
            refine ej_takes [mitK ekV evS b27 r79 m (left.eraseIdx i) (some (pa, ⟨sA, sc, sq⟩)), mz ekV evN b76 (k2), ownB b14 (cellsB 146 (ivs pa.1)), ownB b1 (cellsB 140 [.slice A ps.length c])] ?_
            rw [← maxK_take 0 hx, ← allK_take hx]
            exact ej_nx (k + 1) (by first | omega | (simp only; omega)) (by first | omega | (simp only; omega)) ⟨rfl, rfl, rfl, rfl, rfl, rfl, rfl, rfl, rfl, rfl, rfl, trivial⟩
          · have h95b := h95
            try simp only [sxb] at h95
            have hkl : k = sq.length := by omega
            subst hkl
            rw [List.take_length]
            refine cj_exit (ej_then_exit (ej_then_exit (ej_blk_hit (ej_th (cj_seq ?_)))))
            refine cj_regionG (gj_step (y_move rfl) rfl rfl rfl (gj_nil ?_))
            refine ej_th ?_
            refine cj_cond rfl (fun h113 => ?_) (fun h113 => ?_)
            · have h113b := h113
              try simp only [sxb] at h113
              refine cj_region ?_
              refine oj_step (y_move rfl) rfl rfl rfl ?_
              refine oj_step (y_loadN Tryz.isAgg146 Tryz.sizeOf146 rfl) rfl rfl rfl ?_
              refine oj_step (y_move rfl) rfl rfl rfl ?_
              refine oj_mapUpdateZA (ek := ekV) (ev := evN) (kk := pa) (v := maxK k2 sq 0) kaV Tryz.underlying143 rfl rfl rfl ?_
              refine oj_step (y_assign rfl) rfl rfl rfl ?_
              refine oj_nil ?_
              refine ej_blk ?_
              refine ej_takes [mitK ekV evS b27 r79 m (left.eraseIdx i) (some (pa, ⟨sA, sc, sq⟩)), mz ekV evN b76 (Go.Sx.putL k2 pa (maxK k2 sq 0)), ownB b1 (cellsB 140 [.slice A ps.length c])] ?_
              exact ej_nx (true, Go.Sx.putL k2 pa (maxK k2 sq 0), left.eraseIdx i, some (pa, ⟨sA, sc, sq⟩)) (by first | omega | (simp only; omega)) (rd_new hT hrd hpi h91b h113b) ⟨rfl, rfl, rfl, rfl, rfl, trivial⟩
            · have h113b := h113
              try simp only [sxb] at h113
              refine cj_skip (ej_blk ?_)
              refine ej_takes [mitK ekV evS b27 r79 m (left.eraseIdx i) (some (pa, ⟨sA, sc, sq⟩)), mz ekV evN b76 (k2), ownB b1 (cellsB 140 [.slice A ps.length c])] ?_
              exact ej_nx (ch, k2, left.eraseIdx i, some (pa, ⟨sA, sc, sq⟩)) (by first | omega | (simp only; omega)) (rd_keep hrd hpi (fun ha => by rw [ha] at h113b; cases h113b)) ⟨rfl, rfl, rfl, rfl, rfl, trivial⟩
      · have h81b := h81
        try simp only [sxb] at h81
        have hpn2 := nx_none h81b
        subst hpn2
        have hle : left = [] := hpn
        subst hle
        dsimp only [nxL, nxC]
        refine cj_endK (ek := ekV) (ev := evS) (b := b27) (r := r79) (l := m) (left := []) (cur := cur) ?_
        refine cj_exit (ej_then_exit (ej_then_exit (ej_blk_hit (ej_blk ?_))))
        refine ej_takes [mz ekV evN b76 (k2), mz ekV evS b27 (m), ownB b1 (cellsB 140 [.slice A ps.length c])] ?_
        exact ej_nx (ch, k2) (rd_mu hrd) (rd_end hrd) ⟨rfl, rfl, rfl, rfl, trivial⟩
    · have h77b := h77
      try simp only [sxb] at h77
      have hch : ch = false := h77b
      have hfx2 := hfx hch
      subst hch
      refine cj_exit (ej_then_exit (ej_then_exit (ej_blk_hit (ej_th (cj_seq (cj_seq ?_))))))
      refine cj_takes [mz ekV evS b27 (m), mz ekV evN b76 (kn), ownB b1 (cellsB 140 [.slice A ps.length c])] ?_
      refine cj_region ?_
      refine oj_step (y_move rfl) rfl rfl rfl ?_
      refine oj_rangeK (ek := ekV) (ev := evS) Tryz.underlying198 rfl rfl (fun r118 => ?_)
      refine oj_nil ?_
      refine ej_th (cj_block ?_)
      refine cj_lpi (X := List (V5 × Int) × List (V5 × SlV) × Option (V5 × SlV)) [(2, _), (12, _), (118, _)] (fun ⟨k2, left, cur⟩ => AnK FK k2 m left) (fun ⟨k2, left, cur⟩ => []) (fun ⟨k2, left, cur⟩ => [mitK ekV evS b27 r118 m left cur, mz ekV evN b76 (k2), ownB b1 (cellsB 140 [.slice A ps.length c])]) (fun ⟨k2, left, cur⟩ => [rowsM fp m, sl (fun b => b < w.heap.size) 1 enInt A ps]) (fun ⟨k2, left, cur⟩ => left.length) (kn, m, none) (an_start hT hgk hfx2) ⟨rfl, rfl, rfl, trivial⟩ ?_
      rintro ⟨k2, left, cur⟩ han
      dsimp only [List.cons_append, List.nil_append]
      refine cj_seq (cj_region ?_)
      refine oj_nextK (ek := ekV) (ev := evS) rfl rfl (fun p hpn => ?_)
      refine oj_step (y_extractNx rfl) rfl rfl rfl ?_
      refine oj_nil ?_
      refine ej_th (cj_seq ?_)
      refine cj_cond rfl (fun h120 => ?_) (fun h120 => ?_)
      · have h120b := h120
        try simp only [sxb] at h120
        obtain ⟨⟨i, pa, ⟨sA, sc, sq⟩⟩, rfl⟩ := nx_some h120b
        have hpi : left[i]? = some (pa, ⟨sA, sc, sq⟩) := hpn
        have hil := (List.getElem?_eq_some_iff.1 hpi).1
        have hel : (left.eraseIdx i).length = left.length - 1 := List.length_eraseIdx_of_lt hil
        dsimp only [nxL, nxC]
        refine cj_skip (ej_th (cj_block (cj_seq (cj_region ?_))))
        refine oj_step (y_entryK (ek := ekV) (ev := evS) (p := (pa, ⟨sA, sc, sq⟩)) rfl rfl) rfl rfl rfl ?_
        refine oj_step (y_extract rfl rfl) rfl rfl rfl ?_
        refine oj_alloc Tryz.zeroValue146 rfl rfl (fun b24 => ?_)
        refine oj_store (n := 5) rfl rfl rfl (ivs_one _) Tryz.sizeOf146 (enV_len pa) ?_
        refine oj_nil ?_
        refine ej_th (cj_seq ?_)
        refine cj_regionG (gj_step (y_move rfl) rfl rfl rfl (gj_step (y_loadN Tryz.isAgg146 Tryz.sizeOf146 rfl) rfl rfl rfl (gj_step (y_lookupZA (ek := ekV) (ev := evN) (kk := pa) (0 : Int) kaV Tryz.underlying143 Tryz.zeroValue3 rfl rfl) rfl rfl rfl (gj_step (y_move rfl) rfl rfl rfl (gj_step (y_extract rfl rfl) rfl rfl rfl (gj_step (y_extract rfl rfl) rfl rfl rfl (gj_step (y_assign rfl) rfl rfl rfl (gj_step (y_assign rfl) rfl rfl rfl (gj_nil ?_)))))))))
        refine ej_th (cj_seq ?_)
        refine cj_regionG (gj_step (y_move rfl) rfl rfl rfl (gj_step (y_not rfl) rfl rfl rfl (gj_nil ?_)))
        refine ej_th ?_
        refine cj_cond rfl (fun h130 => ?_) (fun h130 => ?_)
        · have h130b := h130
          try simp only [sxb] at h130
          refine cj_region ?_
          refine oj_step (y_move rfl) rfl rfl rfl ?_
          refine oj_step (y_loadN Tryz.isAgg146 Tryz.sizeOf146 rfl) rfl rfl rfl ?_
          refine oj_mapUpdateZA (ek := ekV) (ev := evN) (kk := pa) (v := (-1 : Int)) kaV Tryz.underlying143 rfl rfl rfl ?_
          refine oj_nil ?_
          refine ej_blk ?_
          refine ej_takes [mitK ekV evS b27 r118 m (left.eraseIdx i) (some (pa, ⟨sA, sc, sq⟩)), mz ekV evN b76 (Go.Sx.putL k2 pa (-1)), ownB b1 (cellsB 140 [.slice A ps.length c])] ?_
          exact ej_nx (Go.Sx.putL k2 pa (-1), left.eraseIdx i, some (pa, ⟨sA, sc, sq⟩)) (by first | omega | (simp only; omega)) (an_new han hpi (by simpa using h130b)) ⟨rfl, rfl, rfl, trivial⟩
        · have h130b := h130
          try simp only [sxb] at h130
          refine cj_skip (ej_blk ?_)
          refine ej_takes [mitK ekV evS b27 r118 m (left.eraseIdx i) (some (pa, ⟨sA, sc, sq⟩)), mz ekV evN b76 (k2), ownB b1 (cellsB 140 [.slice A ps.length c])] ?_
          exact ej_nx (k2, left.eraseIdx i, some (pa, ⟨sA, sc, sq⟩)) (by first | omega | (simp only; omega)) (an_had han hpi (by simpa using h130b)) ⟨rfl, rfl, rfl, trivial⟩
      · have h120b := h120
        try simp only [sxb] at h120
        have hpn2 := nx_none h120b
        subst hpn2
        have hle : left = [] := hpn
        subst hle
        dsimp only [nxL, nxC]
        refine cj_endK (ek := ekV) (ev := evS) (b := b27) (r := r118) (l := m) (left := []) (cur := cur) ?_
        refine cj_exit (ej_then_exit (ej_then_exit (ej_blk_hit (ej_th (cj_seq ?_)))))
        refine cj_regionG (gj_step (y_move rfl) rfl rfl rfl (gj_step (y_assign rfl) rfl rfl rfl (gj_nil ?_)))
        refine ej_th (cj_ret ?_)
        refine ej_takes [mz ekV evN b76 (k2), mz ekV evS b27 (m), ownB b1 (cellsB 140 [.slice A ps.length c])] ?_
        exact ej_ret1 rfl Tryz.results72 rfl (fun w' hp => ⟨⟨(b76, k2), an_end han⟩, rfl, hp.below, fun g hg => by
          simp only [List.mem_singleton] at hg
          subst hg
          exact ⟨(hp.own _ (.head _)).1, fun b hb => ⟨by have := ((hp.own _ (.head _)).2 b hb).2; omega, ((hp.own _ (.head _)).2 b hb).1⟩⟩, List.pairwise_singleton .., by simp⟩)

end Go.Proofs.YtppfniekcgnmjaaGreat.Ce
namespace Go.Proofs.YtppfniekcgnmjaaGreat.Ce
open Go.Sx Go.RowKit
set_option maxRecDepth 20000
theorem el23 : ElemIs Tryz.prog 23 3 1 8 := ⟨⟨_, (.int .i64 0), Tryz.underlying23, Tryz.type3, by kernel_rfl, by kernel_rfl, by kernel_rfl, by kernel_rfl, by decide⟩⟩
end Go.Proofs.YtppfniekcgnmjaaGreat.Ce
namespace Go.Proofs.YtppfniekcgnmjaaGreat.Ce
open Go.Sx Go.RowKit Um
set_option maxRecDepth 20000
theorem k_Turns (ps : List Int) (A : Option Addr) (c : Nat) (dn : Nat) (f0 : Nat) (FQ : List V5) (FM : MapA) (FK : List (V5 × Int)) (w : World) (hl : Rd w 1 enInt A ps) (h5 : ps.length ≤ 5) (hrun : runQ ps f0 0 [z5] [] = some (FQ, FM)) (hbd : ∀ a ∈ FQ, ∀ i, 0 ≤ a.1.getD i 0 ∧ a.1.getD i 0 ≤ 1000) (hQ : FQ.length ≤ 1000) (hT : TabOk ps FM FK) (hok : turB ps = true) (hd : dn ≤ 64) (hM : MapOk ps FM) (hz : getL FK z5 = none) : Calls Tryz.prog 41 #[.slice A ps.length c, .int .i64 (dn : Nat)] w (fun e w' => ∃ A1 c1, e = .returned (.tuple #[.slice A1 (runT ps FK dn).2.length c1, .int .i64 0]) ∧ Grow w w' ∧ Res w w' 1 enInt A1 (runT ps FK dn).2) := by
  refine enter_pure (args := [.slice A ps.length c, .int .i64 (dn : Nat)]) [sl (fun b => b < w.heap.size) 1 enInt A ps] Tryz.func41 rfl (by rw [Tryz.ntmps41]; simp) (fun g hg => by simp at hg; subst hg; exact ⟨hl, fun _ h => h⟩) ?_
  refine cj_seq ?_
  refine cj_regionG (gj_step (y_assign rfl) rfl rfl rfl (gj_step (y_assign rfl) rfl rfl rfl (gj_nil ?_)))
  refine ej_th (cj_seq (cj_region ?_))
  refine oj_step (y_move rfl) rfl rfl rfl ?_
  refine oj_step (y_call Tryz.call70 rfl (fun w hp => k_turnerOf ps A c w hp.rd hok)) rfl rfl rfl ?_
  refine oj_step (y_move rfl) rfl rfl rfl ?_
  refine oj_step (y_extract rfl rfl) rfl rfl rfl ?_
  refine oj_step (y_extract rfl rfl) rfl rfl rfl ?_
  refine oj_alloc Tryz.zeroValue140 rfl rfl (fun b6 => ?_)
  refine oj_store rfl rfl rfl rfl Tryz.sizeOf140 rfl ?_
  refine oj_step (y_assign rfl) rfl rfl rfl ?_
  refine oj_nil ?_
  refine ej_th (cj_seq (cj_seq ?_))
  refine cj_regionG (gj_step (y_move rfl) rfl rfl rfl (gj_step (y_neq rfl rfl) rfl rfl rfl (gj_nil ?_)))
  refine ej_th ?_
  refine cj_cond rfl (fun h20 => ?_) (fun h20 => ?_)
  · exact absurd h20 (by decide)
  · have h20b := h20
    try simp only [sxb] at h20
    refine cj_skip (ej_th (cj_seq (cj_seq ?_)))
    refine cj_regionG ?_
    refine gj_step (y_move rfl) rfl rfl rfl (?_)
    refine gj_step (y_call Tryz.call71 rfl (fun w hp => k_within _ _ _ w)) rfl rfl rfl ?_
    refine gj_step (y_not rfl) rfl rfl rfl (?_)
    refine gj_nil ?_
    refine ej_th ?_
    refine cj_cond rfl (fun h24 => ?_) (fun h24 => ?_)
    · exfalso
      rw [btw_mk (show (0 : Int) ≤ (dn : Nat) ∧ ((dn : Nat) : Int) ≤ 64 by omega)] at h24
      cases h24
    · have h24b := h24
      try simp only [sxb] at h24
      refine cj_skip (ej_th (cj_seq (cj_region ?_)))
      refine oj_step (y_loadN Tryz.isAgg140 Tryz.sizeOf140 rfl) rfl rfl rfl ?_
      refine oj_call (X := { x : Nat × List (V5 × Int) // EvOk FM FK x.2 }) (fun x => .map (some x.1.1)) (fun x => [mz ekV evN x.1.1 x.1.2]) (fun _ => []) Tryz.call72 rfl (fun w1 hp => k_ever ps A c f0 FQ FM FK w1 hp.rd h5 hrun hbd hQ hT) rfl ?_
      rintro ⟨⟨bk, kn⟩, hev⟩
      dsimp only [List.nil_append, List.cons_append]
      refine oj_step (y_assign rfl) rfl rfl rfl ?_
      refine oj_nil ?_
      refine ej_th (cj_seq (cj_seq ?_))
      refine cj_regionG (gj_step (y_move rfl) rfl rfl rfl (gj_step (y_buildA0 (cs := [.int .i64 0, .int .i64 0, .int .i64 0, .int .i64 0, .int .i64 0]) Tryz.underlying146 Tryz.sizeOf3 Tryz.zeroValue146 rfl) rfl rfl rfl (gj_step (y_lookupZA1 (ek := ekV) (ev := evN) (kk := z5) (0 : Int) kaV Tryz.underlying143 Tryz.zeroValue3 rfl rfl) rfl rfl rfl (gj_step (y_geq rfl rfl) rfl rfl rfl (gj_nil ?_)))))
      refine ej_th ?_
      refine cj_cond rfl (fun h30 => ?_) (fun h30 => ?_)
      · exfalso
        have h9 : (getL kn z5).getD 0 < 0 := ever_z hM.z hev hz
        have h10 : (0 : Int) ≤ (getL kn z5).getD 0 := of_decide_eq_true h30
        omega
      · have h30b := h30
        try simp only [sxb] at h30
        refine cj_skip (ej_th (cj_seq ?_))
        refine cj_regionG (gj_step (y_assign rfl) rfl rfl rfl (gj_nil ?_))
        refine ej_th (cj_seq (cj_region ?_))
        refine oj_alloc Tryz.zeroValue146 rfl rfl (fun b10 => ?_)
        refine oj_nil ?_
        refine ej_th (cj_seq (cj_seq ?_))
        refine cj_ownNil 3 1 enInt ?_
        refine cj_takes [ow 3 1 enInt none 0 [], ownB b10 (cellsB 146 [.int .i64 0, .int .i64 0, .int .i64 0, .int .i64 0, .int .i64 0]), mz ekV evN bk kn, ownB b6 (cellsB 140 [.slice A ps.length c])] ?_
        refine cj_eqO [ow 3 1 enInt none 0 ([] : List Int), ownB b10 (cellsB 146 (ivs z5.1)), mz ekV evN bk kn, ownB b6 (cellsB 140 [.slice A ps.length c])] rfl ?_
        refine cj_regionG (gj_step (y_move rfl) rfl rfl rfl (gj_step (y_move rfl) rfl rfl rfl (gj_nil ?_)))
        refine ej_th (cj_block ?_)
        refine cj_lpi (X := Nat × V5 × List Int × Option Addr × Nat) [(0, _), (4, _), (5, _), (6, _), (8, _), (10, _), (31, _)] (fun ⟨k, a, out, Ao, co⟩ => k ≤ dn ∧ runT ps FK k = (a, out) ∧ out.length ≤ k ∧ (getL FM a).isSome = true) (fun ⟨k, a, out, Ao, co⟩ => [(32, .int .i64 (k : Nat)), (9, .slice Ao out.length co)]) (fun ⟨k, a, out, Ao, co⟩ => [ow 3 1 enInt Ao co (out), ownB b10 (cellsB 146 (ivs a.1)), mz ekV evN bk kn, ownB b6 (cellsB 140 [.slice A ps.length c])]) (fun ⟨k, a, out, Ao, co⟩ => [sl (fun b => b < w.heap.size) 1 enInt A ps]) (fun ⟨k, a, out, Ao, co⟩ => dn - k) (0, z5, [], none, 0) (⟨Nat.zero_le _, rfl, Nat.le_refl _, hM.z⟩) ⟨rfl, rfl, rfl, rfl, rfl, rfl, rfl, rfl, rfl, trivial⟩ ?_
        rintro ⟨k, a, out, Ao, co⟩ ⟨hk, hrt, hol, ha⟩
        dsimp only [List.cons_append, List.nil_append]
        refine cj_seq ?_
        refine cj_regionG (gj_step (y_lss rfl rfl) rfl rfl rfl (gj_nil ?_))
        refine ej_th (cj_seq ?_)
        refine cj_cond rfl (fun h33 => ?_) (fun h33 => ?_)
        · have h33b := h33
          try simp only [sxb] at h33
          refine cj_skip (ej_th (cj_seq (cj_block (cj_seq ?_))))
          refine cj_regionG (gj_step (y_move rfl) rfl rfl rfl (gj_step (y_lenA Tryz.underlying23 rfl) rfl rfl rfl (gj_step (y_move rfl) rfl rfl rfl (gj_nil ?_))))
          refine ej_th (cj_block ?_)
          refine cj_lpi (X := Nat) [(32, _), (0, _), (4, _), (5, _), (6, _), (8, _), (10, _), (31, _), (35, _)] (fun j => j ≤ ps.length ∧ ∀ r, r < j → goodT ps FK a r = false) (fun j => [(36, .int .i64 (j : Nat)), (9, .slice Ao out.length co)]) (fun j => [ow 3 1 enInt Ao co (out), ownB b10 (cellsB 146 (ivs a.1)), mz ekV evN bk kn, ownB b6 (cellsB 140 [.slice A ps.length c])]) (fun j => [sl (fun b => b < w.heap.size) 1 enInt A ps]) (fun j => ps.length - j) 0 (⟨Nat.zero_le _, fun r h => absurd h (Nat.not_lt_zero r)⟩) ⟨rfl, rfl, rfl, rfl, rfl, rfl, rfl, rfl, rfl, rfl, rfl, trivial⟩ ?_
          rintro j ⟨hj, hno⟩
          dsimp only [List.cons_append, List.nil_append]
          refine cj_seq ?_
          refine cj_regionG (gj_step (y_lss rfl rfl) rfl rfl rfl (gj_nil ?_))
          refine ej_th (cj_seq ?_)
          refine cj_cond rfl (fun h37 => ?_) (fun h37 => ?_)
          · have h37b := h37
            try simp only [sxb] at h37
            refine cj_skip (ej_th (cj_seq (cj_block (cj_seq ?_))))
            refine cj_regionG (gj_step (y_move rfl) rfl rfl rfl (gj_step (y_assign rfl) rfl rfl rfl (gj_nil ?_)))
            refine ej_th (cj_seq (cj_region ?_))
            refine oj_step (y_loadN Tryz.isAgg140 Tryz.sizeOf140 rfl) rfl rfl rfl ?_
            refine oj_step (y_loadN Tryz.isAgg146 Tryz.sizeOf146 rfl) rfl rfl rfl ?_
            refine oj_step (y_move rfl) rfl rfl rfl ?_
            refine oj_step (y_call Tryz.call73 rfl (fun w hp => k_after ps A c a (j : Nat) w hp.rd h5 (map_bd hM ha))) rfl rfl rfl ?_
            refine oj_step (y_move rfl) rfl rfl rfl ?_
            refine oj_step (y_extract rfl rfl) rfl rfl rfl ?_
            refine oj_step (y_extract rfl rfl) rfl rfl rfl ?_
            refine oj_alloc Tryz.zeroValue146 rfl rfl (fun b12 => ?_)
            refine oj_store (n := 5) rfl rfl rfl (ivs_one _) Tryz.sizeOf146 (enV_len (aftV ps a (j : Nat))) ?_
            refine oj_step (y_assign rfl) rfl rfl rfl ?_
            refine oj_nil ?_
            refine ej_th (cj_seq ?_)
            refine cj_regionG (gj_step (y_move rfl) rfl rfl rfl (gj_step (y_move rfl) rfl rfl rfl (gj_g 4 47 51 rfl rfl rfl rfl (fun hg47 => gj_yes rfl rfl rfl (y_move rfl) rfl rfl (gj_yes rfl rfl rfl (y_loadN Tryz.isAgg146 Tryz.sizeOf146 rfl) rfl rfl (gj_yes rfl rfl rfl (y_lookupZA1 (ek := ekV) (ev := evN) (kk := aftV ps a (j : Nat)) (0 : Int) kaV Tryz.underlying143 Tryz.zeroValue3 rfl rfl) rfl rfl (gj_yes rfl rfl rfl (y_lss rfl rfl) rfl rfl (gj_nil rfl))))) (gj_step (y_and rfl rfl rfl) rfl rfl rfl (gj_nil ?_)))))
            refine ej_th ?_
            refine cj_cond rfl (fun h52 => ?_) (fun h52 => ?_)
            · have h52b := h52
              try simp only [sxb] at h52
              rw [goodT_eq hM hev ha (by omega)] at h52b
              have hrn := runT_hit hrt (by omega) hno h52b
              refine cj_seq ?_
              refine cj_plan 7 (by kernel_rfl) (by kernel_rfl) ?_
              refine pl_y 0 rfl (y_move rfl) rfl rfl rfl rfl (by kernel_rfl) ?_
              refine pl_y 1 rfl (y_move rfl) rfl rfl rfl rfl (by kernel_rfl) ?_
              refine pl_y 4 rfl (y_loadN Tryz.isAgg146 Tryz.sizeOf146 rfl) rfl rfl rfl rfl (by kernel_rfl) ?_
              refine pl_w1 2 (by kernel_rfl) rfl rfl (pl_fire rfl rfl rfl (by kernel_rfl) ?_)
              refine oj_buildSlice [.int .i64 0] Tryz.underlying23 Tryz.sizeOf3 Tryz.zeroValue3 rfl rfl (by kernel_rfl) rfl rfl (fun b55 => ?_)
              refine oj_nil ?_
              refine ej_pl (lt_y (y_loadN Tryz.isAgg146 Tryz.sizeOf146 rfl) rfl (lt_w (by kernel_rfl) (lt_y (y_move rfl) rfl (lt_nil)))) ?_
              refine pl_w1 3 (by kernel_rfl) rfl rfl (pl_fire rfl rfl rfl (by kernel_rfl) ?_)
              refine oj_append  el23 (fun _ => rfl) enInt_one rfl rfl rfl (reads_lit [((j : Nat) : Int)] (fun _ => rfl) rfl) (by unfold maxLen; simp only [List.length_cons, List.length_nil]; omega) (by simp only [List.length_cons, List.length_nil]; omega) rfl (fun A56 c56 => ?_)
              refine oj_nil ?_
              refine ej_pl (lt_y (y_loadN Tryz.isAgg146 Tryz.sizeOf146 rfl) rfl (lt_y (y_move rfl) rfl (lt_w (by kernel_rfl) (lt_nil)))) ?_
              refine pl_y 5 rfl (y_assign rfl) rfl rfl rfl rfl (by kernel_rfl) ?_
              refine pl_w1 6 (by kernel_rfl) rfl rfl (pl_fire rfl rfl rfl (by kernel_rfl) ?_)
              refine oj_store (n := 5) rfl rfl rfl (ivs_one _) Tryz.sizeOf146 (enV_len (aftV ps a (j : Nat))) ?_
              refine oj_nil ?_
              refine ej_pl (lt_w (by kernel_rfl) (lt_w (by kernel_rfl) (lt_w (by kernel_rfl) (lt_w (by kernel_rfl) (lt_nil))))) ?_
              refine pl_end (by kernel_rfl) ?_
              refine ej_th (cj_exit (ej_blk_pass rfl (ej_then_exit (ej_then_exit (ej_blk_hit (ej_blk (ej_th ?_)))))))
              refine cj_regionG (gj_step (y_add rfl rfl (by omega)) rfl rfl rfl (gj_step (y_move rfl) rfl rfl rfl (gj_nil ?_)))
              refine ej_takes [ow 3 1 enInt A56 c56 (out ++ [((j : Nat) : Int)]), ownB b10 (cellsB 146 (ivs (aftV ps a (j : Nat)).1)), mz ekV evN bk kn, ownB b6 (cellsB 140 [.slice A ps.length c])] ?_
              exact ej_nx (k + 1, aftV ps a (j : Nat), out ++ [((j : Nat) : Int)], A56, c56) (by first | omega | (simp only; omega)) ⟨by first | omega | (simp only; omega), hrn, by simp only [List.length_append, List.length_cons, List.length_nil]; omega, map_clo hM ha (by omega) h52b⟩ ⟨rfl, rfl, rfl, rfl, rfl, rfl, rfl, rfl, rfl, trivial⟩
            · have h52b := h52
              try simp only [sxb] at h52
              rw [goodT_eq hM hev ha (by omega)] at h52b
              refine cj_skip (ej_blk (ej_th ?_))
              refine cj_regionG (gj_step (y_add rfl rfl (by omega)) rfl rfl rfl (gj_step (y_move rfl) rfl rfl rfl (gj_nil ?_)))
              refine ej_takes [ow 3 1 enInt Ao co (out), ownB b10 (cellsB 146 (ivs a.1)), mz ekV evN bk kn, ownB b6 (cellsB 140 [.slice A ps.length c])] ?_
              exact ej_nx (j + 1) (by first | omega | (simp only; omega)) ⟨by first | omega | (simp only; omega), fun r hr => by
                by_cases e : r = j
                · subst e; exact h52b
                · exact hno r (by omega)⟩ ⟨rfl, rfl, rfl, rfl, rfl, rfl, rfl, rfl, rfl, rfl, rfl, trivial⟩
          · have h37b := h37
            try simp only [sxb] at h37
            have hjn : j = ps.length := by omega
            subst hjn
            have hrm := runT_miss hrt hno
            refine cj_exit (ej_then_exit (ej_then_exit (ej_blk_hit (ej_blk (ej_th ?_)))))
            refine cj_regionG (gj_step (y_add rfl rfl (by omega)) rfl rfl rfl (gj_step (y_move rfl) rfl rfl rfl (gj_nil ?_)))
            refine ej_takes [ow 3 1 enInt Ao co (out), ownB b10 (cellsB 146 (ivs a.1)), mz ekV evN bk kn, ownB b6 (cellsB 140 [.slice A ps.length c])] ?_
            exact ej_nx (k + 1, a, out, Ao, co) (by first | omega | (simp only; omega)) ⟨by first | omega | (simp only; omega), hrm, by first | omega | (simp only; omega), ha⟩ ⟨rfl, rfl, rfl, rfl, rfl, rfl, rfl, rfl, rfl, trivial⟩
        · have h33b := h33
          try simp only [sxb] at h33
          have hkd : k = dn := by omega
          subst hkd
          refine cj_exit (ej_then_exit (ej_then_exit (ej_blk_hit (ej_th (cj_seq ?_)))))
          refine cj_regionG (gj_step (y_move rfl) rfl rfl rfl (gj_step (y_assign rfl) rfl rfl rfl (gj_step (y_assign rfl) rfl rfl rfl (gj_nil ?_))))
          refine ej_th (cj_ret ?_)
          rw [hrt]
          exact ej_ret2 rfl Tryz.results41 rfl rfl (fun w' hp => ⟨Ao, co, rfl, hp.below, hp.res (fun _ => rfl) (by unfold maxLen; simp only; omega)⟩)

end Go.Proofs.YtppfniekcgnmjaaGreat.Ce
namespace Go.Proofs.YtppfniekcgnmjaaGreat.To
open Go.Sx Go.RowKit
set_option maxRecDepth 20000
theorem st49 : StructIs Tryz.prog 49 [(0, 1), (1, 1), (2, 1), (3, 1)] [.slice none 0 0, .slice none 0 0, .int .i64 0, .int .i64 0] := ⟨⟨_, Tryz.underlying49, fun w => by simp [Tryz.sizeOf23, Tryz.sizeOf3], Tryz.zeroValue49⟩⟩
end Go.Proofs.YtppfniekcgnmjaaGreat.To
namespace Go.Proofs.YtppfniekcgnmjaaGreat.To
open Go.Sx Go.RowKit Um
set_option maxRecDepth 20000
theorem c_m1 : Ce.chN ((4 : Int) - 1).toNat (2 : Int).toNat = 3 := by kernel_rfl
theorem c_m2 : Ce.chN (4 : Int).toNat (2 : Int).toNat = 6 := by kernel_rfl

theorem k_found10  (w : World)  : Calls Tryz.prog 13 #[] w (fun e w' => e = .returned (.bool true) ∧ Grow w w') := by
  refine enter_pure (args := []) [] Tryz.func13 rfl (by rw [Tryz.ntmps13]; simp) (by simp) ?_
  refine cj_seq ?_
  refine cj_regionG (gj_step (y_assign rfl) rfl rfl rfl (gj_nil ?_))
  refine ej_th (cj_seq (cj_region ?_))
  refine oj_buildSlice (cs := [.int .i64 4]) [.int .i64 0] Tryz.underlying23 Tryz.sizeOf3 Tryz.zeroValue3 rfl rfl (by kernel_rfl) (by kernel_rfl) rfl (fun b7 => ?_)
  refine oj_buildSlice (cs := [.int .i64 1]) [.int .i64 0] Tryz.underlying23 Tryz.sizeOf3 Tryz.zeroValue3 rfl rfl (by kernel_rfl) (by kernel_rfl) rfl (fun b8 => ?_)
  refine oj_step (y_build (cs := [.slice (some ⟨b7, 0, none⟩) 1 1, .slice (some ⟨b8, 0, none⟩) 1 1, .int .i64 1, .int .i64 0]) st49 rfl (by kernel_rfl)) rfl rfl rfl ?_
  refine oj_buildSlice (cs := [.int .i64 2]) [.int .i64 0] Tryz.underlying23 Tryz.sizeOf3 Tryz.zeroValue3 rfl rfl (by kernel_rfl) (by kernel_rfl) rfl (fun b10 => ?_)
  refine oj_buildSlice (cs := [.int .i64 1]) [.int .i64 0] Tryz.underlying23 Tryz.sizeOf3 Tryz.zeroValue3 rfl rfl (by kernel_rfl) (by kernel_rfl) rfl (fun b11 => ?_)
  refine oj_step (y_call Tryz.call14 rfl (fun w hp => by
    have h := Ce.k_Miss 4 1 1 (some ⟨b7, 0, none⟩) (some ⟨b8, 0, none⟩) 1 1 2 1 (some ⟨b10, 0, none⟩) (some ⟨b11, 0, none⟩) 1 1 w (hp.rdLit (b := b7) (sz := 1) (enc := enInt) ([4] : List Int) (fun _ => rfl) rfl (by unfold maxLen; simp)) (hp.rdLit (b := b8) (sz := 1) (enc := enInt) ([1] : List Int) (fun _ => rfl) rfl (by unfold maxLen; simp)) (by omega) (by omega) (by omega) (hp.rdLit (b := b10) (sz := 1) (enc := enInt) ([2] : List Int) (fun _ => rfl) rfl (by unfold maxLen; simp)) (hp.rdLit (b := b11) (sz := 1) (enc := enInt) ([1] : List Int) (fun _ => rfl) rfl (by unfold maxLen; simp)) (by omega) (by omega)
    rw [c_m1, c_m2] at h
    exact h)) rfl rfl rfl ?_
  refine oj_step (y_move rfl) rfl rfl rfl ?_
  refine oj_step (y_extract rfl rfl) rfl rfl rfl ?_
  refine oj_step (y_extract rfl rfl) rfl rfl rfl ?_
  refine oj_step (y_extract rfl rfl) rfl rfl rfl ?_
  refine oj_step (y_assign rfl) rfl rfl rfl ?_
  refine oj_step (y_assign rfl) rfl rfl rfl ?_
  refine oj_step (y_assign rfl) rfl rfl rfl ?_
  refine oj_nil ?_
  refine ej_th (cj_seq (cj_region ?_))
  refine oj_buildSlice (cs := [.int .i64 2, .int .i64 4, .int .i64 4]) [.int .i64 0, .int .i64 0, .int .i64 0] Tryz.underlying23 Tryz.sizeOf3 Tryz.zeroValue3 rfl rfl (by kernel_rfl) (by kernel_rfl) rfl (fun b17 => ?_)
  refine oj_callS (fun A c => .tuple #[.slice A ([0, 1, 0, 2] : List Int).length c, .int .i64 0]) 1 enInt ([0, 1, 0, 2] : List Int) Tryz.call41 rfl (fun w hp => by
    have h := Ce.k_Turns Ce.psX (some ⟨b17, 0, none⟩) 3 4 60 Ce.rqX.1 Ce.rqX.2 Ce.fkX w (hp.rdLit (b := b17) (sz := 1) (enc := enInt) [2, 4, 4] (fun _ => rfl) rfl (by unfold maxLen; simp)) (by decide) Ce.run_x (fun a h => Ce.bd5_at (List.all_eq_true.1 Ce.bd_x a h)) (Nat.le_of_ble_eq_true Ce.len_x) Ce.tab_x Ce.tur_x (by decide) Ce.map_x Ce.z_x
    rw [Ce.turns_x] at h
    exact h) rfl (fun A18 c18 fp18 hfp18 => ?_)
  refine oj_step (y_move rfl) rfl rfl rfl ?_
  refine oj_step (y_extract rfl rfl) rfl rfl rfl ?_
  refine oj_step (y_extract rfl rfl) rfl rfl rfl ?_
  refine oj_step (y_assign rfl) rfl rfl rfl ?_
  refine oj_step (y_assign rfl) rfl rfl rfl ?_
  refine oj_nil ?_
  refine ej_th (cj_seq (cj_region ?_))
  refine oj_step (y_move rfl) rfl rfl rfl ?_
  refine oj_step (y_eql rfl rfl) rfl rfl rfl ?_
  refine oj_step (y_move rfl) rfl rfl rfl ?_
  refine oj_yes rfl rfl rfl ?_
  refine oj_step (y_move rfl) rfl rfl rfl ?_
  refine oj_yes rfl rfl rfl ?_
  refine oj_step (y_eql rfl rfl) rfl rfl rfl ?_
  refine oj_step (y_pick rfl rfl rfl) rfl rfl rfl ?_
  refine oj_step (y_move rfl) rfl rfl rfl ?_
  refine oj_yes rfl rfl rfl ?_
  refine oj_step (y_move rfl) rfl rfl rfl ?_
  refine oj_yes rfl rfl rfl ?_
  refine oj_step (y_eql rfl rfl) rfl rfl rfl ?_
  refine oj_step (y_pick rfl rfl rfl) rfl rfl rfl ?_
  refine oj_step (y_move rfl) rfl rfl rfl ?_
  refine oj_yes rfl rfl rfl ?_
  refine oj_step (y_move rfl) rfl rfl rfl ?_
  refine oj_yes rfl rfl rfl ?_
  refine oj_step (y_eql rfl rfl) rfl rfl rfl ?_
  refine oj_step (y_pick rfl rfl rfl) rfl rfl rfl ?_
  refine oj_step (y_move rfl) rfl rfl rfl ?_
  refine oj_yes rfl rfl rfl ?_
  refine oj_step (y_move rfl) rfl rfl rfl ?_
  refine oj_yes rfl rfl rfl ?_
  refine oj_buildSlice (cs := [.int .i64 0, .int .i64 1, .int .i64 0, .int .i64 2]) [.int .i64 0, .int .i64 0, .int .i64 0, .int .i64 0] Tryz.underlying23 Tryz.sizeOf3 Tryz.zeroValue3 rfl rfl (by kernel_rfl) (by kernel_rfl) rfl (fun b37 => ?_)
  refine oj_yes rfl rfl rfl ?_
  refine oj_step (y_call Tryz.call31 rfl (fun w hp => k_Same [0, 1, 0, 2] [0, 1, 0, 2] A18 (some ⟨b37, 0, none⟩) c18 4 w hp.rd (hp.rdLit (b := b37) (sz := 1) (enc := enInt) [0, 1, 0, 2] (fun _ => rfl) rfl (by unfold maxLen; simp)))) rfl rfl rfl ?_
  refine oj_step (y_pick rfl rfl rfl) rfl rfl rfl ?_
  refine oj_step (y_move rfl) rfl rfl rfl ?_
  refine oj_yes rfl rfl rfl ?_
  refine oj_step (y_call Tryz.call7 rfl (fun w hp => k_paid08 w)) rfl rfl rfl ?_
  refine oj_step (y_pick rfl rfl rfl) rfl rfl rfl ?_
  refine oj_step (y_assign rfl) rfl rfl rfl ?_
  refine oj_nil ?_
  refine ej_th (cj_ret ?_)
  exact ej_ret1 rfl Tryz.results13 rfl (fun w' hp => ⟨rfl, hp.below⟩)

end Go.Proofs.YtppfniekcgnmjaaGreat.To
namespace Go.Proofs.YtppfniekcgnmjaaGreat.Pl
open Go.Sx Go.RowKit
set_option maxRecDepth 20000

end Go.Proofs.YtppfniekcgnmjaaGreat.Pl
namespace Go.Proofs.YtppfniekcgnmjaaGreat.Pl
open Go.Sx Go.RowKit
set_option maxRecDepth 20000
theorem k_nanI (n : Int) (w : World)  : Calls Tryz.prog 98 #[.int .i64 n] w (fun e w' => e = .returned (.bool false) ∧ Grow w w') := by
  refine enter_pure (args := [.int .i64 n]) [] Tryz.func98 rfl (by rw [Tryz.ntmps98]; simp) (by simp) ?_
  refine cj_seq ?_
  refine cj_regionG (gj_step (y_assign rfl) rfl rfl rfl (gj_nil ?_))
  refine ej_th (cj_seq ?_)
  refine cj_regionG (gj_step (y_move rfl) rfl rfl rfl (gj_step (y_move rfl) rfl rfl rfl (gj_step (y_neq rfl rfl) rfl rfl rfl (gj_step (y_assign rfl) rfl rfl rfl (gj_nil ?_)))))
  refine ej_th (cj_ret ?_)
  refine ej_ret1 rfl Tryz.results98 rfl (fun w' hp => ⟨?_, hp.below⟩)
  simp

theorem k_CmpI (a b : Int) (w : World)  : Calls Tryz.prog 69 #[.int .i64 a, .int .i64 b] w (fun e w' => e = .returned (.int .i64 (cmpI a b)) ∧ Grow w w') := by
  refine enter_pure (args := [.int .i64 a, .int .i64 b]) [] Tryz.func69 rfl (by rw [Tryz.ntmps69]; simp) (by simp) ?_
  refine cj_seq ?_
  refine cj_regionG (gj_step (y_assign rfl) rfl rfl rfl (gj_nil ?_))
  refine ej_th (cj_seq ?_)
  refine cj_regionG ?_
  refine gj_step (y_move rfl) rfl rfl rfl (?_)
  refine gj_step (y_call Tryz.call98 rfl (fun w hp => k_nanI _ w)) rfl rfl rfl ?_
  refine gj_step (y_assign rfl) rfl rfl rfl (?_)
  refine gj_nil ?_
  refine ej_th (cj_seq ?_)
  refine cj_regionG ?_
  refine gj_step (y_move rfl) rfl rfl rfl (?_)
  refine gj_step (y_call Tryz.call98 rfl (fun w hp => k_nanI _ w)) rfl rfl rfl ?_
  refine gj_step (y_assign rfl) rfl rfl rfl (?_)
  refine gj_nil ?_
  refine ej_th (cj_seq (cj_seq ?_))
  refine cj_regionG (gj_step (y_move rfl) rfl rfl rfl (gj_nil ?_))
  refine ej_th ?_
  refine cj_cond rfl (fun h11 => ?_) (fun h11 => ?_)
  · cases h11
  · have h11b := h11
    try simp only [sxb] at h11
    refine cj_skip (ej_th (cj_seq (cj_seq ?_)))
    refine cj_regionG (gj_step (y_move rfl) rfl rfl rfl (gj_nil ?_))
    refine ej_th ?_
    refine cj_cond rfl (fun h13 => ?_) (fun h13 => ?_)
    · have h13b := h13
      try simp only [sxb] at h13
      refine cj_seq ?_
      refine cj_regionG (gj_step (y_assign rfl) rfl rfl rfl (gj_nil ?_))
      refine ej_th (cj_ret (ej_then_ret ?_))
      cases h13
    · have h13b := h13
      try simp only [sxb] at h13
      refine cj_skip (ej_th (cj_seq (cj_seq ?_)))
      refine cj_regionG (gj_step (y_move rfl) rfl rfl rfl (gj_step (y_move rfl) rfl rfl rfl (gj_step (y_lss rfl rfl) rfl rfl rfl (gj_nil ?_))))
      refine ej_th ?_
      refine cj_cond rfl (fun h16 => ?_) (fun h16 => ?_)
      · have h16b := h16
        try simp only [sxb] at h16
        refine cj_seq ?_
        refine cj_regionG (gj_step (y_assign rfl) rfl rfl rfl (gj_nil ?_))
        refine ej_th (cj_ret (ej_then_ret ?_))
        refine ej_ret1 rfl Tryz.results69 rfl (fun w' hp => ⟨?_, hp.below⟩)
        rw [cmpI, if_pos h16]
      · have h16b := h16
        try simp only [sxb] at h16
        refine cj_skip (ej_th (cj_seq (cj_seq ?_)))
        refine cj_regionG (gj_step (y_move rfl) rfl rfl rfl (gj_step (y_move rfl) rfl rfl rfl (gj_step (y_gtr rfl rfl) rfl rfl rfl (gj_nil ?_))))
        refine ej_th ?_
        refine cj_cond rfl (fun h19 => ?_) (fun h19 => ?_)
        · have h19b := h19
          try simp only [sxb] at h19
          refine cj_seq ?_
          refine cj_regionG (gj_step (y_assign rfl) rfl rfl rfl (gj_nil ?_))
          refine ej_th (cj_ret (ej_then_ret ?_))
          refine ej_ret1 rfl Tryz.results69 rfl (fun w' hp => ⟨?_, hp.below⟩)
          rw [cmpI, if_neg (by omega), if_pos h19]
        · have h19b := h19
          try simp only [sxb] at h19
          refine cj_skip (ej_th (cj_seq ?_))
          refine cj_regionG (gj_step (y_assign rfl) rfl rfl rfl (gj_nil ?_))
          refine ej_th (cj_ret ?_)
          refine ej_ret1 rfl Tryz.results69 rfl (fun w' hp => ⟨?_, hp.below⟩)
          rw [cmpI, if_neg (by omega), if_neg (by omega)]

theorem k_Compare (x y : List Int) (Ax Ay : Option Addr) (cx cy : Nat) (w : World) (hx0 : Rd w 1 enInt Ax x) (hy0 : Rd w 1 enInt Ay y) : Calls Tryz.prog 40 #[.slice Ax x.length cx, .slice Ay y.length cy] w (fun e w' => e = .returned (.int .i64 (cmpL x y)) ∧ Grow w w') := by
  have hlx := hx0.len
  have hly := hy0.len
  refine enter_pure (args := [.slice Ax x.length cx, .slice Ay y.length cy]) [sl (fun b => b < w.heap.size) 1 enInt Ax x, sl (fun b => b < w.heap.size) 1 enInt Ay y] Tryz.func40 rfl (by rw [Tryz.ntmps40]; simp) (fun g hg => by simp at hg; rcases hg with rfl | rfl; exact ⟨hx0, fun _ h => h⟩; exact ⟨hy0, fun _ h => h⟩) ?_
  refine cj_seq ?_
  refine cj_regionG (gj_step (y_assign rfl) rfl rfl rfl (gj_nil ?_))
  refine ej_th (cj_seq (cj_seq ?_))
  refine cj_regionG (gj_step (y_move rfl) rfl rfl rfl (gj_step (y_lenA Tryz.underlying23 rfl) rfl rfl rfl (gj_step (y_move rfl) rfl rfl rfl (gj_nil ?_))))
  refine ej_th (cj_block ?_)
  refine cj_lpic (X := Nat) [(0, _), (1, _), (9, _), (10, _)] (fun k => k ≤ x.length ∧ k ≤ y.length ∧ cmpL (x.drop k) (y.drop k) = cmpL x y) (fun k => [(11, .int .i64 k)]) (fun k => x.length - k) 0 (⟨Nat.zero_le _, Nat.zero_le _, rfl⟩) ⟨rfl, rfl, rfl, rfl, rfl, trivial⟩ ?_
  rintro k ⟨hk, hk2, hsk⟩
  dsimp only [List.cons_append, List.nil_append]
  refine cj_seq ?_
  refine cj_regionG (gj_step (y_lss rfl rfl) rfl rfl rfl (gj_nil ?_))
  refine ej_th (cj_seq ?_)
  refine cj_cond rfl (fun h12 => ?_) (fun h12 => ?_)
  · have h12b := h12
    try simp only [sxb] at h12
    obtain ⟨p, hx⟩ : ∃ p, x[k]? = some p := ⟨_, List.getElem?_eq_getElem (by omega)⟩
    refine cj_skip (ej_th (cj_seq (cj_block (cj_seq ?_))))
    refine cj_regionG (gj_step (y_move rfl) rfl rfl rfl (gj_step (y_ixR (reads_sl) Tryz.underlying23 Tryz.sizeOf3 rfl rfl (⟨by omega, by omega⟩)) rfl rfl rfl (gj_step (y_ld0 (reads_sl) Tryz.isAgg3 rfl (hx) rfl) rfl rfl rfl (gj_step (y_assign rfl) rfl rfl rfl (gj_step (y_assign rfl) rfl rfl rfl (gj_nil ?_))))))
    refine ej_th (cj_seq (cj_seq ?_))
    refine cj_regionG (gj_step (y_move rfl) rfl rfl rfl (gj_step (y_move rfl) rfl rfl rfl (gj_step (y_lenA Tryz.underlying23 rfl) rfl rfl rfl (gj_step (y_geq rfl rfl) rfl rfl rfl (gj_nil ?_)))))
    refine ej_th ?_
    refine cj_cond rfl (fun h19 => ?_) (fun h19 => ?_)
    · have h19b := h19
      try simp only [sxb] at h19
      refine cj_seq ?_
      refine cj_regionG (gj_step (y_assign rfl) rfl rfl rfl (gj_nil ?_))
      refine ej_th (cj_ret (ej_then_ret (ej_blk_ret (ej_then_ret (ej_then_ret (ej_blk_ret (ej_then_ret ?_)))))))
      refine ej_ret1 rfl Tryz.results40 rfl (fun w' hp => ⟨?_, hp.below⟩)
      rw [← hsk, cmpL_end x y k p hx (by omega)]
    · have h19b := h19
      try simp only [sxb] at h19
      obtain ⟨q, hy⟩ : ∃ q, y[k]? = some q := ⟨_, List.getElem?_eq_getElem (by omega)⟩
      rw [cmpL_drop x y k p q hx hy] at hsk
      refine cj_skip (ej_th (cj_seq ?_))
      refine cj_regionG (gj_step (y_move rfl) rfl rfl rfl (gj_step (y_move rfl) rfl rfl rfl (gj_step (y_ixR (reads_sl) Tryz.underlying23 Tryz.sizeOf3 rfl rfl (⟨by omega, by omega⟩)) rfl rfl rfl (gj_step (y_ld0 (reads_sl) Tryz.isAgg3 rfl (hy) rfl) rfl rfl rfl (gj_step (y_assign rfl) rfl rfl rfl (gj_nil ?_))))))
      refine ej_th (cj_seq ?_)
      refine cj_regionG ?_
      refine gj_step (y_move rfl) rfl rfl rfl (gj_step (y_move rfl) rfl rfl rfl (?_))
      refine gj_step (y_call Tryz.call69 rfl (fun w hp => k_CmpI _ _ w)) rfl rfl rfl ?_
      refine gj_step (y_assign rfl) rfl rfl rfl (?_)
      refine gj_nil ?_
      refine ej_th (cj_seq ?_)
      refine cj_regionG (gj_step (y_move rfl) rfl rfl rfl (gj_step (y_neq rfl rfl) rfl rfl rfl (gj_nil ?_)))
      refine ej_th ?_
      refine cj_cond rfl (fun h28 => ?_) (fun h28 => ?_)
      · have h28b := h28
        try simp only [sxb] at h28
        refine cj_seq ?_
        refine cj_regionG (gj_step (y_move rfl) rfl rfl rfl (gj_step (y_assign rfl) rfl rfl rfl (gj_nil ?_)))
        refine ej_th (cj_ret (ej_blk_ret (ej_then_ret (ej_then_ret (ej_blk_ret (ej_then_ret ?_))))))
        refine ej_ret1 rfl Tryz.results40 rfl (fun w' hp => ⟨?_, hp.below⟩)
        rw [← hsk, if_neg (by simpa using h28b)]
      · have h28b := h28
        try simp only [sxb] at h28
        refine cj_skip (ej_blk (ej_th ?_))
        refine cj_regionG (gj_step (y_add rfl rfl (by omega)) rfl rfl rfl (gj_step (y_move rfl) rfl rfl rfl (gj_nil ?_)))
        exact ej_nx (k + 1) (by omega) ⟨by omega, by omega, by rw [← hsk, if_pos (by simpa using h28b)]⟩ ⟨rfl, rfl, rfl, rfl, rfl, trivial⟩
  · have h12b := h12
    try simp only [sxb] at h12
    refine cj_exit (ej_then_exit (ej_then_exit (ej_blk_hit (ej_th (cj_seq (cj_seq ?_))))))
    refine cj_regionG (gj_step (y_move rfl) rfl rfl rfl (gj_step (y_lenA Tryz.underlying23 rfl) rfl rfl rfl (gj_step (y_move rfl) rfl rfl rfl (gj_step (y_lenA Tryz.underlying23 rfl) rfl rfl rfl (gj_step (y_lss rfl rfl) rfl rfl rfl (gj_nil ?_))))))
    refine ej_th ?_
    refine cj_cond rfl (fun h35 => ?_) (fun h35 => ?_)
    · have h35b := h35
      try simp only [sxb] at h35
      refine cj_seq ?_
      refine cj_regionG (gj_step (y_assign rfl) rfl rfl rfl (gj_nil ?_))
      refine ej_th (cj_ret (ej_then_ret ?_))
      refine ej_ret1 rfl Tryz.results40 rfl (fun w' hp => ⟨?_, hp.below⟩)
      rw [← hsk, cmpL_end2 x y k (by omega), if_pos (by omega)]
    · have h35b := h35
      try simp only [sxb] at h35
      refine cj_skip (ej_th (cj_seq ?_))
      refine cj_regionG (gj_step (y_assign rfl) rfl rfl rfl (gj_nil ?_))
      refine ej_th (cj_ret ?_)
      refine ej_ret1 rfl Tryz.results40 rfl (fun w' hp => ⟨?_, hp.below⟩)
      rw [← hsk, cmpL_end2 x y k (by omega), if_neg (by omega)]

theorem k_lab (i : Int) (ms : List Meas) (A : Option Addr) (c : Nat) (b : Nat) (w : World) (hi : 0 ≤ i ∧ i < ms.length) (hm : Rd w 2 encMe A ms) (hb : (ownB b (cellsB 39 [.slice A ms.length c])).P w) : Calls Tryz.prog 38 #[.int .i64 i, .pointer (some ⟨b, 0, none⟩)] w (fun e w' => e = .returned (.int .i64 (labAt ms i)) ∧ Grow w w') := by
  refine enter_pure (args := [.int .i64 i, .pointer (some ⟨b, 0, none⟩)]) [sl (fun b => b < w.heap.size) 2 encMe A ms, ownB b (cellsB 39 [.slice A ms.length c])] Tryz.func38 rfl (by rw [Tryz.ntmps38]; simp) (fun g hg => by simp at hg; rcases hg with rfl | rfl; exact ⟨hm, fun _ h => h⟩; exact ⟨hb, fun i hi => by have : i = b := hi; subst this; exact (Array.getElem?_eq_some_iff.1 hb).1⟩) ?_
  refine cj_seq ?_
  refine cj_regionG (gj_step (y_assign rfl) rfl rfl rfl (gj_nil ?_))
  refine ej_th (cj_seq ?_)
  refine cj_regionG (gj_step (y_loadS1 Tryz.isAgg39 rfl rfl) rfl rfl rfl (gj_step (y_move rfl) rfl rfl rfl (gj_step (y_ixR (reads_sl) Tryz.underlying39 Tryz.sizeOf91 rfl rfl (⟨by omega, by omega⟩)) rfl rfl rfl (gj_step (y_faE fa91_1 rfl) rfl rfl rfl (gj_step (y_ld1 (reads_sl) Tryz.isAgg3 rfl (geq default (by omega)) rfl) rfl rfl rfl (gj_step (y_assign rfl) rfl rfl rfl (gj_nil ?_)))))))
  refine ej_th (cj_ret ?_)
  exact ej_ret1 rfl Tryz.results38 rfl (fun w' hp => ⟨rfl, hp.below⟩)

theorem k_totalL (l : List Int) (Al : Option Addr) (cl : Nat) (ms : List Meas) (A : Option Addr) (c : Nat) (b : Nat) (w : World) (hl : Rd w 1 enInt Al l) (hm : Rd w 2 encMe A ms) (hb : (ownB b (cellsB 39 [.slice A ms.length c])).P w) (hmb : ∀ m ∈ ms, (0 ≤ m.tol ∧ m.tol ≤ 1000) ∧ (1 ≤ m.lab ∧ m.lab ≤ 1000)) (hr : ∀ i ∈ l, 0 ≤ i ∧ i < ms.length) (hT : (l.map (labAt ms)).sum ≤ 1000000) : Calls Tryz.prog 37 #[.slice Al l.length cl, .func (.func 38) #[] #[.pointer (some ⟨b, 0, none⟩)]] w (fun e w' => e = .returned (.int .i64 (labN ms l)) ∧ Grow w w') := by
  have hlen := hl.len
  skip
  refine enter_pure (args := [.slice Al l.length cl, .func (.func 38) #[] #[.pointer (some ⟨b, 0, none⟩)]]) [sl (fun b => b < w.heap.size) 1 enInt Al l, sl (fun b => b < w.heap.size) 2 encMe A ms, ownB b (cellsB 39 [.slice A ms.length c])] Tryz.func37 rfl (by rw [Tryz.ntmps37]; simp) (fun g hg => by simp at hg; rcases hg with rfl | rfl | rfl; exact ⟨hl, fun _ h => h⟩; exact ⟨hm, fun _ h => h⟩; exact ⟨hb, fun i hi => by have : i = b := hi; subst this; exact (Array.getElem?_eq_some_iff.1 hb).1⟩) ?_
  refine cj_seq ?_
  refine cj_regionG (gj_step (y_assign rfl) rfl rfl rfl (gj_nil ?_))
  refine ej_th (cj_seq ?_)
  refine cj_regionG (gj_step (y_assign rfl) rfl rfl rfl (gj_nil ?_))
  refine ej_th (cj_seq (cj_seq ?_))
  refine cj_regionG (gj_step (y_move rfl) rfl rfl rfl (gj_step (y_lenA Tryz.underlying23 rfl) rfl rfl rfl (gj_step (y_move rfl) rfl rfl rfl (gj_nil ?_))))
  refine ej_th (cj_block ?_)
  refine cj_lpic (X := Nat × Int) [(1, _), (4, _), (8, _), (9, _)] (fun ⟨k, n⟩ => k ≤ l.length ∧ 0 ≤ n ∧ n + ((l.drop k).map (labAt ms)).sum = (l.map (labAt ms)).sum) (fun ⟨k, n⟩ => [(5, .int .i64 n), (10, .int .i64 k)]) (fun ⟨k, n⟩ => l.length - k) (0, 0) (⟨Nat.zero_le _, Int.le_refl _, by simp⟩) ⟨rfl, rfl, rfl, rfl, rfl, rfl, trivial⟩ ?_
  rintro ⟨k, n⟩ ⟨hk, hn, hsk⟩
  dsimp only [List.cons_append, List.nil_append]
  refine cj_seq ?_
  refine cj_regionG (gj_step (y_lss rfl rfl) rfl rfl rfl (gj_nil ?_))
  refine ej_th (cj_seq ?_)
  refine cj_cond rfl (fun h11 => ?_) (fun h11 => ?_)
  · have h11b := h11
    try simp only [sxb] at h11
    obtain ⟨x, hx⟩ : ∃ x, l[k]? = some x := ⟨_, List.getElem?_eq_getElem (by omega)⟩
    rw [map_sum_drop (labAt ms) l k x hx] at hsk
    have hrest := sum_nn (labAt ms) (l.drop (k + 1)) (fun y hy => by have := labAt_bd hmb (hr y (List.mem_of_mem_drop hy)); omega)
    refine cj_skip (ej_th (cj_seq (cj_block (cj_seq ?_))))
    refine cj_regionG (gj_step (y_ixR (reads_sl) Tryz.underlying23 Tryz.sizeOf3 rfl rfl (⟨by omega, by omega⟩)) rfl rfl rfl (gj_step (y_ld0 (reads_sl) Tryz.isAgg3 rfl (hx) rfl) rfl rfl rfl (gj_step (y_assign rfl) rfl rfl rfl (gj_nil ?_))))
    refine ej_th ?_
    refine cj_regionG ?_
    refine gj_step (y_move rfl) rfl rfl rfl (gj_step (y_move rfl) rfl rfl rfl (gj_step (y_move rfl) rfl rfl rfl (?_)))
    refine gj_step (y_callV Tryz.call38 rfl rfl (fun w hp => k_lab x ms A c b w (hr x (List.mem_of_getElem? hx)) hp.rd hp.bs)) rfl rfl rfl ?_
    refine gj_step (y_add rfl rfl (by have := labAt_bd hmb (hr x (List.mem_of_getElem? hx)); omega)) rfl rfl rfl (gj_step (y_assign rfl) rfl rfl rfl (?_))
    refine gj_nil ?_
    refine ej_blk (ej_th ?_)
    refine cj_regionG (gj_step (y_add rfl rfl (by omega)) rfl rfl rfl (gj_step (y_move rfl) rfl rfl rfl (gj_nil ?_)))
    exact ej_nx (k + 1, n + (labAt ms) x) (by simp only; omega) ⟨by first | omega | (simp only; omega), by have := labAt_bd hmb (hr x (List.mem_of_getElem? hx)); simp only; omega, by simp only; omega⟩ ⟨rfl, rfl, rfl, rfl, rfl, rfl, trivial⟩
  · have h11b := h11
    try simp only [sxb] at h11
    refine cj_exit (ej_then_exit (ej_then_exit (ej_blk_hit (ej_th (cj_seq ?_)))))
    refine cj_regionG (gj_step (y_move rfl) rfl rfl rfl (gj_step (y_assign rfl) rfl rfl rfl (gj_nil ?_)))
    refine ej_th (cj_ret ?_)
    refine ej_ret1 rfl Tryz.results37 rfl (fun w' hp => ⟨?_, hp.below⟩)
    rw [List.drop_of_length_le (show l.length ≤ k by omega)] at hsk
    have hn2 : n = (l.map (labAt ms)).sum := by simpa using hsk
    rw [hn2]; rfl

end Go.Proofs.YtppfniekcgnmjaaGreat.Pl
namespace Go.Proofs.YtppfniekcgnmjaaGreat.Pl
open Go.Sx Go.RowKit
set_option maxRecDepth 20000

end Go.Proofs.YtppfniekcgnmjaaGreat.Pl
namespace Go.Proofs.YtppfniekcgnmjaaGreat.Pl
open Go.Sx Go.RowKit
set_option maxRecDepth 20000
set_option maxHeartbeats 1000000 in
theorem k_Least (ms : List Meas) (A : Option Addr) (c : Nat) (tk : List Int) (At : Option Addr) (ct : Nat) (fs : List FakeV) (Af : Option Addr) (cf : Nat) (w : World) (hm : Rd w 2 encMe A ms) (ht : Rd w 1 enInt At tk) (hf : Rd w 1 encFk Af fs) (hgf : ∀ f ∈ fs, GoodK w f) : Calls Tryz.prog 12 #[.slice A ms.length c, .slice At tk.length ct, .slice Af fs.length cf] w (fun e w' => ∃ A c, e = .returned (.tuple #[.slice A (LstS ms tk fs).length c, .int .i64 (LstN ms tk fs), .int .i64 (LstE ms tk fs)]) ∧ Grow w w' ∧ Res w w' 1 enInt A (LstS ms tk fs)) := by
  have hlm := hm.len
  refine enter_pure (args := [.slice A ms.length c, .slice At tk.length ct, .slice Af fs.length cf]) [sl (fun b => b < w.heap.size) 2 encMe A ms, sl (fun b => b < w.heap.size) 1 enInt At tk, sl (fun b => b < w.heap.size) 1 encFk Af fs] Tryz.func12 rfl (by rw [Tryz.ntmps12]; simp) (fun g hg => by simp at hg; rcases hg with rfl | rfl | rfl; exact ⟨hm, fun _ h => h⟩; exact ⟨ht, fun _ h => h⟩; exact ⟨hf, fun _ h => h⟩) ?_
  refine cj_seq (cj_region ?_)
  refine oj_box rfl rfl rfl (fun b3 => ?_)
  refine oj_step (y_assign rfl) rfl rfl rfl ?_
  refine oj_step (y_assign rfl) rfl rfl rfl ?_
  refine oj_step (y_assign rfl) rfl rfl rfl ?_
  refine oj_nil ?_
  refine ej_th (cj_seq (cj_seq ?_))
  refine cj_regionG ?_
  refine gj_step (y_load1 Tryz.isAgg39 rfl rfl) rfl rfl rfl (gj_step (y_move rfl) rfl rfl rfl (gj_step (y_move rfl) rfl rfl rfl (?_)))
  refine gj_step (y_call Tryz.call36 rfl (fun w hp => k_skill ms A c tk At ct fs Af cf w hp.rd hp.rd hp.rd (fun f h => (hgf f h).mono hp.below))) rfl rfl rfl ?_
  refine gj_step (y_assign rfl) rfl rfl rfl (?_)
  refine gj_nil ?_
  refine ej_th (cj_seq ?_)
  refine cj_regionG (gj_step (y_move rfl) rfl rfl rfl (gj_step (y_neq rfl rfl) rfl rfl rfl (gj_nil ?_)))
  refine ej_th ?_
  refine cj_cond rfl (fun h19 => ?_) (fun h19 => ?_)
  · have h19b := h19
    try simp only [sxb] at h19
    have hno := skill_no h19b
    refine cj_seq ?_
    refine cj_regionG (gj_step (y_move rfl) rfl rfl rfl (gj_step (y_assign rfl) rfl rfl rfl (gj_step (y_assign rfl) rfl rfl rfl (gj_step (y_assign rfl) rfl rfl rfl (gj_nil ?_)))))
    refine ej_th (cj_ret (ej_then_ret ?_))
    obtain ⟨e1, e2, e3⟩ := lst_no1 hno
    exact ej_ret3 rfl Tryz.results12 rfl rfl rfl (fun w' hp => ⟨none, 0, by rw [e1, e2, e3]; rfl, hp.below, by rw [e2]; exact Res.nil⟩)
  · have h19b := h19
    try simp only [sxb] at h19
    obtain ⟨hmo, hto, hfo, hz⟩ := skill_0 h19b
    obtain ⟨hml, hmb⟩ := meas_bd hmo
    have htb := rdOk_bd hto
    obtain ⟨hfl, hfb⟩ := fakes_bd hfo
    have hlb : ∀ m ∈ ms, 1 ≤ m.lab ∧ m.lab ≤ 1000 := fun m h => (hmb m h).2
    have hpw : 2 ^ ms.length ≤ 2 ^ 8 := Nat.pow_le_pow_right (by decide) hml.2
    refine cj_skip (ej_th (cj_seq ?_))
    refine cj_regionG (gj_step (y_assign rfl) rfl rfl rfl (gj_nil ?_))
    refine ej_th (cj_seq (cj_seq ?_))
    refine cj_regionG (gj_step (y_load1 Tryz.isAgg39 rfl rfl) rfl rfl rfl (gj_step (y_lenA Tryz.underlying39 rfl) rfl rfl rfl (gj_step (y_shl1 rfl rfl (by omega)) rfl rfl rfl (gj_step (y_move rfl) rfl rfl rfl (gj_nil ?_)))))
    refine ej_th (cj_block ?_)
    refine cj_ownNil 3 1 enInt ?_
    refine cj_lpi (X := Nat × Option Addr × Nat × List Int × Int) [(1, _), (2, _), (3, _), (8, _), (23, _)] (fun ⟨n, A6, c6, set, lab⟩ => n ≤ 2 ^ ms.length ∧ (set, lab) = bestN ms tk fs n) (fun ⟨n, A6, c6, set, lab⟩ => [(6, .slice A6 set.length c6), (7, .int .i64 lab), (24, .int .i64 n)]) (fun ⟨n, A6, c6, set, lab⟩ => [ow 3 1 enInt A6 c6 set, ownB b3 (cellsB 39 [.slice A ms.length c])]) (fun ⟨n, A6, c6, set, lab⟩ => [sl (fun b => b < w.heap.size) 2 encMe A ms, sl (fun b => b < w.heap.size) 1 enInt At tk, sl (fun b => b < w.heap.size) 1 encFk Af fs]) (fun ⟨n, A6, c6, set, lab⟩ => 2 ^ ms.length - n) (0, none, 0, [], -1) (⟨Nat.zero_le _, rfl⟩) ⟨rfl, rfl, rfl, rfl, rfl, rfl, rfl, rfl, trivial⟩ ?_
    rintro ⟨n, A6, c6, set, lab⟩ ⟨hn, hst⟩
    dsimp only [List.cons_append, List.nil_append]
    refine cj_seq ?_
    refine cj_regionG (gj_step (y_lss rfl rfl) rfl rfl rfl (gj_nil ?_))
    refine ej_th (cj_seq ?_)
    refine cj_cond rfl (fun h25 => ?_) (fun h25 => ?_)
    · have h25b := h25
      try simp only [sxb] at h25
      have hbd := bestN_bd ms tk fs hlb n
      rw [← hst] at hbd
      simp only at hbd
      refine cj_skip (ej_th (cj_seq (cj_block (cj_seq ?_))))
      refine cj_regionG (gj_step (y_move rfl) rfl rfl rfl (gj_step (y_assign rfl) rfl rfl rfl (gj_nil ?_)))
      refine ej_th (cj_seq ?_)
      refine cj_regionG (gj_step (y_assign rfl) rfl rfl rfl (gj_nil ?_))
      refine ej_th (cj_seq (cj_seq ?_))
      refine cj_regionG (gj_step (y_load1 Tryz.isAgg39 rfl rfl) rfl rfl rfl (gj_step (y_lenA Tryz.underlying39 rfl) rfl rfl rfl (gj_step (y_move rfl) rfl rfl rfl (gj_nil ?_))))
      refine ej_th (cj_block ?_)
      refine cj_ownNil 3 1 enInt ?_
      refine cj_lpi (X := Nat × Option Addr × Nat × List Int) [(6, _), (7, _), (24, _), (1, _), (2, _), (3, _), (8, _), (23, _), (10, _), (28, _)] (fun ⟨k, A1, c1, own⟩ => k ≤ ms.length ∧ own.length ≤ k ∧ own ++ selF n (ms.length - k) k = (selF n ms.length 0)) (fun ⟨k, A1, c1, own⟩ => [(11, .slice A1 own.length c1), (29, .int .i64 k)]) (fun ⟨k, A1, c1, own⟩ => [ow 3 1 enInt A1 c1 own, ow 3 1 enInt A6 c6 set, ownB b3 (cellsB 39 [.slice A ms.length c])]) (fun ⟨k, A1, c1, own⟩ => [sl (fun b => b < w.heap.size) 2 encMe A ms, sl (fun b => b < w.heap.size) 1 enInt At tk, sl (fun b => b < w.heap.size) 1 encFk Af fs]) (fun ⟨k, A1, c1, own⟩ => ms.length - k) (0, none, 0, []) (⟨Nat.zero_le _, Nat.zero_le _, rfl⟩) ⟨rfl, rfl, rfl, rfl, rfl, rfl, rfl, rfl, rfl, rfl, rfl, rfl, trivial⟩ ?_
      rintro ⟨k, A1, c1, own⟩ ⟨hk, hol, hso⟩
      dsimp only [List.cons_append, List.nil_append]
      refine cj_seq ?_
      refine cj_regionG (gj_step (y_lss rfl rfl) rfl rfl rfl (gj_nil ?_))
      refine ej_th (cj_seq ?_)
      refine cj_cond rfl (fun h30 => ?_) (fun h30 => ?_)
      · have h30b := h30
        try simp only [sxb] at h30
        rw [selF_step n ms.length k (by omega)] at hso
        refine cj_skip (ej_th (cj_seq (cj_block (cj_seq ?_))))
        refine cj_regionG (gj_step (y_move rfl) rfl rfl rfl (gj_step (y_assign rfl) rfl rfl rfl (gj_nil ?_)))
        refine ej_th (cj_seq ?_)
        refine cj_regionG (gj_step (y_move rfl) rfl rfl rfl (gj_step (y_move rfl) rfl rfl rfl (gj_step (y_shr rfl rfl (by omega)) rfl rfl rfl (gj_step (y_and1 rfl rfl (by have := Nat.div_le_self n (2 ^ k); omega)) rfl rfl rfl (gj_step (y_eql rfl rfl) rfl rfl rfl (gj_nil ?_))))))
        refine ej_th ?_
        refine cj_cond rfl (fun h36 => ?_) (fun h36 => ?_)
        · have h36b := h36
          try simp only [sxb] at h36
          rw [if_pos (by omega)] at hso
          refine cj_region ?_
          refine oj_step (y_move rfl) rfl rfl rfl ?_
          refine oj_step (y_move rfl) rfl rfl rfl ?_
          refine oj_buildSlice [.int .i64 0] Tryz.underlying23 Tryz.sizeOf3 Tryz.zeroValue3 rfl rfl (by kernel_rfl) rfl rfl (fun b39 => ?_)
          refine oj_append  el23 (fun _ => rfl) enInt_one rfl rfl rfl (reads_lit [(k : Int)] (fun _ => rfl) rfl) (by simp [maxLen]; omega) (by simp; omega) rfl (fun A40 c40 => ?_)
          refine oj_step (y_assign rfl) rfl rfl rfl ?_
          refine oj_nil ?_
          refine ej_blk (ej_th ?_)
          refine cj_regionG (gj_step (y_add rfl rfl (by omega)) rfl rfl rfl (gj_step (y_move rfl) rfl rfl rfl (gj_nil ?_)))
          exact ej_nx (k + 1, A40, c40, own ++ [(k : Int)]) (by simp only; omega) ⟨by first | omega | (simp only; omega), by simp only [List.length_append, List.length_cons, List.length_nil]; omega, by rw [List.append_assoc]; exact hso⟩ ⟨rfl, rfl, rfl, rfl, rfl, rfl, rfl, rfl, rfl, rfl, rfl, rfl, trivial⟩
        · have h36b := h36
          try simp only [sxb] at h36
          rw [if_neg (by omega)] at hso
          refine cj_skip (ej_blk (ej_th ?_))
          refine cj_regionG (gj_step (y_add rfl rfl (by omega)) rfl rfl rfl (gj_step (y_move rfl) rfl rfl rfl (gj_nil ?_)))
          exact ej_nx (k + 1, A1, c1, own) (by simp only; omega) ⟨by first | omega | (simp only; omega), by simp only; omega, hso⟩ ⟨rfl, rfl, rfl, rfl, rfl, rfl, rfl, rfl, rfl, rfl, rfl, rfl, trivial⟩
      · have h30b := h30
        try simp only [sxb] at h30
        have hxo : own = (selF n ms.length 0) := by rw [← hso, show ms.length - k = 0 by omega, selF, List.append_nil]
        have hor : ∀ i ∈ own, 0 ≤ i ∧ i < (ms.length : Int) := fun i hi => by
          rw [hxo] at hi
          have := selF_rng n ms.length 0 i hi
          omega
        have hlN := labN_bd ms hlb own hor
        have hoT : (own.map (labAt ms)).sum ≤ 1000000 := by
          have h9 : (own.map (labAt ms)).sum = labN ms own := rfl
          omega
        have hbs := bestN_succ ms tk fs n
        rw [← hst, stepL, ← hxo] at hbs
        refine cj_exit (ej_then_exit (ej_then_exit (ej_blk_hit (ej_th (cj_seq ?_)))))
        refine cj_regionG ?_
        refine gj_step (y_move rfl) rfl rfl rfl (gj_step (y_makeFunc rfl rfl) rfl rfl rfl (?_))
        refine gj_step (y_call Tryz.call37 rfl (fun w hp => k_totalL own A1 c1 ms A c b3 w (hp.rdO (fun _ => rfl) (by unfold maxLen; omega)) hp.rd hp.bo hmb hor hoT)) rfl rfl rfl ?_
        refine gj_step (y_assign rfl) rfl rfl rfl (?_)
        refine gj_nil ?_
        refine ej_th (cj_seq (cj_seq ?_))
        refine cj_regionG ?_
        refine gj_step (y_load1 Tryz.isAgg39 rfl rfl) rfl rfl rfl (gj_step (y_move rfl) rfl rfl rfl (gj_step (y_move rfl) rfl rfl rfl (gj_step (y_move rfl) rfl rfl rfl (?_))))
        refine gj_step (y_call Tryz.call39 rfl (fun w hp => k_shows ms A c tk At ct fs Af cf own A1 c1 w hp.rd hp.rd hp.rd (fun f h => (hgf f h).mono hp.below) (hp.rdO (fun _ => rfl) (by unfold maxLen; omega)) hml.2 hmb htb (fun f h => (hfb f h).1))) rfl rfl rfl ?_
        refine gj_step (y_not rfl) rfl rfl rfl (?_)
        refine gj_nil ?_
        refine ej_th ?_
        refine cj_cond rfl (fun h50 => ?_) (fun h50 => ?_)
        · have h50b := h50
          try simp only [sxb] at h50
          rw [if_neg (by rw [not_t h50b]; simp)] at hbs
          refine cj_exit (ej_then_exit (ej_blk_hit (ej_th ?_)))
          refine cj_regionG (gj_step (y_add rfl rfl (by omega)) rfl rfl rfl (gj_step (y_move rfl) rfl rfl rfl (gj_nil ?_)))
          exact ej_nx (n + 1, A6, c6, set, lab) (by simp only; omega) ⟨by first | omega | (simp only; omega), hbs.symm⟩ ⟨rfl, rfl, rfl, rfl, rfl, rfl, rfl, rfl, trivial⟩
        · have h50b := h50
          try simp only [sxb] at h50
          rw [if_pos (not_f h50b)] at hbs
          refine cj_skip (ej_th (cj_seq ?_))
          refine cj_regionG ?_
          refine gj_step (y_move rfl) rfl rfl rfl (gj_step (y_lss rfl rfl) rfl rfl rfl (gj_step (y_move rfl) rfl rfl rfl (?_)))
          refine gj_g 3 53 56 rfl rfl rfl rfl (fun hg53 => gj_yes rfl rfl rfl (y_move rfl) rfl rfl (gj_yes rfl rfl rfl (y_move rfl) rfl rfl (gj_yes rfl rfl rfl (y_lss rfl rfl) rfl rfl (gj_nil rfl)))) ?_
          refine gj_step (y_or rfl rfl rfl) rfl rfl rfl (gj_step (y_move rfl) rfl rfl rfl (?_))
          refine gj_g 9 58 67 rfl rfl rfl rfl (fun hg58 => gj_yes rfl rfl rfl (y_move rfl) rfl rfl (gj_yes rfl rfl rfl (y_move rfl) rfl rfl (gj_yes rfl rfl rfl (y_eql rfl rfl) rfl rfl (gj_yes rfl rfl rfl (y_move rfl) rfl rfl (gj_g 4 62 66 rfl rfl rfl rfl (fun hg62 => gj_yes rfl rfl rfl (y_move rfl) rfl rfl (gj_yes rfl rfl rfl (y_move rfl) rfl rfl (gj_yes rfl rfl rfl (y_call Tryz.call40 rfl (fun w hp => k_Compare own set A1 A6 c1 c6 w (hp.rdO (fun _ => rfl) (by unfold maxLen; omega)) (hp.rdO (fun _ => rfl) (by unfold maxLen; omega)))) rfl rfl (gj_yes rfl rfl rfl (y_lss rfl rfl) rfl rfl (gj_nil rfl))))) (gj_yes rfl rfl rfl (y_and rfl rfl rfl) rfl rfl (gj_nil rfl))))))) ?_
          refine gj_step (y_or rfl rfl rfl) rfl rfl rfl (?_)
          refine gj_nil ?_
          refine ej_th ?_
          refine cj_cond rfl (fun h68 => ?_) (fun h68 => ?_)
          · have h68b := h68
            try simp only [sxb] at h68
            have hc : lab < 0 ∨ labN ms own < lab ∨ (labN ms own = lab ∧ cmpL own set < 0) := by simpa [or_assoc] using h68b
            rw [if_pos hc] at hbs
            refine cj_regionG (gj_step (y_move rfl) rfl rfl rfl (gj_step (y_move rfl) rfl rfl rfl (gj_step (y_assign rfl) rfl rfl rfl (gj_step (y_assign rfl) rfl rfl rfl (gj_nil ?_)))))
            refine ej_blk (ej_th ?_)
            refine cj_regionG (gj_step (y_add rfl rfl (by omega)) rfl rfl rfl (gj_step (y_move rfl) rfl rfl rfl (gj_nil ?_)))
            exact ej_nx (n + 1, A1, c1, own, labN ms own) (by simp only; omega) ⟨by first | omega | (simp only; omega), hbs.symm⟩ ⟨rfl, rfl, rfl, rfl, rfl, rfl, rfl, rfl, trivial⟩
          · have h68b := h68
            try simp only [sxb] at h68
            have hc : ¬ (lab < 0 ∨ labN ms own < lab ∨ (labN ms own = lab ∧ cmpL own set < 0)) := by
              intro hc
              have : ((decide (lab < 0) || decide (labN ms own < lab)) || ((labN ms own == lab) && decide (cmpL own set < 0))) = true := by simpa [or_assoc] using hc
              rw [this] at h68b; cases h68b
            rw [if_neg hc] at hbs
            refine cj_skip (ej_blk (ej_th ?_))
            refine cj_regionG (gj_step (y_add rfl rfl (by omega)) rfl rfl rfl (gj_step (y_move rfl) rfl rfl rfl (gj_nil ?_)))
            exact ej_nx (n + 1, A6, c6, set, lab) (by simp only; omega) ⟨by first | omega | (simp only; omega), hbs.symm⟩ ⟨rfl, rfl, rfl, rfl, rfl, rfl, rfl, rfl, trivial⟩
    · have h25b := h25
      try simp only [sxb] at h25
      have hb : (set, lab) = best ms tk fs := by rw [best, hst, show n = 2 ^ ms.length by omega]
      have hbd := bestN_bd ms tk fs hlb n
      rw [← hst] at hbd
      simp only at hbd
      refine cj_exit (ej_then_exit (ej_then_exit (ej_blk_hit (ej_th (cj_seq (cj_seq ?_))))))
      refine cj_regionG (gj_step (y_move rfl) rfl rfl rfl (gj_step (y_lss rfl rfl) rfl rfl rfl (gj_nil ?_)))
      refine ej_th ?_
      refine cj_cond rfl (fun h73 => ?_) (fun h73 => ?_)
      · have h73b := h73
        try simp only [sxb] at h73
        have hlt : (best ms tk fs).2 < 0 := by rw [← hb]; exact h73
        refine cj_seq ?_
        refine cj_regionG (gj_step (y_assign rfl) rfl rfl rfl (gj_step (y_assign rfl) rfl rfl rfl (gj_step (y_assign rfl) rfl rfl rfl (gj_nil ?_))))
        refine ej_th (cj_ret (ej_then_ret ?_))
        obtain ⟨e1, e2, e3⟩ := lst_no2 hz hlt
        exact ej_ret3 rfl Tryz.results12 rfl rfl rfl (fun w' hp => ⟨none, 0, by rw [e1, e2, e3]; rfl, hp.below, by rw [e2]; exact Res.nil⟩)
      · have h73b := h73
        try simp only [sxb] at h73
        have hlt : ¬ (best ms tk fs).2 < 0 := by rw [← hb]; simp only; omega
        refine cj_skip (ej_th (cj_seq ?_))
        refine cj_regionG (gj_step (y_move rfl) rfl rfl rfl (gj_step (y_move rfl) rfl rfl rfl (gj_step (y_assign rfl) rfl rfl rfl (gj_step (y_assign rfl) rfl rfl rfl (gj_step (y_assign rfl) rfl rfl rfl (gj_nil ?_))))))
        refine ej_th (cj_ret ?_)
        obtain ⟨e1, e2, e3⟩ := lst_yes hz hlt
        rw [← hb] at e2 e3
        simp only at e2 e3
        exact ej_ret3 rfl Tryz.results12 rfl rfl rfl (fun w' hp => ⟨A6, c6, by rw [e1, e2, e3], hp.below, by rw [e2]; exact hp.res (fun _ => rfl) (by unfold maxLen; omega)⟩)

end Go.Proofs.YtppfniekcgnmjaaGreat.Pl
namespace Go.Proofs.YtppfniekcgnmjaaGreat.To
open Go.Sx Go.RowKit
set_option maxRecDepth 20000
theorem fa42_2 : FieldIs Tryz.prog 42 2 2 1 false := ⟨⟨_, _, Tryz.underlying42, rfl, rfl, Tryz.sizeOf40, Tryz.isAgg40, by decide⟩⟩
end Go.Proofs.YtppfniekcgnmjaaGreat.To
namespace Go.Proofs.YtppfniekcgnmjaaGreat.To
open Go.Sx Go.RowKit Um
set_option maxRecDepth 20000
set_option maxHeartbeats 4000000 in
theorem k_TopFound (ms : List Pl.Meas) (A : Option Addr) (c : Nat) (tk : List Int) (At : Option Addr) (ct : Nat) (fs : List Pl.FakeV) (Af : Option Addr) (cf : Nat) (n0 n1 n2 : Int) (bits : List Int) (Ab : Option Addr) (cb : Nat) (w : World) (hm : Rd w 2 Pl.encMe A ms) (ht : Rd w 1 enInt At tk) (hf : Rd w 1 Pl.encFk Af fs) (hgf : ∀ f ∈ fs, Pl.GoodK w f) (hb0 : Rd w 1 enInt Ab bits) (hb8 : bits.length * 8 ≤ 140737488351232) : Calls Tryz.prog 4 #[.agg #[.slice A ms.length c, .slice At tk.length ct, .slice Af fs.length cf], .agg #[.int .i64 n0, .int .i64 n1, .int .i64 n2], .slice Ab bits.length cb] w (fun e w' => e = .returned (.bool true) ∧ Grow w w') := by
  have hlf := hf.len
  refine enter_pure (args := [.agg #[.slice A ms.length c, .slice At tk.length ct, .slice Af fs.length cf], .agg #[.int .i64 n0, .int .i64 n1, .int .i64 n2], .slice Ab bits.length cb]) [sl (fun b => b < w.heap.size) 2 Pl.encMe A ms, sl (fun b => b < w.heap.size) 1 enInt At tk, sl (fun b => b < w.heap.size) 1 Pl.encFk Af fs, sl (fun b => b < w.heap.size) 1 enInt Ab bits] Tryz.func4 rfl (by rw [Tryz.ntmps4]; simp) (fun g hg => by simp at hg; rcases hg with rfl | rfl | rfl | rfl; exact ⟨hm, fun _ h => h⟩; exact ⟨ht, fun _ h => h⟩; exact ⟨hf, fun _ h => h⟩; exact ⟨hb0, fun _ h => h⟩) ?_
  refine cj_seq (cj_region ?_)
  refine oj_box rfl rfl rfl (fun b3 => ?_)
  refine oj_box rfl rfl rfl (fun b4 => ?_)
  refine oj_step (y_assign rfl) rfl rfl rfl ?_
  refine oj_nil ?_
  refine ej_th (cj_seq (cj_region ?_))
  refine oj_step (y_fa0 fa42_0 rfl) rfl rfl rfl ?_
  refine oj_step (y_load1 Tryz.isAgg39 rfl rfl) rfl rfl rfl ?_
  refine oj_step (y_fa fa42_1 rfl) rfl rfl rfl ?_
  refine oj_step (y_load1 Tryz.isAgg23 rfl rfl) rfl rfl rfl ?_
  refine oj_step (y_fa fa42_2 rfl) rfl rfl rfl ?_
  refine oj_step (y_load1 Tryz.isAgg40 rfl rfl) rfl rfl rfl ?_
  refine oj_callS (fun A c => .tuple #[.slice A (Pl.LstS ms tk fs).length c, .int .i64 (Pl.LstN ms tk fs), .int .i64 (Pl.LstE ms tk fs)]) 1 enInt (Pl.LstS ms tk fs) Tryz.call12 rfl (fun w hp => Pl.k_Least ms A c tk At ct fs Af cf w hp.rd hp.rd hp.rd (fun f h => (hgf f h).mono hp.below)) rfl (fun A33 c33 fp33 hfp33 => ?_)
  refine oj_step (y_move rfl) rfl rfl rfl ?_
  refine oj_step (y_extract rfl rfl) rfl rfl rfl ?_
  refine oj_step (y_extract rfl rfl) rfl rfl rfl ?_
  refine oj_step (y_extract rfl rfl) rfl rfl rfl ?_
  refine oj_step (y_assign rfl) rfl rfl rfl ?_
  refine oj_step (y_assign rfl) rfl rfl rfl ?_
  refine oj_step (y_assign rfl) rfl rfl rfl ?_
  refine oj_nil ?_
  refine ej_th (cj_seq (cj_seq ?_))
  refine cj_regionG (gj_step (y_move rfl) rfl rfl rfl (gj_step (y_neq rfl rfl) rfl rfl rfl (gj_step (y_move rfl) rfl rfl rfl (gj_g 4 39 43 rfl rfl rfl rfl (fun hg39 => gj_yes rfl rfl rfl (y_fa fa42_2 rfl) rfl rfl (gj_yes rfl rfl rfl (y_load1 Tryz.isAgg40 rfl rfl) rfl rfl (gj_yes rfl rfl rfl (y_lenA Tryz.underlying40 rfl) rfl rfl (gj_yes rfl rfl rfl (y_eql rfl rfl) rfl rfl (gj_nil rfl))))) (gj_step (y_or rfl rfl rfl) rfl rfl rfl (gj_nil ?_))))))
  refine ej_th ?_
  refine cj_cond rfl (fun h44 => ?_) (fun h44 => ?_)
  · have h44b := h44
    try simp only [sxb] at h44
    refine cj_seq ?_
    refine cj_regionG ?_
    refine gj_step (y_call Tryz.call13 rfl (fun w hp => k_found10 w)) rfl rfl rfl ?_
    refine gj_step (y_assign rfl) rfl rfl rfl (?_)
    refine gj_nil ?_
    refine ej_th (cj_ret (ej_then_ret ?_))
    exact ej_ret1 rfl Tryz.results4 rfl (fun w' hp => ⟨rfl, hp.below⟩)
  · have h44b := h44
    try simp only [sxb] at h44
    have hlz : Pl.LstE ms tk fs = 0 := by simp at h44; exact h44.1
    have hfn : fs.length ≠ 0 := by simp at h44; intro e; exact h44.2 (List.eq_nil_of_length_eq_zero e)
    obtain ⟨hmo, hto, hfo, _⟩ := Pl.skill_0 (ms := ms) (tk := tk) (fs := fs) (by rw [(Pl.lst_0 hlz).1]; rfl)
    obtain ⟨hml, hmb⟩ := Pl.meas_bd hmo
    have htb := Pl.rdOk_bd hto
    obtain ⟨hfl, hfb⟩ := Pl.fakes_bd hfo
    have hL := Pl.leastIs hlz
    have hs8 : (Pl.LstS ms tk fs).length ≤ 8 := by
      rcases Pl.setF_len ms.length _ (-1) hL.ok with h9 | h9
      · omega
      · rw [h9]; exact Nat.zero_le _
    have hq0 := ringI_bd n0 5 (by omega)
    refine cj_skip (ej_th (cj_seq ?_))
    refine cj_regionG ?_
    refine gj_step (y_ixArr Tryz.underlying43 Tryz.sizeOf3 rfl rfl (by omega)) rfl rfl rfl (gj_step (y_load1 Tryz.isAgg3 rfl rfl) rfl rfl rfl (?_))
    refine gj_step (y_call Tryz.call9 rfl (fun w hp => k_Ring n0 5 w (by omega))) rfl rfl rfl ?_
    refine gj_step (y_add rfl rfl (by omega)) rfl rfl rfl (gj_step (y_assign rfl) rfl rfl rfl (?_))
    refine gj_nil ?_
    refine ej_th (cj_seq ?_)
    obtain ⟨st, hst⟩ : ∃ st : Nat, 1 + ringI n0 5 = (st : Int) := ⟨(1 + ringI n0 5).toNat, by omega⟩
    rw [hst]
    have hq1 := ringI_bd n1 ((st : Int) + 1) (by omega)
    have hq2 := ringI_bd n2 ((st : Int) + 1) (by omega)
    refine cj_draw (by kernel_rfl) (by kernel_rfl) ?_
    refine gj_step (y_ixArr Tryz.underlying43 Tryz.sizeOf3 rfl rfl (by omega)) rfl rfl rfl (gj_step (y_load1 Tryz.isAgg3 rfl rfl) rfl rfl rfl (gj_step (y_move rfl) rfl rfl rfl (gj_step (y_add rfl rfl (by omega)) rfl rfl rfl (?_))))
    refine gj_step (y_call Tryz.call9 rfl (fun w hp => k_Ring n1 _ w (by omega))) rfl rfl rfl ?_
    refine gj_step (y_ixArr Tryz.underlying43 Tryz.sizeOf3 rfl rfl (by omega)) rfl rfl rfl (gj_step (y_load1 Tryz.isAgg3 rfl rfl) rfl rfl rfl (gj_step (y_move rfl) rfl rfl rfl (gj_step (y_add rfl rfl (by omega)) rfl rfl rfl (?_))))
    refine gj_step (y_call Tryz.call9 rfl (fun w hp => k_Ring n2 _ w (by omega))) rfl rfl rfl ?_
    refine gj_step (y_assign rfl) rfl rfl rfl (gj_step (y_assign rfl) rfl rfl rfl (?_))
    refine gj_nil ?_
    refine ej_th (cj_seq ?_)
    obtain ⟨many, hmn⟩ : ∃ many : Nat, ringI n1 ((st : Int) + 1) = (many : Int) := ⟨(ringI n1 ((st : Int) + 1)).toNat, by omega⟩
    obtain ⟨sw, hsw⟩ : ∃ sw : Nat, ringI n2 ((st : Int) + 1) = (sw : Int) := ⟨(ringI n2 ((st : Int) + 1)).toNat, by omega⟩
    rw [hmn, hsw]
    have hp5 : 2 ^ st ≤ 2 ^ 5 := Nat.pow_le_pow_right (by decide) (by omega)
    refine cj_region ?_
    refine oj_step (y_move rfl) rfl rfl rfl ?_
    refine oj_buildSlice [.int .i64 0] Tryz.underlying23 Tryz.sizeOf3 Tryz.zeroValue3 rfl rfl (by kernel_rfl) rfl rfl (fun b62 => ?_)
    refine oj_buildSlice (cs := [.int .i64 1]) [.int .i64 0] Tryz.underlying23 Tryz.sizeOf3 Tryz.zeroValue3 rfl rfl (by kernel_rfl) (by kernel_rfl) rfl (fun b63 => ?_)
    refine oj_step (y_build (cs := [.slice (some ⟨b62, 0, none⟩) 1 1, .slice (some ⟨b63, 0, none⟩) 1 1, .int .i64 1, .int .i64 0]) st49 rfl (by kernel_rfl)) rfl rfl rfl ?_
    refine oj_step (y_move rfl) rfl rfl rfl ?_
    refine oj_buildSlice [.int .i64 0] Tryz.underlying23 Tryz.sizeOf3 Tryz.zeroValue3 rfl rfl (by kernel_rfl) rfl rfl (fun b66 => ?_)
    refine oj_step (y_move rfl) rfl rfl rfl ?_
    refine oj_buildSlice [.int .i64 0] Tryz.underlying23 Tryz.sizeOf3 Tryz.zeroValue3 rfl rfl (by kernel_rfl) rfl rfl (fun b68 => ?_)
    refine oj_step (y_call Tryz.call14 rfl (fun w hp => by
      have h := Ce.k_Miss ((st : Nat) : Int) 1 1 (some ⟨b62, 0, none⟩) (some ⟨b63, 0, none⟩) 1 1 ((many : Nat) : Int) ((sw : Nat) : Int) (some ⟨b66, 0, none⟩) (some ⟨b68, 0, none⟩) 1 1 w (hp.rdLit (b := b62) (sz := 1) (enc := enInt) ([((st : Nat) : Int)] : List Int) (fun _ => rfl) rfl (by unfold maxLen; simp)) (hp.rdLit (b := b63) (sz := 1) (enc := enInt) ([1] : List Int) (fun _ => rfl) rfl (by unfold maxLen; simp)) (by omega) (by omega) (by omega) (hp.rdLit (b := b66) (sz := 1) (enc := enInt) ([((many : Nat) : Int)] : List Int) (fun _ => rfl) rfl (by unfold maxLen; simp)) (hp.rdLit (b := b68) (sz := 1) (enc := enInt) ([((sw : Nat) : Int)] : List Int) (fun _ => rfl) rfl (by unfold maxLen; simp)) (by omega) (by omega)
      rw [show (((st : Nat) : Int) - ((sw : Nat) : Int)).toNat = st - sw by omega, show ((st : Nat) : Int).toNat = st by omega, show ((many : Nat) : Int).toNat = many by omega] at h
      exact h)) rfl rfl rfl ?_
    refine oj_step (y_move rfl) rfl rfl rfl ?_
    refine oj_step (y_extract rfl rfl) rfl rfl rfl ?_
    refine oj_step (y_extract rfl rfl) rfl rfl rfl ?_
    refine oj_step (y_extract rfl rfl) rfl rfl rfl ?_
    refine oj_step (y_assign rfl) rfl rfl rfl ?_
    refine oj_step (y_assign rfl) rfl rfl rfl ?_
    refine oj_step (y_assign rfl) rfl rfl rfl ?_
    refine oj_nil ?_
    refine ej_th (cj_seq (cj_seq ?_))
    refine cj_regionG (gj_step (y_move rfl) rfl rfl rfl (gj_step (y_neq rfl rfl) rfl rfl rfl (gj_nil ?_)))
    refine ej_th ?_
    refine cj_cond rfl (fun h74 => ?_) (fun h74 => ?_)
    · exact absurd h74 (by decide)
    · have h74b := h74
      try simp only [sxb] at h74
      refine cj_skip (ej_th (cj_seq ?_))
      have hrb := ringI_bd (pickI bits 0) fs.length (by omega)
      obtain ⟨f, hxf⟩ : ∃ f, fs[(ringI (pickI bits 0) fs.length).toNat]? = some f := ⟨_, List.getElem?_eq_getElem (by omega)⟩
      have hfm := List.mem_of_getElem? hxf
      have hgr := hgf f hfm
      have hfi := hfb f hfm
      refine cj_rd hgr (fun _ h => h) ?_
      refine cj_plan 12 (by kernel_rfl) (by kernel_rfl) ?_
      refine pl_y 0 rfl (y_fa fa42_2 rfl) rfl rfl rfl rfl (by kernel_rfl) ?_
      refine pl_y 1 rfl (y_load1 Tryz.isAgg40 rfl rfl) rfl rfl rfl rfl (by kernel_rfl) ?_
      refine pl_y 2 rfl (y_move rfl) rfl rfl rfl rfl (by kernel_rfl) ?_
      refine pl_y 3 rfl (y_call Tryz.call15 rfl (fun w hp => k_Pick bits Ab cb 0 w hp.rd hb8)) rfl rfl rfl rfl (by kernel_rfl) ?_
      refine pl_y 4 rfl (y_fa fa42_2 rfl) rfl rfl rfl rfl (by kernel_rfl) ?_
      refine pl_y 5 rfl (y_load1 Tryz.isAgg40 rfl rfl) rfl rfl rfl rfl (by kernel_rfl) ?_
      refine pl_y 6 rfl (y_lenA Tryz.underlying40 rfl) rfl rfl rfl rfl (by kernel_rfl) ?_
      refine pl_y 7 rfl (y_call Tryz.call9 rfl (fun w hp => k_Ring _ _ w (by omega))) rfl rfl rfl rfl (by kernel_rfl) ?_
      refine pl_y 8 rfl (y_ixR (reads_sl) Tryz.underlying40 Tryz.sizeOf52 rfl rfl (hrb)) rfl rfl rfl rfl (by kernel_rfl) ?_
      refine pl_y 9 rfl (y_ldW (reads_sl) Tryz.isAgg52 Tryz.sizeOf52 rfl (hxf) (fun _ => rfl)) rfl rfl rfl rfl (by kernel_rfl) ?_
      refine pl_w1 10 (by kernel_rfl) rfl rfl (pl_fire rfl rfl rfl (by kernel_rfl) ?_)
      refine oj_alloc Tryz.zeroValue52 rfl rfl (fun b15 => ?_)
      refine oj_nil ?_
      refine ej_pl (lt_y (y_ldW (reads_sl) Tryz.isAgg52 Tryz.sizeOf52 rfl (hxf) (fun _ => rfl)) rfl (lt_y (y_ixR (reads_sl) Tryz.underlying40 Tryz.sizeOf52 rfl rfl (hrb)) rfl (lt_y (y_call Tryz.call9 rfl (fun w hp => k_Ring _ _ w (by omega))) rfl (lt_y (y_lenA Tryz.underlying40 rfl) rfl (lt_y (y_load1 Tryz.isAgg40 rfl rfl) rfl (lt_y (y_fa fa42_2 rfl) rfl (lt_y (y_call Tryz.call15 rfl (fun w hp => k_Pick bits Ab cb 0 w hp.rd hb8)) rfl (lt_y (y_move rfl) rfl (lt_y (y_load1 Tryz.isAgg40 rfl rfl) rfl (lt_y (y_fa fa42_2 rfl) rfl (lt_nil))))))))))) ?_
      refine pl_w1 11 (by kernel_rfl) rfl rfl (pl_fire rfl rfl rfl (by kernel_rfl) ?_)
      refine oj_store rfl rfl rfl rfl Tryz.sizeOf52 rfl ?_
      refine oj_nil ?_
      refine ej_pl (lt_w (by kernel_rfl) (lt_w (by kernel_rfl) (lt_w (by kernel_rfl) (lt_w (by kernel_rfl) (lt_w (by kernel_rfl) (lt_w (by kernel_rfl) (lt_w (by kernel_rfl) (lt_w (by kernel_rfl) (lt_w (by kernel_rfl) (lt_w (by kernel_rfl) (lt_nil))))))))))) ?_
      refine pl_end (by kernel_rfl) ?_
      refine ej_th (cj_seq ?_)
      refine cj_regionG (gj_step (y_assign rfl) rfl rfl rfl (gj_step (y_assign rfl) rfl rfl rfl (gj_nil ?_)))
      refine ej_th (cj_seq (cj_seq ?_))
      refine cj_regionG (gj_step (y_assign rfl) rfl rfl rfl (gj_nil ?_))
      refine ej_th (cj_block ?_)
      refine cj_lpi (X := Nat) [(2, _), (3, _), (7, _), (10, _), (11, _), (12, _), (13, _), (14, _), (15, _)] (fun c0 => c0 ≤ 2 ^ st) (fun c0 => [(18, .int .i64 (c0 : Nat)), (16, .int .i64 ((cntC st many c0 : Nat) : Int)), (17, .int .i64 ((cntM st many sw c0 : Nat) : Int))]) (fun c0 => [ownB b15 (cellsB 52 [.slice f.A f.has.length f.c]), ownB b4 (cellsB 43 [.int .i64 n0, .int .i64 n1, .int .i64 n2]), ownB b3 (cellsB 42 [.slice A ms.length c, .slice At tk.length ct, .slice Af fs.length cf])]) (fun c0 => [sl (fun b => b < w.heap.size) 2 Pl.encSp f.A f.has, sl fp33 1 enInt A33 (Pl.LstS ms tk fs), sl (fun b => b < w.heap.size) 2 Pl.encMe A ms, sl (fun b => b < w.heap.size) 1 enInt At tk, sl (fun b => b < w.heap.size) 1 Pl.encFk Af fs, sl (fun b => b < w.heap.size) 1 enInt Ab bits]) (fun c0 => 2 ^ st - c0) 0 (Nat.zero_le _) ⟨rfl, rfl, rfl, rfl, rfl, rfl, rfl, rfl, rfl, rfl, rfl, rfl, trivial⟩ ?_
      rintro c0 hc0
      dsimp only [List.cons_append, List.nil_append]
      refine cj_seq (cj_seq ?_)
      refine cj_regionG (gj_step (y_move rfl) rfl rfl rfl (gj_step (y_move rfl) rfl rfl rfl (gj_step (y_shl1 rfl rfl (by omega)) rfl rfl rfl (gj_step (y_lss rfl rfl) rfl rfl rfl (gj_nil ?_)))))
      refine ej_th ?_
      refine cj_cond rfl (fun h88 => ?_) (fun h88 => ?_)
      · have h88b := h88
        try simp only [sxb] at h88
        have hle1 := cntC_le st many c0
        have hle2 := cntM_le st many sw c0
        refine cj_skip (ej_th (cj_seq (cj_block (cj_seq ?_))))
        refine cj_regionG (gj_step (y_assign rfl) rfl rfl rfl (gj_step (y_assign rfl) rfl rfl rfl (gj_nil ?_)))
        refine ej_th (cj_seq (cj_seq ?_))
        refine cj_regionG (gj_step (y_assign rfl) rfl rfl rfl (gj_nil ?_))
        refine ej_th (cj_block ?_)
        refine cj_lpi (X := Nat) [(18, _), (16, _), (17, _), (2, _), (3, _), (7, _), (10, _), (11, _), (12, _), (13, _), (14, _), (15, _)] (fun k => k ≤ st) (fun k => [(21, .int .i64 (k : Nat)), (19, .int .i64 ((popN k c0 : Nat) : Int)), (20, .bool (wrgN sw k c0))]) (fun k => [ownB b15 (cellsB 52 [.slice f.A f.has.length f.c]), ownB b4 (cellsB 43 [.int .i64 n0, .int .i64 n1, .int .i64 n2]), ownB b3 (cellsB 42 [.slice A ms.length c, .slice At tk.length ct, .slice Af fs.length cf])]) (fun k => [sl (fun b => b < w.heap.size) 2 Pl.encSp f.A f.has, sl fp33 1 enInt A33 (Pl.LstS ms tk fs), sl (fun b => b < w.heap.size) 2 Pl.encMe A ms, sl (fun b => b < w.heap.size) 1 enInt At tk, sl (fun b => b < w.heap.size) 1 Pl.encFk Af fs, sl (fun b => b < w.heap.size) 1 enInt Ab bits]) (fun k => st - k) 0 (Nat.zero_le _) ⟨rfl, rfl, rfl, rfl, rfl, rfl, rfl, rfl, rfl, rfl, rfl, rfl, rfl, rfl, rfl, trivial⟩ ?_
        rintro k hk
        dsimp only [List.cons_append, List.nil_append]
        refine cj_seq (cj_seq ?_)
        refine cj_regionG (gj_step (y_move rfl) rfl rfl rfl (gj_step (y_move rfl) rfl rfl rfl (gj_step (y_lss rfl rfl) rfl rfl rfl (gj_nil ?_))))
        refine ej_th ?_
        refine cj_cond rfl (fun h93 => ?_) (fun h93 => ?_)
        · have h93b := h93
          try simp only [sxb] at h93
          have hple := popN_le c0 k
          refine cj_skip (ej_th (cj_seq (cj_block (cj_seq (cj_seq ?_)))))
          refine cj_regionG ?_
          refine gj_step (y_move rfl) rfl rfl rfl (gj_step (y_move rfl) rfl rfl rfl (?_))
          refine gj_step (y_call Tryz.call16 rfl (fun w hp => k_Bit c0 k w (by omega))) rfl rfl rfl ?_
          refine gj_step (y_not rfl) rfl rfl rfl (?_)
          refine gj_nil ?_
          refine ej_th ?_
          refine cj_cond rfl (fun h99 => ?_) (fun h99 => ?_)
          · have h99b := h99
            try simp only [sxb] at h99
            refine cj_exit (ej_then_exit (ej_blk_hit (ej_th ?_)))
            refine cj_regionG (gj_step (y_move rfl) rfl rfl rfl (gj_step (y_add rfl rfl (by omega)) rfl rfl rfl (gj_step (y_assign rfl) rfl rfl rfl (gj_nil ?_))))
            have hbt : ¬ c0 / 2 ^ k % 2 = 1 := by simpa using h99b
            rw [show ((popN k c0 : Nat) : Int) = ((popN (k + 1) c0 : Nat) : Int) by rw [popN, if_neg hbt]; omega, show wrgN sw k c0 = wrgN sw (k + 1) c0 by rw [wrgN, decide_eq_false hbt, Bool.false_and, Bool.or_false]]
            exact ej_nx (k + 1) (by omega) (by omega) ⟨rfl, rfl, rfl, rfl, rfl, rfl, rfl, rfl, rfl, rfl, rfl, rfl, rfl, rfl, rfl, trivial⟩
          · have h99b := h99
            try simp only [sxb] at h99
            refine cj_skip (ej_th (cj_seq ?_))
            refine cj_regionG (gj_step (y_move rfl) rfl rfl rfl (gj_step (y_add rfl rfl (by omega)) rfl rfl rfl (gj_step (y_assign rfl) rfl rfl rfl (gj_nil ?_))))
            refine ej_th (cj_seq (cj_region ?_))
            refine oj_step (y_loadN Tryz.isAgg42 Tryz.sizeOf42 rfl) rfl rfl rfl ?_
            refine oj_step (y_move rfl) rfl rfl rfl ?_
            refine oj_step (y_loadN Tryz.isAgg52 Tryz.sizeOf52 rfl) rfl rfl rfl ?_
            refine oj_step (y_move rfl) rfl rfl rfl ?_
            refine oj_step (y_move rfl) rfl rfl rfl ?_
            refine oj_step (y_lss rfl rfl) rfl rfl rfl ?_
            refine oj_step (y_move rfl) rfl rfl rfl ?_
            refine oj_step (y_move rfl) rfl rfl rfl ?_
            refine oj_callR (X := { z : Option Addr × Nat × List Int × Nat × Nat // MeasP ms tk f (decide (((k : Nat) : Int) < ((sw : Nat) : Int))) (Pl.LstS ms tk fs) z.2.2.1 }) (fun z => .tuple #[.slice z.1.1 z.1.2.2.1.length z.1.2.1, .bool true]) (fun z => [sl (fun b => z.1.2.2.2.1 ≤ b ∧ b < z.1.2.2.2.2) 1 enInt z.1.1 z.1.2.2.1]) Tryz.call17 rfl (fun w1 hp => (k_measured ms A c tk At ct Af cf fs.length (Pl.LstS ms tk fs) A33 c33 f (decide (((k : Nat) : Int) < ((sw : Nat) : Int))) bits Ab cb k w1 hp.rd hp.rd hp.rd hp.rd hp.rd hb8 hml.2 htb.1 hfi.1 hs8 (by omega) (fun m h => (hmb m h).1) (fun x h => (htb.2 x h).2) hfi.2 (least_taken hlz)).mono fun e w2 ⟨A1, c1, rd, h1, h2, h3, h4⟩ => ⟨⟨(A1, c1, rd, w1.heap.size, w2.heap.size), h4⟩, h1, h2, fun g hg => by
              rw [List.mem_singleton.1 hg]
              exact ⟨h3, fun b hb => .inr hb⟩⟩) rfl ?_
            rintro ⟨⟨Aq, cq, rd, p1, p2⟩, hme⟩
            dsimp only [List.cons_append, List.nil_append] at hme ⊢
            have hag := meas_agr hlz hfm hme
            refine oj_step (y_move rfl) rfl rfl rfl ?_
            refine oj_step (y_extract rfl rfl) rfl rfl rfl ?_
            refine oj_step (y_extract rfl rfl) rfl rfl rfl ?_
            refine oj_step (y_assign rfl) rfl rfl rfl ?_
            refine oj_step (y_assign rfl) rfl rfl rfl ?_
            refine oj_nil ?_
            refine ej_th (cj_seq (cj_seq ?_))
            refine cj_regionG (gj_step (y_move rfl) rfl rfl rfl (gj_step (y_not rfl) rfl rfl rfl (gj_nil ?_)))
            refine ej_th ?_
            refine cj_cond rfl (fun h115 => ?_) (fun h115 => ?_)
            · exact absurd h115 (by decide)
            · have h115b := h115
              try simp only [sxb] at h115
              refine cj_skip (ej_th (cj_seq ?_))
              refine cj_regionG ?_
              refine gj_step (y_fa0 fa42_0 rfl) rfl rfl rfl (gj_step (y_load1 Tryz.isAgg39 rfl rfl) rfl rfl rfl (gj_step (y_fa fa42_1 rfl) rfl rfl rfl (gj_step (y_load1 Tryz.isAgg23 rfl rfl) rfl rfl rfl (gj_step (y_move rfl) rfl rfl rfl (?_)))))
              refine gj_step (y_call Tryz.call18 rfl (fun w hp => by
                have h := Pl.k_Agree ms A c tk rd At Aq ct cq w hp.rd hp.rd hp.rd
                rw [hag.1, hag.2] at h
                exact h)) rfl rfl rfl ?_
              refine gj_step (y_move rfl) rfl rfl rfl (gj_step (y_extract rfl rfl) rfl rfl rfl (gj_step (y_extract rfl rfl) rfl rfl rfl (gj_step (y_assign rfl) rfl rfl rfl (gj_step (y_assign rfl) rfl rfl rfl (?_)))))
              refine gj_nil ?_
              refine ej_th (cj_seq (cj_seq ?_))
              refine cj_regionG (gj_step (y_move rfl) rfl rfl rfl (gj_step (y_neq rfl rfl) rfl rfl rfl (gj_nil ?_)))
              refine ej_th ?_
              refine cj_cond rfl (fun h126 => ?_) (fun h126 => ?_)
              · exact absurd h126 (by decide)
              · have h126b := h126
                try simp only [sxb] at h126
                refine cj_skip (ej_th ?_)
                refine cj_regionG (gj_step (y_move rfl) rfl rfl rfl (gj_step (y_move rfl) rfl rfl rfl (gj_g 2 128 130 rfl rfl rfl rfl (fun hg128 => gj_yes rfl rfl rfl (y_move rfl) rfl rfl (gj_yes rfl rfl rfl (y_not rfl) rfl rfl (gj_nil rfl))) (gj_step (y_or rfl rfl rfl) rfl rfl rfl (gj_step (y_assign rfl) rfl rfl rfl (gj_nil ?_))))))
                refine ej_blk (ej_th ?_)
                refine cj_regionG (gj_step (y_move rfl) rfl rfl rfl (gj_step (y_add rfl rfl (by omega)) rfl rfl rfl (gj_step (y_assign rfl) rfl rfl rfl (gj_nil ?_))))
                have hbt : c0 / 2 ^ k % 2 = 1 := by simpa using h99b
                rw [show ((popN k c0 : Nat) : Int) + 1 = ((popN (k + 1) c0 : Nat) : Int) by rw [popN, if_pos hbt]; omega, show (wrgN sw k c0 || !(!(decide (((k : Nat) : Int) < ((sw : Nat) : Int))))) = wrgN sw (k + 1) c0 by rw [wrgN, decide_eq_true hbt, Bool.true_and, Bool.not_not, show (decide (((k : Nat) : Int) < ((sw : Nat) : Int))) = decide (k < sw) from decide_eq_decide.2 (by omega)]]
                exact ej_nx (k + 1) (by omega) (by omega) ⟨rfl, rfl, rfl, rfl, rfl, rfl, rfl, rfl, rfl, rfl, rfl, rfl, rfl, rfl, rfl, trivial⟩
        · have h93b := h93
          try simp only [sxb] at h93
          have hke : st = k := by omega
          subst hke
          refine cj_exit (ej_then_exit (ej_then_exit (ej_blk_hit (ej_th (cj_seq ?_)))))
          refine cj_regionG (gj_step (y_move rfl) rfl rfl rfl (gj_step (y_move rfl) rfl rfl rfl (gj_step (y_eql rfl rfl) rfl rfl rfl (gj_nil ?_))))
          refine ej_th ?_
          refine cj_cond rfl (fun h134 => ?_) (fun h134 => ?_)
          · have h134b := h134
            try simp only [sxb] at h134
            refine cj_seq ?_
            refine cj_regionG (gj_step (y_move rfl) rfl rfl rfl (gj_step (y_add rfl rfl (by omega)) rfl rfl rfl (gj_step (y_assign rfl) rfl rfl rfl (gj_nil ?_))))
            refine ej_th (cj_seq ?_)
            refine cj_regionG (gj_step (y_move rfl) rfl rfl rfl (gj_step (y_not rfl) rfl rfl rfl (gj_nil ?_)))
            refine ej_th ?_
            refine cj_cond rfl (fun h138 => ?_) (fun h138 => ?_)
            · have h138b := h138
              try simp only [sxb] at h138
              refine cj_regionG (gj_step (y_move rfl) rfl rfl rfl (gj_step (y_add rfl rfl (by omega)) rfl rfl rfl (gj_step (y_assign rfl) rfl rfl rfl (gj_nil ?_))))
              refine ej_blk (ej_th ?_)
              refine cj_regionG (gj_step (y_move rfl) rfl rfl rfl (gj_step (y_add rfl rfl (by omega)) rfl rfl rfl (gj_step (y_assign rfl) rfl rfl rfl (gj_nil ?_))))
              rw [show ((cntC st many c0 : Nat) : Int) + 1 = ((cntC st many (c0 + 1) : Nat) : Int) by rw [cntC, if_pos (by omega)]; omega, show ((cntM st many sw c0 : Nat) : Int) + 1 = ((cntM st many sw (c0 + 1) : Nat) : Int) by rw [cntM, if_pos ⟨by omega, by simpa using h138b⟩]; omega]
              exact ej_nx (c0 + 1) (by omega) (by omega) ⟨rfl, rfl, rfl, rfl, rfl, rfl, rfl, rfl, rfl, rfl, rfl, rfl, trivial⟩
            · have h138b := h138
              try simp only [sxb] at h138
              refine cj_skip (ej_blk (ej_th ?_))
              refine cj_regionG (gj_step (y_move rfl) rfl rfl rfl (gj_step (y_add rfl rfl (by omega)) rfl rfl rfl (gj_step (y_assign rfl) rfl rfl rfl (gj_nil ?_))))
              rw [show ((cntC st many c0 : Nat) : Int) + 1 = ((cntC st many (c0 + 1) : Nat) : Int) by rw [cntC, if_pos (by omega)]; omega, show ((cntM st many sw c0 : Nat) : Int) = ((cntM st many sw (c0 + 1) : Nat) : Int) by rw [cntM, if_neg (fun h => by rw [h.2] at h138b; cases h138b)]; omega]
              exact ej_nx (c0 + 1) (by omega) (by omega) ⟨rfl, rfl, rfl, rfl, rfl, rfl, rfl, rfl, rfl, rfl, rfl, rfl, trivial⟩
          · have h134b := h134
            try simp only [sxb] at h134
            refine cj_skip (ej_blk (ej_th ?_))
            refine cj_regionG (gj_step (y_move rfl) rfl rfl rfl (gj_step (y_add rfl rfl (by omega)) rfl rfl rfl (gj_step (y_assign rfl) rfl rfl rfl (gj_nil ?_))))
            rw [show ((cntC st many c0 : Nat) : Int) = ((cntC st many (c0 + 1) : Nat) : Int) by rw [cntC, if_neg (by omega)]; omega, show ((cntM st many sw c0 : Nat) : Int) = ((cntM st many sw (c0 + 1) : Nat) : Int) by rw [cntM, if_neg (fun h => by have := h.1; omega)]; omega]
            exact ej_nx (c0 + 1) (by omega) (by omega) ⟨rfl, rfl, rfl, rfl, rfl, rfl, rfl, rfl, rfl, rfl, rfl, rfl, trivial⟩
      · have h88b := h88
        try simp only [sxb] at h88
        have hce : c0 = 2 ^ st := by omega
        subst hce
        obtain ⟨ht1, ht2⟩ := tbl_at (st := st) (many := many) (sw := sw) (by omega) (by omega) (by omega)
        refine cj_exit (ej_then_exit (ej_then_exit (ej_blk_hit (ej_th (cj_seq (cj_region ?_))))))
        refine oj_step (y_move rfl) rfl rfl rfl ?_
        refine oj_step (y_move rfl) rfl rfl rfl ?_
        refine oj_step (y_eqlT rfl rfl ht1) rfl rfl rfl ?_
        refine oj_step (y_move rfl) rfl rfl rfl ?_
        refine oj_yes rfl rfl rfl ?_
        refine oj_step (y_move rfl) rfl rfl rfl ?_
        refine oj_yes rfl rfl rfl ?_
        refine oj_step (y_move rfl) rfl rfl rfl ?_
        refine oj_yes rfl rfl rfl ?_
        refine oj_step (y_eqlT rfl rfl ht2) rfl rfl rfl ?_
        refine oj_step (y_pick rfl rfl rfl) rfl rfl rfl ?_
        refine oj_step (y_move rfl) rfl rfl rfl ?_
        refine oj_yes rfl rfl rfl ?_
        refine oj_step (y_call Tryz.call13 rfl (fun w hp => k_found10 w)) rfl rfl rfl ?_
        refine oj_step (y_pick rfl rfl rfl) rfl rfl rfl ?_
        refine oj_step (y_assign rfl) rfl rfl rfl ?_
        refine oj_nil ?_
        refine ej_th (cj_ret ?_)
        exact ej_ret1 rfl Tryz.results4 rfl (fun w' hp => ⟨rfl, hp.below⟩)

end Go.Proofs.YtppfniekcgnmjaaGreat.To
